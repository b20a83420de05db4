/- A message that came in, with how many bytes its rows take at most. -/
import Derived.Test.YtkdfiedemhjjjaaMsgL
namespace Go.Proofs.Ytkdfiedemhjjjaa
open Go.RowKit Go.ChangeShapes Go.WideShapes
set_option linter.unusedVariables false

def tightR {α : Type} (R : Rep α) : Rep (List α) where
  k := (sliceR R).k
  bs := (sliceR R).bs
  rel w B l vs := (sliceR R).rel w B l vs ∧ l.length * R.bs ≤ 140737488351232
  sz := (sliceR R).sz
  len h := (sliceR R).len h.1
  keep h hB hk := ⟨(sliceR R).keep h.1 hB hk, h.2⟩
theorem opens_tight {α : Type} {P : Program} {t e : TypeId} {R : Rep α} (ht : P.underlying t = some (.slice e)) (ho : Opens P t (sliceR R)) (hbs : R.bs ≤ P.bytesOf e) : Opens P t (tightR R) := by
  intro H enc w sp held fuel cs x h hw
  obtain ⟨l, hl, hs⟩ := ho H enc w sp held fuel cs x h hw
  refine ⟨l, ⟨hl, ?_⟩, hs⟩
  obtain ⟨A, n, c, e1, hr⟩ := hl
  rw [hr.len]
  rcases DataW.trod_slice ht h with ⟨h1, _⟩ | ⟨a, len, cap, elems, rest, n', _, h1, h0, _, _, _, hlen, _⟩
  · rw [e1] at h1
    simp only [List.cons.injEq, Value.slice.injEq, and_true] at h1
    obtain ⟨_, rfl, _⟩ := h1
    simp
  · rw [e1] at h1
    simp only [List.cons.injEq, Value.slice.injEq, and_true] at h1
    obtain ⟨_, rfl, _⟩ := h1
    subst h0
    simp only [DataW.weights, ht] at hw
    have h1 := hw _ (List.mem_cons_self ..)
    rw [List.length_map, List.length_map, hlen] at h1
    have h2 : n * R.bs ≤ (n + rest.length) * P.bytesOf e := Nat.mul_le_mul (Nat.le_add_right _ _) hbs
    unfold reachBytes at h1
    omega
abbrev messageT : Rep MsgX := pairR headerR (pairR (tightR qR) (pairR (tightR recR) (pairR (tightR recR) (pairR (tightR recR) unitR))))
theorem opens_tq : Opens Try.prog 40 (tightR qR) := opens_tight Try.underlying40 (opens_slice Try.underlying40 opens_question (by kernel_rfl) (by decide) (of_decide_eq_true (by kernel_rfl))) (of_decide_eq_true (by kernel_rfl))
theorem opens_tr : Opens Try.prog 41 (tightR recR) := opens_tight Try.underlying41 opens_records (of_decide_eq_true (by kernel_rfl))
theorem opens_messageT : Opens Try.prog 43 messageT := opens_struct Try.underlying43 rfl (by kernel_rfl)
  (fields_cons rfl (by kernel_rfl) opens_header (fields_cons rfl (by kernel_rfl) opens_tq (fields_cons rfl (by kernel_rfl) opens_tr (fields_cons rfl (by kernel_rfl) opens_tr (fields_cons rfl (by kernel_rfl) opens_tr (fields_nil _))))))
theorem message_ofT {w : World} {B : Nat} {x : MsgX} {cs : Array Value} (h : messageT.rel w B x cs.toList) :
    ∃ (g : Hd) (Aq Ax Ay Az : Option Addr) (nq cq nx cx ny cy nz cz : Nat) (u : Int × Bool × Int × Bool × Bool × Bool × Bool × Bool × Bool × Bool × Int × Unit) (qs : List QT) (xs ys zs : List RecT), x = (u, qs, xs, ys, zs, ()) ∧ cs = msgC g (.slice Aq nq cq) (.slice Ax nx cx) (.slice Ay ny cy) (.slice Az nz cz) ∧
      (Rd qR w B Aq nq cq qs ∧ Rd recR w B Ax nx cx xs ∧ Rd recR w B Ay ny cy ys ∧ Rd recR w B Az nz cz zs) ∧ nq * 40 ≤ 140737488351232 ∧ nx * 72 ≤ 140737488351232 ∧ ny * 72 ≤ 140737488351232 ∧ nz * 72 ≤ 140737488351232 := by
  obtain ⟨u, qs, xs, ys, zs, _⟩ := x
  obtain ⟨vs, _, e0, h0, _, _, rfl, ⟨⟨Aq, nq, cq, rfl, h1⟩, t1⟩, _, _, rfl, ⟨⟨Ax, nx, cx, rfl, h2⟩, t2⟩, _, _, rfl, ⟨⟨Ay, ny, cy, rfl, h3⟩, t3⟩, _, _, rfl, ⟨⟨Az, nz, cz, rfl, h4⟩, t4⟩, rfl⟩ := h
  obtain ⟨g, hg⟩ := header_of (cs := vs.toArray) (by simpa using h0)
  obtain rfl : vs = (hdCells g).toList := by rw [← hg]
  rw [h1.len] at t1
  rw [h2.len] at t2
  rw [h3.len] at t3
  rw [h4.len] at t4
  exact ⟨g, Aq, Ax, Ay, Az, nq, cq, nx, cx, ny, cy, nz, cz, u, qs, xs, ys, zs, rfl, by cases cs; simpa [hdCells] using e0, ⟨h1, h2, h3, h4⟩, t1, t2, t3, t4⟩
end Go.Proofs.Ytkdfiedemhjjjaa
