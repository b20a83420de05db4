/- Names: Fold, Under, strings.Compare, slices.CompareFunc, slices.Clone of texts. -/
import Derived.Test.YtkdfiedemhjjjaaNameB
namespace Go.Proofs.Ytkdfiedemhjjjaa
open Go.RowKit
set_option linter.unusedVariables false

theorem el_str : El Try.prog 24 9 1 16 := el_of (z := .string .empty) Try.underlying24 (by kernel_rfl) rfl (by decide)
@[reducible] def strsV (l : List ByteArray) : List Value := l.map Value.string
theorem rels_str {w : World} {B : Nat} {l : List ByteArray} (h : ∀ s ∈ l, s.size ≤ 140737488355328) : Rels strR w B l (strsV l) := by
  refine ⟨l.map fun s => [Value.string s], by simp, ?_, fun i hi hi' => ?_⟩
  · clear h
    induction l with
    | nil => rfl
    | cons a l ih => simp [ih]
  · simp only [List.getElem_map]
    exact ⟨rfl, h _ (List.getElem_mem _)⟩
theorem Rd.sizes {w : World} {B n c : Nat} {A : Option Addr} {l : List ByteArray} (h : Rd strR w B A n c l) : ∀ s ∈ l, s.size ≤ 140737488355328 := by
  intro s hs
  obtain ⟨i, hi, rfl⟩ := List.getElem_of_mem hs
  obtain ⟨_, _, _, _, _, hz⟩ := h.str i (by rw [← h.len]; exact hi)
  exact hz

/-! Fold -/
/-! Under -/
def underL (a b : List ByteArray) : Bool := decide (b.length ≤ a.length) && sameL (a.drop (a.length - b.length)) b
theorem Rd.dropS {w : World} {B n c b o k : Nat} {l : List ByteArray} (h : Rd strR w B (some ⟨b, o, none⟩) n c l) (hk : k ≤ n) : Rd strR w B (some ⟨b, o + k, none⟩) (n - k) (c - k) (l.drop k) := by
  have hc := h.cap
  have hm := h.max
  have hl := h.lim
  refine ⟨by rw [List.length_drop, h.len], by omega, by omega, ?_, fun e => (by cases e), fun i hi => ?_⟩
  · simp only [strR] at hl ⊢; omega
  · have hi' : k + i < l.length := by rw [List.length_drop] at hi; omega
    obtain ⟨b', off, vs, e, hb, hr, hcell⟩ := h.at_ (k + i) hi'
    cases e
    refine ⟨b, o + k, vs, rfl, hb, by rw [List.getElem_drop]; exact hr, fun j u hu => ?_⟩
    have := hcell j u hu
    simpa [strR, Nat.add_assoc] using this

/-! strings.Compare -/
/-- two labels, folded -/
def cmpB (a b : ByteArray) : Int := Go.Lib.compareBytes (smallL a.data.toList) (smallL b.data.toList)
/-- from the first label on -/
def cmpL : List ByteArray → List ByteArray → Int
  | [], [] => 0
  | [], _ :: _ => -1
  | _ :: _, [] => 1
  | a :: l, b :: m => if cmpB a b = 0 then cmpL l m else cmpB a b
theorem cmpL_step {l m : List ByteArray} {k : Nat} (hl : k < l.length) (hm : k < m.length) : cmpL (l.drop k) (m.drop k) = if cmpB l[k] m[k] = 0 then cmpL (l.drop (k + 1)) (m.drop (k + 1)) else cmpB l[k] m[k] := by
  rw [List.drop_eq_getElem_cons hl, List.drop_eq_getElem_cons hm, cmpL]

/-! Under -/
/-! slices.Clone -/
theorem flat_one (l : List ByteArray) : (l.map fun s => [Value.string s]).flatten = strsV l := by
  induction l with
  | nil => rfl
  | cons a l ih => simp only [strsV] at ih; simp [ih]
set_option maxHeartbeats 1000000 in
theorem clone_strs (w : World) (A : Option Addr) (n c : Nat) (l : List ByteArray) (B : Nat) (h : Rd strR w B A n c l) :
    Calls Try.prog 47 #[.slice A n c] w fun e w' => ∃ v, e = .returned v ∧ w'.ownsRow w.heap.size 9 1 v n (strsV l) ∧ Below w.heap.size w w' := by
  have hm := h.lim
  simp only [strR] at hm
  have he := fun w a n c => Lib.run_eql_slice_nil (P := Try.prog) w 24 9 a n c 0 0 Try.underlying24
  obtain ⟨ys, hr, hs⟩ := h.src (R := strR) fun a vs (hv : vs = _ ∧ _) u hu => by
    rw [hv.1] at hu
    simp at hu
    subst hu
    rfl
  have hys : ys = strsV l := by
    obtain ⟨vss, h1, rfl, hv⟩ := hr
    have : vss = l.map fun s => [Value.string s] := by
      apply List.ext_getElem (by simpa using h1)
      intro i hi hi'
      simp only [List.getElem_map]
      exact (hv i (by omega) hi).1
    rw [this]
    exact flat_one l
  subst hys
  have HS := hid hs
  rcases A with _ | ad
  · have hn : n = 0 ∧ c = 0 := hs.nil rfl
    obtain ⟨rfl, rfl⟩ := hn
    have hl : l = [] := List.eq_nil_of_length_eq_zero h.len
    subst hl
    clear h hr hs
    go_enter Try.func47, Try.ntmps47
    go_wp2
    go_ret
    exact ⟨_, rfl, World.ownsRow_nil _ _ _ _, Below.refl _ _⟩
  · clear h hr hs
    go_enter Try.func47, Try.ntmps47
    go_wp2_with (at_builtin; refine wpList_app rfl _ _ 24 rfl w.heap.size 9 1 16 el_str (.slice (some ⟨w.heap.size, 0, none⟩) 0 0) 0 [] rfl (own_lit #[] [] rfl (Nat.le_refl _) rfl (by decide) rfl) _ n c (strsV l) rfl (HS.out.later ((Below.refl _ _).alloc (Nat.le_refl _) _)) (by omega) (by unfold maxLen; omega) (by simp) ?_; intro v' w1 ho hg _)
    go_ret
    refine ⟨_, rfl, by simpa using ho, ?_⟩
    exact ((Below.refl _ w).alloc (Nat.le_refl _) _).grown hg (by simp) (by simp [Value.ownBlock])
end Go.Proofs.Ytkdfiedemhjjjaa
