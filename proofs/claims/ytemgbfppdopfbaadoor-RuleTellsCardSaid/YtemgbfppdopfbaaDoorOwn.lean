/- Rows of the call's own that hold a list; a slice that is read as cells, one behind the other. No function of the program. -/
import Derived.Test.YtemgbfppdopfbaaDoorRep
import Derived.Maps.AppendAt
namespace Go.Proofs.YtemgbfppdopfbaaDoor
open Go.RowKit
set_option linter.unusedVariables false
set_option linter.unusedSimpArgs false

/-- the elements l, cell by cell -/
def Rels {α : Type} (R : Rep α) (w : World) (B : Nat) (l : List α) (xs : List Value) : Prop :=
  ∃ vss : List (List Value), vss.length = l.length ∧ xs = vss.flatten ∧ ∀ i (h : i < l.length) (h' : i < vss.length), R.rel w B l[i] vss[i]

theorem flat_get {vss : List (List Value)} {k : Nat} (hk : ∀ vs ∈ vss, vs.length = k) {i j : Nat} (hi : i < vss.length) (hj : j < k) : vss.flatten[i * k + j]? = (vss[i])[j]? := by
  induction vss generalizing i with
  | nil => simp at hi
  | cons a vss ih =>
    have ha := hk a (by simp)
    cases i with
    | zero =>
      simp only [List.flatten_cons, Nat.zero_mul, Nat.zero_add, List.getElem_cons_zero]
      rw [List.getElem?_append_left (by omega)]
    | succ i =>
      simp only [List.flatten_cons, List.getElem_cons_succ]
      rw [List.getElem?_append_right (by rw [ha, Nat.succ_mul]; omega), ← ih (fun vs h => hk vs (by simp [h])) (by simpa using hi)]
      congr 1
      rw [ha, Nat.succ_mul]
      omega
theorem flat_len {vss : List (List Value)} {k : Nat} (hk : ∀ vs ∈ vss, vs.length = k) : vss.flatten.length = vss.length * k := by
  induction vss with
  | nil => simp
  | cons a vss ih =>
    rw [List.flatten_cons, List.length_append, ih fun vs h => hk vs (by simp [h]), hk a (by simp), List.length_cons, Nat.succ_mul]
    omega

section
variable {α : Type} {R : Rep α} {w w' : World} {B B' n c : Nat} {A : Option Addr} {l m : List α} {xs ys : List Value}
theorem Rels.each (h : ∃ vss : List (List Value), vss.length = l.length ∧ xs = vss.flatten ∧ ∀ i (h : i < l.length) (h' : i < vss.length), R.rel w B l[i] vss[i]) : Rels R w B l xs := h
theorem Rels.len (h : Rels R w B l xs) : xs.length = l.length * R.k := by
  obtain ⟨vss, hl, rfl, hr⟩ := h
  rw [flat_len (k := R.k), hl]
  intro vs hvs
  obtain ⟨i, hi, rfl⟩ := List.getElem_of_mem hvs
  exact R.len (hr i (by omega) hi)
theorem Rels.nil : Rels R w B [] [] := ⟨[], rfl, rfl, fun i h => by simp at h⟩
theorem Rels.append (h : Rels R w B l xs) (k : Rels R w B m ys) : Rels R w B (l ++ m) (xs ++ ys) := by
  obtain ⟨v1, h1, rfl, r1⟩ := h
  obtain ⟨v2, h2, rfl, r2⟩ := k
  refine ⟨v1 ++ v2, by simp [h1, h2], by simp, fun i hi hi' => ?_⟩
  by_cases c : i < l.length
  · rw [List.getElem_append_left c, List.getElem_append_left (by omega)]
    exact r1 i c (by omega)
  · rw [List.getElem_append_right (by omega), List.getElem_append_right (by omega)]
    have := r2 (i - l.length) (by simp at hi; omega) (by simp at hi'; omega)
    simpa [h1] using this
theorem Rels.one {a : α} (h : R.rel w B a xs) : Rels R w B [a] xs := ⟨[xs], rfl, by simp, fun i hi _ => by
  have : i = 0 := by simpa using hi
  subst this
  exact h⟩
theorem Rels.keep (h : Rels R w B l xs) (hB : B ≤ B') (hk : ∀ p : Addr, p.block < B → w'.cell? p = w.cell? p) : Rels R w' B' l xs := by
  obtain ⟨v, h1, h2, r⟩ := h
  exact ⟨v, h1, h2, fun i hi hi' => R.keep (r i hi hi') hB hk⟩
theorem Rels.later (h : Rels R w w.heap.size l xs) (hb : Below w.heap.size w w') : Rels R w' w'.heap.size l xs := h.keep hb.size fun _ hp => hb.cell hp
theorem Rels.below (h : Rels R w B l xs) (hb : Below B w w') : Rels R w' B l xs := h.keep (Nat.le_refl _) fun _ hp => hb.cell hp
theorem Rels.more (h : Rels R w B l xs) (hB : B ≤ B') : Rels R w B' l xs := h.keep hB fun _ _ => rfl

/-- a slice, cell by cell -/
theorem Rd.cells (h : Rd R w B A n c l) : ∃ xs, Rels R w B l xs ∧ ∀ ad, A = some ad → ∀ j u, xs[j]? = some u → w.cell? (ad.add j) = some u := by
  obtain ⟨vss, hl, hv⟩ := list_of (n := l.length) (p := fun i vs => ∃ (h : i < l.length), ∃ b off, A = some ⟨b, off, none⟩ ∧ R.rel w B l[i] vs ∧ ∀ j u, vs[j]? = some u → w.cell? ⟨b, off + i * R.k + j, none⟩ = some u)
    (fun i hi => by
      obtain ⟨b, off, vs, e, _, hr, hc⟩ := h.at_ i hi
      exact ⟨vs, hi, b, off, e, hr, hc⟩)
  have hk : ∀ vs ∈ vss, vs.length = R.k := by
    intro vs hvs
    obtain ⟨i, hi, rfl⟩ := List.getElem_of_mem hvs
    obtain ⟨_, _, _, _, hr, _⟩ := hv i hi
    exact R.len hr
  refine ⟨vss.flatten, ⟨vss, hl, rfl, fun i hi hi' => ?_⟩, fun ad ha j u hu => ?_⟩
  · obtain ⟨_, _, _, _, hr, _⟩ := hv i hi'
    exact hr
  · have hj : j < vss.flatten.length := by
      rcases Nat.lt_or_ge j vss.flatten.length with h | h
      · exact h
      · rw [List.getElem?_eq_none h] at hu; cases hu
    rw [flat_len hk] at hj
    have hkp : 0 < R.k := by
      rcases Nat.eq_zero_or_pos R.k with h0 | h0
      · rw [h0] at hj; omega
      · exact h0
    have hi : j / R.k < vss.length := Nat.div_lt_of_lt_mul (by rwa [Nat.mul_comm] at hj)
    have hm : j % R.k < R.k := Nat.mod_lt _ hkp
    have hjm : j / R.k * R.k + j % R.k = j := by rw [Nat.mul_comm]; exact Nat.div_add_mod j R.k
    obtain ⟨_, b, off, e, _, hc⟩ := hv (j / R.k) hi
    rw [ha] at e
    injection e with e
    subst e
    have := hc (j % R.k) u (by rw [← flat_get hk hi hm, hjm]; exact hu)
    rw [add_none]
    rwa [Nat.add_assoc, hjm] at this

/-- a row of the call's own as a slice -/
theorem rd_of_own {base : Nat} {e : TypeId} {v : Value} (h : w.ownsRow base e R.k v n xs) (hr : Rels R w B l xs) (hl : l.length = n) (hB : B ≤ w.heap.size) (hlim : n * R.bs ≤ 140737488355328) (hk : 0 < R.k) :
    ∃ A c, v = .slice A n c ∧ Rd R w w.heap.size A n c l := by
  rcases h.2 with ⟨rfl, rfl⟩ | ⟨g, cap, cur, rfl, hb, hh, hnc, hcm, hcs, ht⟩
  · exact ⟨none, 0, rfl, ⟨hl, Nat.le_refl _, by simp [maxLen], by simp, fun _ => rfl, fun i hi => by omega⟩⟩
  · refine ⟨_, _, rfl, ⟨hl, hnc, hcm, hlim, fun h => (by cases h), fun i hi => ?_⟩⟩
    obtain ⟨vss, h1, rfl, r⟩ := hr
    have hkk : ∀ vs ∈ vss, vs.length = R.k := by
      intro vs hvs
      obtain ⟨i, hi, rfl⟩ := List.getElem_of_mem hvs
      exact R.len (r i (by omega) hi)
    have hg : g < w.heap.size := (Array.getElem?_eq_some_iff.1 hh).1
    refine ⟨g, 0, vss[i]'(by omega), rfl, hg, R.keep (r i hi (by omega)) hB (fun _ _ => rfl), fun j u hu => ?_⟩
    have hj : j < R.k := by
      rw [← R.len (r i hi (by omega))]
      rcases Nat.lt_or_ge j (vss[i]'(by omega)).length with h | h
      · exact h
      · rw [List.getElem?_eq_none h] at hu; cases hu
    have := h.cells (g := g) rfl (i * R.k + j) u (by rw [flat_get hkk (by omega) hj]; exact hu)
    rw [add_none] at this
    simpa [Nat.add_assoc] using this
end

theorem rels_u8 {w : World} {B : Nat} {l : List UInt8} {xs : List Value} : Rels u8R w B l xs ↔ xs = l.map fun b => Value.int .u8 (b.toNat : Int) := by
  constructor
  · rintro ⟨vss, h1, rfl, r⟩
    have : vss = l.map fun b => [Value.int .u8 (b.toNat : Int)] := by
      apply List.ext_getElem (by simpa using h1)
      intro i hi hi'
      simp only [List.getElem_map]
      exact r i (by omega) hi
    rw [this]
    clear h1 r this
    induction l with
    | nil => rfl
    | cons a l ih => simp [ih]
  · rintro rfl
    refine ⟨l.map fun b => [Value.int .u8 (b.toNat : Int)], by simp, ?_, fun i hi hi' => by simp [u8R]⟩
    induction l with
    | nil => rfl
    | cons a l ih => simp [ih]
theorem one_u8 (l : List UInt8) : ∀ u ∈ (l.map fun b => Value.int .u8 (b.toNat : Int)), u.oneCell' = true := by
  intro u hu
  obtain ⟨b, _, rfl⟩ := List.mem_map.1 hu
  rfl
theorem own_slice {w : World} {base : Nat} {e : TypeId} {size : Nat} {v : Value} {n : Nat} {xs : List Value} (h : w.ownsRow base e size v n xs) : ∃ A cap, v = .slice A n cap ∧ n ≤ cap ∧ cap ≤ maxLen ∧ (0 < n → ∃ g, A = some ⟨g, 0, none⟩ ∧ base ≤ g ∧ g < w.heap.size) := by
  rcases h.2 with ⟨rfl, rfl⟩ | ⟨g, cap, cur, rfl, hb, hh, hn, hc, _⟩
  · exact ⟨none, 0, rfl, Nat.le_refl _, by simp [maxLen], fun h => by omega⟩
  · exact ⟨_, cap, rfl, hn, hc, fun _ => ⟨g, rfl, hb, (Array.getElem?_eq_some_iff.1 hh).1⟩⟩

end Go.Proofs.YtemgbfppdopfbaaDoor
