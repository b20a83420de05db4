/- Rows of beginnings, plain: what a trie holds that was put some of them; a row in which each place stands once. No function of the program. -/
import Derived.Test.YtbpflpmhnmdeoaaDoorTrieA
import Derived.Test.YtbpflpmhnmdeoaaDoorTrieC
namespace Go.Proofs.YtbpflpmhnmdeoaaDoor
open Go.RowKit
set_option linter.unusedVariables false

theorem all_there {n : Nat} : ∀ {l : List Nat}, l.Nodup → l.length = n → (∀ x ∈ l, x < n) → ∀ k, k < n → k ∈ l := by
  induction n with
  | zero => intro l _ _ _ k hk; omega
  | succ n ih =>
    intro l hd hl hx k hk
    by_cases hn : n ∈ l
    · by_cases e : k = n
      · subst e; exact hn
      · have h1 := ih (l := l.erase n) (hd.erase n) (by rw [List.length_erase_of_mem hn, hl]; rfl) (fun x hx' => by
          have h2 := List.mem_of_mem_erase hx'
          have h3 := hx x h2
          have h4 : x ≠ n := fun e => by subst e; exact (List.Nodup.not_mem_erase hd) hx'
          omega) k (by omega)
        exact List.mem_of_mem_erase h1
    · exfalso
      cases l with
      | nil => simp at hl
      | cons a t =>
        have h1 := ih (l := t) (List.nodup_cons.1 hd).2 (by simpa using hl) (fun x hx' => by
          have h3 := hx x (List.mem_cons_of_mem _ hx')
          have h4 : x ≠ n := fun e => by subst e; exact hn (List.mem_cons_of_mem _ hx')
          omega) a (by
            have h3 := hx a (List.mem_cons_self ..)
            have h4 : a ≠ n := fun e => by subst e; exact hn (List.mem_cons_self ..)
            omega)
        exact (List.nodup_cons.1 hd).1 h1

/-- one of a row -/
def bAt (bs : List BT) (k : Nat) : BT := bs.getD k ([], 0, 0, ())
def keyAt (bs : List BT) (k : Nat) : List Bool := keyB (bAt bs k).1 (bAt bs k).2.1
def rightAt (bs : List BT) (k : Nat) : Bool := rightB (bAt bs k).1 (bAt bs k).2.1
/-- what a trie holds when these were put, in this order -/
def valsI (bs : List BT) (ks : List Nat) : Vals := ks.foldl (fun V k => stepV V (bAt bs k).1 (bAt bs k).2.1 (bAt bs k).2.2.1) noVals
theorem valsI_snoc (bs : List BT) (ks : List Nat) (k : Nat) : valsI bs (ks ++ [k]) = stepV (valsI bs ks) (bAt bs k).1 (bAt bs k).2.1 (bAt bs k).2.2.1 := by
  unfold valsI; rw [List.foldl_append]; rfl
/-- all may be put, no two for the same bits -/
def Unl (bs : List BT) : Prop := (∀ i, i < bs.length → rightAt bs i = true) ∧ ∀ i j, i < bs.length → j < i → keyAt bs j ≠ keyAt bs i
theorem Unl.ne {bs : List BT} (h : Unl bs) {i j : Nat} (hi : i < bs.length) (hj : j < bs.length) (hne : i ≠ j) : keyAt bs i ≠ keyAt bs j := by
  rcases Nat.lt_or_ge i j with h1 | h1
  · exact h.2 j i hj h1
  · exact fun e => h.2 i j hi (by omega) e.symm
theorem stepV_right {V : Vals} {bs : List BT} {k : Nat} (h : rightAt bs k = true) : stepV V (bAt bs k).1 (bAt bs k).2.1 (bAt bs k).2.2.1 = putV V (keyAt bs k) (bAt bs k).2.2.1 := if_pos h
/-- a value that is held is one that was put -/
theorem valsI_some {bs : List BT} (hU : Unl bs) {ks : List Nat} (hk : ∀ k ∈ ks, k < bs.length) {q : List Bool} {v : Int} : valsI bs ks q = some v ↔ ∃ k, k ∈ ks ∧ keyAt bs k = q ∧ (bAt bs k).2.2.1 = v := by
  induction hn : ks.length generalizing ks with
  | zero =>
    obtain rfl : ks = [] := List.eq_nil_of_length_eq_zero hn
    simp [valsI, noVals]
  | succ n ih =>
    obtain ⟨ks', a, rfl⟩ : ∃ ks' a, ks = ks' ++ [a] := by
      rcases List.eq_nil_or_concat ks with h | ⟨l, b, h⟩
      · rw [h] at hn; simp at hn
      · exact ⟨l, b, by rw [h]; simp⟩
    have ha := hk a (by simp)
    have hk' : ∀ k ∈ ks', k < bs.length := fun k h => hk k (by simp [h])
    rw [valsI_snoc, stepV_right (hU.1 a ha)]
    have h1 := ih hk' (by simpa using hn)
    by_cases e : q = keyAt bs a
    · subst e
      rw [putV_same]
      constructor
      · intro h; cases h; exact ⟨a, by simp, rfl, rfl⟩
      · rintro ⟨k, hk1, hk2, rfl⟩
        have : k = a := by
          by_cases e : k = a
          · exact e
          · exact absurd hk2 (hU.ne (hk k hk1) ha e)
        rw [this]
    · rw [putV_other _ _ e, h1]
      constructor
      · rintro ⟨k, h2, h3, h4⟩; exact ⟨k, by simp [h2], h3, h4⟩
      · rintro ⟨k, h2, h3, h4⟩
        refine ⟨k, ?_, h3, h4⟩
        rcases List.mem_append.1 h2 with h5 | h5
        · exact h5
        · simp at h5; subst h5; exact absurd h3.symm e
theorem valsI_none {bs : List BT} (hU : Unl bs) {ks : List Nat} (hk : ∀ k ∈ ks, k < bs.length) {k : Nat} (hkl : k < bs.length) (hn : k ∉ ks) : valsI bs ks (keyAt bs k) = none := by
  cases h : valsI bs ks (keyAt bs k) with
  | none => rfl
  | some v =>
    obtain ⟨j, h1, h2, _⟩ := (valsI_some hU hk).1 h
    by_cases e : j = k
    · subst e; exact absurd h1 hn
    · exact absurd h2 (hU.ne (hk j h1) hkl e)
theorem valsI_same {bs : List BT} (hU : Unl bs) {ks js : List Nat} (hk : ∀ k ∈ ks, k < bs.length) (hj : ∀ k ∈ js, k < bs.length) (h : ∀ k, k ∈ ks ↔ k ∈ js) : valsI bs ks = valsI bs js := by
  funext q
  cases h1 : valsI bs ks q with
  | none =>
    cases h2 : valsI bs js q with
    | none => rfl
    | some v =>
      obtain ⟨k, a, b, c⟩ := (valsI_some hU hj).1 h2
      have := (valsI_some hU hk).2 ⟨k, (h k).2 a, b, c⟩
      rw [h1] at this; cases this
  | some v =>
    obtain ⟨k, a, b, c⟩ := (valsI_some hU hk).1 h1
    exact ((valsI_some hU hj).2 ⟨k, (h k).1 a, b, c⟩).symm
/-- what is told, of all of them -/
theorem told_all {bs : List BT} (hU : Unl bs) (hv : ∀ k, k < bs.length → (bAt bs k).2.2.1 = (k : Int)) {a : List UInt8} {k : Nat} (hk : k < bs.length) {m : Nat} (hm : (bAt bs k).2.1 = (m : Int)) :
    let G := getV (valsI bs (List.range bs.length)) (bitsL a)
    (m ≤ 8 * a.length ∧ (∀ i, i < m → bitL (bAt bs k).1 i = bitL a i) → G.2.2 = true ∧ m ≤ G.2.1 ∧ (G.1 = (k : Int) → G.2.1 = m)) ∧
    (¬ (m ≤ 8 * a.length ∧ (∀ i, i < m → bitL (bAt bs k).1 i = bitL a i)) → G.2.2 = false ∨ G.1 ≠ (k : Int)) := by
  intro G
  have hr := hU.1 k hk
  obtain ⟨_, _, r3⟩ := of_decide_eq_true hr
  rw [hm] at r3
  have r3' : m ≤ 8 * (bAt bs k).1.length := by omega
  have hkey : keyAt bs k = (bitsL (bAt bs k).1).take m := by unfold keyAt keyB; rw [hm]; rfl
  have hlen : (keyAt bs k).length = m := by rw [hkey, List.length_take, bitsL_len]; omega
  have hks : ∀ k ∈ List.range bs.length, k < bs.length := fun k h => List.mem_range.1 h
  have hhas : valsI bs (List.range bs.length) (keyAt bs k) = some (k : Int) := (valsI_some hU hks).2 ⟨k, List.mem_range.2 hk, rfl, hv k hk⟩
  have hG : G = tellV (valsI bs (List.range bs.length)) (bitsL a) (bestV (valsI bs (List.range bs.length)) (bitsL a) (bitsL a).length) := rfl
  cases hb : bestV (valsI bs (List.range bs.length)) (bitsL a) (bitsL a).length with
  | none =>
    rw [hb] at hG
    refine ⟨fun ⟨h1, h2⟩ => ?_, fun _ => .inl (by rw [hG]; rfl)⟩
    have h3 := bestV_none hb m (by rw [bitsL_len]; exact h1)
    rw [← (bits_alike r3' h1).2 h2, ← hkey, hhas] at h3
    cases h3
  | some j =>
    rw [hb] at hG
    obtain ⟨j1, j2, j3⟩ := bestV_some hb
    have h1 : G.1 = (k : Int) → (bitsL a).take j = keyAt bs k := fun h => by
      cases hs : valsI bs (List.range bs.length) ((bitsL a).take j) with
      | none => rw [hs] at j2; cases j2
      | some v =>
        rw [hG] at h
        simp only [tellV, hs, Option.getD_some] at h
        obtain ⟨k2, a2, b2, c2⟩ := (valsI_some hU hks).1 hs
        rw [hv k2 (hks k2 a2), h] at c2
        have : k2 = k := by omega
        rw [← b2, this]
    have h2 : G.2.1 = j := by rw [hG]; rfl
    have h3 : G.2.2 = true := by rw [hG]; rfl
    have h4 : G.1 = (k : Int) → m = j := fun h => by
      have := congrArg List.length (h1 h)
      rw [hlen, List.length_take] at this
      omega
    refine ⟨fun ⟨q1, q2⟩ => ⟨h3, ?_, fun h => by rw [h2, h4 h]⟩, fun hn => .inr fun h => hn ?_⟩
    · rw [h2]
      rcases Nat.lt_or_ge j m with h5 | h5
      · have h6 := j3 m h5 (by rw [bitsL_len]; exact q1)
        rw [← (bits_alike r3' q1).2 q2, ← hkey, hhas] at h6
        cases h6
      · exact h5
    · have e := h4 h
      subst e
      have q1 : m ≤ 8 * a.length := by rw [← bitsL_len]; exact j1
      exact ⟨q1, (bits_alike r3' q1).1 (by rw [← hkey, h1 h])⟩
end Go.Proofs.YtbpflpmhnmdeoaaDoor
