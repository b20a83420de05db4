/- The document's answers of subnets: Inside. -/
import Derived.Test.YtbpflpmhnmdeoaaDoorSubRefC
namespace Go.Proofs.YtbpflpmhnmdeoaaDoor
open Go.RowKit
set_option linter.unusedVariables false
set_option linter.unusedSimpArgs false

theorem errS_zero (f s sc : Int) (n : Nat) : errS f s sc n = 0 ↔ SOk f s sc n := by
  rw [SOk_iff]
  unfold errS
  by_cases h1 : f = 1
  · subst h1
    by_cases h4 : n = 4
    · subst h4
      by_cases h : 0 ≤ s ∧ s ≤ 32 ∧ 0 ≤ sc ∧ sc ≤ 32
      · first | (simp [h]; done) | (simp [h]; omega)
      · first | (simp [h]; done) | (simp [h]; omega)
    · simp [h4]
  · by_cases h2 : f = 2
    · subst h2
      by_cases h4 : n = 16
      · subst h4
        by_cases h : 0 ≤ s ∧ s ≤ 128 ∧ 0 ≤ sc ∧ sc ≤ 128
        · first | (simp [h]; done) | (simp [h]; omega)
        · first | (simp [h]; done) | (simp [h]; omega)
      · simp [h4]
    · simp [h1, h2]
theorem quo_bits (a b : Nat) (ha : a < 256) (hb : b < 256) : ∀ d, d ≤ 8 → (a / 2 ^ (8 - d) = b / 2 ^ (8 - d) ↔ ∀ k, k < d → a / 2 ^ (7 - k) % 2 = b / 2 ^ (7 - k) % 2) := by
  intro d
  induction d with
  | zero =>
    intro _
    have h1 : a / 2 ^ (8 - 0) = 0 := Nat.div_eq_of_lt (by simpa using ha)
    have h2 : b / 2 ^ (8 - 0) = 0 := Nat.div_eq_of_lt (by simpa using hb)
    rw [h1, h2]
    exact ⟨fun _ k hk => by omega, fun _ => rfl⟩
  | succ d ih =>
    intro hd
    have ih := ih (by omega)
    have e : 8 - (d + 1) = 7 - d := by omega
    have s1 : a / 2 ^ (8 - d) = a / 2 ^ (7 - d) / 2 := by rw [show 8 - d = (7 - d) + 1 by omega, Nat.pow_succ, Nat.div_div_eq_div_mul]
    have s2 : b / 2 ^ (8 - d) = b / 2 ^ (7 - d) / 2 := by rw [show 8 - d = (7 - d) + 1 by omega, Nat.pow_succ, Nat.div_div_eq_div_mul]
    rw [e]
    constructor
    · intro h k hk
      by_cases hkd : k = d
      · rw [hkd, h]
      · exact ih.1 (by rw [s1, s2, h]) k (by omega)
    · intro h
      have h1 := ih.2 fun k hk => h k (by omega)
      have h2 := h d (by omega)
      rw [s1, s2] at h1
      omega
theorem mskN_eq (a b : Nat) (ha : a < 256) (hb : b < 256) (d : Nat) (hd : d ≤ 8) : mskN a d = mskN b d ↔ ∀ k, k < d → a / 2 ^ (7 - k) % 2 = b / 2 ^ (7 - k) % 2 := by
  rw [← quo_bits a b ha hb d hd]
  unfold mskN
  constructor
  · intro h
    exact Nat.eq_of_mul_eq_mul_right (Nat.two_pow_pos _) h
  · intro h; rw [h]
theorem alike_mask (l1 l2 : List UInt8) (hl : l1.length = l2.length) (m : Nat) (hm : m ≤ 8 * l1.length) : (∀ i, i < m → bitL l1 i = bitL l2 i) ↔ maskL l1 (m : Int) = maskL l2 (m : Int) := by
  have key : ∀ j (h1 : j < l1.length) (h2 : j < l2.length), maskB l1[j] ((m : Int) - 8 * (j : Int)) = maskB l2[j] ((m : Int) - 8 * (j : Int)) ↔ ∀ k, k < 8 → 8 * j + k < m → bitL l1 (8 * j + k) = bitL l2 (8 * j + k) := by
    intro j h1 h2
    rw [← UInt8.toNat_inj, maskB_msk, maskB_msk, mskN_eq _ _ (l1[j]).toNat_lt (l2[j]).toNat_lt _ (by have := clampN_le ((m : Int) - 8 * (j : Int)); omega)]
    have b1 : ∀ k, k < 8 → bitL l1 (8 * j + k) = (l1[j]).toNat / 2 ^ (7 - k) % 2 := fun k hk => by
      unfold bitL; rw [show (8 * j + k) / 8 = j by omega, show (8 * j + k) % 8 = k by omega, List.getD_eq_getElem?_getD, List.getElem?_eq_getElem h1]; rfl
    have b2 : ∀ k, k < 8 → bitL l2 (8 * j + k) = (l2[j]).toNat / 2 ^ (7 - k) % 2 := fun k hk => by
      unfold bitL; rw [show (8 * j + k) / 8 = j by omega, show (8 * j + k) % 8 = k by omega, List.getD_eq_getElem?_getD, List.getElem?_eq_getElem h2]; rfl
    constructor
    · intro h k hk hkm
      rw [b1 k hk, b2 k hk]
      exact h k ((clampN_lt _ k hk).2 (by omega))
    · intro h k hk
      have hk8 : k < 8 := by have := clampN_le ((m : Int) - 8 * (j : Int)); omega
      have := (clampN_lt _ k hk8).1 hk
      rw [← b1 k hk8, ← b2 k hk8]
      exact h k hk8 (by omega)
  constructor
  · intro h
    apply List.ext_getElem (by rw [maskL_len, maskL_len, hl])
    intro j h1 h2
    rw [maskL_getElem, maskL_getElem]
    have q1 : j < l1.length := by rw [maskL_len] at h1; exact h1
    have q2 : j < l2.length := by rw [← hl]; exact q1
    exact (key j q1 q2).2 fun k hk hkm => h _ hkm
  · intro h i hi
    have q1 : i / 8 < l1.length := by omega
    have q2 : i / 8 < l2.length := by rw [← hl]; exact q1
    have e : maskB l1[i / 8] ((m : Int) - 8 * ((i / 8 : Nat) : Int)) = maskB l2[i / 8] ((m : Int) - 8 * ((i / 8 : Nat) : Int)) := by
      have h1 := maskL_getElem l1 (m : Int) (i / 8) (by rw [maskL_len]; exact q1)
      have h2 := maskL_getElem l2 (m : Int) (i / 8) (by rw [maskL_len]; exact q2)
      rw [← h1, ← h2]
      congr 1
    have := (key (i / 8) q1 q2).1 e (i % 8) (by omega) (by omega)
    rwa [show 8 * (i / 8) + i % 8 = i by omega] at this

set_option maxRecDepth 100000 in
set_option maxHeartbeats 4000000 in
theorem inside_any {w : World} {A1 : Option Addr} {n1 c1 : Nat} {l1 : List UInt8} (h1 : Rd u8R w w.heap.size A1 n1 c1 l1) (f s sc : Int) {A2 : Option Addr} {n2 c2 : Nat} {l2 : List UInt8} (h2 : Rd u8R w w.heap.size A2 n2 c2 l2) :
    Calls Tryd.prog 28 #[.slice A1 n1 c1, subnetV f s sc A2 n2 c2] w fun e w' => e = .returned (.bool (inB f s sc l1 l2)) ∧ Below w.heap.size w w' := by
  have e1 := h1.len
  have e2 := h2.len
  have CF := fun w' => sfault_any w' f s sc A2 n2 c2
  by_cases hk : SOk f s sc n2
  · have h0 := (errS_zero f s sc n2).2 hk
    rw [h0] at CF
    have CF := hid CF
    by_cases hn : n1 = n2
    · subst hn
      obtain ⟨m, hm⟩ : ∃ m : Nat, s = (m : Int) := ⟨s.toNat, by have := hk.s0; omega⟩
      have hm8 : m ≤ 8 * n1 := by have := hk.s1; omega
      have CA := fun w' (hb : Below w.heap.size w w') => alike_any (h1.later hb) (h2.later hb) m (y := s) hm hm8 hm8
      have hd : decide (∀ i, i < m → bitL l1 i = bitL l2 i) = inB f s sc l1 l2 := by
        rw [Bool.eq_iff_iff, decide_eq_true_eq, inB_iff, alike_mask l1 l2 (by omega) m (by omega), hm, e2]
        exact ⟨fun h => ⟨hm ▸ hk, by omega, h⟩, fun h => h.2.2⟩
      rw [hd] at CA
      generalize inB f s sc l1 l2 = r at *
      have CA := hid CA
      clear hd h1 h2 hk h0 hm hm8
      have tk1 : True := trivial
      have tk2 : True := trivial
      go_enter Tryd.func28, Tryd.ntmps28
      go_wp2_with (first
        | (go_at_call 24; have _t := tk1; (with_reducible refine (CF.out _).mono ?_); rintro e w1 ⟨rfl, hb⟩; obtain ⟨otk1, dtk1, rfl⟩ := ext_of_below hb; clear hb tk1)
        | (go_at_call 35; have _t := tk2; (with_reducible refine (CA.out _ (by (repeat' (first | (with_reducible exact Below.refl _ _) | (with_reducible assumption) | (with_reducible refine below_ext0 ?_ _ _) | (with_reducible refine below_alloc0 ?_ _) | (with_reducible refine Below.ext ?_ ?_ _ _) | (with_reducible refine Below.alloc ?_ ?_ _) | (with_reducible refine Below.setCell ?_ ?_ _) | (with_reducible refine Below.drew ?_) | (with_reducible refine below_draws ?_ _) | go_size | (simp [size_ext]; done) | (simp [size_ext]; omega))))).mono ?_); rintro e w1 ⟨rfl, hw⟩; subst w1; clear tk2))
      go_ret
      exact ⟨by first | rfl | (simp; done), by (repeat' (first | (with_reducible exact Below.refl _ _) | (with_reducible assumption) | (with_reducible refine below_ext0 ?_ _ _) | (with_reducible refine below_alloc0 ?_ _) | (with_reducible refine Below.ext ?_ ?_ _ _) | (with_reducible refine Below.alloc ?_ ?_ _) | (with_reducible refine Below.setCell ?_ ?_ _) | (with_reducible refine Below.drew ?_) | (with_reducible refine below_draws ?_ _) | go_size | (simp [size_ext]; done) | (simp [size_ext]; omega)))⟩
    · have hd : inB f s sc l1 l2 = false := by
        rw [Bool.eq_false_iff]
        intro h
        have := inB_iff.1 h
        omega
      rw [hd]
      have q : ((n1 : Int) == (n2 : Int)) = false := by rw [beq_eq_false_iff_ne]; omega
      have q' : ¬ ((n1 : Int) = (n2 : Int)) := by omega
      clear hd h1 h2 hk h0
      have tk1 : True := trivial
      go_enter Tryd.func28, Tryd.ntmps28
      go_wp2_with (go_at_call 24; have _t := tk1; (with_reducible refine (CF.out _).mono ?_); rintro e w1 ⟨rfl, hb⟩; obtain ⟨otk1, dtk1, rfl⟩ := ext_of_below hb; clear hb tk1)
      go_ret
      exact ⟨by first | rfl | (simp; done), (by (repeat' (first | (with_reducible exact Below.refl _ _) | (with_reducible assumption) | (with_reducible refine below_ext0 ?_ _ _) | (with_reducible refine below_alloc0 ?_ _) | (with_reducible refine Below.ext ?_ ?_ _ _) | (with_reducible refine Below.alloc ?_ ?_ _) | (with_reducible refine Below.setCell ?_ ?_ _) | (with_reducible refine Below.drew ?_) | (with_reducible refine below_draws ?_ _) | go_size | (simp [size_ext]; done) | (simp [size_ext]; omega))))⟩
  · have hd : inB f s sc l1 l2 = false := by
      rw [Bool.eq_false_iff]
      intro h
      have := inB_iff.1 h
      exact hk (e2 ▸ this.1)
    rw [hd]
    have h0 : errS f s sc n2 ≠ 0 := fun h => hk ((errS_zero f s sc n2).1 h)
    generalize errS f s sc n2 = q at *
    have q0 : (q == 0) = false := by rw [beq_eq_false_iff_ne]; exact h0
    have CF := hid CF
    clear hd h1 h2 hk
    have tk1 : True := trivial
    go_enter Tryd.func28, Tryd.ntmps28
    go_wp2_with (go_at_call 24; have _t := tk1; (with_reducible refine (CF.out _).mono ?_); rintro e w1 ⟨rfl, hb⟩; obtain ⟨otk1, dtk1, rfl⟩ := ext_of_below hb; clear hb tk1)
    go_ret
    exact ⟨by first | rfl | (simp; done), (by (repeat' (first | (with_reducible exact Below.refl _ _) | (with_reducible assumption) | (with_reducible refine below_ext0 ?_ _ _) | (with_reducible refine below_alloc0 ?_ _) | (with_reducible refine Below.ext ?_ ?_ _ _) | (with_reducible refine Below.alloc ?_ ?_ _) | (with_reducible refine Below.setCell ?_ ?_ _) | (with_reducible refine Below.drew ?_) | (with_reducible refine below_draws ?_ _) | go_size | (simp [size_ext]; done) | (simp [size_ext]; omega))))⟩
end Go.Proofs.YtbpflpmhnmdeoaaDoor
