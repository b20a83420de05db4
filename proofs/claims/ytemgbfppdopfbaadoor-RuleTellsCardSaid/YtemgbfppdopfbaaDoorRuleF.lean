/- The program's rules: begins. -/
import Derived.Test.YtemgbfppdopfbaaDoorRuleE0
import Derived.Test.YtemgbfppdopfbaaDoorBits
namespace Go.Proofs.YtemgbfppdopfbaaDoor
open Go.RowKit
set_option linter.unusedVariables false
set_option linter.unusedSimpArgs false

theorem b8_xor (x y : UInt8) : bits .xor .u8 (x.toNat : Int) (y.toNat : Int) = ((x.toNat ^^^ y.toNat : Nat) : Int) := by
  have hx := x.toNat_lt
  have hy := y.toNat_lt
  have h : x.toNat ^^^ y.toNat < 2 ^ 8 := Nat.xor_lt_two_pow hx hy
  show IntKind.wrap .u8 ((BitVec.ofInt 8 (x.toNat : Int) ^^^ BitVec.ofInt 8 (y.toNat : Int)).toNat : Int) = _
  rw [BitVec.toNat_xor, BitVec.ofInt_natCast, BitVec.ofInt_natCast, BitVec.toNat_ofNat, BitVec.toNat_ofNat, Nat.mod_eq_of_lt (by omega), Nat.mod_eq_of_lt (by omega)]
  simp [IntKind.wrap, IntKind.bits, IntKind.signed]
  omega
theorem and_one8 (z : Nat) (h : z < 256) : bits .and .u8 (z : Int) 1 = ((z % 2 : Nat) : Int) := by
  have h1 := b8_and (UInt8.ofNat z) 1
  rw [show ((1 : UInt8).toNat : Int) = 1 from rfl, UInt8.toNat_ofNat', Nat.mod_eq_of_lt h] at h1
  rw [h1, show (1 : UInt8).toNat = 2 ^ 1 - 1 from rfl, Nat.and_two_pow_sub_one_eq_mod]
theorem bit_xor (x z k : Nat) : (x ^^^ z) / 2 ^ k % 2 = if x / 2 ^ k % 2 = z / 2 ^ k % 2 then 0 else 1 := by
  have h := Nat.testBit_xor x z k
  rw [Nat.testBit_eq_decide_div_mod_eq, Nat.testBit_eq_decide_div_mod_eq, Nat.testBit_eq_decide_div_mod_eq] at h
  have a := Nat.mod_two_eq_zero_or_one ((x ^^^ z) / 2 ^ k)
  have b := Nat.mod_two_eq_zero_or_one (x / 2 ^ k)
  have c := Nat.mod_two_eq_zero_or_one (z / 2 ^ k)
  rcases a with a | a <;> rcases b with b | b <;> rcases c with c | c <;> rw [a, b, c] at h ⊢ <;> simp_all
set_option maxRecDepth 100000 in
set_option maxHeartbeats 2000000 in
theorem begins_any {w : World} {n1 c1 : Nat} {A1 : Option Addr} {l1 : List UInt8} (h1 : Rd u8R w w.heap.size A1 n1 c1 l1) {n2 c2 : Nat} {A2 : Option Addr} {l2 : List UInt8} (h2 : Rd u8R w w.heap.size A2 n2 c2 l2) (m : Nat) (hm2 : m ≤ 8 * n2) :
    Calls Tryd.prog 60 #[.slice A1 n1 c1, .slice A2 n2 c2, .int .i64 (m : Int)] w fun e w' => e = .returned (.bool (begT l1 l2 (m : Int))) ∧ Below w.heap.size w w' := by
  have hl1 := h1.lim
  have hl2 := h2.lim
  have len1 := h1.len
  have len2 := h2.len
  simp only [u8R, Nat.mul_one] at hl1 hl2
  have v0 : IntKind.i64.wrap (8 * (n1 : Int)) = 8 * (n1 : Int) := IntWalk.i64_in _ (by omega)
  by_cases hm1 : 8 * n1 < m
  · have hb : begT l1 l2 (m : Int) = false := by unfold begT; rw [decide_eq_false (by rw [len1]; omega), Bool.false_and]
    have HBT := hid hb
    have t0 : 8 * (n1 : Int) < (m : Int) := by omega
    have t1 : decide (8 * (n1 : Int) < (m : Int)) = true := decide_eq_true t0
    clear hb h1 h2
    go_enter Tryd.func60, Tryd.ntmps60
    go_wp2
    go_ret
    exact ⟨by rw [HBT.out]; rfl, (by (repeat' (first | (with_reducible exact Below.refl _ _) | (with_reducible assumption) | (with_reducible refine below_ext0 ?_ _ _) | (with_reducible refine below_alloc0 ?_ _) | (with_reducible refine Below.ext ?_ ?_ _ _) | (with_reducible refine Below.alloc ?_ ?_ _) | (with_reducible refine Below.setCell ?_ ?_ _) | (with_reducible refine Below.drew ?_) | (with_reducible refine below_draws ?_ _) | go_size | (simp [size_ext]; done) | (simp [size_ext]; omega))))⟩
  · have hb : begT l1 l2 (m : Int) = decide (∀ i, i < m → bitL l1 i = bitL l2 i) := by unfold begT; rw [decide_eq_true (by rw [len1]; omega), Bool.true_and]; rfl
    have HBT := hid hb
    have H1 := hid h1
    have H2 := hid h2
    have t0 : ¬ 8 * (n1 : Int) < (m : Int) := by omega
    have t1 : decide (8 * (n1 : Int) < (m : Int)) = false := decide_eq_false t0
    clear hb h1 h2 len1 len2
    go_enter Tryd.func60, Tryd.ntmps60
    go_wp2
    go_loopg [14] m (fun gk v14 wi => ∃ k : Nat, k ≤ m ∧ gk = m - k ∧ v14 = .int .i64 (k : Int) ∧ Below w.heap.size w wi ∧ Hid (∀ i, i < k → bitL l1 i = bitL l2 i))
    case atStart => exact ⟨0, Nat.zero_le _, rfl, rfl, Below.refl _ _, hid fun i hi => by omega⟩
    case round =>
      obtain ⟨k, hk, rfl, rfl, hlow, HALL⟩ := hrel
      have HLOW := hid hlow
      by_cases hlt : k < m
      · have g0 : (k : Int) < (m : Int) := by omega
        obtain ⟨a, ha⟩ : ∃ a, k / 8 = a := ⟨_, rfl⟩
        obtain ⟨j, hj⟩ : ∃ j, k % 8 = j := ⟨_, rfl⟩
        have han1 : a < n1 := by omega
        have han2 : a < n2 := by omega
        have hj7 : j ≤ 7 := by omega
        obtain ⟨J, hJ⟩ : ∃ J, 7 - j = J := ⟨_, rfl⟩
        have hJ7 : J ≤ 7 := by omega
        obtain ⟨b1, o1, rfl, lb1⟩ := (H1.out.later hlow).addr (by omega)
        obtain ⟨b2, o2, rfl, lb2⟩ := (H2.out.later hlow).addr (by omega)
        obtain ⟨x, hx, c0, k0, _⟩ := (H1.out.later hlow).byte a han1
        obtain ⟨z, hz, c1', k1, _⟩ := (H2.out.later hlow).byte a han2
        have m1 := H1.out.max
        have m2 := H2.out.max
        have p1 := H1.out.cap
        have p2 := H2.out.cap
        unfold maxLen at m1 m2
        have hx8 := x.toNat_lt
        have hz8 := z.toNat_lt
        have hX := b8_xor x z
        have hX8 : x.toNat ^^^ z.toNat < 2 ^ 8 := Nat.xor_lt_two_pow hx8 hz8
        have hbx : bitL l1 k = x.toNat / 2 ^ J % 2 := by unfold bitL; rw [ha, hx, hj, hJ]
        have hbz : bitL l2 k = z.toNat / 2 ^ J % 2 := by unfold bitL; rw [ha, hz, hj, hJ]
        have hT := bit_xor x.toNat z.toNat J
        obtain ⟨X, hXX⟩ : ∃ X, x.toNat ^^^ z.toNat = X := ⟨_, rfl⟩
        rw [hXX] at hX hX8 hT
        have hA := and_one8 (X / 2 ^ J) (Nat.lt_of_le_of_lt (Nat.div_le_self _ _) hX8)
        have e : ((X : Int) / 2 ^ J) = ((X / 2 ^ J : Nat) : Int) := by simp
        rw [← e, hT] at hA
        have HBX := hid hbx
        have HBZ := hid hbz
        obtain ⟨v, hv⟩ : ∃ v, x.toNat = v := ⟨_, rfl⟩
        obtain ⟨u, hu⟩ : ∃ u, z.toNat = u := ⟨_, rfl⟩
        rw [hv] at c0 hX hx8 HBX hA
        rw [hu] at c1' hX hz8 HBZ hA
        have q1 : (k : Int) / 8 = (a : Int) := by omega
        have q2 : Int.tdiv (k : Int) 8 = (a : Int) := by rw [Int.tdiv_eq_ediv_of_nonneg (by omega)]; exact q1
        have q3 : (k : Int) % 8 = (j : Int) := by omega
        have q4 : Int.tmod (k : Int) 8 = (j : Int) := by rw [Int.tmod_eq_emod_of_nonneg (by omega)]; exact q3
        have q5 : IntKind.i64.wrap (a : Int) = (a : Int) := IntWalk.i64_in _ (by omega)
        have q6 : IntKind.i64.wrap (7 - (j : Int)) = (J : Int) := by rw [IntWalk.i64_in _ (by omega)]; omega
        have q7 : (7 : Int) - (j : Int) = (J : Int) := by omega
        have j0 : (a : Int) < (n1 : Int) := by omega
        have j1 : (0 : Int) ≤ (a : Int) := by omega
        have j2 : (a : Int) < (n2 : Int) := by omega
        by_cases he : v / 2 ^ J % 2 = u / 2 ^ J % 2
        · rw [if_pos he] at hA
          have HALL2 := hid (show ∀ i, i < k + 1 → bitL l1 i = bitL l2 i from fun i hi => by
            by_cases hik : i = k
            · rw [hik, HBX.out, HBZ.out, he]
            · exact HALL.out i (by omega))
          have hA' : bits .and .u8 ((X : Int) / 2 ^ J) 1 = 0 := hA
          clear hlow hx hz hT e hA he k0 k1 hXX hv hu ha hj hJ hbx hbz
          go_wp2
          refine wp_region_ext (by kernel_rfl) (by kernel_rfl) ?_
          repeat (go_big_quiet_step ((fail)))
          refine wpQuiet_nil ?_
          rintro _ ⟨⟨os, d⟩, rfl⟩
          simp only [exts]
          go_wp2
          go_roundg (m - (k + 1))
          case measure => omega
          case rel => exact ⟨k + 1, by omega, rfl, by go_num, by have := HLOW.out; have := HLOW.out.size; (repeat' (first | (with_reducible exact Below.refl _ _) | (with_reducible assumption) | (with_reducible refine below_ext0 ?_ _ _) | (with_reducible refine below_alloc0 ?_ _) | (with_reducible refine Below.ext ?_ ?_ _ _) | (with_reducible refine Below.alloc ?_ ?_ _) | (with_reducible refine Below.setCell ?_ ?_ _) | (with_reducible refine Below.drew ?_) | (with_reducible refine below_draws ?_ _) | go_size | (simp [size_ext]; done) | (simp [size_ext]; omega))), HALL2⟩
        · rw [if_neg he] at hA
          have hd : decide (∀ i, i < m → bitL l1 i = bitL l2 i) = false := decide_eq_false fun h => he (by rw [← HBX.out, ← HBZ.out]; exact h k hlt)
          have HD := hid hd
          have hA' : bits .and .u8 ((X : Int) / 2 ^ J) 1 = 1 := hA
          clear hlow hx hz hT e hA he k0 k1 hXX hv hu ha hj hJ hbx hbz hd
          go_wp2
          refine wp_region_ext (by kernel_rfl) (by kernel_rfl) ?_
          repeat (go_big_quiet_step ((fail)))
          refine wpQuiet_nil ?_
          rintro _ ⟨⟨os, d⟩, rfl⟩
          simp only [exts]
          go_wp2
          go_ret
          exact ⟨by rw [HBT.out, HD.out]; rfl, by have := HLOW.out; have := HLOW.out.size; (repeat' (first | (with_reducible exact Below.refl _ _) | (with_reducible assumption) | (with_reducible refine below_ext0 ?_ _ _) | (with_reducible refine below_alloc0 ?_ _) | (with_reducible refine Below.ext ?_ ?_ _ _) | (with_reducible refine Below.alloc ?_ ?_ _) | (with_reducible refine Below.setCell ?_ ?_ _) | (with_reducible refine Below.drew ?_) | (with_reducible refine below_draws ?_ _) | go_size | (simp [size_ext]; done) | (simp [size_ext]; omega)))⟩
      · obtain rfl : m = k := by omega
        have hd : decide (∀ i, i < m → bitL l1 i = bitL l2 i) = true := decide_eq_true HALL.out
        have HD := hid hd
        clear hd hlow
        go_wp2
        go_ret
        exact ⟨by rw [HBT.out, HD.out]; rfl, by have := HLOW.out; (repeat' (first | (with_reducible exact Below.refl _ _) | (with_reducible assumption) | (with_reducible refine below_ext0 ?_ _ _) | (with_reducible refine below_alloc0 ?_ _) | (with_reducible refine Below.ext ?_ ?_ _ _) | (with_reducible refine Below.alloc ?_ ?_ _) | (with_reducible refine Below.setCell ?_ ?_ _) | (with_reducible refine Below.drew ?_) | (with_reducible refine below_draws ?_ _) | go_size | (simp [size_ext]; done) | (simp [size_ext]; omega)))⟩
end Go.Proofs.YtemgbfppdopfbaaDoor
