/- The document's answers of subnets: BitOf, Alike. -/
import Derived.Test.YtemgbfppdopfbaaDoorInAny
import Derived.Test.YtemgbfppdopfbaaDoorApp
import Derived.Test.YtemgbfppdopfbaaDoorAppS
namespace Go.Proofs.YtemgbfppdopfbaaDoor
open Go.RowKit
set_option linter.unusedVariables false
set_option linter.unusedSimpArgs false

/-- one bit of an address -/
def bitL (l : List UInt8) (i : Nat) : Nat := (l.getD (i / 8) 0).toNat / 2 ^ (7 - i % 8) % 2
theorem bitL_le (l : List UInt8) (i : Nat) : bitL l i ≤ 1 := by unfold bitL; omega

set_option maxRecDepth 100000 in
set_option maxHeartbeats 2000000 in
theorem bitof_any {w : World} {B n c : Nat} {A : Option Addr} {l : List UInt8} (h : Rd u8R w B A n c l) (i : Nat) (hi : i < 8 * n) {y : Int} (hy : y = (i : Int)) :
    Calls Tryd.prog 58 #[.slice A n c, .int .i64 y] w fun e w' => e = .returned (.int .i64 ((bitL l i : Nat) : Int)) ∧ w' = w := by
  subst hy
  obtain ⟨a, ha⟩ : ∃ a, i / 8 = a := ⟨_, rfl⟩
  obtain ⟨j, hj⟩ : ∃ j, i % 8 = j := ⟨_, rfl⟩
  have han : a < n := by omega
  have hj7 : j ≤ 7 := by omega
  obtain ⟨b, o, rfl, lb⟩ := h.addr (by omega)
  obtain ⟨x, hx, c0, k0, _⟩ := h.byte a han
  have hm := h.max
  have hc := h.cap
  unfold maxLen at hm
  have hl := h.lim
  simp only [u8R, Nat.mul_one] at hl
  have hx8 := x.toNat_lt
  have hres : bitL l i = x.toNat / 2 ^ (7 - j) % 2 := by unfold bitL; rw [ha, hx, hj]
  have HRES := hid hres
  have q1 : (i : Int) / 8 = (a : Int) := by omega
  have q2 : Int.tdiv (i : Int) 8 = (a : Int) := by rw [Int.tdiv_eq_ediv_of_nonneg (by omega)]; exact q1
  have q3 : (i : Int) % 8 = (j : Int) := by omega
  have q4 : Int.tmod (i : Int) 8 = (j : Int) := by rw [Int.tmod_eq_emod_of_nonneg (by omega)]; exact q3
  have j0 : (a : Int) < (n : Int) := by omega
  have j1 : (0 : Int) ≤ (a : Int) := by omega
  clear hres hx ha hj h
  obtain ⟨v, hv⟩ : ∃ v : Nat, x.toNat = v := ⟨_, rfl⟩
  rw [hv] at c0 hx8 HRES
  have v0 : IntKind.i64.wrap (v : Int) = (v : Int) := IntWalk.i64_in _ (by omega)
  clear hv k0
  go_enter Tryd.func58, Tryd.ntmps58
  go_wp2
  go_loopg [5, 6] (7 - j) (fun gk v5 v6 wi => ∃ k : Nat, j ≤ k ∧ k ≤ 7 ∧ gk = k - j ∧ v6 = .int .i64 (k : Int) ∧ v5 = .int .i64 ((v / 2 ^ (7 - k) : Nat) : Int) ∧ wi = w)
  case atStart => exact ⟨7, by omega, by omega, by omega, rfl, by simp, rfl⟩
  case round =>
    obtain ⟨k, h1, h2, rfl, rfl, rfl, rfl⟩ := hrel
    obtain ⟨z, hz⟩ : ∃ z, v / 2 ^ (7 - k) = z := ⟨_, rfl⟩
    have hz1 : z ≤ v := by rw [← hz]; exact Nat.div_le_self _ _
    by_cases hk : j < k
    · have g0 : (j : Int) < (k : Int) := by omega
      have g1 : decide ((j : Int) < (k : Int)) = true := decide_eq_true g0
      have hz2 : v / 2 ^ (7 - (k - 1)) = z / 2 := by
        rw [← hz, show 7 - (k - 1) = (7 - k) + 1 by omega, Nat.pow_succ, Nat.div_div_eq_div_mul]
      obtain ⟨z2, hzz⟩ : ∃ z2, z / 2 = z2 := ⟨_, rfl⟩
      rw [hzz] at hz2
      have HZ2 := hid hz2
      have u1 : (z : Int) / 2 = (z2 : Int) := by omega
      have u2 : Int.tdiv (z : Int) 2 = (z2 : Int) := by rw [Int.tdiv_eq_ediv_of_nonneg (by omega)]; exact u1
      have u3 : IntKind.i64.wrap ((k : Int) - 1) = (k : Int) - 1 := IntWalk.i64_in _ (by omega)
      rw [hz]
      clear hz hz2 hzz
      go_wp2
      go_roundg (k - 1 - j)
      case measure => omega
      case rel => exact ⟨k - 1, by omega, by omega, by omega, by congr 1; omega, by rw [HZ2.out], rfl⟩
    · obtain rfl : k = j := by omega
      have g0 : ¬ (k : Int) < (k : Int) := by omega
      have g1 : decide ((k : Int) < (k : Int)) = false := decide_eq_false g0
      obtain ⟨r, hr⟩ : ∃ r, z % 2 = r := ⟨_, rfl⟩
      have HR := hid hr
      have u1 : (z : Int) % 2 = (r : Int) := by omega
      have u2 : Int.tmod (z : Int) 2 = (r : Int) := by rw [Int.tmod_eq_emod_of_nonneg (by omega)]; exact u1
      have HZ := hid hz
      rw [hz]
      clear hz hr
      go_wp2
      go_ret
      exact ⟨by rw [HRES.out, HZ.out, HR.out]; rfl, rfl⟩

theorem alikeBits_any {w : World} {B1 n1 c1 : Nat} {A1 : Option Addr} {l1 : List UInt8} (h1 : Rd u8R w B1 A1 n1 c1 l1) {B2 n2 c2 : Nat} {A2 : Option Addr} {l2 : List UInt8} (h2 : Rd u8R w B2 A2 n2 c2 l2) (m : Nat) {y : Int} (hy : y = (m : Int)) (hm1 : m ≤ 8 * n1) (hm2 : m ≤ 8 * n2) :
    Calls Tryd.prog 42 #[.slice A1 n1 c1, .slice A2 n2 c2, .int .i64 y] w fun e w' => e = .returned (.bool (decide (∀ i, i < m → bitL l1 i = bitL l2 i))) ∧ w' = w := by
  subst hy
  have hl1 := h1.lim
  simp only [u8R, Nat.mul_one] at hl1
  have C1 := hid fun i (hi : i < m) y hy => bitof_any h1 i (by omega) (y := y) hy
  have C2 := hid fun i (hi : i < m) y hy => bitof_any h2 i (by omega) (y := y) hy
  clear h1 h2
  have tk0 : True := trivial; have tk1 : True := trivial; have tk2 : True := trivial; have tk3 : True := trivial; have tk4 : True := trivial; have tk5 : True := trivial; have tk6 : True := trivial; have tk7 : True := trivial; have tk8 : True := trivial; have tk9 : True := trivial; have tk10 : True := trivial; have tk11 : True := trivial; have tk12 : True := trivial
  go_enter Tryd.func42, Tryd.ntmps42
  go_wp2
  go_loopg [7] m (fun gk v wi => ∃ k : Nat, k ≤ m ∧ gk = m - k ∧ v = .int .i64 (k : Int) ∧ wi = w ∧ ∀ i, i < k → bitL l1 i = bitL l2 i)
  case atStart => exact ⟨0, Nat.zero_le _, rfl, rfl, rfl, fun i hi => by omega⟩
  case round =>
    obtain ⟨k, hk, rfl, rfl, rfl, hall⟩ := hrel
    have HALL := hid hall
    clear hall
    by_cases hlt : k < m
    · have g0 : (k : Int) < (m : Int) := by omega
      have C1' := C1.out k hlt _ rfl
      have C2' := C2.out k hlt _ rfl
      obtain ⟨x, hx⟩ : ∃ x, bitL l1 k = x := ⟨_, rfl⟩
      obtain ⟨z, hz⟩ : ∃ z, bitL l2 k = z := ⟨_, rfl⟩
      rw [hx] at C1'
      rw [hz] at C2'
      have D1 := hid C1'
      have D2 := hid C2'
      have HXZ := hid (And.intro hx hz)
      clear C1' C2' hx hz
      by_cases he : x = z
      · have hv : ((x : Int) != (z : Int)) = false := by rw [he]; simp
        have HE := hid he
        clear he
        go_wp2_with (first
          | (go_at_call 58; have _t := tk1; (with_reducible refine D1.out.mono ?_); rintro e w1 ⟨rfl, hw⟩; subst w1; clear tk1)
          | (go_at_call 58; have _t := tk2; (with_reducible refine D2.out.mono ?_); rintro e w1 ⟨rfl, hw⟩; subst w1; clear tk2))
        go_roundg (m - (k + 1))
        case measure => omega
        case rel => exact ⟨k + 1, by omega, rfl, by go_num, rfl, fun i hi => by
          by_cases hik : i = k
          · rw [hik, HXZ.out.1, HXZ.out.2, HE.out]
          · exact HALL.out i (by omega)⟩
      · have hv : ((x : Int) != (z : Int)) = true := by rw [bne_iff_ne]; omega
        have hd : decide (∀ i, i < m → bitL l1 i = bitL l2 i) = false := decide_eq_false fun h => he (by rw [← HXZ.out.1, ← HXZ.out.2]; exact h k hlt)
        have HD := hid hd
        clear he hd
        go_wp2_with (first
          | (go_at_call 58; have _t := tk1; (with_reducible refine D1.out.mono ?_); rintro e w1 ⟨rfl, hw⟩; subst w1; clear tk1)
          | (go_at_call 58; have _t := tk2; (with_reducible refine D2.out.mono ?_); rintro e w1 ⟨rfl, hw⟩; subst w1; clear tk2))
        go_ret
        exact ⟨by rw [HD.out]; rfl, rfl⟩
    · obtain rfl : m = k := by omega
      have hd : decide (∀ i, i < m → bitL l1 i = bitL l2 i) = true := decide_eq_true HALL.out
      have HD := hid hd
      clear hd
      go_wp2
      go_ret
      exact ⟨by rw [HD.out]; rfl, rfl⟩
end Go.Proofs.YtemgbfppdopfbaaDoor
