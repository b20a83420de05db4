/- The document's answers of subnets: Masked. -/
import Derived.Test.YtbpflpmhnmdeoaaDoorSubRefA
namespace Go.Proofs.YtbpflpmhnmdeoaaDoor
open Go.RowKit
set_option linter.unusedVariables false
set_option linter.unusedSimpArgs false

/-- a byte's first d bits alone -/
def mskN (b d : Nat) : Nat := b / 2 ^ (8 - d) * 2 ^ (8 - d)
def clampN (y : Int) : Nat := if y ≤ 0 then 0 else if 8 ≤ y then 8 else y.toNat
theorem maskB_msk (b : UInt8) (y : Int) : (maskB b y).toNat = mskN b.toNat (clampN y) := by
  have hb := b.toNat_lt
  unfold maskB clampN mskN
  by_cases h0 : y ≤ 0
  · rw [if_pos h0, if_pos h0]
    have : b.toNat / 2 ^ (8 - 0) = 0 := Nat.div_eq_of_lt (by simpa using hb)
    rw [this]; rfl
  · rw [if_neg h0, if_neg h0]
    by_cases h8 : y < 8
    · rw [if_pos h8, if_neg (by omega)]
      exact ofNat_mask _ _ hb
    · rw [if_neg h8, if_pos (by omega)]
      simp
theorem msk_step : ∀ b, b < 256 → ∀ d, d < 9 → ∀ k, k < 8 → mskN b d / 2 ^ (8 - (k + 1)) = 2 * (mskN b d / 2 ^ (8 - k)) + (if k < d then b / 2 ^ (7 - k) % 2 else 0) := by decide +kernel
theorem msk_le : ∀ b, b < 256 → ∀ d, d < 9 → mskN b d < 256 := by decide +kernel
theorem clampN_le (y : Int) : clampN y < 9 := by unfold clampN; split <;> (try split) <;> omega
theorem clampN_lt (y : Int) (k : Nat) (hk : k < 8) : k < clampN y ↔ (k : Int) < y := by unfold clampN; split <;> (try split) <;> omega

theorem own_rd_b {w : World} {base n : Nat} {v : Value} {l : List UInt8} (h : w.ownsRow base 5 1 v n (bytesV l)) (hb : base ≤ w.heap.size) (hn : n ≤ 140737488355328) : ∃ A c, v = .slice A n c ∧ Rd u8R w w.heap.size A n c l :=
  rd_of_own (R := u8R) h (rels_u8.2 rfl) (by have := h.1; simpa [bytesV] using this) hb (by simpa [u8R] using hn) (by decide)
set_option maxRecDepth 100000 in
set_option maxHeartbeats 4000000 in
theorem masked_own {w : World} {n c : Nat} {A : Option Addr} {l : List UInt8} (h : Rd u8R w w.heap.size A n c l) {y : Int} (y0 : 0 ≤ y) (y1 : y ≤ 8 * (n : Int)) :
    Calls Tryd.prog 21 #[.slice A n c, .int .i64 y] w fun e w' => ∃ v, e = .returned v ∧ w'.ownsRow w.heap.size 5 1 v n (bytesV (maskL l y)) ∧ Below w.heap.size w w' := by
  have hl := h.lim
  simp only [u8R, Nat.mul_one] at hl
  have hlen := h.len
  have CB := hid fun w' (hb : Below w.heap.size w w') i (hi : i < 8 * n) z hz => bitof_any (h.later hb) i hi (y := z) hz
  have H := hid h
  clear h
  have tk0 : True := trivial; have tk1 : True := trivial; have tk2 : True := trivial; have tk3 : True := trivial; have tk4 : True := trivial; have tk5 : True := trivial; have tk6 : True := trivial; have tk7 : True := trivial; have tk8 : True := trivial; have tk9 : True := trivial; have tk10 : True := trivial; have tk11 : True := trivial; have tk12 : True := trivial
  go_enter Tryd.func21, Tryd.ntmps21
  go_wp2
  go_loopg [5, 6] n (fun gk v5 v6 wi => ∃ i : Nat, i ≤ n ∧ gk = n - i ∧ v6 = .int .i64 (i : Int) ∧ wi.ownsRow w.heap.size 5 1 v5 i (bytesV ((maskL l y).take i)) ∧ Below w.heap.size w wi)
  case atStart => exact ⟨0, Nat.zero_le _, rfl, rfl, World.ownsRow_nil _ _ _ _, Below.refl _ _⟩
  case round =>
    obtain ⟨i, hi, rfl, rfl, ho, hlow⟩ := hrel
    have HO := hid ho
    have HLOW := hid hlow
    have hzw := hlow.size
    clear ho hlow
    by_cases hlt : i < n
    · have g0 : (i : Int) < (n : Int) := by omega
      have hil : i < l.length := by rw [hlen]; exact hlt
      obtain ⟨b, hb⟩ : ∃ b, l[i] = b := ⟨_, rfl⟩
      obtain ⟨d, hd⟩ : ∃ d, clampN (y - 8 * (i : Int)) = d := ⟨_, rfl⟩
      have hd9 : d < 9 := by rw [← hd]; exact clampN_le _
      have hb8 := b.toNat_lt
      obtain ⟨v, hv⟩ : ∃ v, mskN b.toNat d = v := ⟨_, rfl⟩
      have hv8 : v < 256 := by rw [← hv]; exact msk_le _ hb8 _ hd9
      have HST := hid fun k (hk : k < 8) => (by have := msk_step b.toNat hb8 d hd9 k hk; rwa [hv] at this : v / 2 ^ (8 - (k + 1)) = 2 * (v / 2 ^ (8 - k)) + (if k < d then b.toNat / 2 ^ (7 - k) % 2 else 0))
      have HDK := hid fun k (hk : k < 8) => (by rw [← hd]; exact clampN_lt _ k hk : k < d ↔ (k : Int) < y - 8 * (i : Int))
      have HBIT := hid fun k (hk : k < 8) => (by unfold bitL; rw [show (8 * i + k) / 8 = i by omega, show (8 * i + k) % 8 = k by omega, List.getD_eq_getElem?_getD, List.getElem?_eq_getElem hil, hb]; rfl : bitL l (8 * i + k) = b.toNat / 2 ^ (7 - k) % 2)
      have hmb : (maskL l y)[i]'(by rw [maskL_len]; exact hil) = maskB b (y - 8 * (i : Int)) := by rw [maskL_getElem, hb]
      have hmv : ((maskB b (y - 8 * (i : Int))).toNat : Int) = (v : Int) := by rw [maskB_msk, hd, hv]
      have HMB := hid (And.intro hmb hmv)
      have htk : (maskL l y).take (i + 1) = (maskL l y).take i ++ [(maskL l y)[i]'(by rw [maskL_len]; exact hil)] := List.take_succ_eq_append_getElem (by rw [maskL_len]; exact hil)
      have HTK := hid htk
      clear hmb hmv htk hv hd hb
      have ab1 : (i + 1) * 1 ≤ 140737488355328 := by omega
      have ab2 : i + 1 ≤ maxLen := by unfold maxLen; omega
      go_wp2
      go_loopg [7, 8] 8 (fun gk v7 v8 wi => ∃ k : Nat, k ≤ 8 ∧ gk = 8 - k ∧ v8 = .int .i64 (k : Int) ∧ v7 = .int .i64 ((v / 2 ^ (8 - k) : Nat) : Int) ∧ wi = wr)
      case atStart => exact ⟨0, by omega, rfl, rfl, by rw [Nat.sub_zero, Nat.div_eq_of_lt (by simpa using hv8)]; rfl, rfl⟩
      case round =>
        obtain ⟨k, hk, rfl, rfl, rfl, hwr⟩ := hrel
        subst hwr
        obtain ⟨z, hz⟩ : ∃ z, v / 2 ^ (8 - k) = z := ⟨_, rfl⟩
        rw [hz]
        have hzv : z ≤ v := by rw [← hz]; exact Nat.div_le_self _ _
        by_cases hk8 : k < 8
        · have hst := HST.out k hk8
          rw [hz] at hst
          obtain ⟨z2, hz2⟩ : ∃ z2, v / 2 ^ (8 - (k + 1)) = z2 := ⟨_, rfl⟩
          rw [hz2] at hst
          have HZ2 := hid hz2
          have e0 : (k : Int) < 8 := by omega
          have w1 : IntKind.i64.wrap (2 * (z : Int)) = 2 * (z : Int) := IntWalk.i64_in _ (by omega)
          have w2 : IntKind.i64.wrap (8 * (i : Int)) = 8 * (i : Int) := IntWalk.i64_in _ (by omega)
          have w3 : IntKind.i64.wrap (8 * (i : Int) + (k : Int)) = 8 * (i : Int) + (k : Int) := IntWalk.i64_in _ (by omega)
          by_cases hkd : k < d
          · rw [if_pos hkd] at hst
            have hlty := (HDK.out k hk8).1 hkd
            have e1 : 8 * (i : Int) + (k : Int) < y := by omega
            have e2 : decide (8 * (i : Int) + (k : Int) < y) = true := decide_eq_true e1
            obtain ⟨t, ht⟩ : ∃ t, b.toNat / 2 ^ (7 - k) % 2 = t := ⟨_, rfl⟩
            rw [ht] at hst
            have ht1 : t ≤ 1 := by omega
            have CB' := CB.out _ HLOW.out (8 * i + k) (by omega) (8 * (i : Int) + (k : Int)) (by omega)
            rw [HBIT.out k hk8, ht] at CB'
            have D := hid CB'
            have hs2 : 2 * (z : Int) + (t : Int) = (z2 : Int) := by omega
            have w4 : IntKind.i64.wrap (2 * (z : Int) + (t : Int)) = (z2 : Int) := by rw [hs2]; exact IntWalk.i64_in _ (by omega)
            clear CB' hst hz hz2 ht hlty hs2
            go_wp2_with (go_at_call 36; (with_reducible refine D.out.mono ?_); rintro e w1 ⟨rfl, hw⟩; subst w1)
            go_roundg (8 - (k + 1))
            case measure => omega
            case rel => exact ⟨k + 1, by omega, rfl, by go_num, by rw [HZ2.out], rfl⟩
          · rw [if_neg hkd, Nat.add_zero] at hst
            have hlty : ¬ (k : Int) < y - 8 * (i : Int) := fun h => hkd ((HDK.out k hk8).2 h)
            have e1 : ¬ 8 * (i : Int) + (k : Int) < y := by omega
            have e2 : decide (8 * (i : Int) + (k : Int) < y) = false := decide_eq_false e1
            have hs2 : 2 * (z : Int) = (z2 : Int) := by omega
            have HS2 := hid hs2
            clear hst hz hz2 hlty hs2
            go_wp2
            go_roundg (8 - (k + 1))
            case measure => omega
            case rel => exact ⟨k + 1, by omega, rfl, by go_num, by rw [HZ2.out]; first | rfl | (rw [HS2.out]) | (congr 1; have := HS2.out; omega), rfl⟩
        · obtain rfl : k = 8 := by omega
          have hzv2 : z = v := by rw [← hz]; simp
          subst hzv2
          have HTK2 := HTK
          clear hz
          have u0 : (0 : Int) ≤ (z : Int) := by omega
          have u1 : (z : Int) < 256 := by omega
          have u2 : (z : Int) % 256 = (z : Int) := by omega
          go_wp2_with (at_builtin; refine wpList_appT rfl _ _ 44 rfl w.heap.size 5 1 1 el_u8 u5 i _ rfl (HO.out.alloc _) _ 1 1 [.int .u8 (z : Int)] rfl (src_one _ rfl rfl) ab1 ab2 (by simp; omega) ?_; intro v2 w2 ho2 ha2; have HO2 := hid ho2; have HB2 := hid (Below.trans (Below.alloc HLOW.out hzw _) (ha2.below (HO.out.alloc _) (by simp; omega))); clear ho2 ha2)
          go_roundg (n - (i + 1))
          case measure => omega
          case rel =>
            refine ⟨i + 1, by omega, rfl, by go_num, ?_, HB2.out⟩
            have := HO2.out
            rw [HTK.out, HMB.out.1]
            have e := HMB.out.2
            simp only [bytesV, List.map_append, List.map_cons, List.map_nil, e]
            simpa [bytesV] using this
    · obtain rfl : n = i := by omega
      have ho := HO.out
      rw [List.take_of_length_le (by rw [maskL_len, hlen]; exact Nat.le_refl _)] at ho
      have HO2 := hid ho
      clear ho HO
      go_wp2
      go_ret
      exact ⟨_, rfl, by simpa using HO2.out, HLOW.out⟩
theorem masked_any {w : World} {n c : Nat} {A : Option Addr} {l : List UInt8} (h : Rd u8R w w.heap.size A n c l) {y : Int} (y0 : 0 ≤ y) (y1 : y ≤ 8 * (n : Int)) :
    Calls Tryd.prog 21 #[.slice A n c, .int .i64 y] w fun e w' => ∃ A' c', e = .returned (.slice A' n c') ∧ Rd u8R w' w'.heap.size A' n c' (maskL l y) ∧ Below w.heap.size w w' := by
  have hl := h.lim
  simp only [u8R, Nat.mul_one] at hl
  refine (masked_own h y0 y1).mono ?_
  rintro e w' ⟨v, rfl, ho, hb⟩
  obtain ⟨A', c', rfl, hr⟩ := own_rd_b ho hb.size hl
  exact ⟨A', c', rfl, hr, hb⟩
end Go.Proofs.YtbpflpmhnmdeoaaDoor
