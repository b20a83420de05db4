/- The first bits of an address: subnet's mask. -/
import Derived.Test.YtbpflpmhnmdeoaaDoorCloneBytes
import Derived.Deep.LoopGhost
import Derived.Deep.QuietTactic
import Derived.BigQuiet
import Derived.Deep.RegionHeld3
import Derived.Deep.Light
namespace Go.Proofs.YtbpflpmhnmdeoaaDoor
open Go.RowKit
set_option linter.unusedVariables false
set_option linter.unusedSimpArgs false

/-- one byte of the masked address: 'bits' of it stay -/
def maskB (b : UInt8) (bits : Int) : UInt8 := if bits ≤ 0 then 0 else if bits < 8 then UInt8.ofNat (b.toNat / 2 ^ (8 - bits.toNat) * 2 ^ (8 - bits.toNat)) else b
/-- the masked address -/
def maskL (l : List UInt8) (n : Int) : List UInt8 := l.mapIdx fun i b => maskB b (n - 8 * (i : Int))

/-- the address, k of its bytes masked -/
def stepL (l : List UInt8) (m : Int) (k : Nat) : List UInt8 := (maskL l m).take k ++ l.drop k
theorem maskL_len (l : List UInt8) (m : Int) : (maskL l m).length = l.length := by simp [maskL]
theorem stepL_zero (l : List UInt8) (m : Int) : stepL l m 0 = l := by simp [stepL]
theorem stepL_all (l : List UInt8) (m : Int) (n : Nat) (h : l.length ≤ n) : stepL l m n = maskL l m := by
  rw [stepL, List.take_of_length_le (by rw [maskL_len]; exact h), List.drop_eq_nil_of_le h, List.append_nil]
theorem stepL_get (l : List UInt8) (m : Int) (k : Nat) (h : k < l.length) : (stepL l m k)[k]? = some l[k] := by
  rw [stepL, List.getElem?_append_right (by rw [List.length_take, maskL_len]; omega), List.length_take, maskL_len, Nat.min_eq_left (by omega), Nat.sub_self, List.getElem?_drop]
  simp [h]
theorem stepL_succ (l : List UInt8) (m : Int) (k : Nat) (h : k < l.length) : stepL l m (k + 1) = (stepL l m k).set k (maskB l[k] (m - 8 * (k : Int))) := by
  have h1 : k < (maskL l m).length := by rw [maskL_len]; exact h
  rw [stepL, stepL, List.take_succ_eq_append_getElem h1, List.set_append_right _ _ (by rw [List.length_take]; omega), List.length_take, Nat.min_eq_left (by omega), Nat.sub_self, List.drop_eq_getElem_cons h, List.set_cons_zero, List.append_assoc]
  congr 1
  simp [maskL]

theorem mask_eq (x : UInt8) (d : Int) (b : Nat) (h : d = b) (h1 : 1 ≤ b) (h7 : b ≤ 7) : UInt8.ofNat (x.toNat / 2 ^ (8 - b) * 2 ^ (8 - b)) = maskB x d := by
  subst h
  rw [maskB, if_neg (by omega), if_pos (by omega), Int.toNat_natCast]
theorem mask_byte (x : UInt8) (e : Nat) (h : x.toNat < 256) : ((UInt8.ofNat (x.toNat / 2 ^ e * 2 ^ e)).toNat : Int) = ((x.toNat / 2 ^ e * 2 ^ e : Nat) : Int) := by
  have : x.toNat / 2 ^ e * 2 ^ e ≤ x.toNat := Nat.div_mul_le_self _ _
  rw [UInt8.toNat_ofNat', Nat.mod_eq_of_lt (by omega)]
theorem mask_div (x : UInt8) (e s : Nat) (S : Int) (hS : S = (s : Int)) (h : 2 ^ e = s) : (x.toNat : Int) / S * S = ((x.toNat / 2 ^ e * 2 ^ e : Nat) : Int) := by
  subst hS
  rw [h]; simp
theorem mask_and (x : UInt8) (e c : Nat) (C : Int) (hC : C = (c : Int)) (h : x.toNat < 256) (hc : c < 256) (ha : ∀ y, y < 256 → y &&& c = y / 2 ^ e * 2 ^ e) : bits .and .u8 (x.toNat : Int) C = ((x.toNat / 2 ^ e * 2 ^ e : Nat) : Int) := by
  subst hC
  rw [u8_and_nat _ _ h hc, ha _ h]

set_option maxHeartbeats 2000000 in
theorem mask_any (w : World) (A : Option Addr) (n c : Nat) (l : List UInt8) (B : Nat) (h : Rd u8R w B A n c l) (m : Int) (m0 : -4611686018427387904 ≤ m) (m1 : m ≤ 4611686018427387904) :
    Calls Tryd.prog 37 #[.slice A n c, .int .i64 m] w fun e w' => ∃ v, e = .returned v ∧ w'.ownsRow w.heap.size 5 1 v n (bytesV (maskL l m)) ∧ Below w.heap.size w w' := by
  have hlim := h.lim
  simp only [u8R, Nat.mul_one] at hlim
  have CC := hid (clone_bytes w A n c l B h)
  have HL := hid h.len
  clear h
  go_enter Tryd.func37, Tryd.ntmps37
  go_wp2_with fail
  refine CC.out.mono ?_
  rintro e w1 ⟨v, rfl, hown, hlow⟩
  obtain ⟨A', cap, rfl, hcap, hmax, hA⟩ := own_slice hown
  unfold maxLen at hmax
  have hstart := hid (show w1.ownsRow w.heap.size 5 1 (.slice A' n cap) n (bytesV (stepL l m 0)) by rw [stepL_zero]; exact hown)
  have HLOW := hid hlow
  have HA := hid hA
  clear hown hlow hA CC
  go_wp2_with fail
  go_loopg [12] n (fun g v wi => ∃ k : Nat, k ≤ n ∧ g = n - k ∧ v = .int .i64 k ∧ wi.ownsRow w.heap.size 5 1 (.slice A' n cap) n (bytesV (stepL l m k)) ∧ Below w.heap.size w wi)
  case atStart => exact ⟨0, Nat.zero_le _, rfl, rfl, hstart.out, HLOW.out⟩
  case round =>
    obtain ⟨k, hk, rfl, rfl, hown, hlow⟩ := hrel
    have HOWN := hid hown
    have HLOW := hid hlow
    clear hown hlow hstart
    by_cases hlt : k < n
    · obtain ⟨g, rfl, hg, _⟩ := HA.out (by omega)
      have hkl : k < l.length := by rw [HL.out]; exact hlt
      have cg : wr.cell? ⟨g, k, none⟩ = some (.int .u8 ((l[k]).toNat : Int)) := by
        rw [HOWN.out.cellAt k (by omega)]
        simp [bytesV, stepL_get l m k hkl]
      have fg : wr.frozen? ⟨g, k, none⟩ = false := HOWN.out.frozenAt k
      have hnext : ∀ b, b = maskB l[k] (m - 8 * (k : Int)) → (wr.setCell ⟨g, k, none⟩ (.int .u8 (b.toNat : Int))).ownsRow w.heap.size 5 1 (.slice (some ⟨g, 0, none⟩) n cap) n (bytesV (stepL l m (k + 1))) ∧ Below w.heap.size w (wr.setCell ⟨g, k, none⟩ (.int .u8 (b.toNat : Int))) := by
        intro b hb
        rw [stepL_succ l m k hkl, bytesV_set, ← hb]
        exact ⟨(HOWN.out.stored k _).1, HLOW.out.setCell hg _⟩
      have HN := hid hnext
      have q0 := (l[k]).toNat_lt
      obtain ⟨x, hx⟩ : ∃ x, l[k] = x := ⟨_, rfl⟩
      rw [hx] at cg q0
      have HX := hid hx
      clear hnext hx HA
      have hways : m - 8 * (k : Int) ≤ 0 ∨ (m - 8 * (k : Int) = 1 ∨ m - 8 * (k : Int) = 2 ∨ m - 8 * (k : Int) = 3 ∨ m - 8 * (k : Int) = 4 ∨ m - 8 * (k : Int) = 5 ∨ m - 8 * (k : Int) = 6 ∨ m - 8 * (k : Int) = 7) ∨ 8 ≤ m - 8 * (k : Int) := by omega
      have hkz : (k : Int) < (n : Int) := by omega
      rcases hways with hb | hb | hb
      · go_wp2
        go_roundg (n - (k + 1))
        case measure => omega
        case rel =>
          have := HN.out 0 (by rw [HX.out, maskB, if_pos hb])
          exact ⟨k + 1, by omega, rfl, by go_num, this.1, this.2⟩
      · rcases hb with hb | hb | hb | hb | hb | hb | hb
        · go_wp2_with fail
          go_region
          all_goals
            go_wp2
            go_roundg (n - (k + 1))
            case measure => omega
            case rel =>
              have := HN.out (UInt8.ofNat (x.toNat / 2 ^ 7 * 2 ^ 7)) (by rw [HX.out]; exact (mask_eq x _ 1 hb (by omega) (by omega)))
              rw [mask_byte x 7 q0] at this
              exact ⟨k + 1, by omega, rfl, by go_num, by first | (rw [mask_div x 7 128 128 rfl rfl]; exact this.1.drew) | (rw [mask_and x 7 128 128 rfl q0 (by decide) (by decide +kernel)]; exact this.1.drew), by first | (rw [mask_div x 7 128 128 rfl rfl]; exact this.2.drew) | (rw [mask_and x 7 128 128 rfl q0 (by decide) (by decide +kernel)]; exact this.2.drew)⟩
        · go_wp2_with fail
          go_region
          all_goals
            go_wp2
            go_roundg (n - (k + 1))
            case measure => omega
            case rel =>
              have := HN.out (UInt8.ofNat (x.toNat / 2 ^ 6 * 2 ^ 6)) (by rw [HX.out]; exact (mask_eq x _ 2 hb (by omega) (by omega)))
              rw [mask_byte x 6 q0] at this
              exact ⟨k + 1, by omega, rfl, by go_num, by first | (rw [mask_div x 6 64 64 rfl rfl]; exact this.1.drew) | (rw [mask_and x 6 192 192 rfl q0 (by decide) (by decide +kernel)]; exact this.1.drew), by first | (rw [mask_div x 6 64 64 rfl rfl]; exact this.2.drew) | (rw [mask_and x 6 192 192 rfl q0 (by decide) (by decide +kernel)]; exact this.2.drew)⟩
        · go_wp2_with fail
          go_region
          all_goals
            go_wp2
            go_roundg (n - (k + 1))
            case measure => omega
            case rel =>
              have := HN.out (UInt8.ofNat (x.toNat / 2 ^ 5 * 2 ^ 5)) (by rw [HX.out]; exact (mask_eq x _ 3 hb (by omega) (by omega)))
              rw [mask_byte x 5 q0] at this
              exact ⟨k + 1, by omega, rfl, by go_num, by first | (rw [mask_div x 5 32 32 rfl rfl]; exact this.1.drew) | (rw [mask_and x 5 224 224 rfl q0 (by decide) (by decide +kernel)]; exact this.1.drew), by first | (rw [mask_div x 5 32 32 rfl rfl]; exact this.2.drew) | (rw [mask_and x 5 224 224 rfl q0 (by decide) (by decide +kernel)]; exact this.2.drew)⟩
        · go_wp2_with fail
          go_region
          all_goals
            go_wp2
            go_roundg (n - (k + 1))
            case measure => omega
            case rel =>
              have := HN.out (UInt8.ofNat (x.toNat / 2 ^ 4 * 2 ^ 4)) (by rw [HX.out]; exact (mask_eq x _ 4 hb (by omega) (by omega)))
              rw [mask_byte x 4 q0] at this
              exact ⟨k + 1, by omega, rfl, by go_num, by first | (rw [mask_div x 4 16 16 rfl rfl]; exact this.1.drew) | (rw [mask_and x 4 240 240 rfl q0 (by decide) (by decide +kernel)]; exact this.1.drew), by first | (rw [mask_div x 4 16 16 rfl rfl]; exact this.2.drew) | (rw [mask_and x 4 240 240 rfl q0 (by decide) (by decide +kernel)]; exact this.2.drew)⟩
        · go_wp2_with fail
          go_region
          all_goals
            go_wp2
            go_roundg (n - (k + 1))
            case measure => omega
            case rel =>
              have := HN.out (UInt8.ofNat (x.toNat / 2 ^ 3 * 2 ^ 3)) (by rw [HX.out]; exact (mask_eq x _ 5 hb (by omega) (by omega)))
              rw [mask_byte x 3 q0] at this
              exact ⟨k + 1, by omega, rfl, by go_num, by first | (rw [mask_div x 3 8 8 rfl rfl]; exact this.1.drew) | (rw [mask_and x 3 248 248 rfl q0 (by decide) (by decide +kernel)]; exact this.1.drew), by first | (rw [mask_div x 3 8 8 rfl rfl]; exact this.2.drew) | (rw [mask_and x 3 248 248 rfl q0 (by decide) (by decide +kernel)]; exact this.2.drew)⟩
        · go_wp2_with fail
          go_region
          all_goals
            go_wp2
            go_roundg (n - (k + 1))
            case measure => omega
            case rel =>
              have := HN.out (UInt8.ofNat (x.toNat / 2 ^ 2 * 2 ^ 2)) (by rw [HX.out]; exact (mask_eq x _ 6 hb (by omega) (by omega)))
              rw [mask_byte x 2 q0] at this
              exact ⟨k + 1, by omega, rfl, by go_num, by first | (rw [mask_div x 2 4 4 rfl rfl]; exact this.1.drew) | (rw [mask_and x 2 252 252 rfl q0 (by decide) (by decide +kernel)]; exact this.1.drew), by first | (rw [mask_div x 2 4 4 rfl rfl]; exact this.2.drew) | (rw [mask_and x 2 252 252 rfl q0 (by decide) (by decide +kernel)]; exact this.2.drew)⟩
        · go_wp2_with fail
          go_region
          all_goals
            go_wp2
            go_roundg (n - (k + 1))
            case measure => omega
            case rel =>
              have := HN.out (UInt8.ofNat (x.toNat / 2 ^ 1 * 2 ^ 1)) (by rw [HX.out]; exact (mask_eq x _ 7 hb (by omega) (by omega)))
              rw [mask_byte x 1 q0] at this
              exact ⟨k + 1, by omega, rfl, by go_num, by first | (rw [mask_div x 1 2 2 rfl rfl]; exact this.1.drew) | (rw [mask_and x 1 254 254 rfl q0 (by decide) (by decide +kernel)]; exact this.1.drew), by first | (rw [mask_div x 1 2 2 rfl rfl]; exact this.2.drew) | (rw [mask_and x 1 254 254 rfl q0 (by decide) (by decide +kernel)]; exact this.2.drew)⟩
      · have hn1 : ¬ m - 8 * (k : Int) ≤ 0 := by omega
        have hn2 : ¬ m - 8 * (k : Int) < 8 := by omega
        have hsame : wr.ownsRow w.heap.size 5 1 (.slice (some ⟨g, 0, none⟩) n cap) n (bytesV (stepL l m (k + 1))) := by
          have e : stepL l m (k + 1) = stepL l m k := by
            rw [stepL_succ l m k hkl, maskB, if_neg hn1, if_neg hn2]
            apply List.ext_getElem?
            intro i
            by_cases hi : k = i
            · subst hi
              rw [List.getElem?_set, stepL_get l m k hkl]
              have h2 : k < (stepL l m k).length := by
                rcases Nat.lt_or_ge k (stepL l m k).length with h | h
                · exact h
                · have := stepL_get l m k hkl
                  rw [List.getElem?_eq_none h] at this
                  cases this
              simp [h2]
            · rw [List.getElem?_set_ne hi]
          rw [e]
          exact HOWN.out
        have HS := hid hsame
        clear hsame hn1 hn2
        go_wp2
        go_roundg (n - (k + 1))
        case measure => omega
        case rel => exact ⟨k + 1, by omega, rfl, by go_num, HS.out, HLOW.out⟩
    · have hkn : k = n := by omega
      subst hkn
      go_wp2
      go_ret
      refine ⟨_, rfl, ?_, HLOW.out⟩
      have := HOWN.out
      rwa [stepL_all l m k (by rw [HL.out]; exact Nat.le_refl _)] at this
end Go.Proofs.YtbpflpmhnmdeoaaDoor
