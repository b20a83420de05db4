/- The first bits of an address: subnet's mask. -/
import Derived.Test.YtemgbfppdopfbaaDoorCloneBytes
import Derived.Deep.LoopGhost
import Derived.Deep.QuietTactic
import Derived.BigQuiet
import Derived.Deep.RegionHeld3
import Derived.Deep.Light
namespace Go.Proofs.YtemgbfppdopfbaaDoor
open Go.RowKit
set_option linter.unusedVariables false
set_option linter.unusedSimpArgs false

/-- one byte of the masked address: 'bits' of it stay -/
def maskB (b : UInt8) (bits : Int) : UInt8 := if bits ≤ 0 then 0 else if bits < 8 then UInt8.ofNat (b.toNat / 2 ^ (8 - bits.toNat) * 2 ^ (8 - bits.toNat)) else b
/-- the masked address -/
def maskL (l : List UInt8) (n : Int) : List UInt8 := l.mapIdx fun i b => maskB b (n - 8 * (i : Int))

/-- the address, k of its bytes masked -/
def stepL (l : List UInt8) (m : Int) (k : Nat) : List UInt8 := (maskL l m).take k ++ l.drop k
theorem maskL_len (l : List UInt8) (m : Int) : (maskL l m).length = l.length := by simp [maskL]
theorem stepL_zero (l : List UInt8) (m : Int) : stepL l m 0 = l := by simp [stepL]
theorem stepL_all (l : List UInt8) (m : Int) (n : Nat) (h : l.length ≤ n) : stepL l m n = maskL l m := by
  rw [stepL, List.take_of_length_le (by rw [maskL_len]; exact h), List.drop_eq_nil_of_le h, List.append_nil]
theorem stepL_get (l : List UInt8) (m : Int) (k : Nat) (h : k < l.length) : (stepL l m k)[k]? = some l[k] := by
  rw [stepL, List.getElem?_append_right (by rw [List.length_take, maskL_len]; omega), List.length_take, maskL_len, Nat.min_eq_left (by omega), Nat.sub_self, List.getElem?_drop]
  simp [h]
theorem stepL_succ (l : List UInt8) (m : Int) (k : Nat) (h : k < l.length) : stepL l m (k + 1) = (stepL l m k).set k (maskB l[k] (m - 8 * (k : Int))) := by
  have h1 : k < (maskL l m).length := by rw [maskL_len]; exact h
  rw [stepL, stepL, List.take_succ_eq_append_getElem h1, List.set_append_right _ _ (by rw [List.length_take]; omega), List.length_take, Nat.min_eq_left (by omega), Nat.sub_self, List.drop_eq_getElem_cons h, List.set_cons_zero, List.append_assoc]
  congr 1
  simp [maskL]

theorem mask_eq (x : UInt8) (d : Int) (b : Nat) (h : d = b) (h1 : 1 ≤ b) (h7 : b ≤ 7) : UInt8.ofNat (x.toNat / 2 ^ (8 - b) * 2 ^ (8 - b)) = maskB x d := by
  subst h
  rw [maskB, if_neg (by omega), if_pos (by omega), Int.toNat_natCast]
theorem mask_byte (x : UInt8) (e : Nat) (h : x.toNat < 256) : ((UInt8.ofNat (x.toNat / 2 ^ e * 2 ^ e)).toNat : Int) = ((x.toNat / 2 ^ e * 2 ^ e : Nat) : Int) := by
  have : x.toNat / 2 ^ e * 2 ^ e ≤ x.toNat := Nat.div_mul_le_self _ _
  rw [UInt8.toNat_ofNat', Nat.mod_eq_of_lt (by omega)]
theorem mask_div (x : UInt8) (e s : Nat) (S : Int) (hS : S = (s : Int)) (h : 2 ^ e = s) : (x.toNat : Int) / S * S = ((x.toNat / 2 ^ e * 2 ^ e : Nat) : Int) := by
  subst hS
  rw [h]; simp
theorem mask_and (x : UInt8) (e c : Nat) (C : Int) (hC : C = (c : Int)) (h : x.toNat < 256) (hc : c < 256) (ha : ∀ y, y < 256 → y &&& c = y / 2 ^ e * 2 ^ e) : bits .and .u8 (x.toNat : Int) C = ((x.toNat / 2 ^ e * 2 ^ e : Nat) : Int) := by
  subst hC
  rw [u8_and_nat _ _ h hc, ha _ h]

end Go.Proofs.YtemgbfppdopfbaaDoor
