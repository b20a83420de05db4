/- wire: sent, Write. -/
import Derived.Test.YtemgbfppdopfbaaDoorWireB
import Derived.Test.YtemgbfppdopfbaaDoorAppS
namespace Go.Proofs.YtemgbfppdopfbaaDoor
open Go.RowKit
set_option linter.unusedVariables false
set_option linter.unusedSimpArgs false

theorem strCells_eq (s : ByteArray) : Lib.strCells s = bytesV s.data.toList := rfl
theorem bytesV_append (a b : List UInt8) : bytesV (a ++ b) = bytesV a ++ bytesV b := by simp [bytesV]
theorem u8_size (s : ByteArray) (h : s.size ≤ 63) : ((UInt8.ofNat s.size).toNat : Int) = (s.size : Int) := by
  rw [UInt8.toNat_ofNat', Nat.mod_eq_of_lt (by omega)]
theorem sentL_snoc (l : List ByteArray) (s : ByteArray) : sentL (l ++ [s]) = sentL l ++ UInt8.ofNat s.size :: s.data.toList := by rw [sentL_append]; simp [sentL]

/-! Write -/
theorem errV_zero : errV 0 = .nilIface := rfl
theorem errV_ne {n : Int} (h : n ≠ 0) : errV n = .iface 26 (.int .i64 n) := if_neg h
/-- a row of the call's own as bytes -/
theorem own_rd_u8 {w : World} {base n : Nat} {v : Value} {l : List UInt8} (h : w.ownsRow base 5 1 v n (bytesV l)) (hb : base ≤ w.heap.size) (hn : n ≤ 140737488355328) : ∃ A c, v = .slice A n c ∧ Rd u8R w w.heap.size A n c l :=
  rd_of_own (R := u8R) h (rels_u8.2 rfl) (by have := h.1; simpa [bytesV] using this) hb (by simpa [u8R] using hn) (by decide)

def WrE (w : World) (m : List UInt8) (l : List ByteArray) (e : Ending) (w' : World) : Prop :=
  Below w.heap.size w w' ∧ if nameErr l = 0 then ∃ A' c', e = .returned (.tuple #[.slice A' (m ++ sentL l ++ [0]).length c', .nilIface]) ∧ Rd u8R w' w'.heap.size A' (m ++ sentL l ++ [0]).length c' (m ++ sentL l ++ [0])
    else e = .returned (.tuple #[.slice none 0 0, .iface 26 (.int .i64 (nameErr l))])
end Go.Proofs.YtemgbfppdopfbaaDoor
