/- wire: the reader's take and jump. -/
import Derived.Test.YtemgbfppdopfbaaDoorWireP
import Derived.Test.YtemgbfppdopfbaaDoorBits
import Derived.BigRegion
namespace Go.Proofs.YtemgbfppdopfbaaDoor
open Go.RowKit
set_option linter.unusedVariables false
set_option linter.unusedSimpArgs false

/-- the reader's cells -/
@[reducible] def rdrC (A : Option Addr) (n c : Nat) (at_ low next size : Int) : Array Value := #[.slice A n c, .int .i64 at_, .int .i64 low, .int .i64 next, .int .i64 size]

theorem grown_set {w : World} {g : Nat} (i : Nat) (u : Value) : w.grownBy (w.setCell ⟨g, i, none⟩ u) (some g) :=
  ⟨rfl, rfl, rfl, by simp, fun k _ hk => Below.heap_setCell w _ _ _ (by simpa using fun e => hk (by rw [e]))⟩
theorem World.grownBy.trans {w w1 w2 : World} {r : Option Nat} (h : w.grownBy w1 r) (h' : w1.grownBy w2 r) : w.grownBy w2 r :=
  ⟨h'.os.trans h.os, h'.tape.trans h.tape, h'.output.trans h.output, Nat.le_trans h.size h'.size, fun k hk hne => (h'.block k (Nat.lt_of_lt_of_le hk h.size) hne).trans (h.block k hk hne)⟩
theorem grown_drew {w w' : World} {r : Option Nat} (h : w.grownBy w' r) : w.grownBy w'.drew r := ⟨h.os, h.tape, h.output, h.size, h.block⟩

/-! jump -/
end Go.Proofs.YtemgbfppdopfbaaDoor
