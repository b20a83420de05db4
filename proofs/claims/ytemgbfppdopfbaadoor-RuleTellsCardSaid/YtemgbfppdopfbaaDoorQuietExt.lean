/- A region that draws its order and whose calls may lay new blocks, but hand back values that do not hang on where: walked once. No function of the program. -/
import Derived.Test.YtemgbfppdopfbaaDoorBase
import Derived.Deep.QuietTactic
import Derived.BigQuiet
namespace Go.Proofs.YtemgbfppdopfbaaDoor
open Go.RowKit
set_option linter.unusedVariables false
set_option linter.unusedSimpArgs false

/-- the world with more behind -/
structure Behind where
  os : Array Obj
  d : Nat
instance : Nonempty Behind := ⟨⟨#[], 0⟩⟩
def exts (w : World) (x : Behind) : World := ext w x.os x.d
theorem exts_below {B : Nat} {w0 w : World} (h : Below B w0 w) (hB : B ≤ w.heap.size) (x : Behind) : Below B w0 (exts w x) := Below.ext h hB x.os x.d
@[go_sem] theorem cell_exts (w : World) (x : Behind) (n i : Nat) (h : n < w.heap.size) : (exts w x).cell? ⟨n, i, none⟩ = w.cell? ⟨n, i, none⟩ := cell_ext w x.os x.d n i h
@[go_sem] theorem frozen_exts (w : World) (x : Behind) (n i : Nat) (h : n < w.heap.size) : (exts w x).frozen? ⟨n, i, none⟩ = w.frozen? ⟨n, i, none⟩ := frozen_ext w x.os x.d n i h

theorem wp_region_ext {P : Program} {id : Nat} {Q : Exit → Act → World → Prop} {a : Act} {w : World} {l : List Oper} (hm : P.follows .mixedOrders = true) (hB : Region.lexB .any l.toArray = true)
    (h : wpQuiet P l.toArray (fun w' => ∃ x, w' = exts w x) (fun a' => ∀ w', (∃ x, w' = exts w x) → Q .normal a' w') l a) : (Code.region id l.toArray true).wp P Q a w :=
  wp_region_quiet (C := fun w' => ∃ x, w' = exts w x) hm hB ⟨⟨#[], w.drawn + 1⟩, by simp [exts, ext]⟩ (by simpa using h)
theorem Calls.quiet_ext {P : Program} {f : FuncId} {args : Array Value} {w : World} {x : Behind} {v : Value}
    (h : Calls P f args (exts w x) fun e w' => e = .returned v ∧ Below (exts w x).heap.size (exts w x) w') : Calls P f args (exts w x) fun e w'' => e = .returned v ∧ ∃ y, w'' = exts w y :=
  h.mono fun _ _ ⟨he, hb⟩ => ⟨he, by
    obtain ⟨os, d, h⟩ := ext_of_below ((below_ext w x.os x.d).trans (hb.mono (by simp [exts, ext])))
    exact ⟨⟨os, d⟩, h⟩⟩
end Go.Proofs.YtemgbfppdopfbaaDoor
