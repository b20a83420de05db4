/- What every text of this seat rests on: small laws on worlds and values, no function of the program. -/
import Derived.Test.YthccknobnpbdeaaDoorProg
import Derived.WalkKit
import Derived.Handy
import Derived.LaidEql
import Derived.WalkLawsBesides
import Derived.WalkSpells
import Derived.Outline
import Derived.Deep.Draws
import Derived.Test.YthccknobnpbdeaaDoorRows
import Derived.ProofKit
import Derived.SizedLaws
import Derived.Deep.CondSized
import Derived.Maps.AppendAt
import Derived.Laws.AppendOwnNone
import Derived.Laws.CopyOwn
import Derived.Deep.RegionHeld3
import Derived.Deep.LoopGhost
import Derived.Deep.QuietTactic
import Derived.BigQuiet
import Derived.Laws.IdiomStrings
import Derived.Laws.BytesString
namespace Go.Proofs.YthccknobnpbdeaaDoor
open Go.RowKit

/-- an error of the program: nil (0), or its number -/
@[reducible] def errV (n : Int) : Value := if n = 0 then .nilIface else .iface 29 (.int .i64 n)

theorem hid {p : Prop} (h : p) : Hid p := h

/-- the world with more blocks behind, some draws on: what a call that changes nothing leaves -/
def ext (w : World) (os : Array Obj) (d : Nat) : World := { w with heap := w.heap ++ os, drawn := d }

theorem ext_of_below {w w' : World} (h : Below w.heap.size w w') : ∃ os d, w' = ext w os d := by
  refine ⟨w'.heap.extract w.heap.size w'.heap.size, w'.drawn, ?_⟩
  have hh : w'.heap = w.heap ++ w'.heap.extract w.heap.size w'.heap.size := by
    apply Array.ext_getElem?
    intro i
    by_cases hi : i < w.heap.size
    · rw [h.block i hi, Array.getElem?_append_left hi]
    · rw [Array.getElem?_append_right (by omega), Array.getElem?_extract]
      have := h.size
      split
      · congr 1; omega
      · rw [Array.getElem?_eq_none (by omega)]
  obtain ⟨heap, tape, drawn, os, output⟩ := w'
  have h1 := h.os
  have h2 := h.tape
  have h3 := h.output
  simp only at h1 h2 h3 hh
  subst h1 h2 h3
  unfold ext
  simp only [World.mk.injEq, and_self, and_true]
  exact hh

theorem below_ext (w : World) (os : Array Obj) (d : Nat) : Below w.heap.size w (ext w os d) :=
  ⟨rfl, rfl, rfl, by simp [ext], fun k hk => by simp [ext, Array.getElem?_append_left hk]⟩
theorem Below.ext {B : Nat} {w0 w : World} (h : Below B w0 w) (hB : B ≤ w.heap.size) (os : Array Obj) (d : Nat) : Below B w0 (ext w os d) :=
  h.trans ((below_ext w os d).mono hB)

@[go_sem] theorem size_ext (w : World) (os : Array Obj) (d : Nat) : (ext w os d).heap.size = w.heap.size + os.size := by simp [ext]
theorem heap_ext (w : World) (os : Array Obj) (d : Nat) {k : Nat} (h : k < w.heap.size) : (ext w os d).heap[k]? = w.heap[k]? := by
  simp [ext, Array.getElem?_append_left h]
@[go_sem] theorem cell_ext (w : World) (os : Array Obj) (d n i : Nat) (h : n < w.heap.size) : (ext w os d).cell? ⟨n, i, none⟩ = w.cell? ⟨n, i, none⟩ :=
  World.cell?_of_block (heap_ext w os d h)
@[go_sem] theorem frozen_ext (w : World) (os : Array Obj) (d n i : Nat) (h : n < w.heap.size) : (ext w os d).frozen? ⟨n, i, none⟩ = w.frozen? ⟨n, i, none⟩ :=
  World.frozen?_of_block (heap_ext w os d h)
@[go_sem] theorem setCell_ext (w : World) (os : Array Obj) (d n i : Nat) (v : Value) (h : n < w.heap.size) :
    (ext w os d).setCell ⟨n, i, none⟩ v = ext (w.setCell ⟨n, i, none⟩ v) os d := by
  unfold ext World.setCell
  congr 1
  apply Array.ext_getElem?
  intro k
  simp only [Array.getElem?_modify, Array.getElem?_append, Array.size_modify]
  by_cases hk : k < w.heap.size
  · simp [hk]
  · have : ¬ n = k := by omega
    simp [hk, this]
@[go_sem] theorem drew_ext (w : World) (os : Array Obj) (d : Nat) : (ext w os d).drew = ext w os (d + 1) := rfl

@[go_sem] theorem ext_drew (w : World) (os : Array Obj) (d : Nat) : ext w.drew os d = ext w os d := rfl
@[go_sem] theorem ext_drewN (w : World) (n : Nat) (os : Array Obj) (d : Nat) : ext (w.drewN n) os d = ext w os d := rfl

/-! a block that was there lies below the new ones: for the walk's simp, however many there are -/
@[go_sem] theorem ltA1 (n x1 : Nat) : (n < n + 1 + x1) = True := eq_true (by omega)
@[go_sem] theorem ltB1 (n m x1 : Nat) (h : n < m) : (n < m + x1) = True := eq_true (by omega)
@[go_sem] theorem ltA2 (n x1 x2 : Nat) : (n < n + 1 + x1 + x2) = True := eq_true (by omega)
@[go_sem] theorem ltB2 (n m x1 x2 : Nat) (h : n < m) : (n < m + x1 + x2) = True := eq_true (by omega)
@[go_sem] theorem ltA3 (n x1 x2 x3 : Nat) : (n < n + 1 + x1 + x2 + x3) = True := eq_true (by omega)
@[go_sem] theorem ltB3 (n m x1 x2 x3 : Nat) (h : n < m) : (n < m + x1 + x2 + x3) = True := eq_true (by omega)
@[go_sem] theorem ltA4 (n x1 x2 x3 x4 : Nat) : (n < n + 1 + x1 + x2 + x3 + x4) = True := eq_true (by omega)
@[go_sem] theorem ltB4 (n m x1 x2 x3 x4 : Nat) (h : n < m) : (n < m + x1 + x2 + x3 + x4) = True := eq_true (by omega)
@[go_sem] theorem ltA5 (n x1 x2 x3 x4 x5 : Nat) : (n < n + 1 + x1 + x2 + x3 + x4 + x5) = True := eq_true (by omega)
@[go_sem] theorem ltB5 (n m x1 x2 x3 x4 x5 : Nat) (h : n < m) : (n < m + x1 + x2 + x3 + x4 + x5) = True := eq_true (by omega)
@[go_sem] theorem ltA6 (n x1 x2 x3 x4 x5 x6 : Nat) : (n < n + 1 + x1 + x2 + x3 + x4 + x5 + x6) = True := eq_true (by omega)
@[go_sem] theorem ltB6 (n m x1 x2 x3 x4 x5 x6 : Nat) (h : n < m) : (n < m + x1 + x2 + x3 + x4 + x5 + x6) = True := eq_true (by omega)
@[go_sem] theorem ltA7 (n x1 x2 x3 x4 x5 x6 x7 : Nat) : (n < n + 1 + x1 + x2 + x3 + x4 + x5 + x6 + x7) = True := eq_true (by omega)
@[go_sem] theorem ltB7 (n m x1 x2 x3 x4 x5 x6 x7 : Nat) (h : n < m) : (n < m + x1 + x2 + x3 + x4 + x5 + x6 + x7) = True := eq_true (by omega)
@[go_sem] theorem ltA8 (n x1 x2 x3 x4 x5 x6 x7 x8 : Nat) : (n < n + 1 + x1 + x2 + x3 + x4 + x5 + x6 + x7 + x8) = True := eq_true (by omega)
@[go_sem] theorem ltB8 (n m x1 x2 x3 x4 x5 x6 x7 x8 : Nat) (h : n < m) : (n < m + x1 + x2 + x3 + x4 + x5 + x6 + x7 + x8) = True := eq_true (by omega)
@[go_sem] theorem ltA9 (n x1 x2 x3 x4 x5 x6 x7 x8 x9 : Nat) : (n < n + 1 + x1 + x2 + x3 + x4 + x5 + x6 + x7 + x8 + x9) = True := eq_true (by omega)
@[go_sem] theorem ltB9 (n m x1 x2 x3 x4 x5 x6 x7 x8 x9 : Nat) (h : n < m) : (n < m + x1 + x2 + x3 + x4 + x5 + x6 + x7 + x8 + x9) = True := eq_true (by omega)
@[go_sem] theorem ltA10 (n x1 x2 x3 x4 x5 x6 x7 x8 x9 x10 : Nat) : (n < n + 1 + x1 + x2 + x3 + x4 + x5 + x6 + x7 + x8 + x9 + x10) = True := eq_true (by omega)
@[go_sem] theorem ltB10 (n m x1 x2 x3 x4 x5 x6 x7 x8 x9 x10 : Nat) (h : n < m) : (n < m + x1 + x2 + x3 + x4 + x5 + x6 + x7 + x8 + x9 + x10) = True := eq_true (by omega)
@[go_sem] theorem ltA11 (n x1 x2 x3 x4 x5 x6 x7 x8 x9 x10 x11 : Nat) : (n < n + 1 + x1 + x2 + x3 + x4 + x5 + x6 + x7 + x8 + x9 + x10 + x11) = True := eq_true (by omega)
@[go_sem] theorem ltB11 (n m x1 x2 x3 x4 x5 x6 x7 x8 x9 x10 x11 : Nat) (h : n < m) : (n < m + x1 + x2 + x3 + x4 + x5 + x6 + x7 + x8 + x9 + x10 + x11) = True := eq_true (by omega)
@[go_sem] theorem ltA12 (n x1 x2 x3 x4 x5 x6 x7 x8 x9 x10 x11 x12 : Nat) : (n < n + 1 + x1 + x2 + x3 + x4 + x5 + x6 + x7 + x8 + x9 + x10 + x11 + x12) = True := eq_true (by omega)
@[go_sem] theorem ltB12 (n m x1 x2 x3 x4 x5 x6 x7 x8 x9 x10 x11 x12 : Nat) (h : n < m) : (n < m + x1 + x2 + x3 + x4 + x5 + x6 + x7 + x8 + x9 + x10 + x11 + x12) = True := eq_true (by omega)
@[go_sem] theorem ltA13 (n x1 x2 x3 x4 x5 x6 x7 x8 x9 x10 x11 x12 x13 : Nat) : (n < n + 1 + x1 + x2 + x3 + x4 + x5 + x6 + x7 + x8 + x9 + x10 + x11 + x12 + x13) = True := eq_true (by omega)
@[go_sem] theorem ltB13 (n m x1 x2 x3 x4 x5 x6 x7 x8 x9 x10 x11 x12 x13 : Nat) (h : n < m) : (n < m + x1 + x2 + x3 + x4 + x5 + x6 + x7 + x8 + x9 + x10 + x11 + x12 + x13) = True := eq_true (by omega)
@[go_sem] theorem ltA14 (n x1 x2 x3 x4 x5 x6 x7 x8 x9 x10 x11 x12 x13 x14 : Nat) : (n < n + 1 + x1 + x2 + x3 + x4 + x5 + x6 + x7 + x8 + x9 + x10 + x11 + x12 + x13 + x14) = True := eq_true (by omega)
@[go_sem] theorem ltB14 (n m x1 x2 x3 x4 x5 x6 x7 x8 x9 x10 x11 x12 x13 x14 : Nat) (h : n < m) : (n < m + x1 + x2 + x3 + x4 + x5 + x6 + x7 + x8 + x9 + x10 + x11 + x12 + x13 + x14) = True := eq_true (by omega)
@[go_sem] theorem ltA15 (n x1 x2 x3 x4 x5 x6 x7 x8 x9 x10 x11 x12 x13 x14 x15 : Nat) : (n < n + 1 + x1 + x2 + x3 + x4 + x5 + x6 + x7 + x8 + x9 + x10 + x11 + x12 + x13 + x14 + x15) = True := eq_true (by omega)
@[go_sem] theorem ltB15 (n m x1 x2 x3 x4 x5 x6 x7 x8 x9 x10 x11 x12 x13 x14 x15 : Nat) (h : n < m) : (n < m + x1 + x2 + x3 + x4 + x5 + x6 + x7 + x8 + x9 + x10 + x11 + x12 + x13 + x14 + x15) = True := eq_true (by omega)
@[go_sem] theorem ltA16 (n x1 x2 x3 x4 x5 x6 x7 x8 x9 x10 x11 x12 x13 x14 x15 x16 : Nat) : (n < n + 1 + x1 + x2 + x3 + x4 + x5 + x6 + x7 + x8 + x9 + x10 + x11 + x12 + x13 + x14 + x15 + x16) = True := eq_true (by omega)
@[go_sem] theorem ltB16 (n m x1 x2 x3 x4 x5 x6 x7 x8 x9 x10 x11 x12 x13 x14 x15 x16 : Nat) (h : n < m) : (n < m + x1 + x2 + x3 + x4 + x5 + x6 + x7 + x8 + x9 + x10 + x11 + x12 + x13 + x14 + x15 + x16) = True := eq_true (by omega)
@[go_sem] theorem ltA17 (n x1 x2 x3 x4 x5 x6 x7 x8 x9 x10 x11 x12 x13 x14 x15 x16 x17 : Nat) : (n < n + 1 + x1 + x2 + x3 + x4 + x5 + x6 + x7 + x8 + x9 + x10 + x11 + x12 + x13 + x14 + x15 + x16 + x17) = True := eq_true (by omega)
@[go_sem] theorem ltB17 (n m x1 x2 x3 x4 x5 x6 x7 x8 x9 x10 x11 x12 x13 x14 x15 x16 x17 : Nat) (h : n < m) : (n < m + x1 + x2 + x3 + x4 + x5 + x6 + x7 + x8 + x9 + x10 + x11 + x12 + x13 + x14 + x15 + x16 + x17) = True := eq_true (by omega)
@[go_sem] theorem ltA18 (n x1 x2 x3 x4 x5 x6 x7 x8 x9 x10 x11 x12 x13 x14 x15 x16 x17 x18 : Nat) : (n < n + 1 + x1 + x2 + x3 + x4 + x5 + x6 + x7 + x8 + x9 + x10 + x11 + x12 + x13 + x14 + x15 + x16 + x17 + x18) = True := eq_true (by omega)
@[go_sem] theorem ltB18 (n m x1 x2 x3 x4 x5 x6 x7 x8 x9 x10 x11 x12 x13 x14 x15 x16 x17 x18 : Nat) (h : n < m) : (n < m + x1 + x2 + x3 + x4 + x5 + x6 + x7 + x8 + x9 + x10 + x11 + x12 + x13 + x14 + x15 + x16 + x17 + x18) = True := eq_true (by omega)
@[go_sem] theorem ltA19 (n x1 x2 x3 x4 x5 x6 x7 x8 x9 x10 x11 x12 x13 x14 x15 x16 x17 x18 x19 : Nat) : (n < n + 1 + x1 + x2 + x3 + x4 + x5 + x6 + x7 + x8 + x9 + x10 + x11 + x12 + x13 + x14 + x15 + x16 + x17 + x18 + x19) = True := eq_true (by omega)
@[go_sem] theorem ltB19 (n m x1 x2 x3 x4 x5 x6 x7 x8 x9 x10 x11 x12 x13 x14 x15 x16 x17 x18 x19 : Nat) (h : n < m) : (n < m + x1 + x2 + x3 + x4 + x5 + x6 + x7 + x8 + x9 + x10 + x11 + x12 + x13 + x14 + x15 + x16 + x17 + x18 + x19) = True := eq_true (by omega)
@[go_sem] theorem ltA20 (n x1 x2 x3 x4 x5 x6 x7 x8 x9 x10 x11 x12 x13 x14 x15 x16 x17 x18 x19 x20 : Nat) : (n < n + 1 + x1 + x2 + x3 + x4 + x5 + x6 + x7 + x8 + x9 + x10 + x11 + x12 + x13 + x14 + x15 + x16 + x17 + x18 + x19 + x20) = True := eq_true (by omega)
@[go_sem] theorem ltB20 (n m x1 x2 x3 x4 x5 x6 x7 x8 x9 x10 x11 x12 x13 x14 x15 x16 x17 x18 x19 x20 : Nat) (h : n < m) : (n < m + x1 + x2 + x3 + x4 + x5 + x6 + x7 + x8 + x9 + x10 + x11 + x12 + x13 + x14 + x15 + x16 + x17 + x18 + x19 + x20) = True := eq_true (by omega)
@[go_sem] theorem ltA21 (n x1 x2 x3 x4 x5 x6 x7 x8 x9 x10 x11 x12 x13 x14 x15 x16 x17 x18 x19 x20 x21 : Nat) : (n < n + 1 + x1 + x2 + x3 + x4 + x5 + x6 + x7 + x8 + x9 + x10 + x11 + x12 + x13 + x14 + x15 + x16 + x17 + x18 + x19 + x20 + x21) = True := eq_true (by omega)
@[go_sem] theorem ltB21 (n m x1 x2 x3 x4 x5 x6 x7 x8 x9 x10 x11 x12 x13 x14 x15 x16 x17 x18 x19 x20 x21 : Nat) (h : n < m) : (n < m + x1 + x2 + x3 + x4 + x5 + x6 + x7 + x8 + x9 + x10 + x11 + x12 + x13 + x14 + x15 + x16 + x17 + x18 + x19 + x20 + x21) = True := eq_true (by omega)
@[go_sem] theorem ltA22 (n x1 x2 x3 x4 x5 x6 x7 x8 x9 x10 x11 x12 x13 x14 x15 x16 x17 x18 x19 x20 x21 x22 : Nat) : (n < n + 1 + x1 + x2 + x3 + x4 + x5 + x6 + x7 + x8 + x9 + x10 + x11 + x12 + x13 + x14 + x15 + x16 + x17 + x18 + x19 + x20 + x21 + x22) = True := eq_true (by omega)
@[go_sem] theorem ltB22 (n m x1 x2 x3 x4 x5 x6 x7 x8 x9 x10 x11 x12 x13 x14 x15 x16 x17 x18 x19 x20 x21 x22 : Nat) (h : n < m) : (n < m + x1 + x2 + x3 + x4 + x5 + x6 + x7 + x8 + x9 + x10 + x11 + x12 + x13 + x14 + x15 + x16 + x17 + x18 + x19 + x20 + x21 + x22) = True := eq_true (by omega)
@[go_sem] theorem ltA23 (n x1 x2 x3 x4 x5 x6 x7 x8 x9 x10 x11 x12 x13 x14 x15 x16 x17 x18 x19 x20 x21 x22 x23 : Nat) : (n < n + 1 + x1 + x2 + x3 + x4 + x5 + x6 + x7 + x8 + x9 + x10 + x11 + x12 + x13 + x14 + x15 + x16 + x17 + x18 + x19 + x20 + x21 + x22 + x23) = True := eq_true (by omega)
@[go_sem] theorem ltB23 (n m x1 x2 x3 x4 x5 x6 x7 x8 x9 x10 x11 x12 x13 x14 x15 x16 x17 x18 x19 x20 x21 x22 x23 : Nat) (h : n < m) : (n < m + x1 + x2 + x3 + x4 + x5 + x6 + x7 + x8 + x9 + x10 + x11 + x12 + x13 + x14 + x15 + x16 + x17 + x18 + x19 + x20 + x21 + x22 + x23) = True := eq_true (by omega)
@[go_sem] theorem ltA24 (n x1 x2 x3 x4 x5 x6 x7 x8 x9 x10 x11 x12 x13 x14 x15 x16 x17 x18 x19 x20 x21 x22 x23 x24 : Nat) : (n < n + 1 + x1 + x2 + x3 + x4 + x5 + x6 + x7 + x8 + x9 + x10 + x11 + x12 + x13 + x14 + x15 + x16 + x17 + x18 + x19 + x20 + x21 + x22 + x23 + x24) = True := eq_true (by omega)
@[go_sem] theorem ltB24 (n m x1 x2 x3 x4 x5 x6 x7 x8 x9 x10 x11 x12 x13 x14 x15 x16 x17 x18 x19 x20 x21 x22 x23 x24 : Nat) (h : n < m) : (n < m + x1 + x2 + x3 + x4 + x5 + x6 + x7 + x8 + x9 + x10 + x11 + x12 + x13 + x14 + x15 + x16 + x17 + x18 + x19 + x20 + x21 + x22 + x23 + x24) = True := eq_true (by omega)
@[go_sem] theorem ltA25 (n x1 x2 x3 x4 x5 x6 x7 x8 x9 x10 x11 x12 x13 x14 x15 x16 x17 x18 x19 x20 x21 x22 x23 x24 x25 : Nat) : (n < n + 1 + x1 + x2 + x3 + x4 + x5 + x6 + x7 + x8 + x9 + x10 + x11 + x12 + x13 + x14 + x15 + x16 + x17 + x18 + x19 + x20 + x21 + x22 + x23 + x24 + x25) = True := eq_true (by omega)
@[go_sem] theorem ltB25 (n m x1 x2 x3 x4 x5 x6 x7 x8 x9 x10 x11 x12 x13 x14 x15 x16 x17 x18 x19 x20 x21 x22 x23 x24 x25 : Nat) (h : n < m) : (n < m + x1 + x2 + x3 + x4 + x5 + x6 + x7 + x8 + x9 + x10 + x11 + x12 + x13 + x14 + x15 + x16 + x17 + x18 + x19 + x20 + x21 + x22 + x23 + x24 + x25) = True := eq_true (by omega)
@[go_sem] theorem ltA26 (n x1 x2 x3 x4 x5 x6 x7 x8 x9 x10 x11 x12 x13 x14 x15 x16 x17 x18 x19 x20 x21 x22 x23 x24 x25 x26 : Nat) : (n < n + 1 + x1 + x2 + x3 + x4 + x5 + x6 + x7 + x8 + x9 + x10 + x11 + x12 + x13 + x14 + x15 + x16 + x17 + x18 + x19 + x20 + x21 + x22 + x23 + x24 + x25 + x26) = True := eq_true (by omega)
@[go_sem] theorem ltB26 (n m x1 x2 x3 x4 x5 x6 x7 x8 x9 x10 x11 x12 x13 x14 x15 x16 x17 x18 x19 x20 x21 x22 x23 x24 x25 x26 : Nat) (h : n < m) : (n < m + x1 + x2 + x3 + x4 + x5 + x6 + x7 + x8 + x9 + x10 + x11 + x12 + x13 + x14 + x15 + x16 + x17 + x18 + x19 + x20 + x21 + x22 + x23 + x24 + x25 + x26) = True := eq_true (by omega)
@[go_sem] theorem ltA27 (n x1 x2 x3 x4 x5 x6 x7 x8 x9 x10 x11 x12 x13 x14 x15 x16 x17 x18 x19 x20 x21 x22 x23 x24 x25 x26 x27 : Nat) : (n < n + 1 + x1 + x2 + x3 + x4 + x5 + x6 + x7 + x8 + x9 + x10 + x11 + x12 + x13 + x14 + x15 + x16 + x17 + x18 + x19 + x20 + x21 + x22 + x23 + x24 + x25 + x26 + x27) = True := eq_true (by omega)
@[go_sem] theorem ltB27 (n m x1 x2 x3 x4 x5 x6 x7 x8 x9 x10 x11 x12 x13 x14 x15 x16 x17 x18 x19 x20 x21 x22 x23 x24 x25 x26 x27 : Nat) (h : n < m) : (n < m + x1 + x2 + x3 + x4 + x5 + x6 + x7 + x8 + x9 + x10 + x11 + x12 + x13 + x14 + x15 + x16 + x17 + x18 + x19 + x20 + x21 + x22 + x23 + x24 + x25 + x26 + x27) = True := eq_true (by omega)
@[go_sem] theorem ltA28 (n x1 x2 x3 x4 x5 x6 x7 x8 x9 x10 x11 x12 x13 x14 x15 x16 x17 x18 x19 x20 x21 x22 x23 x24 x25 x26 x27 x28 : Nat) : (n < n + 1 + x1 + x2 + x3 + x4 + x5 + x6 + x7 + x8 + x9 + x10 + x11 + x12 + x13 + x14 + x15 + x16 + x17 + x18 + x19 + x20 + x21 + x22 + x23 + x24 + x25 + x26 + x27 + x28) = True := eq_true (by omega)
@[go_sem] theorem ltB28 (n m x1 x2 x3 x4 x5 x6 x7 x8 x9 x10 x11 x12 x13 x14 x15 x16 x17 x18 x19 x20 x21 x22 x23 x24 x25 x26 x27 x28 : Nat) (h : n < m) : (n < m + x1 + x2 + x3 + x4 + x5 + x6 + x7 + x8 + x9 + x10 + x11 + x12 + x13 + x14 + x15 + x16 + x17 + x18 + x19 + x20 + x21 + x22 + x23 + x24 + x25 + x26 + x27 + x28) = True := eq_true (by omega)
@[go_sem] theorem ltA29 (n x1 x2 x3 x4 x5 x6 x7 x8 x9 x10 x11 x12 x13 x14 x15 x16 x17 x18 x19 x20 x21 x22 x23 x24 x25 x26 x27 x28 x29 : Nat) : (n < n + 1 + x1 + x2 + x3 + x4 + x5 + x6 + x7 + x8 + x9 + x10 + x11 + x12 + x13 + x14 + x15 + x16 + x17 + x18 + x19 + x20 + x21 + x22 + x23 + x24 + x25 + x26 + x27 + x28 + x29) = True := eq_true (by omega)
@[go_sem] theorem ltB29 (n m x1 x2 x3 x4 x5 x6 x7 x8 x9 x10 x11 x12 x13 x14 x15 x16 x17 x18 x19 x20 x21 x22 x23 x24 x25 x26 x27 x28 x29 : Nat) (h : n < m) : (n < m + x1 + x2 + x3 + x4 + x5 + x6 + x7 + x8 + x9 + x10 + x11 + x12 + x13 + x14 + x15 + x16 + x17 + x18 + x19 + x20 + x21 + x22 + x23 + x24 + x25 + x26 + x27 + x28 + x29) = True := eq_true (by omega)
@[go_sem] theorem ltA30 (n x1 x2 x3 x4 x5 x6 x7 x8 x9 x10 x11 x12 x13 x14 x15 x16 x17 x18 x19 x20 x21 x22 x23 x24 x25 x26 x27 x28 x29 x30 : Nat) : (n < n + 1 + x1 + x2 + x3 + x4 + x5 + x6 + x7 + x8 + x9 + x10 + x11 + x12 + x13 + x14 + x15 + x16 + x17 + x18 + x19 + x20 + x21 + x22 + x23 + x24 + x25 + x26 + x27 + x28 + x29 + x30) = True := eq_true (by omega)
@[go_sem] theorem ltB30 (n m x1 x2 x3 x4 x5 x6 x7 x8 x9 x10 x11 x12 x13 x14 x15 x16 x17 x18 x19 x20 x21 x22 x23 x24 x25 x26 x27 x28 x29 x30 : Nat) (h : n < m) : (n < m + x1 + x2 + x3 + x4 + x5 + x6 + x7 + x8 + x9 + x10 + x11 + x12 + x13 + x14 + x15 + x16 + x17 + x18 + x19 + x20 + x21 + x22 + x23 + x24 + x25 + x26 + x27 + x28 + x29 + x30) = True := eq_true (by omega)

theorem bcell {W w1 : World} (hb : Below W.heap.size W w1) : (∀ b o, b < W.heap.size → w1.cell? ⟨b, o, none⟩ = W.cell? ⟨b, o, none⟩) ∧ (∀ b o, b < W.heap.size → w1.frozen? ⟨b, o, none⟩ = W.frozen? ⟨b, o, none⟩) :=
  ⟨fun b o h => hb.cell (p := ⟨b, o, none⟩) h, fun b o h => hb.frozen (p := ⟨b, o, none⟩) h⟩
end Go.Proofs.YthccknobnpbdeaaDoor
/- How data lie in memory: a reading of cells for numbers, texts, structs and slices; kept while old memory is kept; what the form's own reading of an argument gives of it. -/
namespace Go.Proofs.YthccknobnpbdeaaDoor
open Go.RowKit Go.ChangeShapes Go.WideShapes

structure Rep (α : Type) where
  k : Nat
  bs : Nat
  rel : World → Nat → α → List Value → Prop
  sz : α → Nat
  len : ∀ {w : World} {B : Nat} {a : α} {vs : List Value}, rel w B a vs → vs.length = k
  keep : ∀ {w w' : World} {B B' : Nat} {a : α} {vs : List Value}, rel w B a vs → B ≤ B' → (∀ p : Addr, p.block < B → w'.cell? p = w.cell? p) → rel w' B' a vs

/-- what a walk is told of an int -/
def I64 (n : Int) : Prop := -9223372036854775808 ≤ n ∧ n ≤ 9223372036854775807
def intR : Rep Int where
  k := 1
  bs := 8
  rel _ _ n vs := vs = [.int .i64 n] ∧ I64 n
  sz _ := 1
  len h := by rw [h.1]; rfl
  keep h _ _ := h
def u8R : Rep UInt8 where
  k := 1
  bs := 1
  rel _ _ n vs := vs = [.int .u8 (n.toNat : Int)]
  sz _ := 1
  len h := by rw [h]; rfl
  keep h _ _ := h
def boolR : Rep Bool where
  k := 1
  bs := 1
  rel _ _ b vs := vs = [.bool b]
  sz _ := 1
  len h := by rw [h]; rfl
  keep h _ _ := h
def strR : Rep ByteArray where
  k := 1
  bs := 16
  rel _ _ s vs := vs = [.string s] ∧ s.size ≤ 140737488355328
  sz s := s.size + 1
  len h := by rw [h.1]; rfl
  keep h _ _ := h
def unitR : Rep Unit where
  k := 0
  bs := 0
  rel _ _ _ vs := vs = []
  sz _ := 0
  len h := by rw [h]; rfl
  keep h _ _ := h
def pairR {α β : Type} (R : Rep α) (S : Rep β) : Rep (α × β) where
  k := R.k + S.k
  bs := R.bs + S.bs
  rel w B x vs := ∃ u v, vs = u ++ v ∧ R.rel w B x.1 u ∧ S.rel w B x.2 v
  sz x := R.sz x.1 + S.sz x.2
  len h := by obtain ⟨u, v, rfl, h1, h2⟩ := h; rw [List.length_append, R.len h1, S.len h2]
  keep h hB hk := by obtain ⟨u, v, rfl, h1, h2⟩ := h; exact ⟨u, v, rfl, R.keep h1 hB hk, S.keep h2 hB hk⟩

/-- the slice value '.slice A n c' holds the elements l, below block B -/
structure Rd {α : Type} (R : Rep α) (w : World) (B : Nat) (A : Option Addr) (n c : Nat) (l : List α) : Prop where
  len : l.length = n
  cap : n ≤ c
  max : c ≤ maxLen
  lim : n * R.bs ≤ 140737488355328
  nil : A = none → c = 0
  at_ : ∀ i (h : i < l.length), ∃ b off vs, A = some ⟨b, off, none⟩ ∧ b < B ∧ R.rel w B l[i] vs ∧ ∀ j u, vs[j]? = some u → w.cell? ⟨b, off + i * R.k + j, none⟩ = some u

section
variable {α : Type} {R : Rep α} {w w' : World} {B B' n c : Nat} {A : Option Addr} {l : List α}
theorem Rd.keep (h : Rd R w B A n c l) (hB : B ≤ B') (hk : ∀ p : Addr, p.block < B → w'.cell? p = w.cell? p) : Rd R w' B' A n c l :=
  ⟨h.len, h.cap, h.max, h.lim, h.nil, fun i hi => by
    obtain ⟨b, off, vs, e, hb, hr, hc⟩ := h.at_ i hi
    exact ⟨b, off, vs, e, by omega, R.keep hr hB hk, fun j u hu => (hk _ hb).trans (hc j u hu)⟩⟩
theorem Rd.below (h : Rd R w B A n c l) (hb : Below B w w') : Rd R w' B A n c l := h.keep (Nat.le_refl _) fun _ hp => hb.cell hp
/-- all of old memory is kept -/
theorem Rd.later (h : Rd R w w.heap.size A n c l) (hb : Below w.heap.size w w') : Rd R w' w'.heap.size A n c l := h.keep hb.size fun _ hp => hb.cell hp
end

def sliceR {α : Type} (R : Rep α) : Rep (List α) where
  k := 1
  bs := 24
  rel w B l vs := ∃ A n c, vs = [.slice A n c] ∧ Rd R w B A n c l
  sz l := (l.map R.sz).sum + 1
  len h := by obtain ⟨A, n, c, rfl, _⟩ := h; rfl
  keep h hB hk := by obtain ⟨A, n, c, rfl, h⟩ := h; exact ⟨A, n, c, rfl, h.keep hB hk⟩

theorem Rep.later {α : Type} (R : Rep α) {w w' : World} {a : α} {vs : List Value} (h : R.rel w w.heap.size a vs) (hb : Below w.heap.size w w') : R.rel w' w'.heap.size a vs :=
  R.keep h hb.size fun _ hp => hb.cell hp

/-! ### what the form's reading of an argument gives -/
theorem cell_lt {w : World} {b off : Nat} {s : Option Nat} {u : Value} (h : w.cell? ⟨b, off, s⟩ = some u) : b < w.heap.size := by
  rcases Nat.lt_or_ge b w.heap.size with hlt | hge
  · exact hlt
  · simp [World.cell?, Array.getElem?_eq_none hge] at h

def Opens (P : Program) (t : TypeId) {α : Type} (R : Rep α) : Prop :=
  ∀ (H : Type) (enc : TypeId × Value → H) (w : World) (sp : Nat → Bool) (held : Bool) (fuel : Nat) (cs : List Value) (x : DataW H × List MemPlace),
    DataW.trod enc P w 0 sp held fuel t cs = some x → (∀ k ∈ x.1.weights P t, k ≤ reachBytes) → ∃ a, R.rel w w.heap.size a cs ∧ R.sz a ≤ Rows.uptoBulk x.1

section
variable {P : Program} {t e : TypeId}
theorem opens_int (ht : P.underlying t = some (.int .i64)) : Opens P t intR := by
  intro H enc w sp held fuel cs x h _
  obtain ⟨n, rfl, rfl, hw⟩ := DataW.trod_int ht h
  refine ⟨n, ⟨rfl, ?_⟩, Nat.le_refl _⟩
  simpa [Lit.wf, IntKind.min, IntKind.max, IntKind.bits, IntKind.signed, I64] using hw
theorem opens_u8 (ht : P.underlying t = some (.int .u8)) : Opens P t u8R := by
  intro H enc w sp held fuel cs x h _
  obtain ⟨n, rfl, rfl, hw⟩ := DataW.trod_int ht h
  have hn : 0 ≤ n ∧ n ≤ 255 := by simpa [Lit.wf, IntKind.min, IntKind.max, IntKind.bits, IntKind.signed] using hw
  refine ⟨UInt8.ofNat n.toNat, ?_, Nat.le_refl _⟩
  show [Value.int .u8 n] = _
  simp only [UInt8.toNat_ofNat']
  congr 2
  omega
theorem opens_bool (ht : P.underlying t = some .bool) : Opens P t boolR := by
  intro H enc w sp held fuel cs x h _
  obtain ⟨n, rfl, rfl⟩ := DataW.trod_bool ht h
  exact ⟨n, rfl, Nat.le_refl _⟩
theorem opens_str (ht : P.underlying t = some .string) : Opens P t strR := by
  intro H enc w sp held fuel cs x h hw
  obtain ⟨s, rfl, rfl, hs⟩ := DataW.trod_string ht h
  have hb := hw s.size (by simp [DataW.weights])
  refine ⟨s, ⟨rfl, by unfold reachBytes at hb; omega⟩, ?_⟩
  show s.size + 1 ≤ Rows.uptoBulk (.lit (.string s.data.toList))
  simp [Rows.uptoBulk]

theorem bulkAll_sum {H : Type} (l : List (DataW H)) : Rows.uptoBulkAll l = (l.map Rows.uptoBulk).sum := by
  induction l with
  | nil => simp [Rows.uptoBulkAll]
  | cons a l ih => simp [Rows.uptoBulkAll, ih]

theorem sum_le {α : Type} {l : List α} {m : List Nat} (f : α → Nat) (hl : l.length = m.length) (h : ∀ i (hi : i < l.length) (hj : i < m.length), f l[i] ≤ m[i]) : (l.map f).sum ≤ m.sum := by
  induction l generalizing m with
  | nil => simp
  | cons a l ih =>
    cases m with
    | nil => simp at hl
    | cons b m =>
      simp only [List.map_cons, List.sum_cons]
      have h0 := h 0 (by simp) (by simp)
      have := ih (m := m) (by simpa using hl) fun i hi hj => h (i + 1) (by simp; omega) (by simp; omega)
      simp at h0
      omega

theorem add_none (b off m : Nat) : (⟨b, off, none⟩ : Addr).add m = ⟨b, off + m, none⟩ := by
  unfold Addr.add
  by_cases h : m = 0
  · simp [h]
  · simp [h]

theorem list_of {α : Type} {n : Nat} {p : Nat → α → Prop} (h : ∀ i, i < n → ∃ x, p i x) : ∃ l : List α, l.length = n ∧ ∀ i (hi : i < l.length), p i l[i] := by
  induction n with
  | zero => exact ⟨[], rfl, fun i hi => absurd hi (by simp)⟩
  | succ n ih =>
    obtain ⟨l, hl, hp⟩ := ih fun i hi => h i (by omega)
    obtain ⟨x, hx⟩ := h n (by omega)
    refine ⟨l ++ [x], by simp [hl], fun i hi => ?_⟩
    by_cases c : i < l.length
    · rw [List.getElem_append_left c]; exact hp i c
    · have : i = n := by simp at hi; omega
      subst this
      simp only [← hl, List.getElem_append_right (Nat.le_refl _)]
      simpa [hl] using hx

theorem mem_weightsAll {H : Type} {P : Program} {e : TypeId} {d : DataW H} {l : List (DataW H)} (hd : d ∈ l) {n : Nat} (hn : n ∈ d.weights P e) : n ∈ DataW.weightsAll P e l := by
  induction l with
  | nil => simp at hd
  | cons a l ih =>
    rw [DataW.weightsAll, List.mem_append]
    rcases List.mem_cons.1 hd with rfl | h
    · exact .inl hn
    · exact .inr (ih h)

theorem opens_slice {α : Type} {R : Rep α} (ht : P.underlying t = some (.slice e)) (he : Opens P e R) (hC : P.cellsOf e = R.k) (hpos : 0 < R.k) (hbs : R.bs ≤ P.bytesOf e) : Opens P t (sliceR R) := by
  intro H enc w sp held fuel cs x h hw
  rcases DataW.trod_slice ht h with ⟨rfl, rfl⟩ | ⟨a, len, cap, elems, rest, n, _, rfl, rfl, _, hl, hm, hlen, hel, _, _⟩
  · refine ⟨[], ⟨none, 0, 0, rfl, ⟨rfl, Nat.le_refl _, by simp [maxLen], by simp, fun _ => rfl, fun i hi => absurd hi (by simp)⟩⟩, by simp [sliceR, Rows.uptoBulk]⟩
  · rw [hC] at hel
    simp only [DataW.weights, ht] at hw
    have hlim : len * R.bs ≤ 140737488355328 := by
      have h1 := hw _ (List.mem_cons_self ..)
      rw [List.length_map, List.length_map, hlen] at h1
      have h2 : len * R.bs ≤ (len + rest.length) * P.bytesOf e := Nat.mul_le_mul (Nat.le_add_right _ _) hbs
      unfold reachBytes at h1
      omega
    have step : ∀ i, i < len → ∃ (y : α) (cs' : List Value), R.rel w w.heap.size y cs' ∧ (∀ j, j < R.k → w.cell? ((a.add (i * R.k)).add j) = cs'[j]?) ∧ cs'.length = R.k ∧ ∃ z, elems[i]? = some z ∧ R.sz y ≤ Rows.uptoBulk z.1 := by
      intro i hi
      have h1 := hel i hi
      have hz : elems[i]? = some (elems[i]'(by omega)) := List.getElem?_eq_getElem (by omega)
      rw [hz, Option.bind_eq_some_iff] at h1
      obtain ⟨cs', hc, h2⟩ := h1
      obtain ⟨y, hy, hs⟩ := he H enc w sp held n cs' _ h2 fun k hk => hw k (List.mem_cons_of_mem _ (List.mem_append_left _ (mem_weightsAll (List.mem_map_of_mem (List.getElem_mem (by omega))) hk)))
      obtain ⟨_, hcl, hcell⟩ := World.cells?_some hc
      exact ⟨y, cs', hy, hcell, hcl, _, hz, hs⟩
    by_cases h0 : len = 0
    · subst h0
      refine ⟨[], ⟨some a, 0, cap, rfl, ⟨rfl, hl, hm, by simp, fun h => (by cases h), fun i hi => absurd hi (by simp)⟩⟩, by simp [sliceR, Rows.uptoBulk]⟩
    · have hspot : a.spot = none := by
        obtain ⟨_, cs', _, hc, hcl, _⟩ := step 0 (by omega)
        have h2 := hc 0 hpos
        rw [List.getElem?_eq_getElem (by omega)] at h2
        simpa [Addr.add] using World.cell?_spot h2
      obtain ⟨b, off, spot⟩ := a
      simp only at hspot
      subst hspot
      obtain ⟨l, hll, hp⟩ := list_of step
      refine ⟨l, ⟨some ⟨b, off, none⟩, len, cap, rfl, ⟨hll, hl, hm, hlim, fun h => (by cases h), fun i hi => ?_⟩⟩, ?_⟩
      · obtain ⟨cs', hy, hc, hcl, _⟩ := hp i hi
        simp only [add_none] at hc
        have h2 := hc 0 hpos
        rw [List.getElem?_eq_getElem (by omega)] at h2
        refine ⟨b, off, cs', rfl, cell_lt h2, hy, fun j u hu => ?_⟩
        have hj : j < cs'.length := by
          rcases Nat.lt_or_ge j cs'.length with h | h
          · exact h
          · rw [List.getElem?_eq_none h] at hu; cases hu
        rw [hc j (by omega), hu]
      · show (l.map R.sz).sum + 1 ≤ Rows.uptoBulk (.slice _ _)
        simp only [Rows.uptoBulk, bulkAll_sum, List.map_map]
        have := sum_le (l := l) (m := elems.map fun z => Rows.uptoBulk z.1) R.sz (by simp [hll, hlen]) fun i hi hj => by
          obtain ⟨_, _, _, _, z, hz, hs⟩ := hp i hi
          have hi' : i < elems.length := by omega
          rw [List.getElem?_eq_getElem hi'] at hz
          injection hz with hz
          simp only [List.getElem_map, hz]
          exact hs
        simp only [Function.comp_def] at *
        omega

/-! structs: the fields one behind the other -/
def Fields (P : Program) (o : Nat) (fs : List Field) {γ : Type} (R : Rep γ) : Prop :=
  ∀ (H : Type) (enc : TypeId × Value → H) (w : World) (sp : Nat → Bool) (held : Bool) (n : Nat) (cs : List Value) (xs : List (DataW H × List MemPlace)), cs.length = o + R.k → xs.length = fs.length →
    (∀ (i : Nat) (f : Field), fs[i]? = some f → DataW.trod enc P w 0 sp held n f.type ((cs.drop f.offset).take (P.cellsOf f.type)) = xs[i]?) → (∀ k ∈ DataW.weightsEach P (fs.map (·.type)) (xs.map (·.1)), k ≤ reachBytes) → ∃ c, R.rel w w.heap.size c (cs.drop o) ∧ R.sz c ≤ Rows.uptoBulkAll (xs.map (·.1))

theorem fields_nil (o : Nat) : Fields P o [] unitR := by
  intro H enc w sp held n cs xs hl _ _ _
  refine ⟨(), ?_, Nat.zero_le _⟩
  show cs.drop o = []
  apply List.drop_eq_nil_of_le
  have : unitR.k = 0 := rfl
  omega

theorem fields_cons {α β : Type} {R : Rep α} {S : Rep β} {o : Nat} {f : Field} {fs : List Field} (ho : f.offset = o) (hC : P.cellsOf f.type = R.k) (hf : Opens P f.type R) (hs : Fields P (o + R.k) fs S) : Fields P o (f :: fs) (pairR R S) := by
  intro H enc w sp held n cs xs hl hxl hat hw
  have hk : (pairR R S).k = R.k + S.k := rfl
  cases xs with
  | nil => simp at hxl
  | cons x xs =>
    have h0 := hat 0 f rfl
    rw [ho, hC] at h0
    simp only [List.map_cons, DataW.weightsEach, List.mem_append] at hw
    obtain ⟨a, ha, has⟩ := hf H enc w sp held n _ x h0 fun k hk => hw k (.inl hk)
    obtain ⟨c, hc, hcs⟩ := hs H enc w sp held n cs xs (by omega) (by simpa using hxl) (fun i f' hi => by simpa using hat (i + 1) f' (by simpa using hi)) fun k hk => hw k (.inr hk)
    refine ⟨(a, c), ⟨_, _, ?_, ha, hc⟩, ?_⟩
    · rw [← List.drop_drop, List.take_append_drop]
    · show R.sz a + S.sz c ≤ _
      simp only [List.map_cons, Rows.uptoBulkAll]
      omega

theorem opens_struct {γ : Type} {R : Rep γ} {fs : Array Field} {fl : List Field} (ht : P.underlying t = some (.struct fs)) (hfl : fs.toList = fl) (hC : P.cellsOf t = R.k) (hf : Fields P 0 fl R) : Opens P t R := by
  subst hfl
  intro H enc w sp held fuel cs x h hw
  obtain ⟨xs, n, _, rfl, hl, hxl, hat⟩ := DataW.trod_struct ht h
  simp only [DataW.weights, ht] at hw
  obtain ⟨c, hc, hs⟩ := hf H enc w sp held n cs xs (by omega) (by simpa using hxl) (fun i f hi => hat i f (by simpa using hi)) hw
  refine ⟨c, by simpa using hc, ?_⟩
  simp only [Rows.uptoBulk]
  omega

/-- a value of whatever type, by its cells -/
theorem Opens.arg {α : Type} {R : Rep α} (h : Opens P t R) {H : Type} {enc : TypeId × Value → H} {w : World} {v : Value} {d : DataW H} {p : List MemPlace} (hd : DataW.Trod enc P w 0 (fun _ => true) true t v d p) (hw : ∀ k ∈ d.weights P t, k ≤ reachBytes) :
    ∃ a, R.rel w w.heap.size a v.cells.toList ∧ R.sz a ≤ Rows.uptoBulk d := by
  obtain ⟨fuel, hf⟩ := hd
  exact h H enc w _ _ fuel _ _ hf hw

section
variable {H : Type} {enc : TypeId × Value → H} {w : World} {v : Value} {d : DataW H} {p : List MemPlace} {r : Reach} {b0 : Nat}
theorem arg_int (ht : P.underlying t = some (.int .i64)) (hv : Value.okWide P w r b0 t v) (hd : DataW.Trod enc P w 0 (fun _ => true) true t v d p) (hw : ∀ k ∈ d.weights P t, k ≤ reachBytes) : ∃ n, v = .int .i64 n ∧ I64 n ∧ 1 ≤ Rows.uptoBulk d := by
  obtain ⟨n, rfl, _⟩ := open_int ht hv hd
  obtain ⟨m, ⟨h1, h2⟩, h3⟩ := Opens.arg (opens_int ht) hd hw
  simp only [Value.cells, List.cons.injEq, Value.int.injEq, true_and, and_true] at h1
  subst h1
  exact ⟨_, rfl, h2, h3⟩
theorem arg_bool (ht : P.underlying t = some .bool) (hv : Value.okWide P w r b0 t v) (hd : DataW.Trod enc P w 0 (fun _ => true) true t v d p) (hw : ∀ k ∈ d.weights P t, k ≤ reachBytes) : ∃ n, v = .bool n ∧ 1 ≤ Rows.uptoBulk d := by
  obtain ⟨n, rfl, _⟩ := open_bool ht hv hd
  obtain ⟨m, h1, h3⟩ := Opens.arg (opens_bool ht) hd hw
  exact ⟨_, rfl, h3⟩
theorem arg_str (ht : P.underlying t = some .string) (hv : Value.okWide P w r b0 t v) (hd : DataW.Trod enc P w 0 (fun _ => true) true t v d p) (hw : ∀ k ∈ d.weights P t, k ≤ reachBytes) : ∃ s, v = .string s ∧ s.size ≤ 140737488355328 ∧ s.size + 1 ≤ Rows.uptoBulk d := by
  obtain ⟨s, rfl, _, _, hs⟩ := ChangeMaps.open_string ht hv hd
  obtain ⟨m, ⟨h1, h2⟩, h3⟩ := Opens.arg (opens_str ht) hd hw
  simp only [Value.cells, List.cons.injEq, Value.string.injEq, and_true] at h1
  subst h1
  exact ⟨_, rfl, h2, h3⟩
theorem arg_slice {α : Type} {R : Rep α} (ht : P.underlying t = some (.slice e)) (ho : Opens P t (sliceR R)) (hv : Value.okWide P w r b0 t v) (hd : DataW.Trod enc P w 0 (fun _ => true) true t v d p) (hw : ∀ k ∈ d.weights P t, k ≤ reachBytes) :
    ∃ A n c l, v = .slice A n c ∧ Rd R w w.heap.size A n c l ∧ (sliceR R).sz l ≤ Rows.uptoBulk d := by
  obtain ⟨A, n, c, rfl⟩ := okWide_slice ht hv
  obtain ⟨l, ⟨A', n', c', h1, h2⟩, h3⟩ := Opens.arg ho hd hw
  simp only [Value.cells, List.cons.injEq, Value.slice.injEq, and_true] at h1
  obtain ⟨rfl, rfl, rfl⟩ := h1
  exact ⟨_, _, _, l, rfl, h2, h3⟩
/-- how many bytes a slice that came in takes -/
theorem arg_lim {A : Option Addr} {n c : Nat} (ht : P.underlying t = some (.slice e)) (k : Nat) (hk : k ≤ P.bytesOf e) (hd : DataW.Trod enc P w 0 (fun _ => true) true t (.slice A n c) d p) (hw : ∀ k ∈ d.weights P t, k ≤ reachBytes) : n * k ≤ 140737488351232 := by
  obtain ⟨fuel, hf⟩ := hd
  rcases DataW.trod_slice ht hf with ⟨h1, _⟩ | ⟨a, len, cap, elems, rest, n', _, h1, h0, _, _, _, hlen, _⟩
  · simp only [Value.cells, List.cons.injEq, Value.slice.injEq, and_true] at h1
    obtain ⟨_, rfl, _⟩ := h1
    simp
  · simp only [Value.cells, List.cons.injEq, Value.slice.injEq, and_true] at h1
    obtain ⟨_, rfl, _⟩ := h1
    simp only [Prod.mk.injEq] at h0
    obtain ⟨rfl, _⟩ := h0
    simp only [DataW.weights, ht] at hw
    have h1 := hw _ (List.mem_cons_self ..)
    rw [List.length_map, List.length_map, hlen] at h1
    have h2 : n * k ≤ (n + rest.length) * P.bytesOf e := Nat.mul_le_mul (Nat.le_add_right _ _) hk
    unfold reachBytes at h1
    omega
theorem arg_struct {α : Type} {R : Rep α} {fs : Array Field} (ht : P.underlying t = some (.struct fs)) (ho : Opens P t R) (hv : Value.okWide P w r b0 t v) (hd : DataW.Trod enc P w 0 (fun _ => true) true t v d p) (hw : ∀ k ∈ d.weights P t, k ≤ reachBytes) :
    ∃ x cs, v = .agg cs ∧ R.rel w w.heap.size x cs.toList ∧ R.sz x ≤ Rows.uptoBulk d := by
  obtain ⟨cs, rfl, _⟩ := okWide_struct ht hv
  obtain ⟨x, h1, h3⟩ := Opens.arg ho hd hw
  exact ⟨x, cs, rfl, h1, h3⟩
end
end

theorem bulk_of {H : Type} {ds : List (DataW H)} (h : Rows.uptoSmall H ds = true) : (ds.map Rows.uptoBulk).sum ≤ 1048576 := by
  have h : Rows.uptoBulkAll ds ≤ 1048576 := of_decide_eq_true h
  rwa [bulkAll_sum] at h

theorem own : ownKnob Tryd.prog.godebug = none := by kernel_rfl
theorem laidOut : laidOutB Tryd.prog = true := by kernel_rfl

/-- one cell of a slice of ints, of bytes .. : its address, and that it holds the element -/
theorem Rd.int {w : World} {B n c : Nat} {A : Option Addr} {l : List Int} (h : Rd intR w B A n c l) (i : Nat) (hi : i < n) :
    ∃ b off, A = some ⟨b, off, none⟩ ∧ b < B ∧ w.cell? ⟨b, off + i, none⟩ = some (.int .i64 (l[i]'(by rw [h.len]; exact hi))) ∧ I64 (l[i]'(by rw [h.len]; exact hi)) := by
  obtain ⟨b, off, vs, e, hb, ⟨rfl, hr⟩, hc⟩ := h.at_ i (by rw [h.len]; exact hi)
  have := hc 0 _ rfl
  exact ⟨b, off, e, hb, by simpa [intR] using this, hr⟩
theorem Rd.u8 {w : World} {B n c : Nat} {A : Option Addr} {l : List UInt8} (h : Rd u8R w B A n c l) (i : Nat) (hi : i < n) :
    ∃ b off, A = some ⟨b, off, none⟩ ∧ b < B ∧ w.cell? ⟨b, off + i, none⟩ = some (.int .u8 ((l[i]'(by rw [h.len]; exact hi)).toNat : Int)) := by
  obtain ⟨b, off, vs, e, hb, rfl, hc⟩ := h.at_ i (by rw [h.len]; exact hi)
  have := hc 0 _ rfl
  exact ⟨b, off, e, hb, by simpa [u8R] using this⟩

/-! a block known whole -/
def Blk (w : World) (g : Nat) (t : TypeId) (cs : Array Value) : Prop := w.heap[g]? = some (.cells cs t (0, 0))
section
variable {w w' : World} {g : Nat} {t : TypeId} {cs : Array Value}
theorem Blk.lt (h : Blk w g t cs) : g < w.heap.size := by
  rcases Nat.lt_or_ge g w.heap.size with hlt | hge
  · exact hlt
  · unfold Blk at h; rw [Array.getElem?_eq_none hge] at h; cases h
theorem Blk.cell (h : Blk w g t cs) (i : Nat) : w.cell? ⟨g, i, none⟩ = cs[i]? := by
  unfold Blk at h
  simp [World.cell?, h]
theorem Blk.frozen (h : Blk w g t cs) (i : Nat) : w.frozen? ⟨g, i, none⟩ = false := by
  unfold Blk at h
  simp [World.frozen?, h]
theorem Blk.new (w : World) (t : TypeId) (cs : Array Value) : Blk (w.alloc (.cells cs t)) w.heap.size t cs := heap_alloc_new w _
theorem Blk.new' {w : World} {g : Nat} (t : TypeId) (cs : Array Value) (h : g = w.heap.size) : Blk (w.alloc (.cells cs t)) g t cs := by subst h; exact heap_alloc_new w _
theorem Blk.alloc (h : Blk w g t cs) (o : Obj) : Blk (w.alloc o) g t cs := (Below.heap_alloc w o g h.lt).trans h
theorem Blk.ext (h : Blk w g t cs) (os : Array Obj) (d : Nat) : Blk (ext w os d) g t cs := (heap_ext w os d h.lt).trans h
theorem Blk.drew (h : Blk w g t cs) : Blk w.drew g t cs := h
theorem Blk.set (h : Blk w g t cs) (i : Nat) (u : Value) : Blk (w.setCell ⟨g, i, none⟩ u) g t (cs.setIfInBounds i u) := by
  unfold Blk at h ⊢
  simp [World.setCell, Array.getElem?_modify, h]
theorem Blk.far (h : Blk w g t cs) {p : Addr} (hp : g ≠ p.block) (u : Value) : Blk (w.setCell p u) g t cs := (Below.heap_setCell w p u g hp).trans h
theorem Blk.below {B : Nat} (h : Blk w g t cs) (hb : Below B w w') (hg : g < B) : Blk w' g t cs := (hb.block g hg).trans h
theorem Blk.grown {row : Option Nat} (h : Blk w g t cs) (hb : w.grownBy w' row) (hg : some g ≠ row) : Blk w' g t cs := (hb.block g h.lt hg).trans h
end

theorem Rd.take {α : Type} {R : Rep α} {w : World} {B n c k : Nat} {A : Option Addr} {l : List α} (h : Rd R w B A n c l) (hk : k ≤ n) : Rd R w B A k c (l.take k) := by
  refine ⟨by rw [List.length_take, h.len]; omega, Nat.le_trans hk h.cap, h.max, Nat.le_trans (Nat.mul_le_mul_right _ hk) h.lim, h.nil, fun i hi => ?_⟩
  have hi' : i < l.length := by rw [List.length_take] at hi; omega
  obtain ⟨b, off, vs, e, hb, hr, hc⟩ := h.at_ i hi'
  exact ⟨b, off, vs, e, hb, by rw [List.getElem_take]; exact hr, hc⟩
/-- a block of bytes as a slice -/
theorem rd_of_blk {w : World} {g : Nat} {t : TypeId} {cs : Array Value} (l : List UInt8) (h : Blk w g t cs) (hl : cs.toList = l.map fun b => Value.int .u8 (b.toNat : Int)) (hm : l.length ≤ 140737488355328) : Rd u8R w w.heap.size (some ⟨g, 0, none⟩) l.length l.length l := by
  refine ⟨rfl, Nat.le_refl _, by unfold maxLen; omega, by simpa [u8R] using hm, fun e => (by cases e), fun i hi => ?_⟩
  refine ⟨g, 0, _, rfl, h.lt, rfl, fun j u hu => ?_⟩
  have hj : j = 0 := by
    cases j with
    | zero => rfl
    | succ j => simp at hu
  subst hj
  simp at hu
  subst hu
  have := h.cell i
  rw [← Array.getElem?_toList, hl] at this
  simpa [u8R, hi] using this

/-- a literal of bytes, just laid -/
theorem rd_lit {w : World} {g : Nat} (t : TypeId) (cs : Array Value) (l : List UInt8) (n : Nat) (hg : g = w.heap.size) (hl : cs.toList = l.map fun b => Value.int .u8 (b.toNat : Int)) (hn : l.length = n) (hm : n ≤ 140737488355328) : Rd u8R (w.alloc (.cells cs t)) (w.alloc (.cells cs t)).heap.size (some ⟨g, 0, none⟩) n n l := by
  subst hn
  exact rd_of_blk l (Blk.new' t cs hg) hl hm
theorem Rd.alloc {α : Type} {R : Rep α} {w : World} {B n c : Nat} {A : Option Addr} {l : List α} (h : Rd R w B A n c l) (hB : B ≤ w.heap.size) (o : Obj) : Rd R (w.alloc o) B A n c l :=
  h.keep (Nat.le_refl _) fun p hp => World.cell?_alloc_lt w o p (by omega)


/-! rows of the call's own, kept -/
section
variable {w w' : World} {base : Nat} {e : TypeId} {size : Nat} {v : Value} {n : Nat} {xs : List Value}
theorem own_low {B : Nat} (h : w.ownsRow base e size v n xs) (hb : Below B w w') (hB : w.heap.size ≤ B) : w'.ownsRow base e size v n xs :=
  h.kept (row := none) ⟨hb.os, hb.tape, hb.output, hb.size, fun k hk _ => hb.block k (by omega)⟩ (by cases v.ownBlock <;> simp)
theorem own_far (h : w.ownsRow base e size v n xs) {p : Addr} (hp : p.block < base) (u : Value) : (w.setCell p u).ownsRow base e size v n xs := ownsRow_setCell_below h hp u
theorem own_ext (h : w.ownsRow base e size v n xs) (os : Array Obj) (d : Nat) : (ext w os d).ownsRow base e size v n xs := own_low h (below_ext w os d) (Nat.le_refl _)
end

/-! this program's structs -/
abbrev bucketR : Rep (Int × Int × Int × Int × Unit) := pairR intR (pairR intR (pairR intR (pairR intR unitR)))
theorem bucket_of {w : World} {B : Nat} {x : Int × Int × Int × Int × Unit} {cs : Array Value} (h : bucketR.rel w B x cs.toList) :
    ∃ r u s a, cs = #[.int .i64 r, .int .i64 u, .int .i64 s, .int .i64 a] ∧ I64 r ∧ I64 u ∧ I64 s ∧ I64 a := by
  obtain ⟨_, _, e0, ⟨rfl, h1⟩, _, _, rfl, ⟨rfl, h2⟩, _, _, rfl, ⟨rfl, h3⟩, _, _, rfl, ⟨rfl, h4⟩, rfl⟩ := h
  exact ⟨_, _, _, _, by cases cs; simp_all, h1, h2, h3, h4⟩
end Go.Proofs.YthccknobnpbdeaaDoor
/- Rows of the call's own that hold a list; a slice that is read as cells, one behind the other. No function of the program. -/
namespace Go.Proofs.YthccknobnpbdeaaDoor
open Go.RowKit
set_option linter.unusedVariables false
set_option linter.unusedSimpArgs false

/-- the elements l, cell by cell -/
def Rels {α : Type} (R : Rep α) (w : World) (B : Nat) (l : List α) (xs : List Value) : Prop :=
  ∃ vss : List (List Value), vss.length = l.length ∧ xs = vss.flatten ∧ ∀ i (h : i < l.length) (h' : i < vss.length), R.rel w B l[i] vss[i]

theorem flat_get {vss : List (List Value)} {k : Nat} (hk : ∀ vs ∈ vss, vs.length = k) {i j : Nat} (hi : i < vss.length) (hj : j < k) : vss.flatten[i * k + j]? = (vss[i])[j]? := by
  induction vss generalizing i with
  | nil => simp at hi
  | cons a vss ih =>
    have ha := hk a (by simp)
    cases i with
    | zero =>
      simp only [List.flatten_cons, Nat.zero_mul, Nat.zero_add, List.getElem_cons_zero]
      rw [List.getElem?_append_left (by omega)]
    | succ i =>
      simp only [List.flatten_cons, List.getElem_cons_succ]
      rw [List.getElem?_append_right (by rw [ha, Nat.succ_mul]; omega), ← ih (fun vs h => hk vs (by simp [h])) (by simpa using hi)]
      congr 1
      rw [ha, Nat.succ_mul]
      omega
theorem flat_len {vss : List (List Value)} {k : Nat} (hk : ∀ vs ∈ vss, vs.length = k) : vss.flatten.length = vss.length * k := by
  induction vss with
  | nil => simp
  | cons a vss ih =>
    rw [List.flatten_cons, List.length_append, ih fun vs h => hk vs (by simp [h]), hk a (by simp), List.length_cons, Nat.succ_mul]
    omega

section
variable {α : Type} {R : Rep α} {w w' : World} {B B' n c : Nat} {A : Option Addr} {l m : List α} {xs ys : List Value}
theorem Rels.each (h : ∃ vss : List (List Value), vss.length = l.length ∧ xs = vss.flatten ∧ ∀ i (h : i < l.length) (h' : i < vss.length), R.rel w B l[i] vss[i]) : Rels R w B l xs := h
theorem Rels.len (h : Rels R w B l xs) : xs.length = l.length * R.k := by
  obtain ⟨vss, hl, rfl, hr⟩ := h
  rw [flat_len (k := R.k), hl]
  intro vs hvs
  obtain ⟨i, hi, rfl⟩ := List.getElem_of_mem hvs
  exact R.len (hr i (by omega) hi)
theorem Rels.nil : Rels R w B [] [] := ⟨[], rfl, rfl, fun i h => by simp at h⟩
theorem Rels.append (h : Rels R w B l xs) (k : Rels R w B m ys) : Rels R w B (l ++ m) (xs ++ ys) := by
  obtain ⟨v1, h1, rfl, r1⟩ := h
  obtain ⟨v2, h2, rfl, r2⟩ := k
  refine ⟨v1 ++ v2, by simp [h1, h2], by simp, fun i hi hi' => ?_⟩
  by_cases c : i < l.length
  · rw [List.getElem_append_left c, List.getElem_append_left (by omega)]
    exact r1 i c (by omega)
  · rw [List.getElem_append_right (by omega), List.getElem_append_right (by omega)]
    have := r2 (i - l.length) (by simp at hi; omega) (by simp at hi'; omega)
    simpa [h1] using this
theorem Rels.one {a : α} (h : R.rel w B a xs) : Rels R w B [a] xs := ⟨[xs], rfl, by simp, fun i hi _ => by
  have : i = 0 := by simpa using hi
  subst this
  exact h⟩
theorem Rels.keep (h : Rels R w B l xs) (hB : B ≤ B') (hk : ∀ p : Addr, p.block < B → w'.cell? p = w.cell? p) : Rels R w' B' l xs := by
  obtain ⟨v, h1, h2, r⟩ := h
  exact ⟨v, h1, h2, fun i hi hi' => R.keep (r i hi hi') hB hk⟩
theorem Rels.later (h : Rels R w w.heap.size l xs) (hb : Below w.heap.size w w') : Rels R w' w'.heap.size l xs := h.keep hb.size fun _ hp => hb.cell hp
theorem Rels.below (h : Rels R w B l xs) (hb : Below B w w') : Rels R w' B l xs := h.keep (Nat.le_refl _) fun _ hp => hb.cell hp
theorem Rels.more (h : Rels R w B l xs) (hB : B ≤ B') : Rels R w B' l xs := h.keep hB fun _ _ => rfl

/-- a slice, cell by cell -/
theorem Rd.cells (h : Rd R w B A n c l) : ∃ xs, Rels R w B l xs ∧ ∀ ad, A = some ad → ∀ j u, xs[j]? = some u → w.cell? (ad.add j) = some u := by
  obtain ⟨vss, hl, hv⟩ := list_of (n := l.length) (p := fun i vs => ∃ (h : i < l.length), ∃ b off, A = some ⟨b, off, none⟩ ∧ R.rel w B l[i] vs ∧ ∀ j u, vs[j]? = some u → w.cell? ⟨b, off + i * R.k + j, none⟩ = some u)
    (fun i hi => by
      obtain ⟨b, off, vs, e, _, hr, hc⟩ := h.at_ i hi
      exact ⟨vs, hi, b, off, e, hr, hc⟩)
  have hk : ∀ vs ∈ vss, vs.length = R.k := by
    intro vs hvs
    obtain ⟨i, hi, rfl⟩ := List.getElem_of_mem hvs
    obtain ⟨_, _, _, _, hr, _⟩ := hv i hi
    exact R.len hr
  refine ⟨vss.flatten, ⟨vss, hl, rfl, fun i hi hi' => ?_⟩, fun ad ha j u hu => ?_⟩
  · obtain ⟨_, _, _, _, hr, _⟩ := hv i hi'
    exact hr
  · have hj : j < vss.flatten.length := by
      rcases Nat.lt_or_ge j vss.flatten.length with h | h
      · exact h
      · rw [List.getElem?_eq_none h] at hu; cases hu
    rw [flat_len hk] at hj
    have hkp : 0 < R.k := by
      rcases Nat.eq_zero_or_pos R.k with h0 | h0
      · rw [h0] at hj; omega
      · exact h0
    have hi : j / R.k < vss.length := Nat.div_lt_of_lt_mul (by rwa [Nat.mul_comm] at hj)
    have hm : j % R.k < R.k := Nat.mod_lt _ hkp
    have hjm : j / R.k * R.k + j % R.k = j := by rw [Nat.mul_comm]; exact Nat.div_add_mod j R.k
    obtain ⟨_, b, off, e, _, hc⟩ := hv (j / R.k) hi
    rw [ha] at e
    injection e with e
    subst e
    have := hc (j % R.k) u (by rw [← flat_get hk hi hm, hjm]; exact hu)
    rw [add_none]
    rwa [Nat.add_assoc, hjm] at this

/-- a row of the call's own as a slice -/
theorem rd_of_own {base : Nat} {e : TypeId} {v : Value} (h : w.ownsRow base e R.k v n xs) (hr : Rels R w B l xs) (hl : l.length = n) (hB : B ≤ w.heap.size) (hlim : n * R.bs ≤ 140737488355328) (hk : 0 < R.k) :
    ∃ A c, v = .slice A n c ∧ Rd R w w.heap.size A n c l := by
  rcases h.2 with ⟨rfl, rfl⟩ | ⟨g, cap, cur, rfl, hb, hh, hnc, hcm, hcs, ht⟩
  · exact ⟨none, 0, rfl, ⟨hl, Nat.le_refl _, by simp [maxLen], by simp, fun _ => rfl, fun i hi => by omega⟩⟩
  · refine ⟨_, _, rfl, ⟨hl, hnc, hcm, hlim, fun h => (by cases h), fun i hi => ?_⟩⟩
    obtain ⟨vss, h1, rfl, r⟩ := hr
    have hkk : ∀ vs ∈ vss, vs.length = R.k := by
      intro vs hvs
      obtain ⟨i, hi, rfl⟩ := List.getElem_of_mem hvs
      exact R.len (r i (by omega) hi)
    have hg : g < w.heap.size := (Array.getElem?_eq_some_iff.1 hh).1
    refine ⟨g, 0, vss[i]'(by omega), rfl, hg, R.keep (r i hi (by omega)) hB (fun _ _ => rfl), fun j u hu => ?_⟩
    have hj : j < R.k := by
      rw [← R.len (r i hi (by omega))]
      rcases Nat.lt_or_ge j (vss[i]'(by omega)).length with h | h
      · exact h
      · rw [List.getElem?_eq_none h] at hu; cases hu
    have := h.cells (g := g) rfl (i * R.k + j) u (by rw [flat_get hkk (by omega) hj]; exact hu)
    rw [add_none] at this
    simpa [Nat.add_assoc] using this
end

theorem rels_u8 {w : World} {B : Nat} {l : List UInt8} {xs : List Value} : Rels u8R w B l xs ↔ xs = l.map fun b => Value.int .u8 (b.toNat : Int) := by
  constructor
  · rintro ⟨vss, h1, rfl, r⟩
    have : vss = l.map fun b => [Value.int .u8 (b.toNat : Int)] := by
      apply List.ext_getElem (by simpa using h1)
      intro i hi hi'
      simp only [List.getElem_map]
      exact r i (by omega) hi
    rw [this]
    clear h1 r this
    induction l with
    | nil => rfl
    | cons a l ih => simp [ih]
  · rintro rfl
    refine ⟨l.map fun b => [Value.int .u8 (b.toNat : Int)], by simp, ?_, fun i hi hi' => by simp [u8R]⟩
    induction l with
    | nil => rfl
    | cons a l ih => simp [ih]
theorem one_u8 (l : List UInt8) : ∀ u ∈ (l.map fun b => Value.int .u8 (b.toNat : Int)), u.oneCell' = true := by
  intro u hu
  obtain ⟨b, _, rfl⟩ := List.mem_map.1 hu
  rfl
theorem own_slice {w : World} {base : Nat} {e : TypeId} {size : Nat} {v : Value} {n : Nat} {xs : List Value} (h : w.ownsRow base e size v n xs) : ∃ A cap, v = .slice A n cap ∧ n ≤ cap ∧ cap ≤ maxLen ∧ (0 < n → ∃ g, A = some ⟨g, 0, none⟩ ∧ base ≤ g ∧ g < w.heap.size) := by
  rcases h.2 with ⟨rfl, rfl⟩ | ⟨g, cap, cur, rfl, hb, hh, hn, hc, _⟩
  · exact ⟨none, 0, rfl, Nat.le_refl _, by simp [maxLen], fun h => by omega⟩
  · exact ⟨_, cap, rfl, hn, hc, fun _ => ⟨g, rfl, hb, (Array.getElem?_eq_some_iff.1 hh).1⟩⟩

end Go.Proofs.YthccknobnpbdeaaDoor
/- append onto a row of the call's own, from whatever slice that reads as a list: in a walk, and inside a region that draws. No function of the program. -/
namespace Go.Proofs.YthccknobnpbdeaaDoor
open Go.RowKit
set_option linter.unusedVariables false
set_option linter.unusedSimpArgs false

/-- a slice type and its elements -/
structure El (P : Program) (t e : TypeId) (size bytes : Nat) : Prop where
  under : P.underlying t = some (.slice e)
  info : ∃ i z, P.info? e = some i ∧ i.zero = some z ∧ i.size = size ∧ i.bytes = bytes ∧ z.cells.size = size
  pos : 0 < size
/-- a slice's cells, one behind the other -/
structure Src (w : World) (A : Option Addr) (m c size : Nat) (ys : List Value) : Prop where
  len : ys.length = m * size
  at_ : ∀ ad, A = some ad → ∀ j u, ys[j]? = some u → w.cell? (ad.add j) = some u
  nil : A = none → m = 0 ∧ c = 0
  one : ∀ u ∈ ys, u.oneCell' = true

theorem Src.later {w w' : World} {A : Option Addr} {m c size : Nat} {ys : List Value} (h : Src w A m c size ys) (hb : Below w.heap.size w w') : Src w' A m c size ys :=
  ⟨h.len, fun ad ha j u hu => by
    have := h.at_ ad ha j u hu
    rw [hb.cell (World.block_lt_of_cell? w _ this)]
    exact this, h.nil, h.one⟩
/-- one value that was laid in a box of its own -/
theorem src_one {w : World} {t : TypeId} {g : Nat} (u : Value) (hu : u.oneCell' = true) (hg : g = w.heap.size) : Src (w.alloc (.cells #[u] t)) (some ⟨g, 0, none⟩) 1 1 1 [u] := by
  subst hg
  exact ⟨rfl, fun ad ha => by cases ha; exact cell_one_new _ _ _, fun h => (by cases h), by simp [hu]⟩
/-- values that were laid in a box, cell by cell -/
theorem src_lit {w : World} {t : TypeId} {g m size : Nat} (cs : Array Value) (hm : cs.size = m * size) (hu : ∀ u ∈ cs.toList, u.oneCell' = true) (hg : g = w.heap.size) : Src (w.alloc (.cells cs t)) (some ⟨g, 0, none⟩) m m size cs.toList := by
  subst hg
  refine ⟨by simpa using hm, fun ad ha j u h => ?_, fun h => (by cases h), hu⟩
  cases ha
  have := (Blk.new w t cs).cell j
  rw [add_none, Nat.zero_add, this]
  simpa using h

section
variable {P : Program} {w : World}
theorem run_app (base : Nat) (t ty e : TypeId) (size bytes : Nat) (E : El P t e size bytes) (v : Value) (n : Nat) (xs : List Value) (hown : w.ownsRow base e size v n xs)
    (A : Option Addr) (m c : Nat) (ys : List Value) (hs : Src w A m c size ys) (hbytes : (n + m) * bytes ≤ 140737488355328) (h63 : n + m ≤ maxLen) (hbase : base ≤ w.heap.size) :
    ∃ v' w', (Builtin.append_ #[t, t] ty #[v, .slice A m c]).run P w = .ok v' w' ∧ w'.ownsRow base e size v' (n + m) (xs ++ ys) ∧ w.grownBy w' v.ownBlock ∧ (v'.ownBlock = v.ownBlock ∨ v'.ownBlock = some w.heap.size) := by
  obtain ⟨ht, ⟨i, z, hi, hz, hsz, hby, hzs⟩, hp⟩ := E
  rcases A with _ | ad
  · obtain ⟨rfl, rfl⟩ := hs.nil rfl
    obtain rfl : ys = [] := List.eq_nil_of_length_eq_zero (by simpa using hs.len)
    have hr := run_append_owned_none (P := P) (w := w) base t ty e i size ht hi v n xs hown
    exact ⟨v, w, hr, by simpa using hown, ⟨rfl, rfl, rfl, Nat.le_refl _, fun _ _ _ => rfl⟩, .inl rfl⟩
  · obtain ⟨v', w', h1, h2, h3, _, h5⟩ := run_append_own_at w base t ty e i z size bytes ht hi hz hsz hby hzs hp v n xs hown ad m c ys hs.len (hs.at_ ad rfl) hs.one h63 hbytes hbase
    exact ⟨v', w', h1, h2, h3, h5⟩

theorem wpList_app {ops : Array Oper} {rest : List Oper} {o : Oper} {a : Act} {Q : Exit → Act → World → Prop} (hgd : o.guard = none) (s x : Operand) (t : TypeId)
    (ho : o.op = .call { callee := .builtin .append, args := #[s, x], argTypes := #[t, t] }) (base : Nat) (e : TypeId) (size bytes : Nat) (E : El P t e size bytes)
    (v : Value) (n : Nat) (xs : List Value) (hs : a.eval s = v) (hown : w.ownsRow base e size v n xs) (A : Option Addr) (m c : Nat) (ys : List Value) (hx : a.eval x = .slice A m c) (hsrc : Src w A m c size ys)
    (hbytes : (n + m) * bytes ≤ 140737488355328) (h63 : n + m ≤ maxLen) (hbase : base ≤ w.heap.size)
    (h : ∀ v' w', w'.ownsRow base e size v' (n + m) (xs ++ ys) → w.grownBy w' v.ownBlock → (v'.ownBlock = v.ownBlock ∨ v'.ownBlock = some w.heap.size) → wpList P ops Q rest (a.put o.dst v') w') :
    wpList P ops Q (o :: rest) a w := by
  refine wpList_plain hgd fun K hK => ?_
  obtain ⟨v', w', hr, h2, h3, h5⟩ := run_app (P := P) (w := w) base t o.type e size bytes E v n xs hown A m c ys hsrc hbytes h63 hbase
  unfold Oper.wp execOp
  simp only [ho, resolve, invoke, builtin, Sem.run_bind, Sem.run_pure, Result.andThen_ok, List.map_toArray, List.map_cons, List.map_nil, hs, hx, hr]
  exact hK _ _ (h v' w' h2 h3 h5)

theorem step_app {ops : Array Oper} {o : Oper} {a : Act} {Q : Exit → Act → World → Prop} {K : Act → World → Prop} {F : Prop} (hgd : o.guard = none) (s x : Operand) (t : TypeId)
    (ho : o.op = .call { callee := .builtin .append, args := #[s, x], argTypes := #[t, t] }) (base : Nat) (e : TypeId) (size bytes : Nat) (E : El P t e size bytes)
    (v : Value) (n : Nat) (xs : List Value) (hs : a.eval s = v) (hown : w.ownsRow base e size v n xs) (A : Option Addr) (m c : Nat) (ys : List Value) (hx : a.eval x = .slice A m c) (hsrc : Src w A m c size ys)
    (hbytes : (n + m) * bytes ≤ 140737488355328) (h63 : n + m ≤ maxLen) (hbase : base ≤ w.heap.size)
    (h : ∀ v' w', w'.ownsRow base e size v' (n + m) (xs ++ ys) → w.grownBy w' v.ownBlock → (v'.ownBlock = v.ownBlock ∨ v'.ownBlock = some w.heap.size) → K (a.put o.dst v') w') :
    if Region.wanted o (yielded ops a.tmps) = true then Oper.wp P o a w K Q else F := by
  have hw : Region.wanted o (yielded ops a.tmps) = true := by simp [Region.wanted, hgd]
  rw [if_pos hw]
  obtain ⟨v', w', hr, h2, h3, h5⟩ := run_app (P := P) (w := w) base t o.type e size bytes E v n xs hown A m c ys hsrc hbytes h63 hbase
  unfold Oper.wp execOp
  simp only [ho, resolve, invoke, builtin, Sem.run_bind, Sem.run_pure, Result.andThen_ok, List.map_toArray, List.map_cons, List.map_nil, hs, hx, hr]
  exact h v' w' h2 h3 h5
end

/-- a literal, just laid, is the call's own -/
theorem own_lit {w : World} {base : Nat} {e : TypeId} {size g n : Nat} (cs : Array Value) (xs : List Value) (hg : g = w.heap.size) (hb : base ≤ g) (hn : cs.size = n * size) (hm : n ≤ maxLen) (hx : cs.toList = xs) :
    (w.alloc (.cells cs e)).ownsRow base e size (.slice (some ⟨g, 0, none⟩) n n) n xs := by
  subst hg
  subst hx
  exact World.ownsRow_lit w cs n hb hm hn
/-- copy into the head of a row of the call's own -/
theorem wpList_copy_rd {P : Program} {w : World} {ops : Array Oper} {rest : List Oper} {o : Oper} {a : Act} {Q : Exit → Act → World → Prop} (hgd : o.guard = none) (d s : Operand) (dT sT : TypeId)
    (ho : o.op = .call { callee := .builtin .copy, args := #[d, s], argTypes := #[dT, sT] }) (elem : TypeId) (hu : P.underlying dT = some (.slice elem)) (hsz : (P.info? elem).map (·.size) = some 1)
    (g dLen dCap : Nat) (ad : Addr) (sLen sCap : Nat) (hd : a.eval d = .slice (some ⟨g, 0, none⟩) dLen dCap) (hs : a.eval s = .slice (some ad) sLen sCap)
    (cur : Array Value) (t : TypeId) (hg : Blk w g t cur) (hcur : cur.size = dLen) (ys : List Value) (hsrc : Src w (some ad) sLen sCap 1 ys) (hle : sLen ≤ dLen)
    (h : ∀ w', Blk w' g t (ys ++ cur.toList.drop sLen).toArray → Below g w w' → wpList P ops Q rest (a.put o.dst (goInt sLen)) w') : wpList P ops Q (o :: rest) a w := by
  have hl := hsrc.len
  rw [Nat.mul_one] at hl
  refine wpList_copy_own hgd d s dT sT ho elem hu hsz g 0 dLen dCap ad sLen sCap hd hs cur t hg ys (by rw [hl]; exact (Nat.min_eq_left hle).symm) (hsrc.at_ _ rfl) (by omega) hsrc.one ?_
  rw [hl]
  refine h _ ?_ ?_
  · have := setRow_heap w g cur (ys ++ cur.toList.drop sLen).toArray t (0, 0) hg
    simpa [Blk] using this
  · exact ⟨rfl, rfl, rfl, by simp, fun k hk => setRow_other w g k _ (by omega)⟩
theorem setRow_alloc (W : World) (cur cs : Array Value) (t : TypeId) (g : Nat) (hg : g = W.heap.size) : (W.alloc (.cells cur t)).setRow g cs = W.alloc (.cells cs t) := by
  subst hg
  unfold World.setRow World.alloc
  congr 1
  apply Array.ext_getElem?
  intro i
  simp only [Array.getElem?_modify, Array.getElem?_push]
  by_cases h : W.heap.size = i
  · simp [h]
  · simp [h, Ne.symm h]
/-- copy into the head of the block that was laid last -/
theorem wpList_copy_new {P : Program} {W : World} {ops : Array Oper} {rest : List Oper} {o : Oper} {a : Act} {Q : Exit → Act → World → Prop} (cur : Array Value) (t : TypeId) (hgd : o.guard = none) (d s : Operand) (dT sT : TypeId)
    (ho : o.op = .call { callee := .builtin .copy, args := #[d, s], argTypes := #[dT, sT] }) (elem : TypeId) (hu : P.underlying dT = some (.slice elem)) (hsz : (P.info? elem).map (·.size) = some 1)
    (g dLen dCap : Nat) (ad : Addr) (sLen sCap : Nat) (hd : a.eval d = .slice (some ⟨g, 0, none⟩) dLen dCap) (hs : a.eval s = .slice (some ad) sLen sCap) (hg : g = W.heap.size) (hcur : cur.size = dLen)
    (ys : List Value) (hsrc : Src (W.alloc (.cells cur t)) (some ad) sLen sCap 1 ys) (hle : sLen ≤ dLen)
    (h : wpList P ops Q rest (a.put o.dst (goInt sLen)) (W.alloc (.cells (ys ++ cur.toList.drop sLen).toArray t))) : wpList P ops Q (o :: rest) a (W.alloc (.cells cur t)) := by
  have hl := hsrc.len
  rw [Nat.mul_one] at hl
  refine wpList_copy_own hgd d s dT sT ho elem hu hsz g 0 dLen dCap ad sLen sCap hd hs cur t (Blk.new' _ _ hg) ys (by rw [hl]; exact (Nat.min_eq_left hle).symm) (hsrc.at_ _ rfl) (by omega) hsrc.one ?_
  rw [hl, setRow_alloc _ _ _ _ _ hg]
  simpa using h
/-- what append leaves of old memory -/
theorem grown_below {w w' : World} {base : Nat} {e : TypeId} {size n : Nat} {v : Value} {xs : List Value} (hown : w.ownsRow base e size v n xs) (hg : w.grownBy w' v.ownBlock) (hb : base ≤ w.heap.size) : Below base w w' :=
  ⟨hg.os, hg.tape, hg.output, hg.size, fun k hk => hg.block k (by omega) fun e' => by have := hown.lt k e'.symm; omega⟩

theorem Rd.addr {α : Type} {R : Rep α} {w : World} {B n c : Nat} {A : Option Addr} {l : List α} (h : Rd R w B A n c l) (hn : 0 < n) : ∃ b off, A = some ⟨b, off, none⟩ ∧ b < B := by
  obtain ⟨b, off, _, e, hb, _⟩ := h.at_ 0 (by rw [h.len]; exact hn)
  exact ⟨b, off, e, hb⟩

theorem rd_nil {α : Type} {R : Rep α} (w : World) (B : Nat) : Rd R w B none 0 0 [] := ⟨rfl, Nat.le_refl _, by simp [maxLen], by simp, fun _ => rfl, fun i hi => by simp at hi⟩
/-- a slice that is read as a list is a source for append -/
theorem Rd.src {α : Type} {R : Rep α} {w : World} {B n c : Nat} {A : Option Addr} {l : List α} (h : Rd R w B A n c l) (h1 : ∀ (a : α) vs, R.rel w B a vs → ∀ u ∈ vs, u.oneCell' = true) :
    ∃ ys, Rels R w B l ys ∧ Src w A n c R.k ys := by
  obtain ⟨xs, hr, hc⟩ := h.cells
  refine ⟨xs, hr, by rw [hr.len, h.len], hc, fun e => ⟨by have := h.nil e; have := h.cap; omega, h.nil e⟩, fun u hu => ?_⟩
  obtain ⟨vss, hl, rfl, hv⟩ := hr
  obtain ⟨vs, hvs, hu'⟩ := List.mem_flatten.1 hu
  obtain ⟨i, hi, rfl⟩ := List.getElem_of_mem hvs
  exact h1 _ _ (hv i (by omega) hi) u hu'
theorem Rd.src_u8 {w : World} {B n c : Nat} {A : Option Addr} {l : List UInt8} (h : Rd u8R w B A n c l) : Src w A n c 1 (l.map fun b => Value.int .u8 (b.toNat : Int)) := by
  obtain ⟨ys, hr, hs⟩ := h.src (R := u8R) fun a vs (hv : vs = _) u hu => by
    subst hv
    simp at hu
    subst hu
    rfl
  rw [rels_u8] at hr
  subst hr
  exact hs

/-- one byte of a slice: its cell, whatever it is called -/
theorem Rd.byte {w : World} {B n c b o : Nat} {l : List UInt8} (h : Rd u8R w B (some ⟨b, o, none⟩) n c l) (i : Nat) (hi : i < n) : ∃ x : UInt8, l.getD i 0 = x ∧ w.cell? ⟨b, o + i, none⟩ = some (.int .u8 (x.toNat : Int)) ∧ (x.toNat : Int) ≤ 255 ∧ b < B := by
  obtain ⟨b0, o0, e0, lb, c0⟩ := h.u8 i hi
  cases e0
  have := (l[i]'(by rw [h.len]; exact hi)).toNat_lt
  exact ⟨_, by rw [List.getD_eq_getElem?_getD, List.getElem?_eq_getElem]; rfl, c0, by omega, lb⟩

theorem el_of {P : Program} {t e : TypeId} {size bytes : Nat} {z : Value} (hu : P.underlying t = some (.slice e)) (hi : (P.info? e).map (fun i => (i.zero, i.size, i.bytes)) = some (some z, size, bytes)) (hz : z.cells.size = size) (hp : 0 < size) : El P t e size bytes := by
  obtain ⟨i, h1, h2, h3, h4⟩ := info_parts hi
  exact ⟨hu, ⟨i, z, h1, h2, h3, h4, hz⟩, hp⟩
theorem el_u8 : El Tryd.prog 22 5 1 1 := el_of (z := .int .u8 0) Tryd.underlying22 (by kernel_rfl) rfl (by decide)
end Go.Proofs.YthccknobnpbdeaaDoor
/- slices.Clone of bytes: a row of the call's own with the same bytes. -/
namespace Go.Proofs.YthccknobnpbdeaaDoor
open Go.RowKit
set_option linter.unusedVariables false
set_option linter.unusedSimpArgs false

theorem u8_info : (Tryd.prog.info? 5).map (fun i => (i.zero, i.size, i.bytes)) = some (some (.int .u8 0), 1, 1) := by kernel_rfl
/-- a list of bytes as cells -/
@[reducible] def bytesV (l : List UInt8) : List Value := l.map fun b => Value.int .u8 (b.toNat : Int)

set_option maxHeartbeats 1000000 in
theorem clone_bytes (w : World) (A : Option Addr) (n c : Nat) (l : List UInt8) (B : Nat) (h : Rd u8R w B A n c l) :
    Calls Tryd.prog 42 #[.slice A n c] w fun e w' => ∃ v, e = .returned v ∧ w'.ownsRow w.heap.size 5 1 v n (bytesV l) ∧ Below w.heap.size w w' := by
  obtain ⟨i0, hii, hz0, hz1, hz2⟩ := info_parts u8_info
  obtain ⟨xs, hxs, hcell⟩ := h.cells
  rw [rels_u8] at hxs
  subst hxs
  have hm := h.lim
  have hlen := h.len
  have hnil := h.nil
  have hcap := h.cap
  simp only [u8R, Nat.mul_one] at hm
  have HL := hid hlen
  clear h hlen
  have he := fun w a n c => Lib.run_eql_slice_nil (P := Tryd.prog) w 22 5 a n c 0 0 Tryd.underlying22
  rcases A with _ | ad
  · have hn : n = 0 := by have := hnil rfl; omega
    subst hn
    have hl : l = [] := List.eq_nil_of_length_eq_zero HL.out
    subst hl
    clear hnil hcell
    go_enter Tryd.func42, Tryd.ntmps42
    go_wp2
    go_ret
    exact ⟨_, rfl, World.ownsRow_nil _ _ _ _, Below.refl _ _⟩
  · clear hnil
    have hcell' := hid (hcell ad rfl)
    clear hcell
    have hcell := hcell'
    clear hcell'
    go_enter Tryd.func42, Tryd.ntmps42
    have hown := hid (World.ownsRow_lit (base := w.heap.size) (e := 5) (size := 1) w #[] 0 (Nat.le_refl _) (by simp [maxLen]) rfl)
    have c3 : 0 + n ≤ maxLen := by unfold maxLen; omega
    have c4 : (0 + n) * 1 ≤ 140737488355328 := by omega
    have hlt : ad.block < w.heap.size ∨ n = 0 := by
      rcases Nat.eq_zero_or_pos n with h0 | h0
      · exact .inr h0
      · have hl0 : 0 < l.length := by rw [HL.out]; exact h0
        have := hcell.out 0 _ (List.getElem?_eq_getElem (by simpa using hl0))
        exact .inl (by simpa [Addr.add] using World.block_lt_of_cell? w _ this)
    have hnews : ∀ j u, (bytesV l)[j]? = some u → (w.alloc (.cells #[] 5)).cell? (ad.add j) = some u := by
      intro j u hu
      have h1 := hcell.out j u hu
      have h2 := World.block_lt_of_cell? w _ h1
      rw [World.cell?_alloc_lt _ _ _ h2]
      exact h1
    have HN := hid hnews
    clear hnews hlt
    go_wp2_with (at_builtin; refine wpList_append_own_at _ rfl _ _ 22 rfl w.heap.size 5 i0 (.int .u8 0) 1 1 Tryd.underlying22 hii hz0 hz1 hz2 rfl (by decide) (.slice (some ⟨w.heap.size, 0, none⟩) 0 0) 0 [] rfl hown.out ad n c (bytesV l) rfl (by simpa using HL.out) HN.out (one_u8 l) c3 c4 (by simp) ?_; intro v' w1 ho hg _ _)
    go_ret
    refine ⟨_, rfl, by simpa using ho, ?_⟩
    exact ((Below.refl _ w).alloc (Nat.le_refl _) _).grown hg (by simp) (by simp [Value.ownBlock])
theorem bytesV_set (l : List UInt8) (k : Nat) (b : UInt8) : bytesV (l.set k b) = (bytesV l).set k (.int .u8 (b.toNat : Int)) := by simp [bytesV, List.map_set]
end Go.Proofs.YthccknobnpbdeaaDoor
/- Names: Check, lower, small. -/
namespace Go.Proofs.YthccknobnpbdeaaDoor
open Go.RowKit
set_option linter.unusedVariables false
set_option linter.unusedSimpArgs false

/-- one text of a slice -/
theorem Rd.str {w : World} {B n c : Nat} {A : Option Addr} {l : List ByteArray} (h : Rd strR w B A n c l) (i : Nat) (hi : i < n) :
    ∃ b off, A = some ⟨b, off, none⟩ ∧ b < B ∧ w.cell? ⟨b, off + i, none⟩ = some (.string (l[i]'(by rw [h.len]; exact hi))) ∧ (l[i]'(by rw [h.len]; exact hi)).size ≤ 140737488355328 := by
  obtain ⟨b, off, vs, e, hb, ⟨rfl, hr⟩, hc⟩ := h.at_ i (by rw [h.len]; exact hi)
  have := hc 0 _ rfl
  exact ⟨b, off, e, hb, by simpa [strR] using this, hr⟩

/-! Check -/
def labelOk (s : ByteArray) : Bool := decide (1 ≤ s.size) && decide (s.size ≤ 63)
/-- the bytes of a name as it is sent -/
def nsize (l : List ByteArray) : Nat := (l.map fun s => s.size + 1).sum + 1
/-- what is wrong with a name -/
def nameErr (l : List ByteArray) : Int := if l.all labelOk then (if nsize l ≤ 255 then 0 else 5) else 3
theorem nsize_snoc (l : List ByteArray) (s : ByteArray) : nsize (l ++ [s]) = nsize l + (s.size + 1) := by
  unfold nsize; simp; omega

set_option maxRecDepth 100000 in
set_option maxHeartbeats 1000000 in
theorem name_check (w : World) (A : Option Addr) (n c : Nat) (l : List ByteArray) (B : Nat) (h : Rd strR w B A n c l) :
    Calls Tryd.prog 57 #[.slice A n c] w fun e w' => e = .returned (errV (nameErr l)) ∧ w' = w := by
  have hm := h.max
  have hcap := h.cap
  unfold maxLen at hm
  have H := hid h
  clear h
  go_enter Tryd.func57, Tryd.ntmps57
  go_wp2
  go_loop [3, 5, 8] (fun v3 v5 v8 => ∃ (k : Nat) (s : Int), k ≤ n ∧ v8 = .int .i64 (k : Int) ∧ v3 = .int .i64 s ∧ s = min (nsize (l.take k) : Int) 1073741824 ∧ (l.take k).all labelOk = true) (fun _ _ v => n - (intOf v).toNat)
  case atStart => exact ⟨0, 1, by omega, rfl, rfl, by simp [nsize]; omega, by simp⟩
  case round =>
    obtain ⟨k, s, hk, rfl, rfl, hs, hall⟩ := hrel
    have sb : s ≤ 1073741824 := by omega
    have sb0 : 0 ≤ s := by omega
    have HS := hid hs
    have HALL := hid hall
    clear hs hall
    by_cases hlt : k < n
    · obtain ⟨b, off, rfl, _, hc, hsz⟩ := H.out.str k hlt
      have hkl : k < l.length := by rw [H.out.len]; exact hlt
      have htk : l.take (k + 1) = l.take k ++ [l[k]] := List.take_succ_eq_append_getElem hkl
      have HTK := hid htk
      obtain ⟨x, hx⟩ : ∃ x, l[k] = x := ⟨_, rfl⟩
      rw [hx] at hc hsz
      have HX := hid hx
      clear htk hx
      have hkz : (k : Int) < (n : Int) := by omega
      have ways : x.size < 1 ∨ (1 ≤ x.size ∧ 63 < x.size) ∨ (1 ≤ x.size ∧ x.size ≤ 63) := by omega
      rcases ways with hb | ⟨hb, hb'⟩ | ⟨hb, hb'⟩
      · have hr : nameErr l = 3 := by
          unfold nameErr
          rw [if_neg]
          intro h
          have := List.all_eq_true.1 h x (by rw [← HX.out]; exact List.getElem_mem _)
          unfold labelOk at this
          simp at this
          omega
        have HR := hid hr
        clear hr
        go_wp2
        go_ret
        exact ⟨by rw [HR.out]; rfl, rfl⟩
      · have hr : nameErr l = 3 := by
          unfold nameErr
          rw [if_neg]
          intro h
          have := List.all_eq_true.1 h x (by rw [← HX.out]; exact List.getElem_mem _)
          unfold labelOk at this
          simp at this
          omega
        have HR := hid hr
        clear hr
        go_wp2
        go_ret
        exact ⟨by rw [HR.out]; rfl, rfl⟩
      · have hall' : (l.take (k + 1)).all labelOk = true := by
          rw [HTK.out, List.all_append, HALL.out, HX.out]
          unfold labelOk
          simp [hb, hb']
        have hsn : nsize (l.take (k + 1)) = nsize (l.take k) + (x.size + 1) := by rw [HTK.out, nsize_snoc, HX.out]
        have HALL' := hid hall'
        have HSN := hid hsn
        clear hall' hsn
        by_cases hbig : (1073741824 : Int) < s + ((x.size : Int) + 1)
        · go_wp2
          go_round
          case rel => exact ⟨k + 1, 1073741824, by omega, by go_num, rfl, by rw [HSN.out]; have := HS.out; omega, HALL'.out⟩
          case measure => simp [intOf]; omega
        · go_wp2
          go_round
          case rel => exact ⟨k + 1, s + ((x.size : Int) + 1), by omega, by go_num, rfl, by rw [HSN.out]; have := HS.out; omega, HALL'.out⟩
          case measure => simp [intOf]; omega
    · have hkn : l.take k = l := List.take_of_length_le (by rw [H.out.len]; omega)
      have hS : s = min (nsize l : Int) 1073741824 := by have := HS.out; rwa [hkn] at this
      have hA : l.all labelOk = true := by have := HALL.out; rwa [hkn] at this
      by_cases hbig : 255 < s
      · have hr : nameErr l = 5 := by unfold nameErr; rw [if_pos hA, if_neg (by omega)]
        have HR := hid hr
        clear hr hkn hS hA
        go_wp2
        go_ret
        exact ⟨by rw [HR.out]; rfl, rfl⟩
      · have hr : nameErr l = 0 := by unfold nameErr; rw [if_pos hA, if_pos (by omega)]
        have HR := hid hr
        clear hr hkn hS hA
        go_wp2
        go_ret
        exact ⟨by rw [HR.out]; rfl, rfl⟩

/-! lower -/
def lowB (b : UInt8) : UInt8 := if 65 ≤ b.toNat ∧ b.toNat ≤ 90 then UInt8.ofNat (b.toNat + 32) else b
theorem lowB_nat (b : UInt8) : ((lowB b).toNat : Int) = if 65 ≤ b.toNat ∧ b.toNat ≤ 90 then (b.toNat : Int) + 32 else (b.toNat : Int) := by
  unfold lowB
  split
  · rw [UInt8.toNat_ofNat', Nat.mod_eq_of_lt (by omega)]; simp
  · rfl
/-! small -/
/-- a block with Go's mark behind its cells: what '[]byte(s)' lays -/
def BlkM (w : World) (g : Nat) (t : TypeId) (cs : Array Value) : Prop := w.heap[g]? = some (.cells cs t (cs.size, cs.size + 1))
section
variable {w w' : World} {g : Nat} {t : TypeId} {cs : Array Value}
theorem BlkM.lt (h : BlkM w g t cs) : g < w.heap.size := by
  rcases Nat.lt_or_ge g w.heap.size with hlt | hge
  · exact hlt
  · unfold BlkM at h; rw [Array.getElem?_eq_none hge] at h; cases h
theorem BlkM.cell (h : BlkM w g t cs) (i : Nat) : w.cell? ⟨g, i, none⟩ = cs[i]? := by
  unfold BlkM at h
  simp [World.cell?, h]
theorem BlkM.frozen (h : BlkM w g t cs) (i : Nat) (hi : i < cs.size) : w.frozen? ⟨g, i, none⟩ = false := by
  unfold BlkM at h
  simp [World.frozen?, h]
  omega
theorem BlkM.set (h : BlkM w g t cs) (i : Nat) (u : Value) : BlkM (w.setCell ⟨g, i, none⟩ u) g t (cs.setIfInBounds i u) := by
  unfold BlkM at h ⊢
  simp [World.setCell, Array.getElem?_modify, h]
theorem BlkM.drew (h : BlkM w g t cs) : BlkM w.drew g t cs := h
theorem BlkM.new (w : World) (t : TypeId) (cs : Array Value) : BlkM (w.alloc (.cells cs t (cs.size, cs.size + 1))) w.heap.size t cs := heap_alloc_new w _
end
def smallL (l : List UInt8) : List UInt8 := l.map lowB
def smallS (s : ByteArray) : ByteArray := ⟨(smallL s.data.toList).toArray⟩
theorem smallS_size (s : ByteArray) : (smallS s).size = s.size := by
  show ((smallL s.data.toList).toArray).size = s.data.size
  simp [smallL]
/-- the first k of them small -/
def smallK (l : List UInt8) (k : Nat) : List UInt8 := smallL (l.take k) ++ l.drop k
theorem smallK_get (l : List UInt8) (k : Nat) (h : k < l.length) : (smallK l k)[k]? = some l[k] := by
  unfold smallK smallL
  rw [List.getElem?_append_right (by simp; omega)]
  simp [Nat.min_eq_left (Nat.le_of_lt h), h]
theorem smallK_succ (l : List UInt8) (k : Nat) (h : k < l.length) : smallK l (k + 1) = (smallK l k).set k (lowB l[k]) := by
  unfold smallK smallL
  rw [List.take_succ_eq_append_getElem h, List.map_append, List.set_append_right _ _ (by simp; omega), List.length_map, List.length_take, Nat.min_eq_left (by omega), Nat.sub_self, List.drop_eq_getElem_cons h, List.set_cons_zero, List.append_assoc]
  rfl
theorem smallK_len (l : List UInt8) (k : Nat) : (smallK l k).length = l.length := by simp [smallK, smallL]; omega
theorem take_set_eq {α : Type} (l : List α) (n k : Nat) (x : α) (h : k < n) : (l.set k x).take n = (l.take n).set k x := by
  exact List.take_set

end Go.Proofs.YthccknobnpbdeaaDoor
/- Names as they are sent, in plain Lean: what is read at a place, what is sent, what is packed. No function of the program. -/
namespace Go.Proofs.YthccknobnpbdeaaDoor
set_option linter.unusedVariables false
set_option linter.unusedSimpArgs false

/-! what is read at a place of a message -/
def segB (m : List UInt8) (o n : Nat) : ByteArray := ⟨((m.drop o).take n).toArray⟩
theorem segB_size (m : List UInt8) (o n : Nat) (h : o + n ≤ m.length) : (segB m o n).size = n := by
  show (((m.drop o).take n).toArray).size = n
  simp; omega
theorem segB_app (m k : List UInt8) (o n : Nat) (h : o + n ≤ m.length) : segB (m ++ k) o n = segB m o n := by
  unfold segB
  rw [List.drop_append_of_le_length (by omega), List.take_append_of_le_length (by simp; omega)]

/-- from a place on: what is wrong, the labels, the place behind -/
def nm (m : List UInt8) (low at_ size : Nat) : Int × List ByteArray × Nat :=
  if h : at_ < m.length then
    if m[at_].toNat = 0 then (0, [], at_ + 1)
    else if 192 ≤ m[at_].toNat then
      if h1 : at_ + 1 < m.length then
        if (m[at_].toNat - 192) * 256 + m[at_ + 1].toNat < low then
          let t := nm m ((m[at_].toNat - 192) * 256 + m[at_ + 1].toNat) ((m[at_].toNat - 192) * 256 + m[at_ + 1].toNat) size
          (t.1, t.2.1, at_ + 2)
        else (4, [], 0)
      else (2, [], 0)
    else if 63 < m[at_].toNat then (3, [], 0)
    else if at_ + 1 + m[at_].toNat ≤ m.length then
      if size + m[at_].toNat + 1 ≤ 255 then
        let t := nm m low (at_ + 1 + m[at_].toNat) (size + m[at_].toNat + 1)
        (t.1, segB m (at_ + 1) m[at_].toNat :: t.2.1, t.2.2)
      else (5, [], 0)
    else (2, [], 0)
  else (2, [], 0)
termination_by (low, m.length - at_)

/-- the same, as a relation: read without a fault -/
inductive Nm (m : List UInt8) : Nat → Nat → List ByteArray → Nat → Prop
  | zero {low at_ : Nat} {b : UInt8} (h : m[at_]? = some b) (h0 : b.toNat = 0) : Nm m low at_ [] (at_ + 1)
  | ptr {low at_ to : Nat} {b c : UInt8} {l : List ByteArray} {nx : Nat} (h : m[at_]? = some b) (h0 : 192 ≤ b.toNat) (h1 : m[at_ + 1]? = some c) (ht : (b.toNat - 192) * 256 + c.toNat = to) (hlt : to < low) (hn : Nm m to to l nx) : Nm m low at_ l (at_ + 2)
  | lab {low at_ : Nat} {b : UInt8} {l : List ByteArray} {nx : Nat} (h : m[at_]? = some b) (h1 : 1 ≤ b.toNat) (h2 : b.toNat ≤ 63) (hs : at_ + 1 + b.toNat ≤ m.length) (hn : Nm m low (at_ + 1 + b.toNat) l nx) : Nm m low at_ (segB m (at_ + 1) b.toNat :: l) nx

def lsum (l : List ByteArray) : Nat := (l.map fun s => s.size + 1).sum
theorem lsum_cons (s : ByteArray) (l : List ByteArray) : lsum (s :: l) = s.size + 1 + lsum l := by simp [lsum]
theorem nsize_lsum (l : List ByteArray) : nsize l = lsum l + 1 := rfl

theorem nm_of (m : List UInt8) {low at_ : Nat} {l : List ByteArray} {nx : Nat} (h : Nm m low at_ l nx) : ∀ size, size + lsum l ≤ 255 → nm m low at_ size = (0, l, nx) := by
  induction h with
  | zero h h0 =>
    intro size _
    obtain ⟨a, rfl⟩ := List.getElem?_eq_some_iff.1 h
    rw [nm, dif_pos a, if_pos h0]
  | @ptr low at_ to b c l nx h h0 h1 ht hlt hn ih =>
    intro size hs
    obtain ⟨a, rfl⟩ := List.getElem?_eq_some_iff.1 h
    obtain ⟨a1, rfl⟩ := List.getElem?_eq_some_iff.1 h1
    rw [nm, dif_pos a, if_neg (by omega), if_pos h0, dif_pos a1, if_pos (by omega)]
    simp only [ht]
    rw [ih size hs]
  | @lab low at_ b l nx h h1 h2 hsz hn ih =>
    intro size hs
    obtain ⟨a, rfl⟩ := List.getElem?_eq_some_iff.1 h
    rw [lsum_cons, segB_size _ _ _ (by omega)] at hs
    rw [nm, dif_pos a, if_neg (by omega), if_neg (by omega), if_neg (by omega), if_pos hsz, if_pos (by omega)]
    simp only []
    rw [ih _ (by omega)]

theorem of_nm (m : List UInt8) (low at_ size : Nat) (hs : size ≤ 255) : (nm m low at_ size).1 = 0 → Nm m low at_ (nm m low at_ size).2.1 (nm m low at_ size).2.2 ∧ size + lsum (nm m low at_ size).2.1 ≤ 255 := by
  induction low, at_, size using nm.induct (m := m) with
  | case1 low at_ size h h0 =>
    rw [nm, dif_pos h, if_pos h0]
    exact fun _ => ⟨.zero (List.getElem?_eq_getElem h) h0, hs⟩
  | case2 low at_ size h h0 h1 h2 h3 ih =>
    rw [nm, dif_pos h, if_neg h0, if_pos h1, dif_pos h2, if_pos h3]
    intro e
    obtain ⟨a, b⟩ := ih hs e
    exact ⟨.ptr (List.getElem?_eq_getElem h) h1 (List.getElem?_eq_getElem h2) rfl h3 a, b⟩
  | case3 low at_ size h h0 h1 h2 h3 =>
    rw [nm, dif_pos h, if_neg h0, if_pos h1, dif_pos h2, if_neg h3]
    intro e; cases e
  | case4 low at_ size h h0 h1 h2 =>
    rw [nm, dif_pos h, if_neg h0, if_pos h1, dif_neg h2]
    intro e; cases e
  | case5 low at_ size h h0 h1 h2 =>
    rw [nm, dif_pos h, if_neg h0, if_neg h1, if_pos h2]
    intro e; cases e
  | case6 low at_ size h h0 h1 h2 h3 h4 ih =>
    rw [nm, dif_pos h, if_neg h0, if_neg h1, if_neg h2, if_pos h3, if_pos h4]
    intro e
    obtain ⟨a, b⟩ := ih (by omega) e
    refine ⟨.lab (List.getElem?_eq_getElem h) (by omega) (by omega) h3 a, ?_⟩
    show size + lsum (_ :: _) ≤ 255
    rw [lsum_cons, segB_size _ _ _ (by omega)]
    omega
  | case7 low at_ size h h0 h1 h2 h3 h4 =>
    rw [nm, dif_pos h, if_neg h0, if_neg h1, if_neg h2, if_pos h3, if_neg h4]
    intro e; cases e
  | case8 low at_ size h h0 h1 h2 h3 =>
    rw [nm, dif_pos h, if_neg h0, if_neg h1, if_neg h2, if_neg h3]
    intro e; cases e
  | case9 low at_ size h =>
    rw [nm, dif_neg h]
    intro e; cases e

theorem Nm.app {m : List UInt8} {low at_ : Nat} {l : List ByteArray} {nx : Nat} (h : Nm m low at_ l nx) (k : List UInt8) : Nm (m ++ k) low at_ l nx := by
  induction h with
  | zero h h0 => exact .zero (by rw [List.getElem?_append_left (List.getElem?_eq_some_iff.1 h).1]; exact h) h0
  | ptr h h0 h1 ht hlt hn ih =>
    exact .ptr (by rw [List.getElem?_append_left (List.getElem?_eq_some_iff.1 h).1]; exact h) h0 (by rw [List.getElem?_append_left (List.getElem?_eq_some_iff.1 h1).1]; exact h1) ht hlt ih
  | @lab low at_ b l nx h h1 h2 hs hn ih =>
    rw [← segB_app m k _ _ hs]
    exact .lab (by rw [List.getElem?_append_left (List.getElem?_eq_some_iff.1 h).1]; exact h) h1 h2 (by simp; omega) ih
theorem Nm.lt {m : List UInt8} {low at_ : Nat} {l : List ByteArray} {nx : Nat} (h : Nm m low at_ l nx) : at_ < nx ∧ nx ≤ m.length ∧ at_ < m.length := by
  induction h with
  | zero h h0 => have := (List.getElem?_eq_some_iff.1 h).1; omega
  | ptr h h0 h1 ht hlt hn ih => have := (List.getElem?_eq_some_iff.1 h1).1; omega
  | lab h h1 h2 hs hn ih => have := (List.getElem?_eq_some_iff.1 h).1; omega
theorem Nm.ok {m : List UInt8} {low at_ : Nat} {l : List ByteArray} {nx : Nat} (h : Nm m low at_ l nx) : l.all labelOk = true := by
  induction h with
  | zero h h0 => rfl
  | ptr h h0 h1 ht hlt hn ih => exact ih
  | lab h h1 h2 hs hn ih =>
    rw [List.all_cons, ih, Bool.and_true]
    unfold labelOk
    rw [segB_size _ _ _ (by omega)]
    simp [h1, h2]
/-- what stands lower may be led to from higher -/
theorem Nm.low {m : List UInt8} {low at_ : Nat} {l : List ByteArray} {nx : Nat} (h : Nm m low at_ l nx) : ∀ low', low ≤ low' → Nm m low' at_ l nx := by
  induction h with
  | zero h h0 => exact fun _ _ => .zero h h0
  | ptr h h0 h1 ht hlt hn ih => exact fun low' hl => .ptr h h0 h1 ht (by omega) hn
  | lab h h1 h2 hs hn ih => exact fun low' hl => .lab h h1 h2 hs (ih low' hl)

/-! one step of it -/
section
variable {m : List UInt8} {low at_ size : Nat} {x : UInt8}
theorem nm_end (h : m.length ≤ at_) : nm m low at_ size = (2, [], 0) := by rw [nm, dif_neg (by omega)]
theorem nm_zero (h : m[at_]? = some x) (h0 : x.toNat = 0) : nm m low at_ size = (0, [], at_ + 1) := by
  obtain ⟨a, rfl⟩ := List.getElem?_eq_some_iff.1 h
  rw [nm, dif_pos a, if_pos h0]
theorem nm_ptr {y : UInt8} {to : Nat} (h : m[at_]? = some x) (h0 : 192 ≤ x.toNat) (h1 : m[at_ + 1]? = some y) (ht : (x.toNat - 192) * 256 + y.toNat = to) :
    nm m low at_ size = if to < low then ((nm m to to size).1, (nm m to to size).2.1, at_ + 2) else (4, [], 0) := by
  obtain ⟨a, rfl⟩ := List.getElem?_eq_some_iff.1 h
  obtain ⟨b, rfl⟩ := List.getElem?_eq_some_iff.1 h1
  rw [nm, dif_pos a, if_neg (by omega), if_pos h0, dif_pos b]
  subst ht
  rfl
theorem nm_ptr_short (h : m[at_]? = some x) (h0 : 192 ≤ x.toNat) (h1 : m.length ≤ at_ + 1) : nm m low at_ size = (2, [], 0) := by
  obtain ⟨a, rfl⟩ := List.getElem?_eq_some_iff.1 h
  rw [nm, dif_pos a, if_neg (by omega), if_pos h0, dif_neg (by omega)]
theorem nm_big (h : m[at_]? = some x) (h0 : 63 < x.toNat) (h1 : x.toNat < 192) : nm m low at_ size = (3, [], 0) := by
  obtain ⟨a, rfl⟩ := List.getElem?_eq_some_iff.1 h
  rw [nm, dif_pos a, if_neg (by omega), if_neg (by omega), if_pos h0]
theorem nm_lab (h : m[at_]? = some x) (h0 : 1 ≤ x.toNat) (h1 : x.toNat ≤ 63) (h2 : at_ + 1 + x.toNat ≤ m.length) (h3 : size + x.toNat + 1 ≤ 255) :
    nm m low at_ size = ((nm m low (at_ + 1 + x.toNat) (size + x.toNat + 1)).1, segB m (at_ + 1) x.toNat :: (nm m low (at_ + 1 + x.toNat) (size + x.toNat + 1)).2.1, (nm m low (at_ + 1 + x.toNat) (size + x.toNat + 1)).2.2) := by
  obtain ⟨a, rfl⟩ := List.getElem?_eq_some_iff.1 h
  rw [nm, dif_pos a, if_neg (by omega), if_neg (by omega), if_neg (by omega), if_pos h2, if_pos h3]
theorem nm_lab_long (h : m[at_]? = some x) (h0 : 1 ≤ x.toNat) (h1 : x.toNat ≤ 63) (h2 : at_ + 1 + x.toNat ≤ m.length) (h3 : 255 < size + x.toNat + 1) : nm m low at_ size = (5, [], 0) := by
  obtain ⟨a, rfl⟩ := List.getElem?_eq_some_iff.1 h
  rw [nm, dif_pos a, if_neg (by omega), if_neg (by omega), if_neg (by omega), if_pos h2, if_neg (by omega)]
theorem nm_lab_short (h : m[at_]? = some x) (h0 : 1 ≤ x.toNat) (h1 : x.toNat ≤ 63) (h2 : m.length < at_ + 1 + x.toNat) : nm m low at_ size = (2, [], 0) := by
  obtain ⟨a, rfl⟩ := List.getElem?_eq_some_iff.1 h
  rw [nm, dif_pos a, if_neg (by omega), if_neg (by omega), if_neg (by omega), if_neg (by omega)]
end

/-- Read: what is wrong, the labels, the place behind -/
def rdN (m : List UInt8) (at_ : Int) : Int × List ByteArray × Int :=
  if at_ < 0 then (6, [], 0)
  else if (nm m at_.toNat at_.toNat 1).1 = 0 then (0, (nm m at_.toNat at_.toNat 1).2.1, ((nm m at_.toNat at_.toNat 1).2.2 : Int))
  else ((nm m at_.toNat at_.toNat 1).1, [], 0)
theorem rdN_ok {m : List UInt8} {at_ : Int} {l : List ByteArray} {nx : Int} : rdN m at_ = (0, l, nx) ↔ ∃ a k : Nat, at_ = a ∧ nx = k ∧ Nm m a a l k ∧ nameErr l = 0 := by
  unfold rdN
  constructor
  · intro h
    by_cases h0 : at_ < 0
    · rw [if_pos h0] at h; cases h
    · rw [if_neg h0] at h
      by_cases h1 : (nm m at_.toNat at_.toNat 1).1 = 0
      · rw [if_pos h1] at h
        obtain ⟨a, b⟩ := of_nm m _ _ _ (by omega) h1
        simp only [Prod.mk.injEq, true_and] at h
        obtain ⟨rfl, rfl⟩ := h
        refine ⟨_, _, by omega, rfl, a, ?_⟩
        unfold nameErr
        rw [if_pos a.ok, nsize_lsum, if_pos (by omega)]
      · rw [if_neg h1] at h
        simp only [Prod.mk.injEq] at h
        exact absurd h.1 h1
  · rintro ⟨a, k, rfl, rfl, h, hn⟩
    unfold nameErr at hn
    rw [if_pos h.ok, nsize_lsum] at hn
    have hs : 1 + lsum l ≤ 255 := by
      by_cases c : lsum l + 1 ≤ 255
      · omega
      · rw [if_neg c] at hn; cases hn
    have := nm_of m h 1 hs
    rw [if_neg (by omega), Int.toNat_natCast, this]
    rfl
theorem rdN_app {m : List UInt8} {at_ : Int} {l : List ByteArray} {nx : Int} (h : rdN m at_ = (0, l, nx)) (k : List UInt8) : rdN (m ++ k) at_ = (0, l, nx) := by
  obtain ⟨a, n, rfl, rfl, h, hn⟩ := rdN_ok.1 h
  exact rdN_ok.2 ⟨a, n, rfl, rfl, h.app k, hn⟩

/-! what is sent -/
def sentL (l : List ByteArray) : List UInt8 := (l.map fun s => UInt8.ofNat s.size :: s.data.toList).flatten
theorem sentL_nil : sentL [] = [] := rfl
theorem sentL_cons (s : ByteArray) (l : List ByteArray) : sentL (s :: l) = UInt8.ofNat s.size :: s.data.toList ++ sentL l := by simp [sentL]
theorem sentL_append (l k : List ByteArray) : sentL (l ++ k) = sentL l ++ sentL k := by simp [sentL]
theorem sentL_len (l : List ByteArray) : (sentL l).length = lsum l := by
  induction l with
  | nil => rfl
  | cons s l ih =>
    rw [sentL_cons, lsum_cons, List.length_append, ih, List.length_cons, Array.length_toList]; rfl
theorem segB_mid (p q : List UInt8) (s : ByteArray) (o n : Nat) (ho : o = p.length) (hn : n = s.size) : segB (p ++ (s.data.toList ++ q)) o n = s := by
  subst ho hn
  unfold segB
  rw [List.drop_left, List.take_left' (by rw [Array.length_toList]; rfl)]
/-- labels behind a message, and then what can be read on -/
theorem Nm.sent {q : List UInt8} : ∀ (l : List ByteArray) (p : List UInt8) (low : Nat) (k : List ByteArray) (nx : Nat), l.all labelOk = true → Nm (p ++ sentL l ++ q) low (p.length + (sentL l).length) k nx → Nm (p ++ sentL l ++ q) low p.length (l ++ k) nx := by
  intro l
  induction l with
  | nil => intro p low k nx _ h; simpa [sentL_nil] using h
  | cons s l ih =>
    intro p low k nx hl h
    rw [List.all_cons, Bool.and_eq_true] at hl
    obtain ⟨hs, hl⟩ := hl
    unfold labelOk at hs
    simp only [Bool.and_eq_true, decide_eq_true_eq] at hs
    have hb : (UInt8.ofNat s.size).toNat = s.size := by rw [UInt8.toNat_ofNat']; omega
    have hlen : s.data.toList.length = s.size := by rw [Array.length_toList]; rfl
    have e : p ++ sentL (s :: l) ++ q = (p ++ UInt8.ofNat s.size :: s.data.toList) ++ sentL l ++ q := by rw [sentL_cons]; simp
    have h' := h
    rw [e] at h'
    have h2 := ih (p ++ UInt8.ofNat s.size :: s.data.toList) low k nx hl (by
      have : p.length + (sentL (s :: l)).length = (p ++ UInt8.ofNat s.size :: s.data.toList).length + (sentL l).length := by rw [sentL_cons]; simp; omega
      rw [← this]; exact h')
    rw [← e] at h2
    have hg : (p ++ sentL (s :: l) ++ q)[p.length]? = some (UInt8.ofNat s.size) := by rw [sentL_cons]; simp
    have h3 := Nm.lab (m := p ++ sentL (s :: l) ++ q) (low := low) (at_ := p.length) hg (by omega) (by omega) (by rw [hb, sentL_cons]; simp; omega) (l := l ++ k) (nx := nx) (by
      have : (p ++ UInt8.ofNat s.size :: s.data.toList).length = p.length + 1 + (UInt8.ofNat s.size).toNat := by rw [hb]; simp; omega
      rw [← this]; exact h2)
    have hseg : segB (p ++ sentL (s :: l) ++ q) (p.length + 1) (UInt8.ofNat s.size).toNat = s := by
      rw [hb]
      have : p ++ sentL (s :: l) ++ q = (p ++ [UInt8.ofNat s.size]) ++ (s.data.toList ++ (sentL l ++ q)) := by rw [sentL_cons]; simp
      rw [this]
      exact segB_mid _ _ _ _ _ (by simp) rfl
    rw [hseg] at h3
    exact h3

/-! Pack -/
def findS (m : List UInt8) (n : List ByteArray) : List Int → Int
  | [] => -1
  | s :: ss => if s ≤ 16383 ∧ (rdN m s).1 = 0 ∧ (rdN m s).2.1 = n then s else findS m n ss
theorem findS_or (m : List UInt8) (n : List ByteArray) (ss : List Int) : findS m n ss = -1 ∨ (0 ≤ findS m n ss ∧ findS m n ss ≤ 16383 ∧ ∃ nx, rdN m (findS m n ss) = (0, n, nx)) := by
  induction ss with
  | nil => exact .inl rfl
  | cons s ss ih =>
    rw [findS]
    by_cases h : s ≤ 16383 ∧ (rdN m s).1 = 0 ∧ (rdN m s).2.1 = n
    · rw [if_pos h]
      have hr : rdN m s = (0, n, (rdN m s).2.2) := by rw [← h.2.1, ← h.2.2]
      obtain ⟨a, _, rfl, _⟩ := rdN_ok.1 hr
      exact .inr ⟨by omega, h.1, _, hr⟩
    · rw [if_neg h]; exact ih
theorem findS_app (m : List UInt8) (n : List ByteArray) (s t : List Int) : findS m n (s ++ t) = if 0 ≤ findS m n s then findS m n s else findS m n t := by
  induction s with
  | nil => simp [findS]
  | cons a s ih =>
    rw [List.cons_append, findS, findS]
    by_cases h : a ≤ 16383 ∧ (rdN m a).1 = 0 ∧ (rdN m a).2.1 = n
    · rw [if_pos h, if_pos h]
      have hr : rdN m a = (0, n, (rdN m a).2.2) := by rw [← h.2.1, ← h.2.2]
      obtain ⟨b, _, rfl, _⟩ := rdN_ok.1 hr
      rw [if_pos (by omega)]
    · rw [if_neg h, if_neg h, ih]
def ptrB (p : Int) : List UInt8 := [UInt8.ofNat (192 + p.toNat / 256), UInt8.ofNat (p.toNat % 256)]
/-- the message, and the starts -/
def packL (m : List UInt8) (starts : List Int) : List ByteArray → List UInt8 → List Int → List UInt8 × List Int
  | [], out, all => (out ++ [0], all)
  | s :: n, out, all =>
    if 0 ≤ findS m (s :: n) starts then (out ++ ptrB (findS m (s :: n) starts), all)
    else packL m starts n (out ++ sentL [s]) (if out.length ≤ 16383 then all ++ [(out.length : Int)] else all)
theorem nameErr_zero {l : List ByteArray} : nameErr l = 0 ↔ l.all labelOk = true ∧ nsize l ≤ 255 := by
  unfold nameErr
  by_cases h : l.all labelOk = true
  · rw [if_pos h]
    by_cases h2 : nsize l ≤ 255
    · rw [if_pos h2]; simp [h, h2]
    · rw [if_neg h2]; simp [h2]
  · rw [if_neg h]; simp [h]
theorem nameErr_drop {l : List ByteArray} (h : nameErr l = 0) (i : Nat) : nameErr (l.drop i) = 0 := by
  rw [nameErr_zero] at h ⊢
  refine ⟨List.all_eq_true.2 fun x hx => List.all_eq_true.1 h.1 x (List.mem_of_mem_drop hx), ?_⟩
  have h2 := h.2
  rw [nsize_lsum] at h2 ⊢
  have : lsum l = lsum (l.take i) + lsum (l.drop i) := by
    rw [← sentL_len, ← sentL_len, ← sentL_len, ← List.length_append, ← sentL_append, List.take_append_drop]
  omega
/-- what is laid behind the message -/
def packT (m : List UInt8) (starts : List Int) : List ByteArray → List UInt8
  | [] => [0]
  | s :: n => if 0 ≤ findS m (s :: n) starts then ptrB (findS m (s :: n) starts) else sentL [s] ++ packT m starts n
/-- the new starts -/
def packN (m : List UInt8) (starts : List Int) : List ByteArray → Nat → List Int
  | [], _ => []
  | s :: n, k => if 0 ≤ findS m (s :: n) starts then [] else if k ≤ 16383 then (k : Int) :: packN m starts n (k + s.size + 1) else []
theorem packN_far (m : List UInt8) (starts : List Int) (n : List ByteArray) (k : Nat) (h : 16383 < k) : packN m starts n k = [] := by
  cases n with
  | nil => rfl
  | cons s n =>
    rw [packN]
    split
    · rfl
    · rw [if_neg (by omega)]
theorem sentL_one (s : ByteArray) : (sentL [s]).length = s.size + 1 := by rw [sentL_len]; simp [lsum]
theorem packL_eq (m : List UInt8) (starts : List Int) (n : List ByteArray) : ∀ out all, packL m starts n out all = (out ++ packT m starts n, all ++ packN m starts n out.length) := by
  induction n with
  | nil => intro out all; simp [packL, packT, packN]
  | cons s n ih =>
    intro out all
    rw [packL, packT, packN]
    by_cases h : 0 ≤ findS m (s :: n) starts
    · rw [if_pos h, if_pos h, if_pos h, List.append_nil]
    · rw [if_neg h, if_neg h, if_neg h, ih, List.append_assoc, List.length_append, sentL_one]
      by_cases h2 : out.length ≤ 16383
      · rw [if_pos h2, if_pos h2]; simp [Nat.add_assoc]
      · rw [if_neg h2, if_neg h2, packN_far _ _ _ _ (by omega)]
theorem packT_len (m : List UInt8) (starts : List Int) (n : List ByteArray) (h : n.all labelOk = true) : (packT m starts n).length ≤ lsum n + 1 ∧ 1 ≤ (packT m starts n).length := by
  induction n with
  | nil => simp [packT, lsum]
  | cons s n ih =>
    rw [List.all_cons, Bool.and_eq_true] at h
    have := ih h.2
    have h1 := h.1
    unfold labelOk at h1
    simp only [Bool.and_eq_true, decide_eq_true_eq] at h1
    rw [packT, lsum_cons]
    split
    · simp only [ptrB, List.length_cons, List.length_nil]; omega
    · rw [List.length_append, sentL_one]; omega
theorem packT_nm (m : List UInt8) (starts : List Int) (n : List ByteArray) : ∀ (q : List UInt8) (low : Nat), n.all labelOk = true → m.length ≤ low → Nm (m ++ q ++ packT m starts n) low (m ++ q).length n ((m ++ q).length + (packT m starts n).length) := by
  induction n with
  | nil =>
    intro q low _ _
    exact .zero (b := 0) (by simp [packT]) rfl
  | cons s n ih =>
    intro q low h hl
    rw [packT]
    by_cases hf : 0 ≤ findS m (s :: n) starts
    · rw [if_pos hf]
      rcases findS_or m (s :: n) starts with h0 | ⟨_, h1, nx, h2⟩
      · omega
      · obtain ⟨a, k, ha, _, hn, _⟩ := rdN_ok.1 h2
        rw [ha] at h1 ⊢
        have hlt := hn.lt
        have e0 : (ptrB (a : Int)) = [UInt8.ofNat (192 + a / 256), UInt8.ofNat (a % 256)] := by simp [ptrB]
        have b0 : (UInt8.ofNat (192 + a / 256)).toNat = 192 + a / 256 := by rw [UInt8.toNat_ofNat']; omega
        have b1 : (UInt8.ofNat (a % 256)).toNat = a % 256 := by rw [UInt8.toNat_ofNat']; omega
        rw [e0]
        refine .ptr (b := UInt8.ofNat (192 + a / 256)) (c := UInt8.ofNat (a % 256)) (to := a) (nx := k) (by simp) (by omega) ?_ (by omega) (by omega) ?_
        · rw [List.getElem?_append_right (by omega)]; simp
        · rw [List.append_assoc]; exact hn.app _
    · rw [if_neg hf]
      rw [List.all_cons, Bool.and_eq_true] at h
      have h2 := ih (q ++ sentL [s]) low h.2 hl
      have e : m ++ q ++ (sentL [s] ++ packT m starts n) = m ++ (q ++ sentL [s]) ++ packT m starts n := by simp
      have e2 : m ++ (q ++ sentL [s]) ++ packT m starts n = (m ++ q) ++ sentL [s] ++ packT m starts n := by simp
      have h3 := Nm.sent (q := packT m starts n) [s] (m ++ q) low n _ (by simp [h.1]) (by
        rw [← e2]
        have : (m ++ q).length + (sentL [s]).length = (m ++ (q ++ sentL [s])).length := by simp; omega
        rw [this]; exact h2)
      rw [e, e2]
      have e3 : (m ++ q).length + (sentL [s] ++ packT m starts n).length = (m ++ (q ++ sentL [s])).length + (packT m starts n).length := by simp; omega
      rw [e3]
      exact h3
/-- each new start is one -/
theorem packN_nm (m : List UInt8) (starts : List Int) (n : List ByteArray) : ∀ (q : List UInt8), n.all labelOk = true → ∀ i (hi : i < (packN m starts n (m ++ q).length).length), i ≤ n.length ∧ ∃ a : Nat, (packN m starts n (m ++ q).length)[i] = (a : Int) ∧ ∃ nx, Nm (m ++ q ++ packT m starts n) a a (n.drop i) nx := by
  induction n with
  | nil => intro q _ i hi; simp [packN] at hi
  | cons s n ih =>
    intro q h i hi
    have h0 := h
    by_cases hf : 0 ≤ findS m (s :: n) starts
    · simp [packN, hf] at hi
    · by_cases hk : (m ++ q).length ≤ 16383
      · have ep : packN m starts (s :: n) (m ++ q).length = ((m ++ q).length : Int) :: packN m starts n (m ++ (q ++ sentL [s])).length := by
          rw [packN, if_neg hf, if_pos hk]
          congr 2
          simp only [List.length_append, sentL_one]; omega
        cases i with
        | zero =>
          refine ⟨Nat.zero_le _, (m ++ q).length, by simp only [ep, List.getElem_cons_zero], (m ++ q).length + (packT m starts (s :: n)).length, ?_⟩
          exact packT_nm m starts (s :: n) q (m ++ q).length h (by simp)
        | succ i =>
          rw [List.all_cons, Bool.and_eq_true] at h
          have hi' : i < (packN m starts n (m ++ (q ++ sentL [s])).length).length := by rw [ep] at hi; simpa using hi
          obtain ⟨h1, a, h2, nx, h3⟩ := ih (q ++ sentL [s]) h.2 i hi'
          refine ⟨by simp; omega, a, by simp only [ep, List.getElem_cons_succ]; exact h2, nx, ?_⟩
          rw [packT, if_neg hf]
          have e : m ++ q ++ (sentL [s] ++ packT m starts n) = m ++ (q ++ sentL [s]) ++ packT m starts n := by simp
          rw [e]; exact h3
      · rw [packN_far _ _ _ _ (by omega)] at hi; simp at hi

/-! what the laws ask -/
theorem write_back (m : List UInt8) (n : List ByteArray) (h : nameErr n = 0) : rdN (m ++ sentL n ++ [0]) (m.length : Int) = (0, n, ((m ++ sentL n ++ [0]).length : Int)) := by
  have h' := nameErr_zero.1 h
  refine rdN_ok.2 ⟨m.length, _, rfl, rfl, ?_, h⟩
  have := Nm.sent (q := [0]) n m m.length [] (m.length + (sentL n).length + 1) h'.1 (.zero (b := 0) (by rw [List.getElem?_append_right (by simp)]; simp) rfl)
  simpa [Nat.add_assoc] using this
theorem pack_back (m : List UInt8) (starts : List Int) (n : List ByteArray) (h : nameErr n = 0) : rdN (m ++ packT m starts n) (m.length : Int) = (0, n, ((m ++ packT m starts n).length : Int)) := by
  have h' := nameErr_zero.1 h
  refine rdN_ok.2 ⟨m.length, _, rfl, rfl, ?_, h⟩
  have := packT_nm m starts n [] m.length h'.1 (Nat.le_refl _)
  simpa using this
theorem pack_starts (m : List UInt8) (starts : List Int) (n : List ByteArray) (h : nameErr n = 0) (i : Nat) (hi : i < (packN m starts n m.length).length) : i ≤ n.length ∧ ∃ nx, rdN (m ++ packT m starts n) (packN m starts n m.length)[i] = (0, n.drop i, nx) := by
  have h' := nameErr_zero.1 h
  have := packN_nm m starts n [] h'.1
  simp only [List.append_nil] at this
  obtain ⟨h1, a, h2, nx, h3⟩ := this i hi
  refine ⟨h1, nx, ?_⟩
  rw [h2]
  exact rdN_ok.2 ⟨a, nx, rfl, rfl, h3, nameErr_drop h i⟩
theorem packN_len (m : List UInt8) (starts : List Int) (n : List ByteArray) : ∀ k, (packN m starts n k).length ≤ n.length := by
  induction n with
  | nil => intro k; simp [packN]
  | cons s n ih =>
    intro k
    rw [packN]
    split
    · simp
    · split
      · simp; exact ih _
      · simp
end Go.Proofs.YthccknobnpbdeaaDoor
