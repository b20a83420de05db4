/- What every text of this seat rests on: small laws on worlds and values, no function of the program. -/
import Derived.Test.YtemgbfppdopfbaaDoorProg
import Derived.WalkKit
import Derived.Handy
import Derived.LaidEql
import Derived.WalkLawsBesides
import Derived.WalkSpells
import Derived.Outline
import Derived.Deep.Draws
namespace Go.Proofs.YtemgbfppdopfbaaDoor
open Go.RowKit

/-- an error of the program: nil (0), or its number -/
@[reducible] def errV (n : Int) : Value := if n = 0 then .nilIface else .iface 26 (.int .i64 n)

theorem hid {p : Prop} (h : p) : Hid p := h

/-- the world with more blocks behind, some draws on: what a call that changes nothing leaves -/
def ext (w : World) (os : Array Obj) (d : Nat) : World := { w with heap := w.heap ++ os, drawn := d }

theorem ext_of_below {w w' : World} (h : Below w.heap.size w w') : ∃ os d, w' = ext w os d := by
  refine ⟨w'.heap.extract w.heap.size w'.heap.size, w'.drawn, ?_⟩
  have hh : w'.heap = w.heap ++ w'.heap.extract w.heap.size w'.heap.size := by
    apply Array.ext_getElem?
    intro i
    by_cases hi : i < w.heap.size
    · rw [h.block i hi, Array.getElem?_append_left hi]
    · rw [Array.getElem?_append_right (by omega), Array.getElem?_extract]
      have := h.size
      split
      · congr 1; omega
      · rw [Array.getElem?_eq_none (by omega)]
  obtain ⟨heap, tape, drawn, os, output⟩ := w'
  have h1 := h.os
  have h2 := h.tape
  have h3 := h.output
  simp only at h1 h2 h3 hh
  subst h1 h2 h3
  unfold ext
  simp only [World.mk.injEq, and_self, and_true]
  exact hh

theorem below_ext (w : World) (os : Array Obj) (d : Nat) : Below w.heap.size w (ext w os d) :=
  ⟨rfl, rfl, rfl, by simp [ext], fun k hk => by simp [ext, Array.getElem?_append_left hk]⟩
theorem Below.ext {B : Nat} {w0 w : World} (h : Below B w0 w) (hB : B ≤ w.heap.size) (os : Array Obj) (d : Nat) : Below B w0 (ext w os d) :=
  h.trans ((below_ext w os d).mono hB)

@[go_sem] theorem size_ext (w : World) (os : Array Obj) (d : Nat) : (ext w os d).heap.size = w.heap.size + os.size := by simp [ext]
theorem heap_ext (w : World) (os : Array Obj) (d : Nat) {k : Nat} (h : k < w.heap.size) : (ext w os d).heap[k]? = w.heap[k]? := by
  simp [ext, Array.getElem?_append_left h]
@[go_sem] theorem cell_ext (w : World) (os : Array Obj) (d n i : Nat) (h : n < w.heap.size) : (ext w os d).cell? ⟨n, i, none⟩ = w.cell? ⟨n, i, none⟩ :=
  World.cell?_of_block (heap_ext w os d h)
@[go_sem] theorem frozen_ext (w : World) (os : Array Obj) (d n i : Nat) (h : n < w.heap.size) : (ext w os d).frozen? ⟨n, i, none⟩ = w.frozen? ⟨n, i, none⟩ :=
  World.frozen?_of_block (heap_ext w os d h)
@[go_sem] theorem setCell_ext (w : World) (os : Array Obj) (d n i : Nat) (v : Value) (h : n < w.heap.size) :
    (ext w os d).setCell ⟨n, i, none⟩ v = ext (w.setCell ⟨n, i, none⟩ v) os d := by
  unfold ext World.setCell
  congr 1
  apply Array.ext_getElem?
  intro k
  simp only [Array.getElem?_modify, Array.getElem?_append, Array.size_modify]
  by_cases hk : k < w.heap.size
  · simp [hk]
  · have : ¬ n = k := by omega
    simp [hk, this]
@[go_sem] theorem drew_ext (w : World) (os : Array Obj) (d : Nat) : (ext w os d).drew = ext w os (d + 1) := rfl

@[go_sem] theorem ext_drew (w : World) (os : Array Obj) (d : Nat) : ext w.drew os d = ext w os d := rfl
@[go_sem] theorem ext_drewN (w : World) (n : Nat) (os : Array Obj) (d : Nat) : ext (w.drewN n) os d = ext w os d := rfl

/-! a block that was there lies below the new ones: for the walk's simp, however many there are -/
@[go_sem] theorem ltA1 (n x1 : Nat) : (n < n + 1 + x1) = True := eq_true (by omega)
@[go_sem] theorem ltB1 (n m x1 : Nat) (h : n < m) : (n < m + x1) = True := eq_true (by omega)
@[go_sem] theorem ltA2 (n x1 x2 : Nat) : (n < n + 1 + x1 + x2) = True := eq_true (by omega)
@[go_sem] theorem ltB2 (n m x1 x2 : Nat) (h : n < m) : (n < m + x1 + x2) = True := eq_true (by omega)
@[go_sem] theorem ltA3 (n x1 x2 x3 : Nat) : (n < n + 1 + x1 + x2 + x3) = True := eq_true (by omega)
@[go_sem] theorem ltB3 (n m x1 x2 x3 : Nat) (h : n < m) : (n < m + x1 + x2 + x3) = True := eq_true (by omega)
@[go_sem] theorem ltA4 (n x1 x2 x3 x4 : Nat) : (n < n + 1 + x1 + x2 + x3 + x4) = True := eq_true (by omega)
@[go_sem] theorem ltB4 (n m x1 x2 x3 x4 : Nat) (h : n < m) : (n < m + x1 + x2 + x3 + x4) = True := eq_true (by omega)
@[go_sem] theorem ltA5 (n x1 x2 x3 x4 x5 : Nat) : (n < n + 1 + x1 + x2 + x3 + x4 + x5) = True := eq_true (by omega)
@[go_sem] theorem ltB5 (n m x1 x2 x3 x4 x5 : Nat) (h : n < m) : (n < m + x1 + x2 + x3 + x4 + x5) = True := eq_true (by omega)
@[go_sem] theorem ltA6 (n x1 x2 x3 x4 x5 x6 : Nat) : (n < n + 1 + x1 + x2 + x3 + x4 + x5 + x6) = True := eq_true (by omega)
@[go_sem] theorem ltB6 (n m x1 x2 x3 x4 x5 x6 : Nat) (h : n < m) : (n < m + x1 + x2 + x3 + x4 + x5 + x6) = True := eq_true (by omega)
@[go_sem] theorem ltA7 (n x1 x2 x3 x4 x5 x6 x7 : Nat) : (n < n + 1 + x1 + x2 + x3 + x4 + x5 + x6 + x7) = True := eq_true (by omega)
@[go_sem] theorem ltB7 (n m x1 x2 x3 x4 x5 x6 x7 : Nat) (h : n < m) : (n < m + x1 + x2 + x3 + x4 + x5 + x6 + x7) = True := eq_true (by omega)
@[go_sem] theorem ltA8 (n x1 x2 x3 x4 x5 x6 x7 x8 : Nat) : (n < n + 1 + x1 + x2 + x3 + x4 + x5 + x6 + x7 + x8) = True := eq_true (by omega)
@[go_sem] theorem ltB8 (n m x1 x2 x3 x4 x5 x6 x7 x8 : Nat) (h : n < m) : (n < m + x1 + x2 + x3 + x4 + x5 + x6 + x7 + x8) = True := eq_true (by omega)
@[go_sem] theorem ltA9 (n x1 x2 x3 x4 x5 x6 x7 x8 x9 : Nat) : (n < n + 1 + x1 + x2 + x3 + x4 + x5 + x6 + x7 + x8 + x9) = True := eq_true (by omega)
@[go_sem] theorem ltB9 (n m x1 x2 x3 x4 x5 x6 x7 x8 x9 : Nat) (h : n < m) : (n < m + x1 + x2 + x3 + x4 + x5 + x6 + x7 + x8 + x9) = True := eq_true (by omega)
@[go_sem] theorem ltA10 (n x1 x2 x3 x4 x5 x6 x7 x8 x9 x10 : Nat) : (n < n + 1 + x1 + x2 + x3 + x4 + x5 + x6 + x7 + x8 + x9 + x10) = True := eq_true (by omega)
@[go_sem] theorem ltB10 (n m x1 x2 x3 x4 x5 x6 x7 x8 x9 x10 : Nat) (h : n < m) : (n < m + x1 + x2 + x3 + x4 + x5 + x6 + x7 + x8 + x9 + x10) = True := eq_true (by omega)
@[go_sem] theorem ltA11 (n x1 x2 x3 x4 x5 x6 x7 x8 x9 x10 x11 : Nat) : (n < n + 1 + x1 + x2 + x3 + x4 + x5 + x6 + x7 + x8 + x9 + x10 + x11) = True := eq_true (by omega)
@[go_sem] theorem ltB11 (n m x1 x2 x3 x4 x5 x6 x7 x8 x9 x10 x11 : Nat) (h : n < m) : (n < m + x1 + x2 + x3 + x4 + x5 + x6 + x7 + x8 + x9 + x10 + x11) = True := eq_true (by omega)
@[go_sem] theorem ltA12 (n x1 x2 x3 x4 x5 x6 x7 x8 x9 x10 x11 x12 : Nat) : (n < n + 1 + x1 + x2 + x3 + x4 + x5 + x6 + x7 + x8 + x9 + x10 + x11 + x12) = True := eq_true (by omega)
@[go_sem] theorem ltB12 (n m x1 x2 x3 x4 x5 x6 x7 x8 x9 x10 x11 x12 : Nat) (h : n < m) : (n < m + x1 + x2 + x3 + x4 + x5 + x6 + x7 + x8 + x9 + x10 + x11 + x12) = True := eq_true (by omega)
@[go_sem] theorem ltA13 (n x1 x2 x3 x4 x5 x6 x7 x8 x9 x10 x11 x12 x13 : Nat) : (n < n + 1 + x1 + x2 + x3 + x4 + x5 + x6 + x7 + x8 + x9 + x10 + x11 + x12 + x13) = True := eq_true (by omega)
@[go_sem] theorem ltB13 (n m x1 x2 x3 x4 x5 x6 x7 x8 x9 x10 x11 x12 x13 : Nat) (h : n < m) : (n < m + x1 + x2 + x3 + x4 + x5 + x6 + x7 + x8 + x9 + x10 + x11 + x12 + x13) = True := eq_true (by omega)
@[go_sem] theorem ltA14 (n x1 x2 x3 x4 x5 x6 x7 x8 x9 x10 x11 x12 x13 x14 : Nat) : (n < n + 1 + x1 + x2 + x3 + x4 + x5 + x6 + x7 + x8 + x9 + x10 + x11 + x12 + x13 + x14) = True := eq_true (by omega)
@[go_sem] theorem ltB14 (n m x1 x2 x3 x4 x5 x6 x7 x8 x9 x10 x11 x12 x13 x14 : Nat) (h : n < m) : (n < m + x1 + x2 + x3 + x4 + x5 + x6 + x7 + x8 + x9 + x10 + x11 + x12 + x13 + x14) = True := eq_true (by omega)
@[go_sem] theorem ltA15 (n x1 x2 x3 x4 x5 x6 x7 x8 x9 x10 x11 x12 x13 x14 x15 : Nat) : (n < n + 1 + x1 + x2 + x3 + x4 + x5 + x6 + x7 + x8 + x9 + x10 + x11 + x12 + x13 + x14 + x15) = True := eq_true (by omega)
@[go_sem] theorem ltB15 (n m x1 x2 x3 x4 x5 x6 x7 x8 x9 x10 x11 x12 x13 x14 x15 : Nat) (h : n < m) : (n < m + x1 + x2 + x3 + x4 + x5 + x6 + x7 + x8 + x9 + x10 + x11 + x12 + x13 + x14 + x15) = True := eq_true (by omega)
@[go_sem] theorem ltA16 (n x1 x2 x3 x4 x5 x6 x7 x8 x9 x10 x11 x12 x13 x14 x15 x16 : Nat) : (n < n + 1 + x1 + x2 + x3 + x4 + x5 + x6 + x7 + x8 + x9 + x10 + x11 + x12 + x13 + x14 + x15 + x16) = True := eq_true (by omega)
@[go_sem] theorem ltB16 (n m x1 x2 x3 x4 x5 x6 x7 x8 x9 x10 x11 x12 x13 x14 x15 x16 : Nat) (h : n < m) : (n < m + x1 + x2 + x3 + x4 + x5 + x6 + x7 + x8 + x9 + x10 + x11 + x12 + x13 + x14 + x15 + x16) = True := eq_true (by omega)
@[go_sem] theorem ltA17 (n x1 x2 x3 x4 x5 x6 x7 x8 x9 x10 x11 x12 x13 x14 x15 x16 x17 : Nat) : (n < n + 1 + x1 + x2 + x3 + x4 + x5 + x6 + x7 + x8 + x9 + x10 + x11 + x12 + x13 + x14 + x15 + x16 + x17) = True := eq_true (by omega)
@[go_sem] theorem ltB17 (n m x1 x2 x3 x4 x5 x6 x7 x8 x9 x10 x11 x12 x13 x14 x15 x16 x17 : Nat) (h : n < m) : (n < m + x1 + x2 + x3 + x4 + x5 + x6 + x7 + x8 + x9 + x10 + x11 + x12 + x13 + x14 + x15 + x16 + x17) = True := eq_true (by omega)
@[go_sem] theorem ltA18 (n x1 x2 x3 x4 x5 x6 x7 x8 x9 x10 x11 x12 x13 x14 x15 x16 x17 x18 : Nat) : (n < n + 1 + x1 + x2 + x3 + x4 + x5 + x6 + x7 + x8 + x9 + x10 + x11 + x12 + x13 + x14 + x15 + x16 + x17 + x18) = True := eq_true (by omega)
@[go_sem] theorem ltB18 (n m x1 x2 x3 x4 x5 x6 x7 x8 x9 x10 x11 x12 x13 x14 x15 x16 x17 x18 : Nat) (h : n < m) : (n < m + x1 + x2 + x3 + x4 + x5 + x6 + x7 + x8 + x9 + x10 + x11 + x12 + x13 + x14 + x15 + x16 + x17 + x18) = True := eq_true (by omega)
@[go_sem] theorem ltA19 (n x1 x2 x3 x4 x5 x6 x7 x8 x9 x10 x11 x12 x13 x14 x15 x16 x17 x18 x19 : Nat) : (n < n + 1 + x1 + x2 + x3 + x4 + x5 + x6 + x7 + x8 + x9 + x10 + x11 + x12 + x13 + x14 + x15 + x16 + x17 + x18 + x19) = True := eq_true (by omega)
@[go_sem] theorem ltB19 (n m x1 x2 x3 x4 x5 x6 x7 x8 x9 x10 x11 x12 x13 x14 x15 x16 x17 x18 x19 : Nat) (h : n < m) : (n < m + x1 + x2 + x3 + x4 + x5 + x6 + x7 + x8 + x9 + x10 + x11 + x12 + x13 + x14 + x15 + x16 + x17 + x18 + x19) = True := eq_true (by omega)
@[go_sem] theorem ltA20 (n x1 x2 x3 x4 x5 x6 x7 x8 x9 x10 x11 x12 x13 x14 x15 x16 x17 x18 x19 x20 : Nat) : (n < n + 1 + x1 + x2 + x3 + x4 + x5 + x6 + x7 + x8 + x9 + x10 + x11 + x12 + x13 + x14 + x15 + x16 + x17 + x18 + x19 + x20) = True := eq_true (by omega)
@[go_sem] theorem ltB20 (n m x1 x2 x3 x4 x5 x6 x7 x8 x9 x10 x11 x12 x13 x14 x15 x16 x17 x18 x19 x20 : Nat) (h : n < m) : (n < m + x1 + x2 + x3 + x4 + x5 + x6 + x7 + x8 + x9 + x10 + x11 + x12 + x13 + x14 + x15 + x16 + x17 + x18 + x19 + x20) = True := eq_true (by omega)
@[go_sem] theorem ltA21 (n x1 x2 x3 x4 x5 x6 x7 x8 x9 x10 x11 x12 x13 x14 x15 x16 x17 x18 x19 x20 x21 : Nat) : (n < n + 1 + x1 + x2 + x3 + x4 + x5 + x6 + x7 + x8 + x9 + x10 + x11 + x12 + x13 + x14 + x15 + x16 + x17 + x18 + x19 + x20 + x21) = True := eq_true (by omega)
@[go_sem] theorem ltB21 (n m x1 x2 x3 x4 x5 x6 x7 x8 x9 x10 x11 x12 x13 x14 x15 x16 x17 x18 x19 x20 x21 : Nat) (h : n < m) : (n < m + x1 + x2 + x3 + x4 + x5 + x6 + x7 + x8 + x9 + x10 + x11 + x12 + x13 + x14 + x15 + x16 + x17 + x18 + x19 + x20 + x21) = True := eq_true (by omega)
@[go_sem] theorem ltA22 (n x1 x2 x3 x4 x5 x6 x7 x8 x9 x10 x11 x12 x13 x14 x15 x16 x17 x18 x19 x20 x21 x22 : Nat) : (n < n + 1 + x1 + x2 + x3 + x4 + x5 + x6 + x7 + x8 + x9 + x10 + x11 + x12 + x13 + x14 + x15 + x16 + x17 + x18 + x19 + x20 + x21 + x22) = True := eq_true (by omega)
@[go_sem] theorem ltB22 (n m x1 x2 x3 x4 x5 x6 x7 x8 x9 x10 x11 x12 x13 x14 x15 x16 x17 x18 x19 x20 x21 x22 : Nat) (h : n < m) : (n < m + x1 + x2 + x3 + x4 + x5 + x6 + x7 + x8 + x9 + x10 + x11 + x12 + x13 + x14 + x15 + x16 + x17 + x18 + x19 + x20 + x21 + x22) = True := eq_true (by omega)
@[go_sem] theorem ltA23 (n x1 x2 x3 x4 x5 x6 x7 x8 x9 x10 x11 x12 x13 x14 x15 x16 x17 x18 x19 x20 x21 x22 x23 : Nat) : (n < n + 1 + x1 + x2 + x3 + x4 + x5 + x6 + x7 + x8 + x9 + x10 + x11 + x12 + x13 + x14 + x15 + x16 + x17 + x18 + x19 + x20 + x21 + x22 + x23) = True := eq_true (by omega)
@[go_sem] theorem ltB23 (n m x1 x2 x3 x4 x5 x6 x7 x8 x9 x10 x11 x12 x13 x14 x15 x16 x17 x18 x19 x20 x21 x22 x23 : Nat) (h : n < m) : (n < m + x1 + x2 + x3 + x4 + x5 + x6 + x7 + x8 + x9 + x10 + x11 + x12 + x13 + x14 + x15 + x16 + x17 + x18 + x19 + x20 + x21 + x22 + x23) = True := eq_true (by omega)
@[go_sem] theorem ltA24 (n x1 x2 x3 x4 x5 x6 x7 x8 x9 x10 x11 x12 x13 x14 x15 x16 x17 x18 x19 x20 x21 x22 x23 x24 : Nat) : (n < n + 1 + x1 + x2 + x3 + x4 + x5 + x6 + x7 + x8 + x9 + x10 + x11 + x12 + x13 + x14 + x15 + x16 + x17 + x18 + x19 + x20 + x21 + x22 + x23 + x24) = True := eq_true (by omega)
@[go_sem] theorem ltB24 (n m x1 x2 x3 x4 x5 x6 x7 x8 x9 x10 x11 x12 x13 x14 x15 x16 x17 x18 x19 x20 x21 x22 x23 x24 : Nat) (h : n < m) : (n < m + x1 + x2 + x3 + x4 + x5 + x6 + x7 + x8 + x9 + x10 + x11 + x12 + x13 + x14 + x15 + x16 + x17 + x18 + x19 + x20 + x21 + x22 + x23 + x24) = True := eq_true (by omega)
@[go_sem] theorem ltA25 (n x1 x2 x3 x4 x5 x6 x7 x8 x9 x10 x11 x12 x13 x14 x15 x16 x17 x18 x19 x20 x21 x22 x23 x24 x25 : Nat) : (n < n + 1 + x1 + x2 + x3 + x4 + x5 + x6 + x7 + x8 + x9 + x10 + x11 + x12 + x13 + x14 + x15 + x16 + x17 + x18 + x19 + x20 + x21 + x22 + x23 + x24 + x25) = True := eq_true (by omega)
@[go_sem] theorem ltB25 (n m x1 x2 x3 x4 x5 x6 x7 x8 x9 x10 x11 x12 x13 x14 x15 x16 x17 x18 x19 x20 x21 x22 x23 x24 x25 : Nat) (h : n < m) : (n < m + x1 + x2 + x3 + x4 + x5 + x6 + x7 + x8 + x9 + x10 + x11 + x12 + x13 + x14 + x15 + x16 + x17 + x18 + x19 + x20 + x21 + x22 + x23 + x24 + x25) = True := eq_true (by omega)
@[go_sem] theorem ltA26 (n x1 x2 x3 x4 x5 x6 x7 x8 x9 x10 x11 x12 x13 x14 x15 x16 x17 x18 x19 x20 x21 x22 x23 x24 x25 x26 : Nat) : (n < n + 1 + x1 + x2 + x3 + x4 + x5 + x6 + x7 + x8 + x9 + x10 + x11 + x12 + x13 + x14 + x15 + x16 + x17 + x18 + x19 + x20 + x21 + x22 + x23 + x24 + x25 + x26) = True := eq_true (by omega)
@[go_sem] theorem ltB26 (n m x1 x2 x3 x4 x5 x6 x7 x8 x9 x10 x11 x12 x13 x14 x15 x16 x17 x18 x19 x20 x21 x22 x23 x24 x25 x26 : Nat) (h : n < m) : (n < m + x1 + x2 + x3 + x4 + x5 + x6 + x7 + x8 + x9 + x10 + x11 + x12 + x13 + x14 + x15 + x16 + x17 + x18 + x19 + x20 + x21 + x22 + x23 + x24 + x25 + x26) = True := eq_true (by omega)
@[go_sem] theorem ltA27 (n x1 x2 x3 x4 x5 x6 x7 x8 x9 x10 x11 x12 x13 x14 x15 x16 x17 x18 x19 x20 x21 x22 x23 x24 x25 x26 x27 : Nat) : (n < n + 1 + x1 + x2 + x3 + x4 + x5 + x6 + x7 + x8 + x9 + x10 + x11 + x12 + x13 + x14 + x15 + x16 + x17 + x18 + x19 + x20 + x21 + x22 + x23 + x24 + x25 + x26 + x27) = True := eq_true (by omega)
@[go_sem] theorem ltB27 (n m x1 x2 x3 x4 x5 x6 x7 x8 x9 x10 x11 x12 x13 x14 x15 x16 x17 x18 x19 x20 x21 x22 x23 x24 x25 x26 x27 : Nat) (h : n < m) : (n < m + x1 + x2 + x3 + x4 + x5 + x6 + x7 + x8 + x9 + x10 + x11 + x12 + x13 + x14 + x15 + x16 + x17 + x18 + x19 + x20 + x21 + x22 + x23 + x24 + x25 + x26 + x27) = True := eq_true (by omega)
@[go_sem] theorem ltA28 (n x1 x2 x3 x4 x5 x6 x7 x8 x9 x10 x11 x12 x13 x14 x15 x16 x17 x18 x19 x20 x21 x22 x23 x24 x25 x26 x27 x28 : Nat) : (n < n + 1 + x1 + x2 + x3 + x4 + x5 + x6 + x7 + x8 + x9 + x10 + x11 + x12 + x13 + x14 + x15 + x16 + x17 + x18 + x19 + x20 + x21 + x22 + x23 + x24 + x25 + x26 + x27 + x28) = True := eq_true (by omega)
@[go_sem] theorem ltB28 (n m x1 x2 x3 x4 x5 x6 x7 x8 x9 x10 x11 x12 x13 x14 x15 x16 x17 x18 x19 x20 x21 x22 x23 x24 x25 x26 x27 x28 : Nat) (h : n < m) : (n < m + x1 + x2 + x3 + x4 + x5 + x6 + x7 + x8 + x9 + x10 + x11 + x12 + x13 + x14 + x15 + x16 + x17 + x18 + x19 + x20 + x21 + x22 + x23 + x24 + x25 + x26 + x27 + x28) = True := eq_true (by omega)
@[go_sem] theorem ltA29 (n x1 x2 x3 x4 x5 x6 x7 x8 x9 x10 x11 x12 x13 x14 x15 x16 x17 x18 x19 x20 x21 x22 x23 x24 x25 x26 x27 x28 x29 : Nat) : (n < n + 1 + x1 + x2 + x3 + x4 + x5 + x6 + x7 + x8 + x9 + x10 + x11 + x12 + x13 + x14 + x15 + x16 + x17 + x18 + x19 + x20 + x21 + x22 + x23 + x24 + x25 + x26 + x27 + x28 + x29) = True := eq_true (by omega)
@[go_sem] theorem ltB29 (n m x1 x2 x3 x4 x5 x6 x7 x8 x9 x10 x11 x12 x13 x14 x15 x16 x17 x18 x19 x20 x21 x22 x23 x24 x25 x26 x27 x28 x29 : Nat) (h : n < m) : (n < m + x1 + x2 + x3 + x4 + x5 + x6 + x7 + x8 + x9 + x10 + x11 + x12 + x13 + x14 + x15 + x16 + x17 + x18 + x19 + x20 + x21 + x22 + x23 + x24 + x25 + x26 + x27 + x28 + x29) = True := eq_true (by omega)
@[go_sem] theorem ltA30 (n x1 x2 x3 x4 x5 x6 x7 x8 x9 x10 x11 x12 x13 x14 x15 x16 x17 x18 x19 x20 x21 x22 x23 x24 x25 x26 x27 x28 x29 x30 : Nat) : (n < n + 1 + x1 + x2 + x3 + x4 + x5 + x6 + x7 + x8 + x9 + x10 + x11 + x12 + x13 + x14 + x15 + x16 + x17 + x18 + x19 + x20 + x21 + x22 + x23 + x24 + x25 + x26 + x27 + x28 + x29 + x30) = True := eq_true (by omega)
@[go_sem] theorem ltB30 (n m x1 x2 x3 x4 x5 x6 x7 x8 x9 x10 x11 x12 x13 x14 x15 x16 x17 x18 x19 x20 x21 x22 x23 x24 x25 x26 x27 x28 x29 x30 : Nat) (h : n < m) : (n < m + x1 + x2 + x3 + x4 + x5 + x6 + x7 + x8 + x9 + x10 + x11 + x12 + x13 + x14 + x15 + x16 + x17 + x18 + x19 + x20 + x21 + x22 + x23 + x24 + x25 + x26 + x27 + x28 + x29 + x30) = True := eq_true (by omega)

theorem bcell {W w1 : World} (hb : Below W.heap.size W w1) : (∀ b o, b < W.heap.size → w1.cell? ⟨b, o, none⟩ = W.cell? ⟨b, o, none⟩) ∧ (∀ b o, b < W.heap.size → w1.frozen? ⟨b, o, none⟩ = W.frozen? ⟨b, o, none⟩) :=
  ⟨fun b o h => hb.cell (p := ⟨b, o, none⟩) h, fun b o h => hb.frozen (p := ⟨b, o, none⟩) h⟩
end Go.Proofs.YtemgbfppdopfbaaDoor
