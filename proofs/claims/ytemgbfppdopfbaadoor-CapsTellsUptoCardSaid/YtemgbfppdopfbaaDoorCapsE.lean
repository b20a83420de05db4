/- Great and small letters: the rows of bytes in which Mix works. No function of the program. -/
import Derived.Test.YtemgbfppdopfbaaDoorCapsD
import Derived.Test.YtemgbfppdopfbaaDoorWireC
import Derived.Laws.MakeOwn
namespace Go.Proofs.YtemgbfppdopfbaaDoor
open Go.RowKit
set_option linter.unusedVariables false
set_option linter.unusedSimpArgs false

theorem conv_caps (s : ByteArray) (hs : s.size ≤ 140737488355328) (w : World) : ∃ (C : Array Value) (N : Nat), (convert 9 51 (.string s)).run Tryd.prog w = .ok (.slice (some ⟨w.heap.size, 0, none⟩) s.size N) (w.drew.alloc (.cells C 5 (N, N + 1))) ∧ C.size = N ∧ s.size ≤ N ∧ N ≤ maxLen ∧ C.toList.take s.size = bytesV (bytesOf s) := by
  have conv := run_bytes_of_string w 9 51 5 s Tryd.underlying9 Tryd.underlying51 Tryd.underlying5
  have hge := grownCap_ge w s.size 0 5
  have hle := grownCap_le_maxLen w s.size 0 5 (by unfold maxLen; omega)
  have hsz : s.data.toList.length = s.size := by rw [Array.length_toList]; rfl
  have hcs : (bytesRow s (grownCap w s.size 0 5)).size = grownCap w s.size 0 5 := by
    unfold bytesRow
    simp only [Array.size_append, Array.size_map, Array.size_replicate]
    have : s.data.size = s.size := rfl
    omega
  rw [hcs] at conv
  refine ⟨_, _, conv, hcs, hge, hle, ?_⟩
  unfold bytesRow
  rw [Array.toList_append, List.take_append_of_le_length (by rw [Array.toList_map, List.length_map, hsz]; exact Nat.le_refl _), List.take_of_length_le (by rw [Array.toList_map, List.length_map, hsz]; exact Nat.le_refl _)]
  simp [bytesV, bytesOf]
section
variable {w w' : World} {g : Nat} {t : TypeId} {cs : Array Value}
theorem BlkM.kept (h : BlkM w g t cs) {row : Option Nat} (hg : w.grownBy w' row) (hne : some g ≠ row) : BlkM w' g t cs := (hg.block g h.lt hne).trans h
theorem BlkM.far (h : BlkM w g t cs) {p : Addr} (hp : g ≠ p.block) (u : Value) : BlkM (w.setCell p u) g t cs := (Below.heap_setCell w p u g hp).trans h
theorem Blk.kept (h : Blk w g t cs) {row : Option Nat} (hg : w.grownBy w' row) (hne : some g ≠ row) : Blk w' g t cs := (hg.block g h.lt hne).trans h
end
theorem getD_set_self' {α : Type} {l : List (List α)} {i : Nat} {r : List α} (h : i < l.length) : (l.set i r).getD i [] = r := by
  rw [List.getD_eq_getElem?_getD, List.getElem?_set_self h]; rfl
theorem getD_set_ne' {α : Type} {l : List (List α)} {i j : Nat} {r : List α} (h : i ≠ j) : (l.set i r).getD j [] = l.getD j [] := by
  rw [List.getD_eq_getElem?_getD, List.getD_eq_getElem?_getD, List.getElem?_set_ne h]
/-- the first k rows of bytes lie each in a block of its own, to which the row of rows in block B1 leads -/
structure MixAt (W : World) (base B1 len : Nat) (G Cp : Nat → Nat) (rows : List (List UInt8)) (k : Nat) : Prop where
  blk : ∃ cs : Array Value, Blk W B1 51 cs ∧ cs.size = len ∧ ∀ i, i < k → cs[i]? = some (.slice (some ⟨G i, 0, none⟩) (rows.getD i []).length (Cp i))
  row : ∀ i, i < k → ∃ cs : Array Value, BlkM W (G i) 5 cs ∧ cs.size = Cp i ∧ (rows.getD i []).length ≤ Cp i ∧ Cp i ≤ maxLen ∧ cs.toList.take (rows.getD i []).length = bytesV (rows.getD i [])
  inj : ∀ i j, i < k → j < k → G i = G j → i = j
  lo : ∀ i, i < k → base ≤ G i ∧ B1 < G i
section
variable {W W' : World} {base B1 len k : Nat} {G Cp : Nat → Nat} {rows : List (List UInt8)}
theorem MixAt.kept (h : MixAt W base B1 len G Cp rows k) {row : Option Nat} (hg : W.grownBy W' row) (h1 : some B1 ≠ row) (h2 : ∀ i, i < k → some (G i) ≠ row) : MixAt W' base B1 len G Cp rows k := by
  obtain ⟨cs, hb, hs, hc⟩ := h.blk
  refine ⟨⟨cs, hb.kept hg h1, hs, hc⟩, fun i hi => ?_, h.inj, h.lo⟩
  obtain ⟨ds, hd, r⟩ := h.row i hi
  exact ⟨ds, hd.kept hg (h2 i hi), r⟩
theorem MixAt.own (B : Nat) : OwnFrom B (fun (s : List (List UInt8)) (W : World) => MixAt W base B1 len G Cp s k) := by
  rintro s W W' row h hg hr
  refine h.kept hg (fun e => ?_) (fun i hi e => ?_)
  · obtain ⟨cs, hb, _⟩ := h.blk
    obtain ⟨_, o, ho, hc⟩ := hr B1 e.symm
    rw [show W.heap[B1]? = _ from hb] at ho
    cases ho
    cases hc
  · obtain ⟨cs, hb, _⟩ := h.row i hi
    obtain ⟨_, o, ho, hc⟩ := hr (G i) e.symm
    rw [show W.heap[G i]? = _ from hb] at ho
    cases ho
    cases hc
theorem MixAt.b1lt (h : MixAt W base B1 len G Cp rows k) : B1 < W.heap.size := by obtain ⟨cs, hb, _⟩ := h.blk; exact hb.lt
theorem MixAt.glt (h : MixAt W base B1 len G Cp rows k) {i : Nat} (hi : i < k) : G i < W.heap.size := by obtain ⟨cs, hb, _⟩ := h.row i hi; exact hb.lt
theorem MixAt.cell (h : MixAt W base B1 len G Cp rows k) {i : Nat} (hi : i < k) : W.cell? ⟨B1, i, none⟩ = some (.slice (some ⟨G i, 0, none⟩) (rows.getD i []).length (Cp i)) := by
  obtain ⟨cs, hb, hs, hc⟩ := h.blk
  rw [hb.cell]
  exact hc i hi
theorem MixAt.byte (h : MixAt W base B1 len G Cp rows k) {i j : Nat} (hi : i < k) (hj : j < (rows.getD i []).length) :
    W.cell? ⟨G i, j, none⟩ = some (.int .u8 (((rows.getD i []).getD j 0).toNat : Int)) ∧ W.frozen? ⟨G i, j, none⟩ = false := by
  obtain ⟨cs, hb, hs, hle, _, ht⟩ := h.row i hi
  refine ⟨?_, hb.frozen j (by omega)⟩
  rw [hb.cell, ← Array.getElem?_toList]
  have h1 : (cs.toList.take (rows.getD i []).length)[j]? = some (.int .u8 (((rows.getD i []).getD j 0).toNat : Int)) := by
    rw [ht, bytesV, List.getElem?_map, List.getElem?_eq_getElem hj, List.getD_eq_getElem?_getD (l := rows.getD i []), List.getElem?_eq_getElem hj]
    rfl
  rwa [List.getElem?_take, if_pos hj] at h1
theorem MixAt.rd (h : MixAt W base B1 len G Cp rows k) {i : Nat} (hi : i < k) (hl : (rows.getD i []).length ≤ 140737488355328) : Rd u8R W W.heap.size (some ⟨G i, 0, none⟩) (rows.getD i []).length (Cp i) (rows.getD i []) := by
  obtain ⟨cs, hb, hs, hle, hm, ht⟩ := h.row i hi
  refine ⟨rfl, hle, hm, by simpa [u8R] using hl, fun e => (by cases e), fun j hj => ?_⟩
  refine ⟨G i, 0, _, rfl, hb.lt, rfl, fun p u hp => ?_⟩
  have hp0 : p = 0 := by
    cases p with
    | zero => rfl
    | succ p => simp at hp
  subst hp0
  simp only [List.getElem?_cons_zero, Option.some.injEq] at hp
  subst hp
  have := (h.byte hi hj).1
  rw [List.getD_eq_getElem?_getD (l := rows.getD i []), List.getElem?_eq_getElem hj] at this
  simpa [u8R] using this
theorem MixAt.not_blk (h : MixAt W base B1 len G Cp rows k) {i B : Nat} {t : TypeId} {cs : Array Value} (hi : i < k) (hb : Blk W B t cs) (ht : t ≠ 5) : G i ≠ B := by
  intro e
  obtain ⟨ds, hd, _⟩ := h.row i hi
  unfold Blk at hb
  unfold BlkM at hd
  rw [e, hb] at hd
  simp only [Option.some.injEq, Obj.cells.injEq] at hd
  exact ht hd.2.1
/-- one byte stored -/
theorem MixAt.set (h : MixAt W base B1 len G Cp rows k) {i j : Nat} (hi : i < k) (hir : i < rows.length) (hj : j < (rows.getD i []).length) (y : UInt8) :
    MixAt (W.setCell ⟨G i, j, none⟩ (.int .u8 (y.toNat : Int))) base B1 len G Cp (rows.set i ((rows.getD i []).set j y)) k := by
  have hlen : ∀ p, ((rows.set i ((rows.getD i []).set j y)).getD p []).length = (rows.getD p []).length := by
    intro p
    rw [List.getD_eq_getElem?_getD, List.getElem?_set]
    by_cases e : i = p
    · subst e
      rw [if_pos rfl, if_pos hir]
      simp
    · rw [if_neg e, ← List.getD_eq_getElem?_getD]
  obtain ⟨cs, hb, hs, hc⟩ := h.blk
  have hl := (h.lo i hi).2
  refine ⟨⟨cs, hb.far (by simp only; omega) _, hs, fun p hp => by rw [hlen]; exact hc p hp⟩, fun p hp => ?_, h.inj, h.lo⟩
  obtain ⟨ds, hd, hds, hle, hm, ht⟩ := h.row p hp
  rw [hlen]
  by_cases e : p = i
  · subst e
    refine ⟨_, hd.set j _, by simpa using hds, hle, hm, ?_⟩
    rw [getD_set_self' hir, Array.toList_setIfInBounds, take_set_eq _ _ _ _ hj, ht, bytesV_set]
  · refine ⟨ds, hd.far (fun e' => e (h.inj p i hp hi e')) _, hds, hle, hm, ?_⟩
    rw [getD_set_ne' (fun e' => e e'.symm)]
    exact ht
/-- one row more -/
theorem MixAt.fill (h : MixAt W base B1 len G Cp rows k) (hk : k < len) {C : Array Value} {N : Nat} (hC : C.size = N) (hN : (rows.getD k []).length ≤ N) (hM : N ≤ maxLen) (ht : C.toList.take (rows.getD k []).length = bytesV (rows.getD k [])) (hb : base ≤ W.heap.size) :
    MixAt ((W.drew.alloc (.cells C 5 (N, N + 1))).setCell ⟨B1, k, none⟩ (.slice (some ⟨W.heap.size, 0, none⟩) (rows.getD k []).length N)) base B1 len (fun i => if i = k then W.heap.size else G i) (fun i => if i = k then N else Cp i) rows (k + 1) := by
  obtain ⟨cs, hbk, hs, hc⟩ := h.blk
  have hb1 := h.b1lt
  have hbk2 : Blk (W.drew.alloc (.cells C 5 (N, N + 1))) B1 51 cs := Blk.alloc hbk.drew _
  refine ⟨⟨_, hbk2.set k _, by simpa using hs, fun i hi => ?_⟩, fun i hi => ?_, fun i j hi hj e => ?_, fun i hi => ?_⟩
  · by_cases e : i = k
    · subst e
      rw [Array.getElem?_setIfInBounds_self_of_lt (by omega)]
      simp
    · rw [Array.getElem?_setIfInBounds_ne (fun e' => e e'.symm), if_neg e, if_neg e]
      exact hc i (by omega)
  · by_cases e : i = k
    · subst e
      simp only [if_pos]
      refine ⟨C, ?_, hC, hN, hM, ht⟩
      have := BlkM.new W.drew 5 C
      rw [hC] at this
      exact this.far (by show W.heap.size ≠ B1; omega) _
    · simp only [if_neg e]
      obtain ⟨ds, hd, r⟩ := h.row i (by omega)
      have hl := (h.lo i (by omega)).2
      refine ⟨ds, BlkM.far (BlkM.kept (w' := W.drew.alloc (.cells C 5 (N, N + 1))) hd.drew (World.grownBy_alloc W.drew _ none) (by simp)) (by simp only; omega) _, r⟩
  · by_cases e1 : i = k
    · by_cases e2 : j = k
      · omega
      · simp only [if_pos e1, if_neg e2] at e
        have := h.glt (i := j) (by omega)
        omega
    · by_cases e2 : j = k
      · simp only [if_neg e1, if_pos e2] at e
        have := h.glt (i := i) (by omega)
        omega
      · simp only [if_neg e1, if_neg e2] at e
        exact h.inj i j (by omega) (by omega) e
  · by_cases e : i = k
    · simp only [if_pos e]; exact ⟨hb, hb1⟩
    · simp only [if_neg e]; exact h.lo i (by omega)
end
end Go.Proofs.YtemgbfppdopfbaaDoor
