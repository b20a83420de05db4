/- A whole value stored into a block of the call's own, in one step of a walk. -/
import Derived.Test.YtfihedcobopbcaaDoorK8
namespace Go.Proofs.YtfihedcobopbcaaDoor
open Go.RowKit
set_option linter.unusedVariables false
set_option linter.unusedSimpArgs false

theorem heap_setRow_self {w : World} {g : Nat} {t : TypeId} {c : Array Value} (h : Blk w g t c) (c' : Array Value) : Blk (w.setRow g c') g t c' := by
  unfold Blk at h ⊢
  simp [World.setRow, h, Array.getElem?_modify]
theorem heap_setRow_other (w : World) {g k : Nat} (c' : Array Value) (h : k ≠ g) : (w.setRow g c').heap[k]? = w.heap[k]? := by
  simp [World.setRow, Array.getElem?_modify, Ne.symm h]
theorem grown_setRow (w : World) (g : Nat) (c' : Array Value) : w.grownBy (w.setRow g c') (some g) :=
  ⟨rfl, rfl, rfl, by simp, fun k _ hk => heap_setRow_other w c' (fun e => hk (by rw [e]))⟩
theorem Blk.other {w w' : World} {g k : Nat} {t : TypeId} {c : Array Value} (h : Blk w k t c) (hg : w.grownBy w' (some g)) (hk : k ≠ g) : Blk w' k t c :=
  (hg.block k h.lt (by simpa using hk)).trans h
theorem wpList_store_blk {ops : Array Oper} {rest : List Oper} {o : Oper} {a : Act} {w : World} {Q : Exit → Act → World → Prop} (hgd : o.guard = none) (ty : TypeId) (x y : Operand) (ho : o.op = .store ty x y) (g : Nat) (c' : Array Value) (hx : a.eval x = .pointer (some ⟨g, 0, none⟩)) (hy : a.eval y = .agg c')
    {t : TypeId} {c : Array Value} (hb : Blk w g t c) (hi : (Tryd.prog.info? ty).map (·.size) = some c'.size) (hs : c.size = c'.size) (h1 : c'.all (·.oneCell') = true)
    (h : ∀ w', Blk w' g t c' → w.grownBy w' (some g) → wpList Tryd.prog ops Q rest (a.put o.dst undef) w') : wpList Tryd.prog ops Q (o :: rest) a w :=
  wpList_store_row hgd ty x y ho g c' hx hy t c hb hi hs h1 (h _ (heap_setRow_self hb c') (grown_setRow w g c'))
theorem step_store_blk {ops : Array Oper} {o : Oper} {a : Act} {w : World} {Q : Exit → Act → World → Prop} {K : Act → World → Prop} {F : Prop} (hgd : o.guard = none) (ty : TypeId) (x y : Operand) (ho : o.op = .store ty x y) (g : Nat) (c' : Array Value) (hx : a.eval x = .pointer (some ⟨g, 0, none⟩)) (hy : a.eval y = .agg c')
    {t : TypeId} {c : Array Value} (hb : Blk w g t c) (hi : (Tryd.prog.info? ty).map (·.size) = some c'.size) (hs : c.size = c'.size) (h1 : c'.all (·.oneCell') = true)
    (h : ∀ w', Blk w' g t c' → w.grownBy w' (some g) → K (a.put o.dst undef) w') :
    if Region.wanted o (yielded ops a.tmps) = true then Oper.wp Tryd.prog o a w K Q else F := by
  have hw : Region.wanted o (yielded ops a.tmps) = true := by simp [Region.wanted, hgd]
  rw [if_pos hw]
  exact wp_store_row ty x y ho g c' hx hy t c hb hi hs h1 (h _ (heap_setRow_self hb c') (grown_setRow w g c'))
set_option maxRecDepth 100000 in
theorem info_message : (Tryd.prog.info? 28).map (·.size) = some 15 := by first | rfl | kernel_rfl | decide
end Go.Proofs.YtfihedcobopbcaaDoor
