/- Appends onto own rows: what lies beside the row is kept. -/
import Derived.Test.YtemgbfppdopfbaaDoorOwnRow
import Derived.Test.YtemgbfppdopfbaaDoorWireC
namespace Go.Proofs.YtemgbfppdopfbaaDoor
open Go.RowKit
set_option linter.unusedVariables false
set_option linter.unusedSimpArgs false
section
variable {α : Type} {P : Program} {R : Rep α} {e t : TypeId} {bytes B base : Nat} {w w' : World} {v v' : Value} {l m : List α}
theorem OwnR.blk (h : OwnR R e B base w v l) {g : Nat} (hg : v.ownBlock = some g) : base ≤ g ∧ g < w.heap.size := by
  obtain ⟨⟨xs, h1, h2⟩, _⟩ := h
  exact h1.lt g hg
theorem AppTo.keepB {k : Nat} {T : TypeId} {cs : Array Value} (ha : AppTo w w' v v') (hk : Blk w k T cs) (h : ∀ g, v.ownBlock = some g → g ≠ k) : Blk w' k T cs :=
  (ha.grown.block k hk.lt (fun e => h k e.symm rfl)).trans hk
theorem wpList_ownT {w : World} {ops : Array Oper} {rest : List Oper} {o : Oper} {a : Act} {Q : Exit → Act → World → Prop} (E : El P t e R.k bytes) (hgd : o.guard = none) (s x : Operand) (hop : o.op = .call { callee := .builtin .append, args := #[s, x], argTypes := #[t, t] })
    (hs : a.eval s = v) (hv : OwnR R e B base w v l) {A : Option Addr} {n c : Nat} (hx : a.eval x = .slice A n c) (hm : SrcR R B w A n c m) (hbytes : (l.length + n) * bytes ≤ 140737488355328) (h63 : l.length + n ≤ maxLen)
    (h : ∀ v' w', OwnR R e B base w' v' (l ++ m) → Below base w w' → AppTo w w' v v' → wpList P ops Q rest (a.put o.dst v') w') : wpList P ops Q (o :: rest) a w := by
  obtain ⟨⟨xs, h1, h2⟩, h0, h3⟩ := hv
  obtain ⟨⟨ys, h4, h5⟩, rfl⟩ := hm
  exact wpList_appT hgd s x t hop base e R.k bytes E v l.length xs hs h1 A _ c ys hx h4 hbytes h63 h3 fun v' w' ho ha => h v' w' (OwnR.app h2 h1 h0 h3 h5 ho ha) (ha.below h1 h3) ha
theorem SrcR.lit8 {g n : Nat} {T : TypeId} {cs : Array Value} {l : List UInt8} (hg : Blk w g T cs) (hl : cs.toList = bytesV l) (hn : l.length = n) : SrcR u8R B w (some ⟨g, 0, none⟩) n n l := by
  subst hn
  refine ⟨⟨bytesV l, ⟨by show (bytesV l).length = l.length * 1; simp [bytesV], fun ad ha j u h => ?_, fun h => (by cases h), one_u8 l⟩, rels_u8.2 rfl⟩, rfl⟩
  cases ha
  have := hg.cell j
  rw [add_none, Nat.zero_add, this, ← Array.getElem?_toList, hl]
  exact h
end
end Go.Proofs.YtemgbfppdopfbaaDoor
