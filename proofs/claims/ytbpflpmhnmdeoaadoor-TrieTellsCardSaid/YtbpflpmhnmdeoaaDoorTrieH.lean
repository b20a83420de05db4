/- A trie and, beside it, the row of what was put. -/
import Derived.Test.YtbpflpmhnmdeoaaDoorTrieG
import Derived.Test.YtbpflpmhnmdeoaaDoorTrieD
namespace Go.Proofs.YtbpflpmhnmdeoaaDoor
open Go.RowKit
set_option linter.unusedVariables false
section
variable {α : Type} {P : Program} {R : Rep α} {e t : TypeId} {bytes B base : Nat} {w w' : World} {v v' : Value} {l m : List α} {N : Nodes}
theorem OwnR.blkT (h : OwnR R e B base w v l) {g : Nat} (hg : v.ownBlock = some g) : base ≤ g ∧ g < w.heap.size := by
  obtain ⟨⟨xs, h1, h2⟩, _⟩ := h
  exact h1.lt g hg
theorem wpList_ownX {w : World} {ops : Array Oper} {rest : List Oper} {o : Oper} {a : Act} {Q : Exit → Act → World → Prop} (E : El P t e R.k bytes) (hgd : o.guard = none) (s x : Operand) (hop : o.op = .call { callee := .builtin .append, args := #[s, x], argTypes := #[t, t] })
    (hs : a.eval s = v) (hv : OwnR R e B base w v l) {A : Option Addr} {n c : Nat} (hx : a.eval x = .slice A n c) (hm : SrcR R B w A n c m) (hbytes : (l.length + n) * bytes ≤ 140737488355328) (h63 : l.length + n ≤ maxLen)
    (h : ∀ v' w', OwnR R e B base w' v' (l ++ m) → Below base w w' → AppTo w w' v v' → wpList P ops Q rest (a.put o.dst v') w') : wpList P ops Q (o :: rest) a w := by
  obtain ⟨⟨xs, h1, h2⟩, h0, h3⟩ := hv
  obtain ⟨⟨ys, h4, h5⟩, rfl⟩ := hm
  exact wpList_appT hgd s x t hop base e R.k bytes E v l.length xs hs h1 A _ c ys hx h4 hbytes h63 h3 fun v' w' ho ha => h v' w' (OwnR.app h2 h1 h0 h3 h5 ho ha) (ha.below h1 h3) ha
/-- kept where the row's block lies apart -/
theorem OwnR.outside2 (h : OwnR R e B base w v l) (ho : Outside N w w') (hN : ∀ p b, N p = some b → B ≤ b ∧ v.ownBlock ≠ some b) : OwnR R e B base w' v l := by
  obtain ⟨⟨xs, h1, h2⟩, h0, h3⟩ := h
  have hB : Below B w w' := ho.below (fun p b hp => (hN p b hp).1) (Nat.le_trans h0 h3)
  refine ⟨⟨xs, ⟨h1.1, ?_⟩, h2.below hB⟩, h0, Nat.le_trans h3 ho.size⟩
  rcases h1.2 with hv | ⟨g, cap, cur, hv, hb, hgg, rest⟩
  · exact .inl hv
  · exact .inr ⟨g, cap, cur, hv, hb, (ho.block g (Array.getElem?_eq_some_iff.1 hgg).1 fun p e => (hN p g e).2 (by rw [hv]; rfl)).trans hgg, rest⟩
end

structure Puts (w1 : World) (B g : Nat) (N : Nodes) (V : Vals) (cnt : Int) (v : Value) (ps : List BT) (wi : World) : Prop where
  put : PutO B g (rootN g) w1 N V cnt wi
  own : OwnR beginR 46 B w1.heap.size wi v ps
  apart : ∀ p b, N p = some b → v.ownBlock ≠ some b
section
variable {w1 wi w0 w' : World} {B g : Nat} {N N' : Nodes} {V V' : Vals} {cnt cnt' : Int} {v v' : Value} {ps ps' : List BT}
theorem Puts.later (h : Puts w1 B g N V cnt v ps wi) (hb : Below wi.heap.size wi w') : Puts w1 B g N V cnt v ps w' := ⟨h.put.later hb, h.own.below hb, h.apart⟩
theorem Puts.app (h : Puts w1 B g N V cnt v ps w0) (ho : OwnR beginR 46 B w1.heap.size w' v' ps') (ha : AppTo w0 w' v v') : Puts w1 B g N V cnt v' ps' w' := by
  have hs := h.put.out.size
  refine ⟨⟨h.put.trie.keep fun p b e => ha.grown.block b (h.put.trie.lt e) fun e' => h.apart p b e e'.symm, ?_, h.put.sub⟩, ho, fun p b e e' => ?_⟩
  · refine ⟨ha.grown.os.trans h.put.out.os, ha.grown.tape.trans h.put.out.tape, ha.grown.output.trans h.put.out.output, Nat.le_trans hs ha.grown.size, fun k hk hn => ?_⟩
    refine (ha.grown.block k (by omega) fun e => ?_).trans (h.put.out.block k hk hn)
    have := (h.own.blkT e.symm).1
    omega
  · have hl := h.put.trie.lt e
    rcases ha.blk with e1 | ⟨g', e1, e2⟩
    · rw [e1] at e'; exact h.apart p b e e'
    · rw [e1] at e'; cases e'; omega
theorem Puts.putN (h : Puts w1 B g N V cnt v ps wi) (k : PutO B g N wi N' V' cnt' w') : Puts w1 B g N' V' cnt' v ps w' := by
  refine ⟨h.put.trans k, h.own.outside2 k.out fun p b e => ⟨h.put.trie.low p b e, h.apart p b e⟩, fun p b e e' => ?_⟩
  have := (h.own.blkT e').2
  rcases k.sub p b e with e1 | e1
  · exact h.apart p b e1 e'
  · omega
/-- Put, from a later world on -/
theorem Puts.call (h : Puts w1 B g N V cnt v ps wi) (hc0 : 0 ≤ cnt) (hc1 : cnt ≤ 1048576) {A : Option Addr} {n c : Nat} {l : List UInt8} (hl : Rd u8R wi B A n c l) (m : Int) (hm : I64 m) (x : Int) (w' : World) (hb : Below wi.heap.size wi w') :
    Calls Tryd.prog 15 #[.pointer (some ⟨g, 0, none⟩), .slice A n c, .int .i64 m, .int .i64 x] w' fun e w2 => e = .returned (errB l m) ∧ ∃ N', Puts w1 B g N' (stepV V l m x) (stepC V cnt l m) v ps w2 := by
  have h' := h.later hb
  have hB : B ≤ wi.heap.size := Nat.le_trans h.own.lo h.own.le
  refine (put_any h'.put.trie (Nat.le_trans hB hb.size) hc0 hc1 (B := B) (A := A) (n := n) (c := c) (l := l) (fun w2 ho => hl.below ((hb.mono hB).trans (ho.below h.put.trie.low (Nat.le_trans hB hb.size)))) m hm x).mono ?_
  rintro e w2 ⟨rfl, N', hP⟩
  exact ⟨rfl, N', h'.putN hP⟩
theorem Puts.start (T : TrieAt w1 B g (rootN g) noVals 0) (hB : B ≤ w1.heap.size) : Puts w1 B g (rootN g) noVals 0 (.slice none 0 0) [] w1 :=
  ⟨PutO.refl T, OwnR.nil hB (Nat.le_refl _), fun p b _ e => by cases e⟩
end
end Go.Proofs.YtbpflpmhnmdeoaaDoor
