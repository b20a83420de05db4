/- What the laws of tries ask first. -/
import Derived.Test.YtbpflpmhnmdeoaaDoorTrieC
namespace Go.Proofs.YtbpflpmhnmdeoaaDoor
open Go.RowKit
set_option linter.unusedVariables false

/-- a literal of bytes beside a trie -/
theorem lit_beside {w : World} {g : Nat} {T : TypeId} {cs : Array Value} {N : Nodes} (l : List UInt8) {n : Nat} (h : Blk w g T cs) (hN : ∀ p, N p ≠ some g) (hl : cs.toList = l.map fun b => Value.int .u8 (b.toNat : Int)) (hn : l.length = n) (hm : n ≤ 140737488355328) :
    ∀ w', Outside N w w' → Rd u8R w' (g + 1) (some ⟨g, 0, none⟩) n n l := by
  intro w' ho
  subst hn
  have hb : Blk w' g T cs := (ho.block g h.lt hN).trans h
  have := rd_of_blk l hb hl hm
  exact ⟨this.len, this.cap, this.max, this.lim, this.nil, fun i hi => by
    obtain ⟨b, o, vs, e, hb, r⟩ := this.at_ i hi
    exact ⟨b, o, vs, e, by cases e; omega, r⟩⟩
theorem root_only {g x : Nat} (h : x ≠ g) : ∀ p, rootN g p ≠ some x := by
  intro p e
  unfold rootN at e
  split at e
  · cases e; exact h rfl
  · cases e
theorem tried_get : getV (stepV noVals [128] 1 7) (bitsL [255]) = (7, 1, true) := by decide
theorem tried_true (w : World) : Calls Tryd.prog 20 #[] w fun e w' => e = .returned (.bool true) ∧ Below w.heap.size w w' := by
  have HG := hid tried_get
  have T1 := hid ((TrieAt.new w w.heap.size 79 (Nat.le_refl _) rfl).later ((Below.refl _ _).alloc (Nat.le_refl _) (.cells #[.int .u8 128] 5)))
  have L1 := hid (lit_beside (w := (w.alloc (.cells #[.bool false, .int .i64 0, .pointer none, .pointer none, .int .i64 0] 79)).alloc (.cells #[.int .u8 128] 5)) (N := rootN w.heap.size) (g := w.heap.size + 1) [128] (Blk.new' _ _ (by simp)) (root_only (by omega)) rfl rfl (by decide))
  go_enter Tryd.func20, Tryd.ntmps20
  go_wp2_with fail
  refine (new_any w).mono ?_
  rintro e w1 ⟨rfl, rfl⟩
  go_wp2_with fail
  refine (put_any T1.out (by simp; omega) (by omega) (by omega) L1.out 1 (by unfold I64; omega) 7).mono ?_
  rintro e w2 ⟨rfl, N2, hP⟩
  have HP := hid hP
  have hb := hid (hP.out.below T1.out.low (by simp; omega))
  have HR := hid (show errB [128] 1 = .nilIface from rfl)
  rw [HR.out]
  clear hP
  have CG := hid (get_ok (HP.out.trie.later ((Below.refl _ _).alloc (Nat.le_refl _) (.cells #[.int .u8 255] 5))) (Nat.le_refl _) (rd_lit 5 #[.int .u8 255] [255] 1 (w := w2) rfl rfl rfl (by decide)))
  rw [HG.out] at CG
  go_wp2_with fail
  refine CG.out.mono ?_
  rintro e w3 ⟨rfl, hb3⟩
  have HB3 := hid hb3
  clear hb3
  go_wp2
  go_ret
  have h2 := hb.out
  have h3 := HB3.out
  refine ⟨by first | rfl | simp, ?_⟩
  exact (Below.trans (by (repeat' (first | (with_reducible exact Below.refl _ _) | (with_reducible assumption) | (with_reducible refine below_ext0 ?_ _ _) | (with_reducible refine below_alloc0 ?_ _) | (with_reducible refine Below.ext ?_ ?_ _ _) | (with_reducible refine Below.alloc ?_ ?_ _) | (with_reducible refine Below.setCell ?_ ?_ _) | (with_reducible refine Below.drew ?_) | (with_reducible refine below_draws ?_ _) | go_size | (simp [size_ext]; done) | (simp [size_ext]; omega)))) h2 : Below w.heap.size w w2).trans ((((Below.refl _ _).alloc (Nat.le_refl _) _).trans (h3.mono (by simp))).mono (by have := h2.size; simp at this; omega))
end Go.Proofs.YtbpflpmhnmdeoaaDoor
