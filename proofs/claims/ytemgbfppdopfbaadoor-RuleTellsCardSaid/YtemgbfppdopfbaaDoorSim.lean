/- A store into a block of the call's own keeps every reading of bytes and of texts that lie elsewhere. No function of the program. -/
import Derived.Test.YtemgbfppdopfbaaDoorNameA
import Derived.Test.YtemgbfppdopfbaaDoorApp
namespace Go.Proofs.YtemgbfppdopfbaaDoor
open Go.RowKit
set_option linter.unusedVariables false
set_option linter.unusedSimpArgs false

/-- block k holds no value of a kind -/
def FreeB (P : Value → Prop) (w : World) (k : Nat) : Prop := ∀ i u, w.cell? ⟨k, i, none⟩ = some u → ¬ P u
theorem FreeB.below {P : Value → Prop} {w w' : World} {k : Nat} (h : FreeB P w k) (hb : Below w.heap.size w w') (hk : k < w.heap.size) : FreeB P w' k := fun i u hu => h i u ((hb.cell (p := ⟨k, i, none⟩) hk).symm.trans hu)
theorem FreeB.of_blk {P : Value → Prop} {w : World} {g : Nat} {t : TypeId} {cs : Array Value} (hb : Blk w g t cs) (hc : ∀ v ∈ cs.toList, ¬ P v) : FreeB P w g := by
  intro i u hu
  rw [hb.cell] at hu
  exact hc u (by rw [Array.mem_toList_iff]; exact Array.mem_of_getElem? hu)
/-- of one size, and alike but for blocks that hold nothing of the kind -/
def SimP (P : Value → Prop) (w w' : World) : Prop := w'.heap.size = w.heap.size ∧ ∀ k, k < w.heap.size → w'.heap[k]? = w.heap[k]? ∨ FreeB P w k
section
variable {P : Value → Prop} {w w' : World}
theorem SimP.refl (P : Value → Prop) (w : World) : SimP P w w := ⟨rfl, fun _ _ => .inl rfl⟩
theorem SimP.ext (h : SimP P w w') (os : Array Obj) (d d' : Nat) : SimP P (Go.Proofs.YtemgbfppdopfbaaDoor.ext w os d) (Go.Proofs.YtemgbfppdopfbaaDoor.ext w' os d') := by
  refine ⟨by simp [size_ext, h.1], fun k hk => ?_⟩
  by_cases hlt : k < w.heap.size
  · rcases h.2 k hlt with e | e
    · left
      rw [heap_ext w os d hlt, heap_ext w' os d' (by rw [h.1]; exact hlt), e]
    · right
      exact e.below (below_ext w os d) hlt
  · left
    simp only [Go.Proofs.YtemgbfppdopfbaaDoor.ext, Array.getElem?_append, h.1, if_neg hlt]
theorem SimP.alloc (h : SimP P w w') (o : Obj) : SimP P (w.alloc o) (w'.alloc o) := by
  refine ⟨by simp [h.1], fun k hk => ?_⟩
  by_cases hlt : k < w.heap.size
  · rcases h.2 k hlt with e | e
    · left
      rw [Below.heap_alloc w o k hlt, Below.heap_alloc w' o k (by rw [h.1]; exact hlt), e]
    · right
      exact e.below ((Below.refl _ _).alloc (Nat.le_refl _) o) hlt
  · left
    obtain rfl : k = w.heap.size := by simp at hk; omega
    have e1 := heap_alloc_new w o
    have e2 := heap_alloc_new w' o
    rw [h.1] at e2
    rw [e1, e2]
theorem SimP.allocs (h : SimP P w w') (cs : Array Value) (t : TypeId) (o : Obj) (hc : ∀ v ∈ cs.toList, ¬ P v) : SimP P (w.alloc (.cells cs t)) (w'.alloc o) := by
  refine ⟨by simp [h.1], fun k hk => ?_⟩
  by_cases hlt : k < w.heap.size
  · rcases h.2 k hlt with e | e
    · left
      rw [Below.heap_alloc w _ k hlt, Below.heap_alloc w' o k (by rw [h.1]; exact hlt), e]
    · right
      exact e.below ((Below.refl _ _).alloc (Nat.le_refl _) _) hlt
  · right
    obtain rfl : k = w.heap.size := by simp at hk; omega
    exact FreeB.of_blk (Blk.new _ _ _) hc
theorem SimP.drew (h : SimP P w w') : SimP P w.drew w' := h
theorem SimP.drew' (h : SimP P w w') : SimP P w w'.drew := h
theorem FreeB.far {k : Nat} (h : FreeB P w k) {p : Addr} (hp : k ≠ p.block) (u : Value) : FreeB P (w.setCell p u) k := by
  intro i v hv
  refine h i v (Eq.trans ?_ hv)
  exact (World.cell?_of_block (Below.heap_setCell w p u k hp)).symm
theorem SimP.set {k : Nat} (h : FreeB P w k) (i : Nat) (s : Option Nat) (u : Value) : SimP P w (w.setCell ⟨k, i, s⟩ u) := by
  refine ⟨by simp, fun j hj => ?_⟩
  by_cases e : j = k
  · exact .inr (by rw [e]; exact h)
  · exact .inl (Below.heap_setCell w ⟨k, i, s⟩ u j e)
/-- what was there is alike but for blocks that held nothing of the kind -/
def NearP (P : Value → Prop) (w w' : World) : Prop := w.heap.size ≤ w'.heap.size ∧ ∀ k, k < w.heap.size → w'.heap[k]? = w.heap[k]? ∨ FreeB P w k
theorem NearP.of_sim (h : SimP P w w') : NearP P w w' := ⟨by rw [h.1]; exact Nat.le_refl _, h.2⟩
theorem NearP.below (h : NearP P w w') {w2 : World} (hb : Below w'.heap.size w' w2) : NearP P w w2 :=
  ⟨Nat.le_trans h.1 hb.size, fun k hk => (h.2 k hk).imp (fun e => (hb.block k (Nat.lt_of_lt_of_le hk h.1)).trans e) id⟩
theorem NearP.ext (h : NearP P w w') (os : Array Obj) (d : Nat) : NearP P w (Go.Proofs.YtemgbfppdopfbaaDoor.ext w' os d) := h.below (below_ext w' os d)
theorem NearP.alloc (h : NearP P w w') (o : Obj) : NearP P w (w'.alloc o) := h.below ((Below.refl _ _).alloc (Nat.le_refl _) o)
theorem NearP.drew (h : NearP P w w') : NearP P w w'.drew := h
/-- a store into a block that held nothing of the kind -/
theorem NearP.set {g i : Nat} {s : Option Nat} (h : NearP P w w') (hg : FreeB P w g) (u : Value) : NearP P w (w'.setCell ⟨g, i, s⟩ u) := by
  refine ⟨by simp; exact h.1, fun k hk => ?_⟩
  by_cases e : k = g
  · exact .inr (by rw [e]; exact hg)
  · exact (h.2 k hk).imp (fun h => (Below.heap_setCell w' ⟨g, i, s⟩ u k e).trans h) id
/-- a store into a new block -/
theorem NearP.set_new {g i : Nat} {s : Option Nat} (h : NearP P w w') (hg : w.heap.size ≤ g) (u : Value) : NearP P w (w'.setCell ⟨g, i, s⟩ u) :=
  ⟨by simp; exact h.1, fun k hk => (h.2 k hk).imp (fun h => (Below.heap_setCell w' ⟨g, i, s⟩ u k (show k ≠ g by omega)).trans h) id⟩
theorem Rd.near {α : Type} {R : Rep α} {n c : Nat} {A : Option Addr} {l : List α} (P : Value → Prop) (hP : ∀ {w : World} {B : Nat} {a : α} {vs : List Value}, R.rel w B a vs → ∀ u ∈ vs, P u) (hw : ∀ {w w' : World} {B B' : Nat} {a : α} {vs : List Value}, R.rel w B a vs → R.rel w' B' a vs)
    (h : Rd R w w.heap.size A n c l) (hn : NearP P w w') : Rd R w' w'.heap.size A n c l :=
  ⟨h.len, h.cap, h.max, h.lim, h.nil, fun i hi => by
    obtain ⟨b, off, vs, e, hlt, hr, hcell⟩ := h.at_ i hi
    refine ⟨b, off, vs, e, Nat.lt_of_lt_of_le hlt hn.1, hw hr, fun j u hu => ?_⟩
    have h1 := hcell j u hu
    rw [← h1]
    refine World.cell?_of_block ((hn.2 b hlt).resolve_right fun hf => ?_)
    exact hf _ _ h1 (hP hr u (List.mem_of_getElem? hu))⟩
def IsStr (v : Value) : Prop := ∃ s, v = .string s
def IsU8 (v : Value) : Prop := ∃ x, v = .int .u8 x
theorem Rd.near_str {n c : Nat} {A : Option Addr} {l : List ByteArray} (h : Rd strR w w.heap.size A n c l) (hn : NearP IsStr w w') : Rd strR w' w'.heap.size A n c l :=
  Rd.near (R := strR) IsStr (fun hr u hu => by rw [hr.1] at hu; exact ⟨_, List.mem_singleton.1 hu⟩) (fun hr => hr) h hn
def IsI64 (v : Value) : Prop := ∃ x, v = .int .i64 x
theorem Rd.near_int {n c : Nat} {A : Option Addr} {l : List Int} (h : Rd intR w w.heap.size A n c l) (hn : NearP IsI64 w w') : Rd intR w' w'.heap.size A n c l :=
  Rd.near (R := intR) IsI64 (fun hr u hu => by rw [hr.1] at hu; exact ⟨_, List.mem_singleton.1 hu⟩) (fun hr => hr) h hn
theorem Rd.near_u8 {n c : Nat} {A : Option Addr} {l : List UInt8} (h : Rd u8R w w.heap.size A n c l) (hn : NearP IsU8 w w') : Rd u8R w' w'.heap.size A n c l :=
  Rd.near (R := u8R) IsU8 (fun hr u hu => by rw [show _ = [_] from hr] at hu; exact ⟨_, List.mem_singleton.1 hu⟩) (fun hr => hr) h hn
end
end Go.Proofs.YtemgbfppdopfbaaDoor
