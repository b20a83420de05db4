/- Names: Check, lower, small. -/
import Derived.Test.YtbpflpmhnmdeoaaDoorApp
import Derived.Test.YtbpflpmhnmdeoaaDoorCloneBytes
import Derived.Laws.IdiomStrings
import Derived.Laws.BytesString
namespace Go.Proofs.YtbpflpmhnmdeoaaDoor
open Go.RowKit
set_option linter.unusedVariables false

/-- one text of a slice -/
theorem Rd.str {w : World} {B n c : Nat} {A : Option Addr} {l : List ByteArray} (h : Rd strR w B A n c l) (i : Nat) (hi : i < n) :
    ∃ b off, A = some ⟨b, off, none⟩ ∧ b < B ∧ w.cell? ⟨b, off + i, none⟩ = some (.string (l[i]'(by rw [h.len]; exact hi))) ∧ (l[i]'(by rw [h.len]; exact hi)).size ≤ 140737488355328 := by
  obtain ⟨b, off, vs, e, hb, ⟨rfl, hr⟩, hc⟩ := h.at_ i (by rw [h.len]; exact hi)
  have := hc 0 _ rfl
  exact ⟨b, off, e, hb, by simpa [strR] using this, hr⟩

/-! Check -/
def labelOk (s : ByteArray) : Bool := decide (1 ≤ s.size) && decide (s.size ≤ 63)
/-- the bytes of a name as it is sent -/
def nsize (l : List ByteArray) : Nat := (l.map fun s => s.size + 1).sum + 1
/-- what is wrong with a name -/
def nameErr (l : List ByteArray) : Int := if l.all labelOk then (if nsize l ≤ 255 then 0 else 5) else 3
theorem nsize_snoc (l : List ByteArray) (s : ByteArray) : nsize (l ++ [s]) = nsize l + (s.size + 1) := by
  unfold nsize; simp; omega

/-! lower -/
def lowB (b : UInt8) : UInt8 := if 65 ≤ b.toNat ∧ b.toNat ≤ 90 then UInt8.ofNat (b.toNat + 32) else b
theorem lowB_nat (b : UInt8) : ((lowB b).toNat : Int) = if 65 ≤ b.toNat ∧ b.toNat ≤ 90 then (b.toNat : Int) + 32 else (b.toNat : Int) := by
  unfold lowB
  split
  · rw [UInt8.toNat_ofNat', Nat.mod_eq_of_lt (by omega)]; simp
  · rfl
/-! small -/
/-- a block with Go's mark behind its cells: what '[]byte(s)' lays -/
def BlkM (w : World) (g : Nat) (t : TypeId) (cs : Array Value) : Prop := w.heap[g]? = some (.cells cs t (cs.size, cs.size + 1))
section
variable {w w' : World} {g : Nat} {t : TypeId} {cs : Array Value}
theorem BlkM.lt (h : BlkM w g t cs) : g < w.heap.size := by
  rcases Nat.lt_or_ge g w.heap.size with hlt | hge
  · exact hlt
  · unfold BlkM at h; rw [Array.getElem?_eq_none hge] at h; cases h
theorem BlkM.cell (h : BlkM w g t cs) (i : Nat) : w.cell? ⟨g, i, none⟩ = cs[i]? := by
  unfold BlkM at h
  simp [World.cell?, h]
theorem BlkM.frozen (h : BlkM w g t cs) (i : Nat) (hi : i < cs.size) : w.frozen? ⟨g, i, none⟩ = false := by
  unfold BlkM at h
  simp [World.frozen?, h]
  omega
theorem BlkM.set (h : BlkM w g t cs) (i : Nat) (u : Value) : BlkM (w.setCell ⟨g, i, none⟩ u) g t (cs.setIfInBounds i u) := by
  unfold BlkM at h ⊢
  simp [World.setCell, Array.getElem?_modify, h]
theorem BlkM.drew (h : BlkM w g t cs) : BlkM w.drew g t cs := h
theorem BlkM.new (w : World) (t : TypeId) (cs : Array Value) : BlkM (w.alloc (.cells cs t (cs.size, cs.size + 1))) w.heap.size t cs := heap_alloc_new w _
end
def smallL (l : List UInt8) : List UInt8 := l.map lowB
def smallS (s : ByteArray) : ByteArray := ⟨(smallL s.data.toList).toArray⟩
theorem smallS_size (s : ByteArray) : (smallS s).size = s.size := by
  show ((smallL s.data.toList).toArray).size = s.data.size
  simp [smallL]
/-- the first k of them small -/
def smallK (l : List UInt8) (k : Nat) : List UInt8 := smallL (l.take k) ++ l.drop k
theorem smallK_get (l : List UInt8) (k : Nat) (h : k < l.length) : (smallK l k)[k]? = some l[k] := by
  unfold smallK smallL
  rw [List.getElem?_append_right (by simp; omega)]
  simp [Nat.min_eq_left (Nat.le_of_lt h), h]
theorem smallK_succ (l : List UInt8) (k : Nat) (h : k < l.length) : smallK l (k + 1) = (smallK l k).set k (lowB l[k]) := by
  unfold smallK smallL
  rw [List.take_succ_eq_append_getElem h, List.map_append, List.set_append_right _ _ (by simp; omega), List.length_map, List.length_take, Nat.min_eq_left (by omega), Nat.sub_self, List.drop_eq_getElem_cons h, List.set_cons_zero, List.append_assoc]
  rfl
theorem smallK_len (l : List UInt8) (k : Nat) : (smallK l k).length = l.length := by simp [smallK, smallL]; omega
theorem take_set_eq {α : Type} (l : List α) (n k : Nat) (x : α) (h : k < n) : (l.set k x).take n = (l.take n).set k x := by
  exact List.take_set

end Go.Proofs.YtbpflpmhnmdeoaaDoor
