/- Two tries side by side, and a row of marks. -/
import Derived.Test.YtbpflpmhnmdeoaaTrieE
import Derived.Test.YtbpflpmhnmdeoaaTrieD
import Derived.Laws.MakeOwn
namespace Go.Proofs.Ytbpflpmhnmdeoaa
open Go.RowKit
set_option linter.unusedVariables false

theorem bool_info : (Try.prog.info? 4).map (fun i => (i.zero, i.size, i.bytes)) = some (some (.bool false), 1, 1) := by kernel_rfl
theorem make_bools (n : Nat) (hn : n ≤ 1048576) : ∃ Z : Array Value, Z.toList = List.replicate n (.bool false) ∧ ∀ w, (Instr.makeSlice 49 (.int .i64 (n : Int)) (.int .i64 (n : Int))).run Try.prog w = .ok (.slice (some ⟨w.heap.size, 0, none⟩) n n) (w.alloc (.cells Z 4)) := by
  obtain ⟨i, hi, hz0, hz1, hz2⟩ := info_parts bool_info
  refine ⟨madeCells #[.bool false] n, ?_, fun w => ?_⟩
  · unfold madeCells
    rw [List.eq_replicate_iff]
    refine ⟨by simp, fun b hb => ?_⟩
    simp only [Array.toList_map, List.mem_map] at hb
    obtain ⟨x, _, rfl⟩ := hb
    simp [Nat.mod_one]
  · have := run_makeSlice w (P := Try.prog) 49 4 i (.bool false) Try.underlying49 hi hz0 .i64 .i64 (n : Int) (n : Int) (by omega) (Int.le_refl _) (by rw [hz1]; simp; omega) (by rw [hz2]; simp; omega) (by omega)
    simpa [hz1, Value.cells] using this

/-- what two worlds keep of a third one, they share -/
theorem kept_both {α : Type} {R : Rep α} {B h : Nat} {w0 w1 w2 : World} {A : Option Addr} {n c : Nat} {l : List α} (hB : B ≤ h) (h1 : Below h w0 w1) (h2 : Below h w0 w2) (hr : Rd R w1 B A n c l) : Rd R w2 B A n c l :=
  hr.keep (Nat.le_refl _) fun p hp => (h2.cell (by omega)).trans (h1.cell (by omega)).symm
/-- two tries, their blocks apart; the marks' row behind them -/
structure Two (w2 : World) (h : Nat) (N1 N2 : Nodes) (V1 V2 : Vals) (c1 c2 : Int) (ms : List Bool) (wi : World) : Prop where
  t1 : TrieAt wi h h N1 V1 c1
  t2 : TrieAt wi h (h + 1) N2 V2 c2
  dis : ∀ p q b, N1 p = some b → N2 q ≠ some b
  met : Blk wi (h + 2) 4 (ms.map Value.bool).toArray
  m1 : ∀ p, N1 p ≠ some (h + 2)
  m2 : ∀ p, N2 p ≠ some (h + 2)
  low : Below h w2 wi
section
variable {w2 wi w' : World} {h : Nat} {N1 N2 N' : Nodes} {V1 V2 V' : Vals} {c1 c2 c' : Int} {ms : List Bool}
theorem Two.lt (hT : Two w2 h N1 N2 V1 V2 c1 c2 ms wi) : h + 2 < wi.heap.size := hT.met.lt
theorem Two.later (hT : Two w2 h N1 N2 V1 V2 c1 c2 ms wi) (hb : Below wi.heap.size wi w') : Two w2 h N1 N2 V1 V2 c1 c2 ms w' := by
  have := hT.lt
  exact ⟨hT.t1.later hb, hT.t2.later hb, hT.dis, hT.met.below hb this, hT.m1, hT.m2, hT.low.trans (hb.mono (by omega))⟩
theorem Two.put1 (hT : Two w2 h N1 N2 V1 V2 c1 c2 ms wi) (hP : PutO h h N1 wi N' V' c' w') : Two w2 h N' N2 V' V2 c' c2 ms w' := by
  have hl := hT.lt
  refine ⟨hP.trie, hT.t2.beside hP.out fun p q b e1 e2 => hT.dis q p b e2 e1, fun p q b e1 e2 => ?_, (hP.out.block _ hl hT.m1).trans hT.met, fun p e => ?_, hT.m2, hT.low.trans (hP.out.below hT.t1.low (by omega))⟩
  · rcases hP.sub p b e1 with e | e
    · exact hT.dis p q b e e2
    · have := hT.t2.lt e2; omega
  · rcases hP.sub p _ e with e | e
    · exact hT.m1 p e
    · omega
theorem Two.put2 (hT : Two w2 h N1 N2 V1 V2 c1 c2 ms wi) (hP : PutO h (h + 1) N2 wi N' V' c' w') : Two w2 h N1 N' V1 V' c1 c' ms w' := by
  have hl := hT.lt
  refine ⟨hT.t1.beside hP.out fun p q b e1 e2 => hT.dis p q b e1 e2, hP.trie, fun p q b e1 e2 => ?_, (hP.out.block _ hl hT.m2).trans hT.met, hT.m1, fun p e => ?_, hT.low.trans (hP.out.below hT.t2.low (by omega))⟩
  · rcases hP.sub q b e2 with e | e
    · exact hT.dis p q b e1 e
    · have := hT.t1.lt e1; omega
  · rcases hP.sub p _ e with e | e
    · exact hT.m2 p e
    · omega
theorem Two.mark (hT : Two w2 h N1 N2 V1 V2 c1 c2 ms wi) (k : Nat) : Two w2 h N1 N2 V1 V2 c1 c2 (ms.set k true) (wi.setCell ⟨h + 2, k, none⟩ (.bool true)) := by
  have hk : ∀ b, b ≠ h + 2 → (wi.setCell ⟨h + 2, k, none⟩ (.bool true)).heap[b]? = wi.heap[b]? := fun b hb => Below.heap_setCell wi _ _ b hb
  refine ⟨hT.t1.keep fun p b e => hk b fun e' => hT.m1 p (by rw [e, e']), hT.t2.keep fun p b e => hk b fun e' => hT.m2 p (by rw [e, e']), hT.dis, ?_, hT.m1, hT.m2, hT.low.setCell (by simp only; omega) _⟩
  have := hT.met.set k (.bool true)
  refine this.as ?_
  apply Array.ext'
  simp [List.map_set]
/-- Put into the first one, from a later world on -/
theorem Two.call1 (hT : Two w2 h N1 N2 V1 V2 c1 c2 ms wi) (hc0 : 0 ≤ c1) (hc1 : c1 ≤ 1048576) {B : Nat} {A : Option Addr} {n c : Nat} {l : List UInt8} (hl : ∀ w', Below h wi w' → Rd u8R w' B A n c l) (m : Int) (hm : I64 m) (v : Int) (w' : World) (hb : Below wi.heap.size wi w') :
    Calls Try.prog 18 #[.pointer (some ⟨h, 0, none⟩), .slice A n c, .int .i64 m, .int .i64 v] w' fun e wx => e = .returned (errB l m) ∧ ∃ N', Two w2 h N' N2 (stepV V1 l m v) V2 (stepC V1 c1 l m) c2 ms wx := by
  have hlt := hT.lt
  refine (put_later (PutO.refl hT.t1) (by omega) hc0 hc1 (B := B) (A := A) (n := n) (c := c) (l := l) (fun w' ho => hl w' (ho.below hT.t1.low (by omega))) m hm v w' hb).mono ?_
  rintro e wx ⟨rfl, N', hP, _⟩
  exact ⟨rfl, N', hT.put1 hP⟩
theorem Two.call2 (hT : Two w2 h N1 N2 V1 V2 c1 c2 ms wi) (hc0 : 0 ≤ c2) (hc1 : c2 ≤ 1048576) {B : Nat} {A : Option Addr} {n c : Nat} {l : List UInt8} (hl : ∀ w', Below h wi w' → Rd u8R w' B A n c l) (m : Int) (hm : I64 m) (v : Int) (w' : World) (hb : Below wi.heap.size wi w') :
    Calls Try.prog 18 #[.pointer (some ⟨h + 1, 0, none⟩), .slice A n c, .int .i64 m, .int .i64 v] w' fun e wx => e = .returned (errB l m) ∧ ∃ N', Two w2 h N1 N' V1 (stepV V2 l m v) c1 (stepC V2 c2 l m) ms wx := by
  have hlt := hT.lt
  refine (put_later (PutO.refl hT.t2) (by omega) hc0 hc1 (B := B) (A := A) (n := n) (c := c) (l := l) (fun w' ho => hl w' (ho.below hT.t2.low (by omega))) m hm v w' hb).mono ?_
  rintro e wx ⟨rfl, N', hP, _⟩
  exact ⟨rfl, N', hT.put2 hP⟩
theorem Two.cell (hT : Two w2 h N1 N2 V1 V2 c1 c2 ms wi) (k : Nat) (hk : k < ms.length) : wi.cell? ⟨h + 2, k, none⟩ = some (.bool (ms.getD k false)) := by
  rw [hT.met.cell k]
  simp [List.getD_eq_getElem?_getD, hk]
theorem Two.start (w2 : World) (Z : Array Value) (n : Nat) (hZ : Z.toList = List.replicate n (.bool false)) (T : TypeId) :
    Two w2 w2.heap.size (rootN w2.heap.size) (rootN (w2.heap.size + 1)) noVals noVals 0 0 (List.replicate n false)
      (((w2.alloc (.cells #[.bool false, .int .i64 0, .pointer none, .pointer none, .int .i64 0] T)).alloc (.cells #[.bool false, .int .i64 0, .pointer none, .pointer none, .int .i64 0] T)).alloc (.cells Z 4)) := by
  refine ⟨((TrieAt.new w2 _ T (Nat.le_refl _) rfl).later ((Below.refl _ _).alloc (Nat.le_refl _) _)).later ((Below.refl _ _).alloc (Nat.le_refl _) _), (TrieAt.new _ _ T (by simp) (by simp)).later ((Below.refl _ _).alloc (Nat.le_refl _) _), fun p q b e1 e2 => ?_, ?_, root_only (by omega), root_only (by omega), (((Below.refl _ _).alloc (Nat.le_refl _) _).alloc (by simp) _).alloc (by simp; omega) _⟩
  · unfold rootN at e1 e2
    split at e1
    · split at e2
      · injection e1 with e1; injection e2 with e2; omega
      · cases e2
    · cases e1
  · refine (Blk.new' 4 Z (by simp)).as ?_
    apply Array.ext'
    rw [hZ]
    simp
end
end Go.Proofs.Ytbpflpmhnmdeoaa
