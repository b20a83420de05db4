/- The document's Packed, whichever way it goes. -/
import Derived.Test.YtkdfiedemhjjjaaDoorWireRefD
namespace Go.Proofs.YtkdfiedemhjjjaaDoor
open Go.RowKit
set_option linter.unusedVariables false

theorem packed_own (w : World) (A : Option Addr) (n c : Nat) (m : List UInt8) (hM : Rd u8R w w.heap.size A n c m) (A1 : Option Addr) (n1 c1 : Nat) (ss : List Int) (hS : Rd intR w w.heap.size A1 n1 c1 ss) (A2 : Option Addr) (n2 c2 : Nat) (l : List ByteArray) (hL : Rd strR w w.heap.size A2 n2 c2 l)
    (hlim : n + 256 ≤ 140737488355328) (hlim1 : n1 * 8 + 4096 ≤ 140737488355328) (hf : nameErr l = 0) :
    Calls Tryd.prog 43 #[.slice A n c, .slice A1 n1 c1, .slice A2 n2 c2] w fun e w' => ∃ v v', e = .returned (.tuple #[v, v']) ∧ OwnP w w' m ss l v v' ∧ Below w.heap.size w w' := by
  obtain ⟨K, h1, h2, h3⟩ := packL_skip m ss l
  have hl := hL.len
  by_cases hk : K = l.length
  · exact packed_all w A n c m hM A1 n1 c1 ss hS A2 n2 c2 l hL hlim hlim1 hf K (by omega) h2
  · rcases h3 with h3 | h3
    · exact absurd h3 hk
    · exact packed_ptr w A n c m hM A1 n1 c1 ss hS A2 n2 c2 l hL hlim hlim1 hf K (by omega) h2 h3
theorem packed_ok {w : World} {A : Option Addr} {n c : Nat} {m : List UInt8} {A1 : Option Addr} {n1 c1 : Nat} {ss : List Int} {A2 : Option Addr} {n2 c2 : Nat} {l : List ByteArray} (hM : Rd u8R w w.heap.size A n c m) (hS : Rd intR w w.heap.size A1 n1 c1 ss) (hL : Rd strR w w.heap.size A2 n2 c2 l) (hlim : n + 256 ≤ 140737488355328) (hlim1 : n1 * 8 + 4096 ≤ 140737488355328) (hf : nameErr l = 0) {X : List UInt8} {Y : List Int} (hX : m ++ packT m ss l = X) (hY : ss ++ packN m ss l m.length = Y) {k k2 : Nat} (hk : X.length = k) (hk2 : Y.length = k2) :
    Calls Tryd.prog 43 #[.slice A n c, .slice A1 n1 c1, .slice A2 n2 c2] w fun e w' => ∃ A' c' A2 c2, e = .returned (.tuple #[.slice A' k c', .slice A2 k2 c2]) ∧ (Rd u8R w' w'.heap.size A' k c' X ∧ Rd intR w' w'.heap.size A2 k2 c2 Y) ∧ Below w.heap.size w w' := by
  refine (packed_own w A n c m hM A1 n1 c1 ss hS A2 n2 c2 l hL hlim hlim1 hf).mono ?_
  rintro e w' ⟨v, v', rfl, ho, hb⟩
  obtain ⟨A', c', A2, c2, rfl, rfl, hr, hr2⟩ := ho.rd hb.size
  rw [hX] at hr
  rw [hY] at hr2
  rw [hX, hY, hk, hk2]
  rw [hk] at hr
  rw [hk2] at hr2
  exact ⟨A', c', A2, c2, rfl, ⟨hr, hr2⟩, hb⟩
end Go.Proofs.YtkdfiedemhjjjaaDoor
