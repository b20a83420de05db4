/- wire: contracts of Write, Read, Pack as the laws meet them, one for each way. -/
import Derived.Test.YtkdfiedemhjjjaaWireE
import Derived.Test.YtkdfiedemhjjjaaSameBytes
namespace Go.Proofs.Ytkdfiedemhjjjaa
open Go.RowKit
set_option linter.unusedVariables false

section
variable {w : World} {A : Option Addr} {n c : Nat} {m : List UInt8} {A1 : Option Addr} {n1 c1 : Nat} {ss : List Int} {A2 : Option Addr} {n2 c2 : Nat} {l : List ByteArray}
theorem read_ok (hM : Rd u8R w w.heap.size A n c m) {at_ nx : Int} (hr : rdN m at_ = (0, l, nx)) {k : Nat} (hk : l.length = k) :
    Calls Try.prog 40 #[.slice A n c, .int .i64 at_] w fun e w' => ∃ A' c', e = .returned (.tuple #[.slice A' k c', .int .i64 nx, .nilIface]) ∧ Rd strR w' w'.heap.size A' k c' l ∧ Below w.heap.size w w' := by
  refine (wread_any w A n c m hM at_).mono ?_
  rintro e w' ⟨hb, he⟩
  rw [hr, if_pos rfl] at he
  obtain ⟨A', c', he, hr'⟩ := he
  simp only [hk] at he hr'
  exact ⟨A', c', he, hr', hb⟩
theorem read_bad (hM : Rd u8R w w.heap.size A n c m) {at_ : Int} {k : Int} (hr : (rdN m at_).1 = k) (hk : k ≠ 0) :
    Calls Try.prog 40 #[.slice A n c, .int .i64 at_] w fun e w' => e = .returned (.tuple #[.slice none 0 0, .int .i64 0, .iface 65 (.int .i64 k)]) ∧ Below w.heap.size w w' := by
  refine (wread_any w A n c m hM at_).mono ?_
  rintro e w' ⟨hb, he⟩
  rw [if_neg (by rw [hr]; exact hk), hr] at he
  exact ⟨he, hb⟩
theorem pack_ok (hM : Rd u8R w w.heap.size A n c m) (hS : Rd intR w w.heap.size A1 n1 c1 ss) (hL : Rd strR w w.heap.size A2 n2 c2 l) (hlim : n + 256 ≤ 140737488355328) (hlim1 : n1 * 8 + 4096 ≤ 140737488355328) (hf : nameErr l = 0) {X : List UInt8} {Y : List Int} (hX : m ++ packT m ss l = X) (hY : ss ++ packN m ss l m.length = Y) {k k2 : Nat} (hk : X.length = k) (hk2 : Y.length = k2) :
    Calls Try.prog 28 #[.slice A n c, .slice A1 n1 c1, .slice A2 n2 c2] w fun e w' => ∃ A' c' A2 c2, e = .returned (.tuple #[.slice A' k c', .slice A2 k2 c2, .nilIface]) ∧ (Rd u8R w' w'.heap.size A' k c' X ∧ Rd intR w' w'.heap.size A2 k2 c2 Y) ∧ Below w.heap.size w w' := by
  refine (pack_any w A n c m hM A1 n1 c1 ss hS A2 n2 c2 l hL hlim hlim1).mono ?_
  rintro e w' ⟨hb, he⟩
  rw [if_pos hf, hX, hY, hk, hk2] at he
  obtain ⟨A', c', A2, c2, he, hr, hr2⟩ := he
  exact ⟨A', c', A2, c2, he, ⟨hr, hr2⟩, hb⟩
theorem pack_bad (hM : Rd u8R w w.heap.size A n c m) (hS : Rd intR w w.heap.size A1 n1 c1 ss) (hL : Rd strR w w.heap.size A2 n2 c2 l) (hlim : n + 256 ≤ 140737488355328) (hlim1 : n1 * 8 + 4096 ≤ 140737488355328) {k : Int} (hf : nameErr l = k) (hk : k ≠ 0) :
    Calls Try.prog 28 #[.slice A n c, .slice A1 n1 c1, .slice A2 n2 c2] w fun e w' => e = .returned (.tuple #[.slice none 0 0, .slice none 0 0, .iface 65 (.int .i64 k)]) ∧ Below w.heap.size w w' := by
  refine (pack_any w A n c m hM A1 n1 c1 ss hS A2 n2 c2 l hL hlim hlim1).mono ?_
  rintro e w' ⟨hb, he⟩
  rw [if_neg (by rw [hf]; exact hk), hf] at he
  exact ⟨he, hb⟩
end

/-! the fact that each law opens with: 'a' sent -/
theorem rd_one {w : World} {g : Nat} (t : TypeId) (s : ByteArray) (hs : s.size ≤ 140737488355328) (hg : g = w.heap.size) : Rd strR (w.alloc (.cells #[.string s] t)) (w.alloc (.cells #[.string s] t)).heap.size (some ⟨g, 0, none⟩) 1 1 [s] := by
  subst hg
  have h : Blk (w.alloc (.cells #[.string s] t)) w.heap.size t #[.string s] := Blk.new w t _
  refine ⟨rfl, Nat.le_refl _, by simp [maxLen], by simp [strR], fun e => (by cases e), fun i hi => ?_⟩
  obtain rfl : i = 0 := by simpa using hi
  refine ⟨w.heap.size, 0, _, rfl, h.lt, ⟨rfl, hs⟩, fun j u hu => ?_⟩
  have hj : j = 0 := by
    cases j with
    | zero => rfl
    | succ j => simp at hu
  subst hj
  simp at hu
  subst hu
  simp [h.cell]
theorem bytes_yes {w : World} {A1 : Option Addr} {n1 c1 B1 : Nat} {l : List UInt8} {A2 : Option Addr} {n2 c2 B2 : Nat} (h1 : Rd u8R w B1 A1 n1 c1 l) (h2 : Rd u8R w B2 A2 n2 c2 l) :
    Calls Try.prog 13 #[.slice A1 n1 c1, .slice A2 n2 c2] w fun e w' => e = .returned (.bool true) ∧ Below w.heap.size w w' := by
  have := bytes_any w A1 n1 c1 l B1 h1 A2 n2 c2 l B2 h2
  rwa [decide_eq_true rfl] at this
theorem texts_yes {w : World} {A1 : Option Addr} {n1 c1 B1 : Nat} {l : List ByteArray} {A2 : Option Addr} {n2 c2 B2 : Nat} (h1 : Rd strR w B1 A1 n1 c1 l) (h2 : Rd strR w B2 A2 n2 c2 l) :
    Calls Try.prog 32 #[.slice A1 n1 c1, .slice A2 n2 c2] w fun e w' => e = .returned (.bool true) ∧ Below w.heap.size w w' := by
  have := texts_any w A1 n1 c1 l B1 h1 A2 n2 c2 l B2 h2
  rwa [decide_eq_true rfl] at this
theorem rd_fact {w : World} {g : Nat} (t : TypeId) (hg : g = w.heap.size) : Rd u8R (w.alloc (.cells #[.int .u8 1, .int .u8 97, .int .u8 0] t)) (w.alloc (.cells #[.int .u8 1, .int .u8 97, .int .u8 0] t)).heap.size (some ⟨g, 0, none⟩) 3 3 [1, 97, 0] :=
  rd_lit t _ [1, 97, 0] 3 hg rfl rfl (by omega)

theorem own_empty {w : World} {base : Nat} {e : TypeId} (hb : base ≤ w.heap.size) : (w.alloc (.cells #[] e)).ownsRow base e 1 (.slice (some ⟨w.heap.size, 0, none⟩) 0 0) 0 [] :=
  own_lit (size := 1) #[] [] rfl hb rfl (by decide) rfl
end Go.Proofs.Ytkdfiedemhjjjaa
