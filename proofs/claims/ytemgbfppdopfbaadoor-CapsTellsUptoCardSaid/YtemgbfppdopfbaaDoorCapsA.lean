/- Great and small letters: the places of letters, plain; letter; the iterator over letters. -/
import Derived.Test.YtemgbfppdopfbaaDoorCapsP
import Derived.RangeFuncNested
import Derived.RangeFuncBound
import Derived.RangeFuncCalls
import Derived.RangeFuncLeaves
import Derived.RangeFuncBox
import Derived.Shelf.Abstract
import Derived.Shelf.RegionOpen
import Derived.OwnWalkIn
import Derived.TacticsInMore
import Derived.LoopNIn
import Derived.LoopIn
import Derived.Maps.AppendAt
namespace Go.Proofs.YtemgbfppdopfbaaDoor
open Go.RowKit Go.Shelf
set_option linter.unusedVariables false
set_option linter.unusedSimpArgs false
attribute [local go_sem] Oper.semAt_some

def bytesOf (s : ByteArray) : List UInt8 := s.data.toList
theorem bytesOf_len (s : ByteArray) : (bytesOf s).length = s.size := by unfold bytesOf; rw [Array.length_toList]; rfl
theorem bytesOf_get (s : ByteArray) (k : Nat) (h : k < s.size) : (bytesOf s).getD k 0 = s[k] := by
  rw [List.getD_eq_getElem?_getD, List.getElem?_eq_getElem (by rw [bytesOf_len]; exact h)]
  rfl
/-- the letters' places in the first K bytes of label i -/
def posK (l : List UInt8) (i K : Nat) : List (Nat × Nat) := ((List.range K).filter fun k => letterB (l.getD k 0)).map fun k => (i, k)
/-- in the first I labels -/
def posN (ns : List ByteArray) (I : Nat) : List (Nat × Nat) := (List.range I).flatMap fun i => posK (bytesOf (ns.getD i .empty)) i (ns.getD i .empty).size
theorem posK_zero (l : List UInt8) (i : Nat) : posK l i 0 = [] := rfl
theorem posK_yes {l : List UInt8} {i K : Nat} (h : letterB (l.getD K 0) = true) : posK l i (K + 1) = posK l i K ++ [(i, K)] := by
  unfold posK
  rw [List.range_succ, List.filter_append, List.map_append, List.filter_cons, if_pos h]
  rfl
theorem posK_no {l : List UInt8} {i K : Nat} (h : letterB (l.getD K 0) = false) : posK l i (K + 1) = posK l i K := by
  unfold posK
  rw [List.range_succ, List.filter_append, List.map_append, List.filter_cons, if_neg (by rw [h]; simp)]
  simp
theorem posK_le (l : List UInt8) (i : Nat) {K M : Nat} (h : K ≤ M) : (posK l i K).length ≤ (posK l i M).length := by
  induction M with
  | zero => obtain rfl : K = 0 := by omega
            exact Nat.le_refl _
  | succ M ih =>
    by_cases e : K = M + 1
    · subst e; exact Nat.le_refl _
    · have := ih (by omega)
      cases hl : letterB (l.getD M 0) with
      | true => rw [posK_yes hl]; simp; omega
      | false => rw [posK_no hl]; exact this
theorem posN_zero (ns : List ByteArray) : posN ns 0 = [] := rfl
theorem posN_succ (ns : List ByteArray) (I : Nat) : posN ns (I + 1) = posN ns I ++ posK (bytesOf (ns.getD I .empty)) I (ns.getD I .empty).size := by
  unfold posN
  rw [List.range_succ, List.flatMap_append]
  simp
theorem posN_le (ns : List ByteArray) {I M : Nat} (h : I ≤ M) : (posN ns I).length ≤ (posN ns M).length := by
  induction M with
  | zero => obtain rfl : I = 0 := by omega
            exact Nat.le_refl _
  | succ M ih =>
    by_cases e : I = M + 1
    · subst e; exact Nat.le_refl _
    · have := ih (by omega)
      rw [posN_succ]; simp; omega
theorem pos_lt {ns : List ByteArray} {I M K : Nat} (hI : I < M) (hK : K < (ns.getD I .empty).size) (hl : letterB ((bytesOf (ns.getD I .empty)).getD K 0) = true) : (posN ns I ++ posK (bytesOf (ns.getD I .empty)) I K).length < (posN ns M).length := by
  have h1 := posN_le ns (show I + 1 ≤ M from hI)
  rw [posN_succ, List.length_append] at h1
  have h2 := posK_le (bytesOf (ns.getD I .empty)) I (show K + 1 ≤ (ns.getD I .empty).size from hK)
  rw [posK_yes hl, List.length_append, List.length_singleton] at h2
  rw [List.length_append]
  omega

set_option maxRecDepth 100000 in
theorem letter_all : ∀ n : Nat, n < 256 → bits .or .u8 (n : Int) 32 = (((UInt8.ofNat n) ||| 32).toNat : Int) := by decide +kernel
theorem letter_any (b : UInt8) (w : World) : Calls Tryd.prog 49 #[.int .u8 (b.toNat : Int)] w fun e w' => e = .returned (.bool (letterB b)) ∧ w' = w := by
  have hor : bits .or .u8 (b.toNat : Int) 32 = ((b ||| 32).toNat : Int) := by
    have := letter_all b.toNat b.toNat_lt
    rwa [UInt8.ofNat_toNat] at this
  have hlt := (b ||| 32).toNat_lt
  have hL : letterB b = (decide (97 ≤ (b ||| 32).toNat) && decide ((b ||| 32).toNat ≤ 122)) := rfl
  generalize (b ||| 32).toNat = y at *
  generalize b.toNat = x at *
  by_cases h1 : 97 ≤ y
  · by_cases h2 : y ≤ 122
    · have hr := hid (show letterB b = true by rw [hL, decide_eq_true h1, decide_eq_true h2]; rfl)
      have q1 : (97 : Int) ≤ (y : Int) := by omega
      have q2 : (y : Int) ≤ 122 := by omega
      clear hL
      go_enter Tryd.func49, Tryd.ntmps49
      go_wp2
      go_ret
      exact ⟨by rw [hr.out]; first | rfl | simp, rfl⟩
    · have hr := hid (show letterB b = false by rw [hL, decide_eq_false h2]; simp)
      have q1 : (97 : Int) ≤ (y : Int) := by omega
      have q2 : ¬ (y : Int) ≤ 122 := by omega
      clear hL
      go_enter Tryd.func49, Tryd.ntmps49
      go_wp2
      go_ret
      exact ⟨by rw [hr.out]; first | rfl | simp, rfl⟩
  · have hr := hid (show letterB b = false by rw [hL, decide_eq_false h1]; simp)
    have q1 : ¬ (97 : Int) ≤ (y : Int) := by omega
    clear hL
    go_enter Tryd.func49, Tryd.ntmps49
    go_wp2
    go_ret
    exact ⟨by rw [hr.out]; first | rfl | simp, rfl⟩

/-! the iterator -/
set_option maxRecDepth 100000 in
set_option maxHeartbeats 4000000 in
theorem letters1_in (n : Nat) (hn : 1 ≤ n) (l Bs n₀ len cap : Nat) (A : Option Addr) (ns : List ByteArray) (J Jx : List (Nat × Nat) → World → Prop)
    (hY : ∀ (pre : List (Nat × Nat)) (x : Nat × Nat) W, (x.1 < len ∧ x.2 < (ns.getD x.1 .empty).size) → J pre W → pre.length < (posN ns len).length → YieldAt Fence.wide (n - 1) Tryd.prog l #[.int .i64 (x.1 : Int), .int .i64 (x.2 : Int)] W fun e W' =>
      (e = .returned (.bool true) ∧ J (pre ++ [x]) W' ∧ Below n₀ W W') ∨ (e = .returned (.bool false) ∧ Jx (pre ++ [x]) W'))
    (W : World) (hBs : W.cell? ⟨Bs, 0, none⟩ = some (.slice A len cap)) (hR : Rd strR W n₀ A len cap ns) (h0 : J [] W) :
    CallsIn Fence.wide n Tryd.prog 48 #[.func (.yield l) #[] #[], .pointer (some ⟨Bs, 0, none⟩)] W fun e W' => (∃ v, e = .returned v) ∧
      ((∃ ys, ys = posN ns len ∧ J ys W') ∨ (∃ pre, True ∧ Jx pre W')) := by
  have hm := hR.max
  have hcap := hR.cap
  unfold maxLen at hm
  have HR := hid hR
  have HY := hid hY
  clear hR hY
  refine callsIn_of_wp Tryd.func48 rfl trivial ?_ rfl
  simp only [Tryd.ntmps48, List.size_toArray, List.length_cons, List.length_nil, Nat.reduceAdd, Nat.reduceSub, Array.replicate_succ, Array.replicate_zero, List.push_toArray, List.append_toArray, List.nil_append, List.cons_append]
  gi_wp2
  gi_loopw [8] (fun i wr => ∃ k : Nat, k ≤ len ∧ i = .int .i64 k ∧ J (posN ns k) wr ∧ Below n₀ W wr) (fun i _ => len - (intOf i).toNat)
  case atStart => exact ⟨0, Nat.zero_le _, rfl, h0, Below.refl _ _⟩
  case round =>
    obtain ⟨I, hI, rfl, hJs, hlow⟩ := hrel
    have HJ := hid hJs
    have HL := hid hlow
    clear hJs hlow
    by_cases hlt : I < len
    · obtain ⟨b, o, rfl, hb, hc, hz⟩ := (HR.out.below HL.out).str I hlt
      have hil : I < ns.length := by rw [HR.out.len]; exact hlt
      obtain ⟨s, hs⟩ : ∃ s, ns[I] = s := ⟨_, rfl⟩
      have hgs : ns.getD I .empty = s := by rw [List.getD_eq_getElem?_getD, List.getElem?_eq_getElem hil]; exact hs
      rw [hs] at hc hz
      have HGS := hid hgs
      obtain ⟨w1, hw1⟩ : ∃ w1, w1 = wr := ⟨_, rfl⟩
      subst hw1
      clear hs hgs
      gi_wp2
      gi_loopw [15] (fun i wr => ∃ k : Nat, k ≤ s.size ∧ i = .int .i64 k ∧ J (posN ns I ++ posK (bytesOf s) I k) wr ∧ Below n₀ W wr) (fun i _ => s.size - (intOf i).toNat)
      case atStart => exact ⟨0, Nat.zero_le _, rfl, by rw [posK_zero, List.append_nil]; exact HJ.out, HL.out⟩
      case round =>
        obtain ⟨K, hK, rfl, hJs, hlow⟩ := hrel
        have HJ2 := hid hJs
        have HL2 := hid hlow
        clear hJs hlow
        by_cases hlt2 : K < s.size
        · obtain ⟨x, hx⟩ : ∃ x, s[K]'hlt2 = x := ⟨_, rfl⟩
          have hgx : (bytesOf s).getD K 0 = x := by rw [bytesOf_get s K hlt2, hx]
          have CL := letter_any x
          have HGX := hid hgx
          cases hl : letterB x with
          | true =>
            rw [hl] at CL
            have hl2 : letterB ((bytesOf s).getD K 0) = true := by rw [hgx]; exact hl
            have hpl : (posN ns I ++ posK (bytesOf s) I K).length < (posN ns len).length := by
              have := pos_lt (ns := ns) (I := I) (M := len) (K := K) hlt (by rw [HGS.out]; exact hlt2) (by rw [HGS.out]; exact hl2)
              rwa [HGS.out] at this
            obtain ⟨fn, tmps, assign, body, hy, hR⟩ := HY.out _ (I, K) wr ⟨hlt, by dsimp only; rw [HGS.out]; exact hlt2⟩ HJ2.out hpl
            dsimp only at hy
            have HP := hid (posK_yes (i := I) hl2)
            have HC := hid CL
            have HRR := hid hR
            clear CL hl hl2 hgx hpl hR
            gi_wp2_with (refine ⟨trivial, ?_⟩; gi_at_call 49; refine (callsIn_wide.2 (HC.out _)).mono ?_; rintro e w' ⟨rfl, rfl⟩)
            refine HRR.out.mono ?_
            rintro e W3 (⟨rfl, hJ3, hk3⟩ | ⟨rfl, hJx3⟩)
            · gi_wp2
              go_roundw
              case rel => exact ⟨K + 1, by omega, by simp, by rw [HP.out, ← List.append_assoc]; exact hJ3, HL2.out.trans hk3⟩
              case measure => simp [intOf]; omega
            · gi_wp2
              refine bodyPost_ret (results_none rfl _ _ _) rfl ?_
              exact ⟨⟨_, rfl⟩, .inr ⟨_, trivial, hJx3⟩⟩
          | false =>
            rw [hl] at CL
            have hl2 : letterB ((bytesOf s).getD K 0) = false := by rw [hgx]; exact hl
            have HP := hid (posK_no (i := I) hl2)
            have HC := hid CL
            clear CL hl hl2 hgx
            gi_wp2_with (refine ⟨trivial, ?_⟩; gi_at_call 49; refine (callsIn_wide.2 (HC.out _)).mono ?_; rintro e w' ⟨rfl, rfl⟩)
            refine ⟨fun _ h => (by cases h), ?_⟩
            gi_wp2
            go_roundw
            case rel => exact ⟨K + 1, by omega, by simp, by rw [HP.out]; exact HJ2.out, HL2.out⟩
            case measure => simp [intOf]; omega
        · obtain rfl : K = s.size := by omega
          gi_wp2
          go_roundw
          case rel => exact ⟨I + 1, by omega, by simp, by rw [posN_succ, HGS.out]; exact HJ2.out, HL2.out⟩
          case measure => simp [intOf]; omega
    · obtain rfl : I = len := by omega
      gi_wp2
      go_end0
      exact ⟨⟨_, rfl⟩, .inl ⟨_, rfl, HJ.out⟩⟩
end Go.Proofs.YtemgbfppdopfbaaDoor
