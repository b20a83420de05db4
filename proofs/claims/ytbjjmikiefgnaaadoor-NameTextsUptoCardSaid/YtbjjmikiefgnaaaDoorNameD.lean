/- Names: slices.Reverse of a row of the call's own; Compare. -/
import Derived.Test.YtbjjmikiefgnaaaDoorNameC
import Derived.BigRegion
namespace Go.Proofs.YtbjjmikiefgnaaaDoor
open Go.RowKit
set_option linter.unusedVariables false
set_option linter.unusedSimpArgs false

/-- k of the first ones and of the last ones changed over -/
def revK (l : List ByteArray) (k : Nat) : List ByteArray := (List.range l.length).map fun i => if i < k ∨ l.length - k ≤ i then l.getD (l.length - 1 - i) .empty else l.getD i .empty
theorem revK_len (l : List ByteArray) (k : Nat) : (revK l k).length = l.length := by simp [revK]
theorem revK_get (l : List ByteArray) (k i : Nat) (h : i < l.length) : (revK l k)[i]? = some (if i < k ∨ l.length - k ≤ i then l.getD (l.length - 1 - i) .empty else l.getD i .empty) := by
  unfold revK
  rw [List.getElem?_map, List.getElem?_range h]; rfl
theorem revK_zero (l : List ByteArray) : revK l 0 = l := by
  apply List.ext_getElem?
  intro i
  by_cases h : i < l.length
  · rw [revK_get l 0 i h, if_neg (by omega), List.getD_eq_getElem?_getD, List.getElem?_eq_getElem h]; rfl
  · rw [List.getElem?_eq_none (by rw [revK_len]; omega), List.getElem?_eq_none (by omega)]
theorem revK_all (l : List ByteArray) (k : Nat) (h : l.length ≤ 2 * k + 1) : revK l k = l.reverse := by
  apply List.ext_getElem?
  intro i
  by_cases hi : i < l.length
  · rw [revK_get l k i hi, List.getElem?_reverse hi]
    by_cases c : i < k ∨ l.length - k ≤ i
    · rw [if_pos c, List.getD_eq_getElem?_getD, List.getElem?_eq_getElem (by omega)]; rfl
    · rw [if_neg c, show l.length - 1 - i = i by omega, List.getD_eq_getElem?_getD, List.getElem?_eq_getElem hi]; rfl
  · rw [List.getElem?_eq_none (by rw [revK_len]; omega), List.getElem?_eq_none (by simp; omega)]
theorem revK_succ (l : List ByteArray) (k : Nat) (h : 2 * k + 1 < l.length) : revK l (k + 1) = ((revK l k).set k (l.getD (l.length - 1 - k) .empty)).set (l.length - 1 - k) (l.getD k .empty) := by
  apply List.ext_getElem?
  intro i
  by_cases hi : i < l.length
  · rw [revK_get l (k + 1) i hi, List.getElem?_set, List.getElem?_set, List.length_set, revK_len, revK_get l k i hi]
    by_cases c1 : l.length - 1 - k = i
    · subst c1
      rw [if_pos (by omega), if_pos rfl, if_pos (by omega), show l.length - 1 - (l.length - 1 - k) = k by omega]
    · rw [if_neg c1]
      by_cases c2 : k = i
      · subst c2
        rw [if_pos (by omega), if_pos rfl, if_pos (by omega)]
      · rw [if_neg c2]
        congr 1
        by_cases c3 : i < k ∨ l.length - k ≤ i
        · rw [if_pos c3, if_pos (by omega)]
        · rw [if_neg c3, if_neg (by omega)]
  · rw [List.getElem?_eq_none (by rw [revK_len]; omega), List.getElem?_eq_none (by simp [revK_len]; omega)]
theorem strsV_set (l : List ByteArray) (k : Nat) (b : ByteArray) : strsV (l.set k b) = (strsV l).set k (.string b) := by simp [strsV, List.map_set]

set_option maxRecDepth 100000 in
set_option maxHeartbeats 4000000 in
theorem reverse_own (w : World) (base g n cap : Nat) (l : List ByteArray) (h : w.ownsRow base 9 1 (.slice (some ⟨g, 0, none⟩) n cap) n (strsV l)) :
    Calls Tryd.prog 46 #[.slice (some ⟨g, 0, none⟩) n cap] w fun e w' => e = .returned (.tuple #[]) ∧ w'.ownsRow base 9 1 (.slice (some ⟨g, 0, none⟩) n cap) n (strsV l.reverse) ∧ Below base w w' ∧ w'.heap.size = w.heap.size ∧ ∀ k, k ≠ g → w'.heap[k]? = w.heap[k]? := by
  obtain ⟨A', cap', he, hcap, hmax, hA⟩ := own_slice h
  cases he
  unfold maxLen at hmax
  have hln : l.length = n := by have := h.1; simpa [strsV] using this
  have HLN := hid hln
  have H0 := hid h
  clear h hA hln
  go_enter Tryd.func46, Tryd.ntmps46
  go_wp2
  go_loopg [2, 3] n (fun gk v2 v3 wi => ∃ (k : Nat) (j : Int), 2 * k ≤ n + 1 ∧ gk = n - k ∧ v2 = .int .i64 (k : Int) ∧ v3 = .int .i64 j ∧ j = (n : Int) - 1 - k ∧ wi.ownsRow base 9 1 (.slice (some ⟨g, 0, none⟩) n cap) n (strsV (revK l k)) ∧ Below base w wi ∧ wi.heap.size = w.heap.size ∧ ∀ i, i ≠ g → wi.heap[i]? = w.heap[i]?)
  case atStart => exact ⟨0, (n : Int) - 1, by omega, rfl, rfl, by simp, by simp, by rw [revK_zero]; exact H0.out, Below.refl _ _, rfl, fun _ _ => rfl⟩
  case round =>
    obtain ⟨k, j, hk, rfl, rfl, rfl, hj, hown, hlow, hsz, hoth⟩ := hrel
    have HO := hid hown
    have HLOW := hid hlow
    have HSZ := hid hsz
    have HOT := hid hoth
    clear hown hlow hsz hoth
    by_cases hlt : (k : Int) < j
    · obtain ⟨q, hq⟩ : ∃ q : Nat, j = (q : Int) := ⟨j.toNat, by omega⟩
      subst hq
      have hqn : q < n := by omega
      have hkq : k < q := by omega
      have hqk : q = n - 1 - k := by omega
      have hg := HO.out.lt g rfl
      have ck : wr.cell? ⟨g, k, none⟩ = some (.string (l.getD k .empty)) := by
        rw [HO.out.cellAt k (by omega)]
        rw [strsV, List.getElem?_map, revK_get _ _ _ (by rw [HLN.out]; omega), if_neg (by rw [HLN.out]; omega)]; rfl
      have cq : wr.cell? ⟨g, q, none⟩ = some (.string (l.getD q .empty)) := by
        rw [HO.out.cellAt q (by omega)]
        rw [strsV, List.getElem?_map, revK_get _ _ _ (by rw [HLN.out]; omega), if_neg (by rw [HLN.out]; omega)]; rfl
      have fk : wr.frozen? ⟨g, k, none⟩ = false := HO.out.frozenAt k
      have fq : wr.frozen? ⟨g, q, none⟩ = false := HO.out.frozenAt q
      generalize hx : l.getD k .empty = x at *
      generalize hy : l.getD q .empty = y at *
      have HXY := hid (And.intro hx hy)
      clear hx hy
      have HQ := hid hqk
      have HJ := hid hj
      have hne : ¬ k = q := by omega
      have hne' : ¬ q = k := by omega
      have e0 : (0 : Int) ≤ (q : Int) := by omega
      have e1 : (k : Int) < (n : Int) := by omega
      have e2 : (q : Int) < (n : Int) := by omega
      clear hqk hj
      go_wp2_with fail
      go_region
      all_goals
        go_wp2
        go_roundg (n - (k + 1))
        case measure => omega
        case rel =>
          refine ⟨k + 1, (q : Int) - 1, by have := HQ.out; omega, rfl, by go_num, rfl, by have := HJ.out; omega, ?_, ((HLOW.out.setCell hg.1 _).setCell hg.1 _).drew, by simpa using HSZ.out, fun i hi => (Below.heap_setCell _ _ _ i hi).trans ((Below.heap_setCell _ _ _ i hi).trans (HOT.out i hi))⟩
          rw [revK_succ l k (by rw [HLN.out]; have := HQ.out; omega), HLN.out, ← HQ.out, HXY.out.1, HXY.out.2, strsV_set, strsV_set]
          exact (((HO.out.stored k _).1).stored q _).1.drew
    · go_wp2
      go_end0
      have ho := HO.out
      rw [revK_all l k (by rw [HLN.out]; omega)] at ho
      exact ⟨rfl, by simpa [strsV] using ho, HLOW.out, HSZ.out, HOT.out⟩
/-- Reverse, of whatever row of the call's own -/
theorem reverse_any (w : World) (base n : Nat) (v : Value) (l : List ByteArray) (h : w.ownsRow base 9 1 v n (strsV l)) :
    Calls Tryd.prog 46 #[v] w fun e w' => e = .returned (.tuple #[]) ∧ w'.ownsRow base 9 1 v n (strsV l.reverse) ∧ Below base w w' ∧ w.grownBy w' v.ownBlock := by
  rcases h.2 with ⟨rfl, rfl⟩ | ⟨g, cap, cur, rfl, hb, hh, hnc, hcm, hcs, ht⟩
  · have hl : l = [] := by
      have := h.1
      simp [strsV] at this
      exact List.eq_nil_of_length_eq_zero (by simpa using this)
    subst hl
    have H := hid h
    clear h
    go_enter Tryd.func46, Tryd.ntmps46
    go_wp2
    go_loopg [2, 3] 0 (fun gk v2 v3 wi => v2 = .int .i64 0 ∧ v3 = .int .i64 (-1) ∧ wi = w)
    case atStart => exact ⟨rfl, rfl, rfl⟩
    case round =>
      obtain ⟨rfl, rfl, rfl⟩ := hrel
      go_wp2
      go_end0
      exact ⟨rfl, H.out, Below.refl _ _, ⟨rfl, rfl, rfl, Nat.le_refl _, fun _ _ _ => rfl⟩⟩
  · refine (reverse_own w base g n cap l h).mono ?_
    rintro e w' ⟨he, ho, hb, hs, hk⟩
    exact ⟨he, ho, hb, ⟨hb.os, hb.tape, hb.output, by omega, fun k _ hne => hk k (fun e => hne (by simp [Value.ownBlock, e]))⟩⟩

/-! Compare -/
theorem ne_blocks {v1 v2 : Value} {m : Nat} (h1 : ∀ g, v1.ownBlock = some g → g < m) (h2 : ∀ g, v2.ownBlock = some g → m ≤ g) : (v2.ownBlock = none ∨ v2.ownBlock ≠ v1.ownBlock) ∧ (v1.ownBlock = none ∨ v1.ownBlock ≠ v2.ownBlock) := by
  cases e1 : v1.ownBlock with
  | none => exact ⟨by cases e2 : v2.ownBlock <;> simp, .inl rfl⟩
  | some g1 =>
    cases e2 : v2.ownBlock with
    | none => exact ⟨.inl rfl, .inr (by simp)⟩
    | some g2 =>
      have a := h1 g1 e1
      have b := h2 g2 e2
      exact ⟨.inr (by simp; omega), .inr (by simp; omega)⟩
theorem own_rd_str {w : World} {base n : Nat} {v : Value} {l : List ByteArray} (h : w.ownsRow base 9 1 v n (strsV l)) (hs : ∀ s ∈ l, s.size ≤ 140737488355328) (hb : base ≤ w.heap.size) (hn : n * 16 ≤ 140737488355328) : ∃ A c, v = .slice A n c ∧ Rd strR w w.heap.size A n c l :=
  rd_of_own (R := strR) h (rels_str hs) (by have := h.1; simpa [strsV] using this) hb (by simpa [strR] using hn) (by decide)

set_option maxRecDepth 100000 in
set_option maxHeartbeats 4000000 in
theorem compare_any (w : World) (A1 : Option Addr) (n1 c1 : Nat) (l1 : List ByteArray) (h1 : Rd strR w w.heap.size A1 n1 c1 l1) (A2 : Option Addr) (n2 c2 : Nat) (l2 : List ByteArray) (h2 : Rd strR w w.heap.size A2 n2 c2 l2) :
    Calls Tryd.prog 21 #[.slice A1 n1 c1, .slice A2 n2 c2] w fun e w' => e = .returned (.int .i64 (cmpL l1.reverse l2.reverse)) ∧ Below w.heap.size w w' := by
  have hn1 := h1.lim
  have hn2 := h2.lim
  simp only [strR] at hn1 hn2
  have S1 := hid h1.sizes
  have S2 := hid h2.sizes
  have C1 := hid (clone_strs w A1 n1 c1 l1 _ h1)
  have C2 := hid fun w' (hb : Below w.heap.size w w') => clone_strs w' A2 n2 c2 l2 _ (h2.below hb)
  clear h1 h2
  go_enter Tryd.func21, Tryd.ntmps21
  go_wp2_with fail
  refine C1.out.mono ?_
  rintro e w1 ⟨v1, rfl, ho1, hb1⟩
  have HO1 := hid ho1
  have HB1 := hid hb1
  clear ho1 hb1
  go_wp2_with fail
  refine (C2.out _ HB1.out).mono ?_
  rintro e w2 ⟨v2, rfl, ho2, hb2⟩
  have z1 := HB1.out.size
  have HO1B := hid fun g e => (HO1.out.lt g e).2
  have own1 := hid (own_low HO1.out hb2 (Nat.le_refl _))
  have HO2 := hid ho2
  have HB2 := hid (HB1.out.trans (hb2.mono z1))
  have z2 := hb2.size
  clear ho2 hb2 HO1
  go_wp2_with fail
  refine (reverse_any _ _ _ _ _ own1.out).mono ?_
  rintro e w3 ⟨rfl, ho3, hb3, hg3⟩
  have own2 := hid (HO2.out.kept hg3 (ne_blocks HO1B.out fun g e => (HO2.out.lt g e).1).1)
  have HO3 := hid ho3
  have z3 := hb3.size
  have HB3 := hid (HB2.out.trans hb3)
  clear ho3 hb3 hg3
  go_wp2_with fail
  refine (reverse_any _ _ _ _ _ own2.out).mono ?_
  rintro e w4 ⟨rfl, ho4, hb4, hg4⟩
  have own3 := hid (HO3.out.kept hg4 (ne_blocks HO1B.out fun g e => (own2.out.lt g e).1).2)
  have z4 := hb4.size
  have HB4 := hid (HB3.out.trans (hb4.mono z1))
  obtain ⟨A3, c3, rfl, hr3⟩ := own_rd_str own3.out (fun s hs => S1.out s (List.mem_reverse.1 hs)) (by omega) hn1
  obtain ⟨A4, c4, rfl, hr4⟩ := own_rd_str ho4 (fun s hs => S2.out s (List.mem_reverse.1 hs)) (by omega) hn2
  have CC := hid (compareFunc_any _ _ _ _ _ hr3 _ _ _ _ hr4)
  clear ho4 hb4 hg4 hr3 hr4
  go_wp2_with fail
  refine CC.out.mono ?_
  rintro e w5 ⟨rfl, hb5⟩
  have HB5 := hid (HB4.out.trans (hb5.mono (by omega)))
  clear hb5
  go_wp2
  go_ret
  exact ⟨rfl, HB5.out⟩
end Go.Proofs.YtbjjmikiefgnaaaDoor
