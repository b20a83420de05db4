/- The document's answers of names: Names, Below. -/
import Derived.Test.YtemgbfppdopfbaaDoorNameRef
namespace Go.Proofs.YtemgbfppdopfbaaDoor
open Go.RowKit
set_option linter.unusedVariables false
set_option linter.unusedSimpArgs false

theorem lex_str_nil (a b : List ByteArray) (k : Nat) (ha : a.length = k ∨ b.length = k) (hk : k ≤ a.length) (hk' : k ≤ b.length) : lex cmpB (a.drop k) (b.drop k) = if a.length < b.length then -1 else if b.length < a.length then 1 else 0 := by
  rcases ha with h | h
  · rw [List.drop_eq_nil_of_le (by omega)]
    by_cases e : b.length = k
    · rw [List.drop_eq_nil_of_le (by omega), if_neg (by omega), if_neg (by omega)]; rfl
    · rw [List.drop_eq_getElem_cons (by omega), if_pos (by omega)]; rfl
  · rw [show b.drop k = [] from List.drop_eq_nil_of_le (by omega)]
    by_cases e : a.length = k
    · rw [List.drop_eq_nil_of_le (by omega), if_neg (by omega), if_neg (by omega)]; rfl
    · rw [List.drop_eq_getElem_cons (by omega), if_neg (by omega), if_pos (by omega)]; rfl
theorem lex_str_step {x y : ByteArray} {l m : List ByteArray} {k : Nat} (hl : l[k]? = some x) (hm : m[k]? = some y) : lex cmpB (l.drop k) (m.drop k) = if cmpB x y = 0 then lex cmpB (l.drop (k + 1)) (m.drop (k + 1)) else cmpB x y := by
  obtain ⟨h1, e1⟩ := List.getElem?_eq_some_iff.1 hl
  obtain ⟨h2, e2⟩ := List.getElem?_eq_some_iff.1 hm
  rw [List.drop_eq_getElem_cons h1, List.drop_eq_getElem_cons h2, lex, e1, e2]

set_option maxRecDepth 100000 in
set_option maxHeartbeats 4000000 in
theorem rnames_any (w : World) (A1 : Option Addr) (n1 c1 : Nat) (l1 : List ByteArray) (h1 : Rd strR w w.heap.size A1 n1 c1 l1) (A2 : Option Addr) (n2 c2 : Nat) (l2 : List ByteArray) (h2 : Rd strR w w.heap.size A2 n2 c2 l2) :
    Calls Tryd.prog 35 #[.slice A1 n1 c1, .slice A2 n2 c2] w fun e w' => e = .returned (.int .i64 (cmpN l1 l2)) ∧ Below w.heap.size w w' := by
  have m1 := h1.lim
  have m2 := h2.lim
  simp only [strR] at m1 m2
  have H1 := hid h1
  have H2 := hid h2
  clear h1 h2
  go_enter Tryd.func35, Tryd.ntmps35
  go_wp2
  go_loopg [5] n1 (fun gk v5 wi => ∃ k : Nat, k ≤ n1 ∧ k ≤ n2 ∧ gk = n1 - k ∧ v5 = .int .i64 ((k : Int) + 1) ∧ Below w.heap.size w wi ∧ cmpN l1 l2 = lex cmpB (l1.reverse.drop k) (l2.reverse.drop k))
  case atStart => exact ⟨0, Nat.zero_le _, Nat.zero_le _, rfl, rfl, Below.refl _ _, by unfold cmpN; rw [cmpL_lex]; rfl⟩
  case round =>
    obtain ⟨k, hk, hk', rfl, rfl, hlow, ht⟩ := hrel
    have HT := hid ht
    have HLOW := hid hlow
    clear ht hlow
    by_cases hlt : k < n1 ∧ k < n2
    · obtain ⟨q1, q2⟩ := hlt
      obtain ⟨i1, hi1⟩ : ∃ i, n1 - 1 - k = i := ⟨_, rfl⟩
      obtain ⟨i2, hi2⟩ : ∃ i, n2 - 1 - k = i := ⟨_, rfl⟩
      obtain ⟨b1, o1, rfl, _, hc1, z1⟩ := (H1.out.below HLOW.out).str i1 (by omega)
      obtain ⟨b2, o2, rfl, _, hc2, z2⟩ := (H2.out.below HLOW.out).str i2 (by omega)
      obtain ⟨x, hx⟩ : ∃ x, l1[i1]'(by rw [H1.out.len]; omega) = x := ⟨_, rfl⟩
      obtain ⟨y, hy⟩ : ∃ y, l2[i2]'(by rw [H2.out.len]; omega) = y := ⟨_, rfl⟩
      rw [hx] at hc1 z1
      rw [hy] at hc2 z2
      have st := lex_str_step (x := x) (y := y) (l := l1.reverse) (m := l2.reverse) (k := k)
        (by rw [List.getElem?_reverse (by rw [H1.out.len]; exact q1), H1.out.len, hi1, ← hx]; exact List.getElem?_eq_getElem _)
        (by rw [List.getElem?_reverse (by rw [H2.out.len]; exact q2), H2.out.len, hi2, ← hy]; exact List.getElem?_eq_getElem _)
      have HST := hid st
      have CL := rlabels_any x y z1 z2
      obtain ⟨r, hr⟩ : ∃ r, cmpB x y = r := ⟨_, rfl⟩
      rw [hr] at CL
      have HR := hid hr
      replace CL := hid CL
      have hsz := HLOW.out.size
      have lb1 : b1 < wr.heap.size := World.block_lt_of_cell? wr _ hc1
      have lb2 : b2 < wr.heap.size := World.block_lt_of_cell? wr _ hc2
      have e1 : (k : Int) + 1 ≤ (n1 : Int) := by omega
      have e2 : (k : Int) + 1 ≤ (n2 : Int) := by omega
      have w1 : IntKind.i64.wrap ((n1 : Int) - ((k : Int) + 1)) = (i1 : Int) := by rw [IntWalk.i64_in _ (by omega)]; omega
      have w2 : IntKind.i64.wrap ((n2 : Int) - ((k : Int) + 1)) = (i2 : Int) := by rw [IntWalk.i64_in _ (by omega)]; omega
      have g1 : (i1 : Int) < (n1 : Int) := by omega
      have g2 : (i2 : Int) < (n2 : Int) := by omega
      have g1' : (0 : Int) ≤ (i1 : Int) := by omega
      have g2' : (0 : Int) ≤ (i2 : Int) := by omega
      have s1 : i1 < n1 := by omega
      have s2 : i2 < n2 := by omega
      have HI := hid (And.intro hi1 hi2)
      clear hx hy st hr hi1 hi2
      by_cases he : r = 0
      · subst he
        have hfin : cmpN l1 l2 = lex cmpB (l1.reverse.drop (k + 1)) (l2.reverse.drop (k + 1)) := by rw [HT.out, HST.out, if_pos HR.out]
        have HF := hid hfin
        clear hfin
        go_wp2_with fail
        refine wp_region_ext (by kernel_rfl) (by kernel_rfl) ?_
        repeat (go_big_quiet_step ((go_at_call 52; with_reducible exact Calls.quiet_ext (CL.out _))))
        refine wpQuiet_nil ?_
        rintro _ ⟨⟨os, d⟩, rfl⟩
        simp only [exts]
        clear w1 w2
        go_wp2
        go_roundg (n1 - (k + 1))
        case measure => omega
        case rel => exact ⟨k + 1, by omega, by omega, rfl, by go_num, by have := HLOW.out; (repeat' (first | (with_reducible exact Below.refl _ _) | (with_reducible assumption) | (with_reducible refine below_ext0 ?_ _ _) | (with_reducible refine below_alloc0 ?_ _) | (with_reducible refine Below.ext ?_ ?_ _ _) | (with_reducible refine Below.alloc ?_ ?_ _) | (with_reducible refine Below.setCell ?_ ?_ _) | (with_reducible refine Below.drew ?_) | (with_reducible refine below_draws ?_ _) | go_size | (simp [size_ext]; done) | (simp [size_ext]; omega))), HF.out⟩
      · have hne : (r != 0) = true := by rw [bne_iff_ne]; exact he
        have hfin : cmpN l1 l2 = r := by rw [HT.out, HST.out, if_neg (by rw [HR.out]; exact he), HR.out]
        have HF := hid hfin
        clear hfin he
        go_wp2_with fail
        refine wp_region_ext (by kernel_rfl) (by kernel_rfl) ?_
        repeat (go_big_quiet_step ((go_at_call 52; with_reducible exact Calls.quiet_ext (CL.out _))))
        refine wpQuiet_nil ?_
        rintro _ ⟨⟨os, d⟩, rfl⟩
        simp only [exts]
        clear w1 w2
        go_wp2
        go_ret
        exact ⟨by rw [HF.out]; rfl, by have := HLOW.out; (repeat' (first | (with_reducible exact Below.refl _ _) | (with_reducible assumption) | (with_reducible refine below_ext0 ?_ _ _) | (with_reducible refine below_alloc0 ?_ _) | (with_reducible refine Below.ext ?_ ?_ _ _) | (with_reducible refine Below.alloc ?_ ?_ _) | (with_reducible refine Below.setCell ?_ ?_ _) | (with_reducible refine Below.drew ?_) | (with_reducible refine below_draws ?_ _) | go_size | (simp [size_ext]; done) | (simp [size_ext]; omega)))⟩
    · have hfin : cmpN l1 l2 = if (n1 : Int) < (n2 : Int) then -1 else if (n2 : Int) < (n1 : Int) then 1 else 0 := by
        rw [HT.out, lex_str_nil _ _ _ (by rw [List.length_reverse, List.length_reverse, H1.out.len, H2.out.len]; omega) (by rw [List.length_reverse, H1.out.len]; exact hk) (by rw [List.length_reverse, H2.out.len]; exact hk'), List.length_reverse, List.length_reverse, H1.out.len, H2.out.len]
        simp only [Int.ofNat_lt]
      have HF := hid hfin
      have CN := hid (numbers_any (n1 : Int) (n2 : Int))
      generalize (if (n1 : Int) < (n2 : Int) then (-1 : Int) else if (n2 : Int) < (n1 : Int) then 1 else 0) = r at *
      clear hfin
      have ways : (n1 : Int) < (k : Int) + 1 ∨ ((k : Int) + 1 ≤ (n1 : Int) ∧ (n2 : Int) < (k : Int) + 1) := by omega
      clear hlt
      rcases ways with h | ⟨h, h'⟩
      all_goals
        go_wp2_with (go_at_call 53; refine (CN.out _).mono ?_; rintro e w1 ⟨rfl, rfl⟩)
        go_ret
        exact ⟨by rw [HF.out]; rfl, HLOW.out⟩

set_option maxRecDepth 100000 in
set_option maxHeartbeats 4000000 in
theorem rbelow_any (w : World) (A1 : Option Addr) (n1 c1 : Nat) (l1 : List ByteArray) (h1 : Rd strR w w.heap.size A1 n1 c1 l1) (A2 : Option Addr) (n2 c2 : Nat) (l2 : List ByteArray) (h2 : Rd strR w w.heap.size A2 n2 c2 l2) :
    Calls Tryd.prog 38 #[.slice A1 n1 c1, .slice A2 n2 c2] w fun e w' => e = .returned (.bool (underL l1 l2)) ∧ Below w.heap.size w w' := by
  have m1 := h1.lim
  have m2 := h2.lim
  simp only [strR] at m1 m2
  have H1 := hid h1
  have H2 := hid h2
  clear h1 h2
  by_cases hle : n2 ≤ n1
  · have hu : underL l1 l2 = decide ((l1.reverse.take n2).map smallS = l2.reverse.map smallS) := by
      rw [Bool.eq_iff_iff, underL_iff, decide_eq_true_iff, ← List.reverse_prefix, ← List.map_reverse, ← List.map_reverse, List.prefix_iff_eq_take, List.length_map, List.length_reverse, H2.out.len, List.map_take]
      exact eq_comm
    have HU := hid hu
    clear hu
    go_enter Tryd.func38, Tryd.ntmps38
    go_wp2
    go_loopg [5] n2 (fun gk v5 wi => ∃ k : Nat, k ≤ n2 ∧ gk = n2 - k ∧ v5 = .int .i64 ((k : Int) + 1) ∧ Below w.heap.size w wi ∧ (l1.reverse.take k).map smallS = (l2.reverse.take k).map smallS)
    case atStart => exact ⟨0, Nat.zero_le _, rfl, rfl, Below.refl _ _, rfl⟩
    case round =>
      obtain ⟨k, hk', rfl, rfl, hlow, ht⟩ := hrel
      have HT := hid ht
      have HLOW := hid hlow
      clear ht hlow
      by_cases q2 : k < n2
      · have q1 : k < n1 := by omega
        obtain ⟨i1, hi1⟩ : ∃ i, n1 - 1 - k = i := ⟨_, rfl⟩
        obtain ⟨i2, hi2⟩ : ∃ i, n2 - 1 - k = i := ⟨_, rfl⟩
        obtain ⟨b1, o1, rfl, _, hc1, z1⟩ := (H1.out.below HLOW.out).str i1 (by omega)
        obtain ⟨b2, o2, rfl, _, hc2, z2⟩ := (H2.out.below HLOW.out).str i2 (by omega)
        obtain ⟨x, hx⟩ : ∃ x, l1[i1]'(by rw [H1.out.len]; omega) = x := ⟨_, rfl⟩
        obtain ⟨y, hy⟩ : ∃ y, l2[i2]'(by rw [H2.out.len]; omega) = y := ⟨_, rfl⟩
        rw [hx] at hc1 z1
        rw [hy] at hc2 z2
        have g1 : l1.reverse[k]? = some x := by rw [List.getElem?_reverse (by rw [H1.out.len]; exact q1), H1.out.len, hi1, ← hx]; exact List.getElem?_eq_getElem _
        have g2 : l2.reverse[k]? = some y := by rw [List.getElem?_reverse (by rw [H2.out.len]; exact q2), H2.out.len, hi2, ← hy]; exact List.getElem?_eq_getElem _
        have HG := hid (And.intro g1 g2)
        have CL := rlabels_any x y z1 z2
        obtain ⟨r, hr⟩ : ∃ r, cmpB x y = r := ⟨_, rfl⟩
        rw [hr] at CL
        have HR := hid hr
        replace CL := hid CL
        have hsz := HLOW.out.size
        have lb1 : b1 < wr.heap.size := World.block_lt_of_cell? wr _ hc1
        have lb2 : b2 < wr.heap.size := World.block_lt_of_cell? wr _ hc2
        have e2 : (k : Int) + 1 ≤ (n2 : Int) := by omega
        have w1 : IntKind.i64.wrap ((n1 : Int) - ((k : Int) + 1)) = (i1 : Int) := by rw [IntWalk.i64_in _ (by omega)]; omega
        have w2 : IntKind.i64.wrap ((n2 : Int) - ((k : Int) + 1)) = (i2 : Int) := by rw [IntWalk.i64_in _ (by omega)]; omega
        have j1 : (i1 : Int) < (n1 : Int) := by omega
        have j2 : (i2 : Int) < (n2 : Int) := by omega
        have j1' : (0 : Int) ≤ (i1 : Int) := by omega
        have j2' : (0 : Int) ≤ (i2 : Int) := by omega
        have s1 : i1 < n1 := by omega
        have s2 : i2 < n2 := by omega
        clear hx hy hr hi1 hi2 g1 g2
        by_cases he : r = 0
        · subst he
          have hfin : (l1.reverse.take (k + 1)).map smallS = (l2.reverse.take (k + 1)).map smallS := by
            obtain ⟨a1, a2⟩ := List.getElem?_eq_some_iff.1 HG.out.1
            obtain ⟨b1, b2⟩ := List.getElem?_eq_some_iff.1 HG.out.2
            exact take_succ_map HT.out a1 b1 (by rw [a2, b2]; exact (cmpB_zero x y).1 HR.out)
          have HF := hid hfin
          clear hfin
          go_wp2_with fail
          refine wp_region_ext (by kernel_rfl) (by kernel_rfl) ?_
          repeat (go_big_quiet_step ((go_at_call 52; with_reducible exact Calls.quiet_ext (CL.out _))))
          refine wpQuiet_nil ?_
          rintro _ ⟨⟨os, d⟩, rfl⟩
          simp only [exts]
          clear w1 w2
          go_wp2
          go_roundg (n2 - (k + 1))
          case measure => omega
          case rel => exact ⟨k + 1, by omega, rfl, by go_num, by have := HLOW.out; (repeat' (first | (with_reducible exact Below.refl _ _) | (with_reducible assumption) | (with_reducible refine below_ext0 ?_ _ _) | (with_reducible refine below_alloc0 ?_ _) | (with_reducible refine Below.ext ?_ ?_ _ _) | (with_reducible refine Below.alloc ?_ ?_ _) | (with_reducible refine Below.setCell ?_ ?_ _) | (with_reducible refine Below.drew ?_) | (with_reducible refine below_draws ?_ _) | go_size | (simp [size_ext]; done) | (simp [size_ext]; omega))), HF.out⟩
        · have hne : (r != 0) = true := by rw [bne_iff_ne]; exact he
          have hfin : underL l1 l2 = false := by
            rw [HU.out]
            refine decide_eq_false fun h => he ?_
            rw [← HR.out, cmpB_zero]
            have h2 := congrArg (fun q => q[k]?) h
            simp only [List.getElem?_map, List.getElem?_take, if_pos q2, HG.out.1, HG.out.2, Option.map_some, Option.some.injEq] at h2
            exact h2
          have HF := hid hfin
          clear hfin he
          go_wp2_with fail
          refine wp_region_ext (by kernel_rfl) (by kernel_rfl) ?_
          repeat (go_big_quiet_step ((go_at_call 52; with_reducible exact Calls.quiet_ext (CL.out _))))
          refine wpQuiet_nil ?_
          rintro _ ⟨⟨os, d⟩, rfl⟩
          simp only [exts]
          clear w1 w2
          go_wp2
          go_ret
          exact ⟨by rw [HF.out]; rfl, by have := HLOW.out; (repeat' (first | (with_reducible exact Below.refl _ _) | (with_reducible assumption) | (with_reducible refine below_ext0 ?_ _ _) | (with_reducible refine below_alloc0 ?_ _) | (with_reducible refine Below.ext ?_ ?_ _ _) | (with_reducible refine Below.alloc ?_ ?_ _) | (with_reducible refine Below.setCell ?_ ?_ _) | (with_reducible refine Below.drew ?_) | (with_reducible refine below_draws ?_ _) | go_size | (simp [size_ext]; done) | (simp [size_ext]; omega)))⟩
      · obtain rfl : k = n2 := by omega
        have hfin : underL l1 l2 = true := by
          rw [HU.out]
          refine decide_eq_true ?_
          have := HT.out
          rwa [show l2.reverse.take k = l2.reverse from List.take_of_length_le (by rw [List.length_reverse, H2.out.len]; exact Nat.le_refl _)] at this
        have HF := hid hfin
        have h' : (k : Int) < (k : Int) + 1 := by omega
        clear hfin
        go_wp2
        go_ret
        exact ⟨by rw [HF.out]; rfl, HLOW.out⟩
  · have hu : underL l1 l2 = false := by unfold underL; rw [H1.out.len, H2.out.len, decide_eq_false hle]; rfl
    have HU := hid hu
    have hlt : (n1 : Int) < (n2 : Int) := by omega
    clear hu hle
    go_enter Tryd.func38, Tryd.ntmps38
    go_wp2
    go_ret
    exact ⟨by rw [HU.out]; rfl, Below.refl _ _⟩
end Go.Proofs.YtemgbfppdopfbaaDoor
