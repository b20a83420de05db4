/- Rules, for the statements: what comes in is read; asked, matches, Takes. -/
import Derived.Test.YtemgbfppdopfbaaDoorRuleK
import Derived.Test.YtemgbfppdopfbaaDoorSameBytes
namespace Go.Proofs.YtemgbfppdopfbaaDoor
open Go.ChangeShapes Go.WideShapes Go.ChangeAt Go.RowKit
open Tree
set_option linter.unusedVariables false
set_option linter.unusedSimpArgs false

abbrev qryR : Rep QryT := pairR (sliceR strR) (pairR intR (pairR intR (pairR intR (pairR boolR (pairR (sliceR u8R) unitR)))))
theorem opens_match : Opens Tryd.prog 81 matchR := opens_struct Tryd.underlying81 rfl (by kernel_rfl) (fields_cons rfl (by kernel_rfl) (opens_int Tryd.underlying3) (fields_cons rfl (by kernel_rfl) (opens_int Tryd.underlying3) (fields_cons rfl (by kernel_rfl) (opens_slice Tryd.underlying22 (opens_str Tryd.underlying9) (by kernel_rfl) (by decide) (of_decide_eq_true (by kernel_rfl))) (fields_cons rfl (by kernel_rfl) (opens_slice Tryd.underlying51 (opens_u8 Tryd.underlying5) (by kernel_rfl) (by decide) (of_decide_eq_true (by kernel_rfl))) (fields_nil _)))))
theorem opens_query : Opens Tryd.prog 53 qryR := opens_struct Tryd.underlying53 rfl (by kernel_rfl) (fields_cons rfl (by kernel_rfl) (opens_slice Tryd.underlying22 (opens_str Tryd.underlying9) (by kernel_rfl) (by decide) (of_decide_eq_true (by kernel_rfl))) (fields_cons rfl (by kernel_rfl) (opens_int Tryd.underlying3) (fields_cons rfl (by kernel_rfl) (opens_int Tryd.underlying3) (fields_cons rfl (by kernel_rfl) (opens_int Tryd.underlying3) (fields_cons rfl (by kernel_rfl) (opens_bool Tryd.underlying4) (fields_cons rfl (by kernel_rfl) (opens_slice Tryd.underlying51 (opens_u8 Tryd.underlying5) (by kernel_rfl) (by decide) (of_decide_eq_true (by kernel_rfl))) (fields_nil _)))))))
theorem query_of {w : World} {B : Nat} {q : QryT} {cs : Array Value} (h : qryR.rel w B q cs.toList) :
    ∃ Aq nq cq Af nf cf qn ty cl oc rd qf, q = (qn, ty, cl, oc, rd, qf, ()) ∧ cs = #[.slice Aq nq cq, .int .i64 ty, .int .i64 cl, .int .i64 oc, .bool rd, .slice Af nf cf] ∧ Rd strR w B Aq nq cq qn ∧ Rd u8R w B Af nf cf qf := by
  obtain ⟨qn, ty, cl, oc, rd, qf, u⟩ := q
  obtain ⟨vs⟩ := cs
  obtain ⟨_, _, rfl, ⟨Aq, nq, cq, rfl, h1⟩, _, _, rfl, ⟨rfl, _⟩, _, _, rfl, ⟨rfl, _⟩, _, _, rfl, ⟨rfl, _⟩, _, _, rfl, rfl, _, _, rfl, ⟨Af, nf, cf, rfl, h2⟩, rfl⟩ := h
  exact ⟨Aq, nq, cq, Af, nf, cf, qn, ty, cl, oc, rd, qf, rfl, rfl, h1, h2⟩
/-- a literal of one bare node -/
theorem rd_litM {W : World} {g : Nat} {T : TypeId} {op N : Int} {B : Nat} (hB : Blk W g T #[.int .i64 op, .int .i64 N, .slice none 0 0, .slice none 0 0]) (hg : g < B) (hi : I64 op ∧ I64 N) : Rd matchR W B (some ⟨g, 0, none⟩) 1 1 [(op, N, [], [], ())] := by
  refine ⟨rfl, Nat.le_refl _, by simp [maxLen], by simp [matchR, pairR, intR, sliceR, unitR], fun h => (by cases h), fun i hi' => ?_⟩
  obtain rfl : i = 0 := by simp at hi'; exact hi'
  refine ⟨g, 0, _, rfl, hg, ⟨[_], _, rfl, ⟨rfl, hi.1⟩, [_], _, rfl, ⟨rfl, hi.2⟩, [_], _, rfl, ⟨none, 0, 0, rfl, rd_nil _ _⟩, [_], _, rfl, ⟨none, 0, 0, rfl, rd_nil _ _⟩, rfl⟩, fun j u hu => ?_⟩
  have := hB.cell j
  simpa [this] using hu
theorem asked_fact : holdsF [(1, 0, [], [], ())] ([], 0, 0, 0, false, [], ()) = (true, 0) := by
  have ht : treeOf [(1, 0, [], [], ())] = .inr (.leaf (1, 0, [], [], ())) := treeOf_flat (t := .leaf (1, 0, [], [], ())) rfl (by decide) (by decide)
  unfold holdsF
  rw [ht]
  rfl
set_option maxHeartbeats 2000000 in
theorem asked_any (w : World) : Calls Tryd.prog 21 #[] w fun e w' => e = .returned (.bool true) ∧ Below w.heap.size w w' := by
  have CH := hid fun (w0 : World) (g : Nat) (T : TypeId) (hB : Blk w0 g T #[.int .i64 1, .int .i64 0, .slice none 0 0, .slice none 0 0]) => rholds_any w0 (rd_litM hB hB.lt ⟨by unfold I64; omega, by unfold I64; omega⟩) (rd_nil w0 _) (rd_nil w0 _) asked_fact
  simp only [eV_zero] at CH
  have tk0 : True := trivial; have tk1 : True := trivial; have tk2 : True := trivial; have tk3 : True := trivial; have tk4 : True := trivial; have tk5 : True := trivial; have tk6 : True := trivial; have tk7 : True := trivial; have tk8 : True := trivial; have tk9 : True := trivial; have tk10 : True := trivial; have tk11 : True := trivial; have tk12 : True := trivial
  go_enter Tryd.func21, Tryd.ntmps21
  go_wp2_with (go_at_call 25; have _t := tk1; (with_reducible refine (CH.out _ _ _ (Blk.new' _ _ (by first | rfl | (simp [size_ext]; done) | (simp [size_ext]; omega)))).mono ?_); rintro e w1 ⟨rfl, hb⟩; obtain ⟨otk1, dtk1, rfl⟩ := ext_of_below hb; clear hb tk1)
  go_ret
  exact ⟨rfl, (by (repeat' (first | (with_reducible exact Below.refl _ _) | (with_reducible assumption) | (with_reducible refine below_ext0 ?_ _ _) | (with_reducible refine below_alloc0 ?_ _) | (with_reducible refine Below.ext ?_ ?_ _ _) | (with_reducible refine Below.alloc ?_ ?_ _) | (with_reducible refine Below.setCell ?_ ?_ _) | (with_reducible refine Below.drew ?_) | (with_reducible refine below_draws ?_ _) | go_size | (simp [size_ext]; done) | (simp [size_ext]; omega))))⟩
/-- the same rule, twice -/
theorem matches_same (w : World) {A1 A2 : Option Addr} {n c1 c2 : Nat} {r : List MT} (h1 : Rd matchR w w.heap.size A1 n c1 r) (h2 : Rd matchR w w.heap.size A2 n c2 r) :
    Calls Tryd.prog 28 #[.slice A1 n c1, .slice A2 n c2] w fun e w' => e = .returned (.bool true) ∧ Below w.heap.size w w' := by
  have m1 := h1.max
  have p1 := h1.cap
  have m2 := h2.max
  have p2 := h2.cap
  have lim := h1.lim
  unfold maxLen at m1 m2
  have H1 := hid h1
  have H2 := hid h2
  have t9 : ((n : Int) != (n : Int)) = false := by simp
  clear h1 h2
  have tk0 : True := trivial; have tk1 : True := trivial; have tk2 : True := trivial; have tk3 : True := trivial; have tk4 : True := trivial; have tk5 : True := trivial; have tk6 : True := trivial; have tk7 : True := trivial; have tk8 : True := trivial; have tk9 : True := trivial; have tk10 : True := trivial; have tk11 : True := trivial; have tk12 : True := trivial
  go_enter Tryd.func28, Tryd.ntmps28
  go_wp2
  go_loopg [5] n (fun gk v5 wi => ∃ i : Nat, i ≤ n ∧ gk = n - i ∧ v5 = .int .i64 (i : Int) ∧ Below w.heap.size w wi)
  case atStart => exact ⟨0, Nat.zero_le _, rfl, rfl, Below.refl _ _⟩
  case round =>
    obtain ⟨i, hi, rfl, rfl, hlow⟩ := hrel
    have HLOW := hid hlow
    by_cases hlt : i < n
    · obtain ⟨b, o, B1, m1, d1, B2, m2, d2, op, N, l, ad, rfl, hb, e1, k0, k1, k2, k3, r1, r2, _⟩ := (H1.out.later hlow).match_ i hlt
      obtain ⟨b', o', E1, s1, f1, E2, s2, f2, op', N', l', ad', rfl, hb', e2, j0, j1, j2, j3, q1, q2, _⟩ := (H2.out.later hlow).match_ i hlt
      rw [e1] at e2
      cases e2
      have CT := hid fun (w' : World) (hb : Below wr.heap.size wr w') => texts_any w' _ _ _ _ _ (r1.below hb) _ _ _ _ _ (q1.below hb)
      have CB := hid fun (w' : World) (hb : Below wr.heap.size wr w') => bytes_any w' _ _ _ _ _ (r2.below hb) _ _ _ _ _ (q2.below hb)
      simp only [decide_true] at CT CB
      have t0 : (i : Int) < (n : Int) := by omega
      have t2 : (0 : Int) ≤ (i : Int) := by omega
      have v3 : IntKind.i64.wrap ((i : Int) + 1) = (i : Int) + 1 := IntWalk.i64_in _ (by omega)
      have g1 : (op != op) = false := by simp
      have g2 : (N != N) = false := by simp
      clear hlow e1 r1 r2 q1 q2
      go_wp2_with fail
      refine wp_region_ext (by kernel_rfl) (by kernel_rfl) ?_
      repeat (go_big_quiet_step ((go_at_call 12; with_reducible exact Calls.quiet_ext (CT.out _ (by ((first | (with_reducible refine exts_below ?_ ?_ _) | skip); (repeat' (first | (with_reducible exact Below.refl _ _) | (with_reducible assumption) | (with_reducible refine below_ext0 ?_ _ _) | (with_reducible refine below_alloc0 ?_ _) | (with_reducible refine Below.ext ?_ ?_ _ _) | (with_reducible refine Below.alloc ?_ ?_ _) | (with_reducible refine Below.setCell ?_ ?_ _) | (with_reducible refine Below.drew ?_) | (with_reducible refine below_draws ?_ _) | go_size | (simp [size_ext]; done) | (simp [size_ext]; omega)))))))))
      refine wpQuiet_nil ?_
      rintro _ ⟨⟨os, d⟩, rfl⟩
      simp only [exts]
      go_wp2_with fail
      refine wp_region_ext (by kernel_rfl) (by kernel_rfl) ?_
      repeat (go_big_quiet_step ((go_at_call 47; with_reducible exact Calls.quiet_ext (CB.out _ (by ((first | (with_reducible refine exts_below ?_ ?_ _) | skip); (repeat' (first | (with_reducible exact Below.refl _ _) | (with_reducible assumption) | (with_reducible refine below_ext0 ?_ _ _) | (with_reducible refine below_alloc0 ?_ _) | (with_reducible refine Below.ext ?_ ?_ _ _) | (with_reducible refine Below.alloc ?_ ?_ _) | (with_reducible refine Below.setCell ?_ ?_ _) | (with_reducible refine Below.drew ?_) | (with_reducible refine below_draws ?_ _) | go_size | (simp [size_ext]; done) | (simp [size_ext]; omega)))))))))
      refine wpQuiet_nil ?_
      rintro _ ⟨⟨os, d⟩, rfl⟩
      simp only [exts]
      go_wp2_with fail
      refine wp_region_ext (by kernel_rfl) (by kernel_rfl) ?_
      repeat (go_big_quiet_step ((fail)))
      refine wpQuiet_nil ?_
      rintro _ ⟨⟨os, d⟩, rfl⟩
      simp only [exts]
      go_wp2
      go_roundg (n - (i + 1))
      case measure => omega
      case rel => exact ⟨i + 1, by omega, rfl, by go_num, by have := HLOW.out; have := HLOW.out.size; (repeat' (first | (with_reducible exact Below.refl _ _) | (with_reducible assumption) | (with_reducible refine below_ext0 ?_ _ _) | (with_reducible refine below_alloc0 ?_ _) | (with_reducible refine Below.ext ?_ ?_ _ _) | (with_reducible refine Below.alloc ?_ ?_ _) | (with_reducible refine Below.setCell ?_ ?_ _) | (with_reducible refine Below.drew ?_) | (with_reducible refine below_draws ?_ _) | go_size | (simp [size_ext]; done) | (simp [size_ext]; omega)))⟩
    · obtain rfl : i = n := by omega
      have t0 : ¬ (i : Int) < (i : Int) := by omega
      clear hlow
      go_wp2
      go_ret
      exact ⟨rfl, by have := HLOW.out; (repeat' (first | (with_reducible exact Below.refl _ _) | (with_reducible assumption) | (with_reducible refine below_ext0 ?_ _ _) | (with_reducible refine below_alloc0 ?_ _) | (with_reducible refine Below.ext ?_ ?_ _ _) | (with_reducible refine Below.alloc ?_ ?_ _) | (with_reducible refine Below.setCell ?_ ?_ _) | (with_reducible refine Below.drew ?_) | (with_reducible refine below_draws ?_ _) | go_size | (simp [size_ext]; done) | (simp [size_ext]; omega)))⟩
theorem rtakes_any (op : Int) (w : World) : Calls Tryd.prog 40 #[.int .i64 op] w fun e w' => e = .returned (.int .i64 (takesN op : Int)) ∧ w' = w := by
  by_cases h8 : op = 8
  · subst h8
    go_enter Tryd.func40, Tryd.ntmps40
    go_wp2
    go_ret
    exact ⟨rfl, rfl⟩
  · by_cases h9 : op = 9
    · subst h9
      go_enter Tryd.func40, Tryd.ntmps40
      go_wp2
      go_ret
      exact ⟨rfl, rfl⟩
    · by_cases h10 : op = 10
      · subst h10
        go_enter Tryd.func40, Tryd.ntmps40
        go_wp2
        go_ret
        exact ⟨rfl, rfl⟩
      · have ht : takesN op = 0 := by unfold takesN; rw [if_neg h8, if_neg (by omega)]
        rw [ht]
        have b8 : (op == 8) = false := beq_eq_false_iff_ne.2 h8
        have b9 : (op == 9) = false := beq_eq_false_iff_ne.2 h9
        have b10 : (op == 10) = false := beq_eq_false_iff_ne.2 h10
        clear h8 h9 h10 ht
        go_enter Tryd.func40, Tryd.ntmps40
        go_wp2
        go_ret
        exact ⟨rfl, rfl⟩
end Go.Proofs.YtemgbfppdopfbaaDoor
