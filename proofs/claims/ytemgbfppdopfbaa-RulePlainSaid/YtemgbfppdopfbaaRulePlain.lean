/- RulePlain is true of every input: a rule's plain form says the same of each query; in it Not takes single questions alone; plain again it is as it is. No condition. -/
import Derived.Test.YtemgbfppdopfbaaRuleL
namespace Go.Proofs.Ytemgbfppdopfbaa
open Go.ChangeShapes Go.WideShapes Go.ChangeAt Go.RowKit
open Tree
set_option linter.unusedVariables false
set_option linter.unusedSimpArgs false
theorem plainF_zero {r p : List MT} (h : plainF r = (0, p)) : ∃ t, treeOf r = .inr t ∧ p = (t.plain false).flat ∧ p.length ≤ 200 := by
  unfold plainF at h
  cases ht : treeOf r with
  | inl k =>
    rw [ht] at h
    exact absurd (Prod.mk.inj h).1 (treeOf_ne ht)
  | inr t =>
    rw [ht] at h
    simp only at h
    split at h
    · exact absurd (Prod.mk.inj h).1 (by decide)
    · have h2 := (Prod.mk.inj h).2
      exact ⟨t, rfl, h2.symm, by rw [← h2]; omega⟩
theorem plain_facts {r p : List MT} (h : plainF r = (0, p)) (q : QryT) : ∃ b, holdsF r q = (b, 0) ∧ holdsF p q = (b, 0) ∧ plainF p = (0, p) ∧ NotLast p ∧ p.length ≤ 200 := by
  obtain ⟨t, ht, rfl, hl⟩ := plainF_zero h
  obtain ⟨hok, _⟩ := treeOf_inr ht
  obtain ⟨pok, pp⟩ := plain_ok t hok false
  have ht2 := plain_tree ht hl
  refine ⟨t.holds q, by unfold holdsF; rw [ht], ?_, ?_, plain_notLast _ pok pp, hl⟩
  · unfold holdsF
    rw [ht2]
    simp only
    rw [plain_holds q t hok false]
    rfl
  · unfold plainF
    rw [ht2]
    simp only
    rw [plain_again _ pp, if_neg (by omega)]
namespace rulePlain

set_option maxRecDepth 100000 in
set_option maxHeartbeats 8000000 in
theorem walk (w : World) (A1 : Option Addr) (n1 c1 : Nat) (r : List MT) (h1 : Rd matchR w w.heap.size A1 n1 c1 r) (q : QryT) (cs : Array Value) (hx : qryR.rel w w.heap.size q cs.toList) :
    Calls Try.prog 6 #[.slice A1 n1 c1, .agg cs] w fun e w' => e = .returned (.bool true) ∧ Below w.heap.size w w' := by
  obtain ⟨Aq, nq, cq, Af, nf, cf, qn, ty, cl, oc, rd, qf, rfl, rfl, hq, hf⟩ := query_of hx
  clear hx
  have CA := hid asked_any
  obtain ⟨k, p, hp⟩ : ∃ k p, plainF r = (k, p) := ⟨_, _, rfl⟩
  by_cases hk : k = 0
  · subst hk
    obtain ⟨b, hh1, hh2, hp2, hnl, hpl⟩ := plain_facts hp (qn, ty, cl, oc, rd, qf, ())
    obtain ⟨m, hm⟩ : ∃ m, p.length = m := ⟨_, rfl⟩
    have hm200 : m ≤ 200 := by omega
    have CP := fun (w' : World) (hb : Below w.heap.size w w') => rplain_any w' (h1.later hb) hp hm
    have CH := fun (w' : World) (hb : Below w.heap.size w w') => rholds_any w' (h1.later hb) (hq.later hb) (hf.later hb) hh1
    have CH2 := fun (w0 : World) (A : Option Addr) (c : Nat) (hr : Rd matchR w0 w0.heap.size A m c p) (w' : World) (hb : Below w0.heap.size w0 w') (hbw : Below w.heap.size w w') => rholds_any w' (hr.later hb) (hq.later hbw) (hf.later hbw) hh2
    have CP2 := fun (w0 : World) (A : Option Addr) (c : Nat) (hr : Rd matchR w0 w0.heap.size A m c p) (w' : World) (hb : Below w0.heap.size w0 w') => rplain_any w' (hr.later hb) hp2 hm
    rw [eV_zero] at CP CH CH2 CP2
    have DP := hid CP
    have DH := hid CH
    have DH2 := hid CH2
    have DP2 := hid CP2
    have HNL := hid hnl
    have HM := hid hm
    clear CP CH CH2 CP2 hnl hm hpl hh1 hh2 hp hp2 h1 hq hf
    cases b
    all_goals
      have tk0 : True := trivial; have tk1 : True := trivial; have tk2 : True := trivial; have tk3 : True := trivial; have tk4 : True := trivial; have tk5 : True := trivial; have tk6 : True := trivial; have tk7 : True := trivial; have tk8 : True := trivial; have tk9 : True := trivial; have tk10 : True := trivial; have tk11 : True := trivial; have tk12 : True := trivial
      go_enter Try.func6, Try.ntmps6
      go_wp2_with (first
        | (go_at_call 17; have _t := tk1; (with_reducible refine (CA.out _).mono ?_); rintro e w1 ⟨rfl, hb⟩; obtain ⟨otk1, dtk1, rfl⟩ := ext_of_below hb; clear hb tk1)
        | (go_at_call 19; have _t := tk2; (with_reducible refine (DP.out _ (by (repeat' (first | (with_reducible exact Below.refl _ _) | (with_reducible assumption) | (with_reducible refine below_ext0 ?_ _ _) | (with_reducible refine below_alloc0 ?_ _) | (with_reducible refine Below.ext ?_ ?_ _ _) | (with_reducible refine Below.alloc ?_ ?_ _) | (with_reducible refine Below.setCell ?_ ?_ _) | (with_reducible refine Below.drew ?_) | (with_reducible refine below_draws ?_ _) | go_size | (simp [size_ext]; done) | (simp [size_ext]; omega))))).mono ?_); rintro e w1 ⟨A9, c9, rfl, hr, hb⟩; obtain ⟨o2, d2, rfl⟩ := ext_of_below hb; have R9 := hid hr; clear hb hr tk2)
        | (go_at_call 18; have _t := tk3; (with_reducible refine (DH.out _ (by (repeat' (first | (with_reducible exact Below.refl _ _) | (with_reducible assumption) | (with_reducible refine below_ext0 ?_ _ _) | (with_reducible refine below_alloc0 ?_ _) | (with_reducible refine Below.ext ?_ ?_ _ _) | (with_reducible refine Below.alloc ?_ ?_ _) | (with_reducible refine Below.setCell ?_ ?_ _) | (with_reducible refine Below.drew ?_) | (with_reducible refine below_draws ?_ _) | go_size | (simp [size_ext]; done) | (simp [size_ext]; omega))))).mono ?_); rintro e w1 ⟨rfl, hb⟩; obtain ⟨otk3, dtk3, rfl⟩ := ext_of_below hb; clear hb tk3)
        | (go_at_call 18; have _t := tk4; (with_reducible refine (DH2.out _ _ _ R9.out _ (by (repeat' (first | (with_reducible exact Below.refl _ _) | (with_reducible assumption) | (with_reducible refine below_ext0 ?_ _ _) | (with_reducible refine below_alloc0 ?_ _) | (with_reducible refine Below.ext ?_ ?_ _ _) | (with_reducible refine Below.alloc ?_ ?_ _) | (with_reducible refine Below.setCell ?_ ?_ _) | (with_reducible refine Below.drew ?_) | (with_reducible refine below_draws ?_ _) | go_size | (simp [size_ext]; done) | (simp [size_ext]; omega)))) (by (repeat' (first | (with_reducible exact Below.refl _ _) | (with_reducible assumption) | (with_reducible refine below_ext0 ?_ _ _) | (with_reducible refine below_alloc0 ?_ _) | (with_reducible refine Below.ext ?_ ?_ _ _) | (with_reducible refine Below.alloc ?_ ?_ _) | (with_reducible refine Below.setCell ?_ ?_ _) | (with_reducible refine Below.drew ?_) | (with_reducible refine below_draws ?_ _) | go_size | (simp [size_ext]; done) | (simp [size_ext]; omega))))).mono ?_); rintro e w1 ⟨rfl, hb⟩; obtain ⟨otk4, dtk4, rfl⟩ := ext_of_below hb; clear hb tk4)
        | (go_at_call 19; have _t := tk5; (with_reducible refine (DP2.out _ _ _ R9.out _ (by (repeat' (first | (with_reducible exact Below.refl _ _) | (with_reducible assumption) | (with_reducible refine below_ext0 ?_ _ _) | (with_reducible refine below_alloc0 ?_ _) | (with_reducible refine Below.ext ?_ ?_ _ _) | (with_reducible refine Below.alloc ?_ ?_ _) | (with_reducible refine Below.setCell ?_ ?_ _) | (with_reducible refine Below.drew ?_) | (with_reducible refine below_draws ?_ _) | go_size | (simp [size_ext]; done) | (simp [size_ext]; omega))))).mono ?_); rintro e w1 ⟨A8, c8, rfl, hr, hb⟩; obtain ⟨o5, d5, rfl⟩ := ext_of_below hb; have R8 := hid hr; clear hb hr tk5)
        | (go_at_call 20; have _t := tk6; (with_reducible refine (matches_same _ (R8.out.later (by (repeat' (first | (with_reducible exact Below.refl _ _) | (with_reducible assumption) | (with_reducible refine below_ext0 ?_ _ _) | (with_reducible refine below_alloc0 ?_ _) | (with_reducible refine Below.ext ?_ ?_ _ _) | (with_reducible refine Below.alloc ?_ ?_ _) | (with_reducible refine Below.setCell ?_ ?_ _) | (with_reducible refine Below.drew ?_) | (with_reducible refine below_draws ?_ _) | go_size | (simp [size_ext]; done) | (simp [size_ext]; omega))))) (R9.out.later (by (repeat' (first | (with_reducible exact Below.refl _ _) | (with_reducible assumption) | (with_reducible refine below_ext0 ?_ _ _) | (with_reducible refine below_alloc0 ?_ _) | (with_reducible refine Below.ext ?_ ?_ _ _) | (with_reducible refine Below.alloc ?_ ?_ _) | (with_reducible refine Below.setCell ?_ ?_ _) | (with_reducible refine Below.drew ?_) | (with_reducible refine below_draws ?_ _) | go_size | (simp [size_ext]; done) | (simp [size_ext]; omega)))))).mono ?_); rintro e w1 ⟨rfl, hb⟩; obtain ⟨otk6, dtk6, rfl⟩ := ext_of_below hb; clear hb tk6))
      go_loopg [14] m (fun gk v14 wi => ∃ i : Nat, 1 ≤ i ∧ i ≤ m + 1 ∧ gk = m + 1 - i ∧ v14 = .int .i64 (i : Int) ∧ Rd matchR wi wi.heap.size A9 m c9 p ∧ Below w.heap.size w wi)
      case atStart => exact ⟨1, Nat.le_refl _, by omega, by omega, rfl, R9.out.later (by (repeat' (first | (with_reducible exact Below.refl _ _) | (with_reducible assumption) | (with_reducible refine below_ext0 ?_ _ _) | (with_reducible refine below_alloc0 ?_ _) | (with_reducible refine Below.ext ?_ ?_ _ _) | (with_reducible refine Below.alloc ?_ ?_ _) | (with_reducible refine Below.setCell ?_ ?_ _) | (with_reducible refine Below.drew ?_) | (with_reducible refine below_draws ?_ _) | go_size | (simp [size_ext]; done) | (simp [size_ext]; omega)))), (by (repeat' (first | (with_reducible exact Below.refl _ _) | (with_reducible assumption) | (with_reducible refine below_ext0 ?_ _ _) | (with_reducible refine below_alloc0 ?_ _) | (with_reducible refine Below.ext ?_ ?_ _ _) | (with_reducible refine Below.alloc ?_ ?_ _) | (with_reducible refine Below.setCell ?_ ?_ _) | (with_reducible refine Below.drew ?_) | (with_reducible refine below_draws ?_ _) | go_size | (simp [size_ext]; done) | (simp [size_ext]; omega))))⟩
      case round =>
        obtain ⟨i, hi1, hi, rfl, rfl, hr, hlow⟩ := hrel
        have HR := hid hr
        have HLOW := hid hlow
        have zs := hlow.size
        by_cases hlt : i < m
        · obtain ⟨j, hj⟩ : ∃ j, i - 1 = j := ⟨_, rfl⟩
          have hjm : j < m := by omega
          obtain ⟨b1, o1, B1, m1, d1, B2, m2, d2, op, N, l, ad, rfl, hb1, e1, k0, _, _, _, _, _, _⟩ := hr.match_ i hlt
          obtain ⟨b2, o2', E1, s1, f1, E2, s2, f2, op', N', l', ad', e9, hb2, e2, j0, _, _, _, _, _, _⟩ := hr.match_ j hjm
          cases e9
          have hi9 : i < p.length := by rw [HM.out]; exact hlt
          have q1 : IntKind.i64.wrap ((i : Int) - 1) = (j : Int) := by rw [IntWalk.i64_in _ (by omega)]; omega
          have q2 : (i : Int) - 1 = (j : Int) := by omega
          have q3 : (0 : Int) ≤ (j : Int) := by omega
          have q4 : (j : Int) < (m : Int) := by omega
          have t0 : (i : Int) < (m : Int) := by omega
          have t2 : (0 : Int) ≤ (i : Int) := by omega
          have v3 : IntKind.i64.wrap ((i : Int) + 1) = (i : Int) + 1 := IntWalk.i64_in _ (by omega)
          by_cases h8 : op = 8
          · subst h8
            have ht : takesN op' = 0 := by
              have hp1 : p[j + 1]'(by omega) = (8, N, l, ad, ()) := by rw [← e1]; congr 1; omega
              have := HNL.out j (by omega) (by rw [hp1])
              rw [e2] at this
              exact this
            have CT := rtakes_any op'
            rw [ht] at CT
            have DT := hid CT
            clear CT ht e1 e2 hr hlow hj
            go_wp2_with (go_at_call 21; (with_reducible refine (DT.out _).mono ?_); rintro e w1 ⟨rfl, hw⟩; subst w1)
            go_roundg (m + 1 - (i + 1))
            case measure => omega
            case rel => exact ⟨i + 1, by omega, by omega, rfl, by go_num, HR.out, HLOW.out⟩
          · have b8 : (op == 8) = false := beq_eq_false_iff_ne.2 h8
            clear h8 e1 e2 hr hlow hj
            go_wp2
            go_roundg (m + 1 - (i + 1))
            case measure => omega
            case rel => exact ⟨i + 1, by omega, by omega, rfl, by go_num, HR.out, HLOW.out⟩
        · have t0 : ¬ (i : Int) < (m : Int) := by omega
          clear hr hlow
          go_wp2
          go_ret
          exact ⟨rfl, by have := HLOW.out; (repeat' (first | (with_reducible exact Below.refl _ _) | (with_reducible assumption) | (with_reducible refine below_ext0 ?_ _ _) | (with_reducible refine below_alloc0 ?_ _) | (with_reducible refine Below.ext ?_ ?_ _ _) | (with_reducible refine Below.alloc ?_ ?_ _) | (with_reducible refine Below.setCell ?_ ?_ _) | (with_reducible refine Below.drew ?_) | (with_reducible refine below_draws ?_ _) | go_size | (simp [size_ext]; done) | (simp [size_ext]; omega)))⟩
  · have CP := fun (w' : World) (hb : Below w.heap.size w w') => rplain_any w' (h1.later hb) hp rfl
    rw [eV_ne hk] at CP
    have DP := hid CP
    clear CP h1 hq hf hp hk
    have tk0 : True := trivial; have tk1 : True := trivial; have tk2 : True := trivial; have tk3 : True := trivial; have tk4 : True := trivial; have tk5 : True := trivial; have tk6 : True := trivial; have tk7 : True := trivial; have tk8 : True := trivial; have tk9 : True := trivial; have tk10 : True := trivial; have tk11 : True := trivial; have tk12 : True := trivial
    go_enter Try.func6, Try.ntmps6
    go_wp2_with (first
      | (go_at_call 17; have _t := tk1; (with_reducible refine (CA.out _).mono ?_); rintro e w1 ⟨rfl, hb⟩; obtain ⟨otk1, dtk1, rfl⟩ := ext_of_below hb; clear hb tk1)
      | (go_at_call 19; have _t := tk2; (with_reducible refine (DP.out _ (by (repeat' (first | (with_reducible exact Below.refl _ _) | (with_reducible assumption) | (with_reducible refine below_ext0 ?_ _ _) | (with_reducible refine below_alloc0 ?_ _) | (with_reducible refine Below.ext ?_ ?_ _ _) | (with_reducible refine Below.alloc ?_ ?_ _) | (with_reducible refine Below.setCell ?_ ?_ _) | (with_reducible refine Below.drew ?_) | (with_reducible refine below_draws ?_ _) | go_size | (simp [size_ext]; done) | (simp [size_ext]; omega))))).mono ?_); rintro e w1 ⟨A9, c9, rfl, hr, hb⟩; obtain ⟨o2, d2, rfl⟩ := ext_of_below hb; clear hb hr tk2))
    go_ret
    exact ⟨rfl, (by (repeat' (first | (with_reducible exact Below.refl _ _) | (with_reducible assumption) | (with_reducible refine below_ext0 ?_ _ _) | (with_reducible refine below_alloc0 ?_ _) | (with_reducible refine Below.ext ?_ ?_ _ _) | (with_reducible refine Below.alloc ?_ ?_ _) | (with_reducible refine Below.setCell ?_ ?_ _) | (with_reducible refine Below.drew ?_) | (with_reducible refine below_draws ?_ _) | go_size | (simp [size_ext]; done) | (simp [size_ext]; omega))))⟩

set_option maxRecDepth 100000 in
theorem contract (H : Type) (enc : TypeId × Value → H) (W : World) (base : Nat) (args : Array Value) (ds gs : List (DataW H)) (before : List MemPlace)
    (hval : ∀ (j : Nat) t v, Try.f6.params[j]? = some t → args[j]? = some v → Value.okWide Try.prog W .any base t v)
    (hW : DataW.Whole enc Try.prog Try.f6.params.toList Rows.rulePlainSpec.vars false W args.toList ds gs before) (hsz : (DataW.weightsEach Try.prog (Try.f6.params.toList ++ Rows.rulePlainSpec.plain.varTypes Try.prog) (ds ++ gs)).all (· ≤ reachBytes) = true) :
    Calls Try.prog 6 args W fun e W' => ∃ v, e = .returned v ∧ Rows.rulePlainSpec.post enc Try.prog Try.f6 false true false false W args v W' := by
  have hW' := hW
  obtain ⟨p, q, hA0, hV, rfl, hfz, hnd⟩ := hW
  have hA : DataW.TrodAll enc Try.prog W 0 (fun _ => true) true Try.f6.params.toList args.toList ds p := hA0
  rw [Try.params6] at hA hval hsz
  obtain ⟨v0, vs0, d0, ds0, p0, q0, hargs, rfl, rfl, k0, r0⟩ := trodAll_cons hA
  obtain ⟨v1, vs1, d1, ds1, p1, q1, rfl, rfl, rfl, k1, r1⟩ := trodAll_cons r0
  obtain ⟨rfl, rfl, rfl⟩ := trodAll_nil r1
  obtain rfl : args = #[v0, v1] := by cases args; simp_all
  obtain ⟨rfl, rfl⟩ := trodVars_none hV
  have lt0 : ∀ x ∈ p0, x.block < W.heap.size := by obtain ⟨m, hm⟩ := k0; exact DataW.trod_lt m _ _ _ hm
  have lt1 : ∀ x ∈ p1, x.block < W.heap.size := by obtain ⟨m, hm⟩ := k1; exact DataW.trod_lt m _ _ _ hm
  have hsz' : ∀ k ∈ _, k ≤ reachBytes := fun k hk => of_decide_eq_true (List.all_eq_true.1 hsz k hk)
  have u0 : ∀ k ∈ d0.weights Try.prog 41, k ≤ reachBytes := fun k hk => hsz' k (by simp [DataW.weightsEach, hk])
  have u1 : ∀ k ∈ d1.weights Try.prog 44, k ≤ reachBytes := fun k hk => hsz' k (by simp [DataW.weightsEach, hk])
  obtain ⟨A0, n0, c0, l0, rfl, w0, z0⟩ := arg_slice Try.underlying41 (opens_slice Try.underlying41 opens_match (by kernel_rfl) (by decide) (of_decide_eq_true (by kernel_rfl))) (hval 0 41 v0 rfl rfl) k0 u0
  obtain ⟨x1, cs1, rfl, w1, z1⟩ := arg_struct Try.underlying44 opens_query (hval 1 44 v1 rfl rfl) k1 u1
  clear hA0 hA
  refine (walk W A0 n0 c0 l0 w0 x1 cs1 w1).mono fun e W' ⟨he, bel⟩ => ?_
  subst he
  exact ⟨_, rfl, _, _, _, [], _, [], hW', trodAll_mk1 (shut_bool Try.underlying4 _), (trodAll_cons_mk (Below.trod laidOut (by kernel_rfl) (of_decide_eq_true (by kernel_rfl)) k0 bel lt0) (trodAll_cons_mk (Below.trod laidOut (by kernel_rfl) (of_decide_eq_true (by kernel_rfl)) k1 bel lt1) trodAll_mk0)), rfl, bel.frame _, fun h => by cases h⟩

set_option maxRecDepth 100000 in
theorem lifted (os : Os) (started : os.Started) (H : Type) (enc : TypeId × Value → H) :
    ReturnsInHanded {} Try.checked os 6 .any (Rows.rulePlainSpec.pre6 enc Try.prog Try.f6 Rows.rulePlainRow.domain false) (Rows.rulePlainSpec.post enc Try.prog Try.f6 false true false false) := by
  refine returnsInHanded_of_change_sized (C := Try.checked) own started (by kernel_rfl) Try.func6
    (ChangeSpec.witness6 (enc := enc) (C := Try.checked) false ⟨#[], #[.slice none 0 0, .agg #[.slice none 0 0, .int .i64 0, .int .i64 0, .int .i64 0, .bool false, .slice none 0 0]], []⟩ 8 (by kernel_rfl) (by kernel_rfl) (by kernel_rfl) (by kernel_rfl)) ?_
  intro W base args ds gs before hval hW _ hsz _
  exact contract H enc W base args ds gs before hval hW hsz

/-- the statement -/
theorem proved : Rows.RulePlainSaid :=
  OpenClaim.holds_of_wide 6 Try.f6 rfl rfl rfl rfl rfl rfl rfl ⟨rfl, rfl, rfl, rfl, rfl⟩ rfl rfl rfl rfl rfl (by kernel_rfl) Try.func6 (by kernel_rfl)
    (of_decide_eq_true (by kernel_rfl)) (by unfold Func.isWrapper; first | (rw [if_pos (by decide +kernel)]; kernel_rfl) | (rw [if_neg (by decide +kernel)]; exact ⟨rfl, rfl⟩))
    (fun os started H enc _ => lifted os started H enc)

end rulePlain
end Go.Proofs.Ytemgbfppdopfbaa
