/- SubnetNests is true of every input: of two subnets that have one address in common, who is in the one of more bits is in the other one. No condition. -/
import Derived.Test.YtbpflpmhnmdeoaaInAny
import Derived.OpenShut
import Derived.JoinedCond
namespace Go.Proofs.Ytbpflpmhnmdeoaa
open Go.ChangeShapes Go.WideShapes Go.ChangeAt Go.RowKit
set_option linter.unusedVariables false
namespace subnetNests

set_option maxRecDepth 100000 in
set_option maxHeartbeats 4000000 in
theorem walk (w : World) (x : Int × Int × Int × List UInt8 × Unit) (cs : Array Value) (hx : subnetR.rel w w.heap.size x cs.toList) (x2 : Int × Int × Int × List UInt8 × Unit) (cs2 : Array Value) (hx2 : subnetR.rel w w.heap.size x2 cs2.toList)
    (A3 : Option Addr) (n3 c3 : Nat) (l3 : List UInt8) (h3 : Rd u8R w w.heap.size A3 n3 c3 l3) (A4 : Option Addr) (n4 c4 : Nat) (l4 : List UInt8) (h4 : Rd u8R w w.heap.size A4 n4 c4 l4) :
    Calls Try.prog 8 #[.agg cs, .agg cs2, .slice A3 n3 c3, .slice A4 n4 c4] w fun e w' => e = .returned (.bool true) ∧ Below w.heap.size w w' := by
  obtain ⟨f1, s1, sc1, A1, n1, c1, l1, _, rfl, _, _, _, h1⟩ := subnet_of hx
  obtain ⟨f2, s2, sc2, A2, n2, c2, l2, _, rfl, _, _, _, h2⟩ := subnet_of hx2
  clear hx hx2
  have CK := hid masked_true
  have C1 := fun w' (hb : Below w.heap.size w w') => In_any w' A3 n3 c3 l3 (h3.later hb) f1 s1 sc1 A1 n1 c1 l1 (h1.later hb)
  have C2 := fun w' (hb : Below w.heap.size w w') => In_any w' A3 n3 c3 l3 (h3.later hb) f2 s2 sc2 A2 n2 c2 l2 (h2.later hb)
  have C3 := fun w' (hb : Below w.heap.size w w') => In_any w' A4 n4 c4 l4 (h4.later hb) f2 s2 sc2 A2 n2 c2 l2 (h2.later hb)
  have C4 := fun w' (hb : Below w.heap.size w w') => In_any w' A4 n4 c4 l4 (h4.later hb) f1 s1 sc1 A1 n1 c1 l1 (h1.later hb)
  have hlaw : s1 ≤ s2 → inB f1 s1 sc1 l3 l1 = true → inB f2 s2 sc2 l3 l2 = true → inB f2 s2 sc2 l4 l2 = true → inB f1 s1 sc1 l4 l1 = true := by
    intro hs b1 b2 b3
    obtain ⟨k1, e1, m1⟩ := inB_iff.1 b1
    obtain ⟨k2, e2, m2⟩ := inB_iff.1 b2
    obtain ⟨k3, e3, m3⟩ := inB_iff.1 b3
    refine inB_iff.2 ⟨k1, by omega, ?_⟩
    rw [maskL_less m3 hs, ← maskL_less m2 hs, m1]
  generalize inB f1 s1 sc1 l3 l1 = b1 at *
  generalize inB f2 s2 sc2 l3 l2 = b2 at *
  generalize inB f2 s2 sc2 l4 l2 = b3 at *
  generalize inB f1 s1 sc1 l4 l1 = b4 at *
  clear h1 h2 h3 h4
  have C1 := hid C1
  have C2 := hid C2
  have C3 := hid C3
  have C4 := hid C4
  have tk0 : True := trivial; have tk1 : True := trivial; have tk2 : True := trivial; have tk3 : True := trivial; have tk4 : True := trivial; have tk5 : True := trivial; have tk6 : True := trivial; have tk7 : True := trivial; have tk8 : True := trivial; have tk9 : True := trivial; have tk10 : True := trivial; have tk11 : True := trivial; have tk12 : True := trivial
  by_cases hs : s2 < s1
  case' neg =>
    have hs' : s1 ≤ s2 := by omega
    have hl := hlaw hs'
    clear hlaw
    rcases b1 with _ | _
    case' true =>
      rcases b2 with _ | _
      case' true =>
        rcases b3 with _ | _
        case' true => obtain rfl := hl rfl rfl rfl
  all_goals
    try clear hlaw
    try clear hl
    go_enter Try.func8, Try.ntmps8
    go_wp2_with (first | (go_at_call 23; have _t := tk0; refine (CK.out _).mono ?_; rintro e w1 ⟨rfl, hb⟩; obtain ⟨os, d, rfl⟩ := ext_of_below hb; clear hb tk0) | (go_at_call 24; have _t := tk1; refine (C1.out _ (by (repeat' (first | (with_reducible exact Below.refl _ _) | (with_reducible assumption) | (with_reducible refine Below.ext ?_ ?_ _ _) | (with_reducible refine Below.alloc ?_ ?_ _) | (with_reducible refine Below.setCell ?_ ?_ _) | (with_reducible refine Below.drew ?_) | (with_reducible refine below_draws ?_ _) | go_size | (simp [size_ext]; done) | (simp [size_ext]; omega))))).mono ?_; rintro e w1 ⟨rfl, hb⟩; obtain ⟨os, d, rfl⟩ := ext_of_below hb; clear hb tk1) | (go_at_call 24; have _t := tk2; refine (C2.out _ (by (repeat' (first | (with_reducible exact Below.refl _ _) | (with_reducible assumption) | (with_reducible refine Below.ext ?_ ?_ _ _) | (with_reducible refine Below.alloc ?_ ?_ _) | (with_reducible refine Below.setCell ?_ ?_ _) | (with_reducible refine Below.drew ?_) | (with_reducible refine below_draws ?_ _) | go_size | (simp [size_ext]; done) | (simp [size_ext]; omega))))).mono ?_; rintro e w1 ⟨rfl, hb⟩; obtain ⟨os, d, rfl⟩ := ext_of_below hb; clear hb tk2) | (go_at_call 24; have _t := tk3; refine (C3.out _ (by (repeat' (first | (with_reducible exact Below.refl _ _) | (with_reducible assumption) | (with_reducible refine Below.ext ?_ ?_ _ _) | (with_reducible refine Below.alloc ?_ ?_ _) | (with_reducible refine Below.setCell ?_ ?_ _) | (with_reducible refine Below.drew ?_) | (with_reducible refine below_draws ?_ _) | go_size | (simp [size_ext]; done) | (simp [size_ext]; omega))))).mono ?_; rintro e w1 ⟨rfl, hb⟩; obtain ⟨os, d, rfl⟩ := ext_of_below hb; clear hb tk3) | (go_at_call 24; have _t := tk4; refine (C4.out _ (by (repeat' (first | (with_reducible exact Below.refl _ _) | (with_reducible assumption) | (with_reducible refine Below.ext ?_ ?_ _ _) | (with_reducible refine Below.alloc ?_ ?_ _) | (with_reducible refine Below.setCell ?_ ?_ _) | (with_reducible refine Below.drew ?_) | (with_reducible refine below_draws ?_ _) | go_size | (simp [size_ext]; done) | (simp [size_ext]; omega))))).mono ?_; rintro e w1 ⟨rfl, hb⟩; obtain ⟨os, d, rfl⟩ := ext_of_below hb; clear hb tk4))
    go_ret
    exact ⟨rfl, by (repeat' (first | (with_reducible exact Below.refl _ _) | (with_reducible assumption) | (with_reducible refine Below.ext ?_ ?_ _ _) | (with_reducible refine Below.alloc ?_ ?_ _) | (with_reducible refine Below.setCell ?_ ?_ _) | (with_reducible refine Below.drew ?_) | (with_reducible refine below_draws ?_ _) | go_size | (simp [size_ext]; done) | (simp [size_ext]; omega)))⟩

theorem contract (H : Type) (enc : TypeId × Value → H) (W : World) (base : Nat) (args : Array Value) (ds gs : List (DataW H)) (before : List MemPlace)
    (hval : ∀ (j : Nat) t v, Try.f8.params[j]? = some t → args[j]? = some v → Value.okWide Try.prog W .any base t v)
    (hW : DataW.Whole enc Try.prog Try.f8.params.toList Rows.subnetNestsSpec.vars false W args.toList ds gs before) (hsz : (DataW.weightsEach Try.prog (Try.f8.params.toList ++ Rows.subnetNestsSpec.plain.varTypes Try.prog) (ds ++ gs)).all (· ≤ reachBytes) = true) :
    Calls Try.prog 8 args W fun e W' => ∃ v, e = .returned v ∧ Rows.subnetNestsSpec.post enc Try.prog Try.f8 false true false false W args v W' := by
  have hW' := hW
  obtain ⟨p, q, hA0, hV, rfl, hfz, hnd⟩ := hW
  have hA : DataW.TrodAll enc Try.prog W 0 (fun _ => true) true Try.f8.params.toList args.toList ds p := hA0
  rw [Try.params8] at hA hval hsz
  obtain ⟨v0, vs0, d0, ds0, p0, q0, hargs, rfl, rfl, k0, r0⟩ := trodAll_cons hA
  obtain ⟨v1, vs1, d1, ds1, p1, q1, rfl, rfl, rfl, k1, r1⟩ := trodAll_cons r0
  obtain ⟨v2, vs2, d2, ds2, p2, q2, rfl, rfl, rfl, k2, r2⟩ := trodAll_cons r1
  obtain ⟨v3, vs3, d3, ds3, p3, q3, rfl, rfl, rfl, k3, r3⟩ := trodAll_cons r2
  obtain ⟨rfl, rfl, rfl⟩ := trodAll_nil r3
  obtain rfl : args = #[v0, v1, v2, v3] := by cases args; simp_all
  obtain ⟨rfl, rfl⟩ := trodVars_none hV
  have lt0 : ∀ x ∈ p0, x.block < W.heap.size := by obtain ⟨m, hm⟩ := k0; exact DataW.trod_lt m _ _ _ hm
  have lt1 : ∀ x ∈ p1, x.block < W.heap.size := by obtain ⟨m, hm⟩ := k1; exact DataW.trod_lt m _ _ _ hm
  have lt2 : ∀ x ∈ p2, x.block < W.heap.size := by obtain ⟨m, hm⟩ := k2; exact DataW.trod_lt m _ _ _ hm
  have lt3 : ∀ x ∈ p3, x.block < W.heap.size := by obtain ⟨m, hm⟩ := k3; exact DataW.trod_lt m _ _ _ hm
  have hsz' : ∀ k ∈ _, k ≤ reachBytes := fun k hk => of_decide_eq_true (List.all_eq_true.1 hsz k hk)
  have u0 : ∀ k ∈ d0.weights Try.prog 53, k ≤ reachBytes := fun k hk => hsz' k (by simp [DataW.weightsEach, hk])
  have u1 : ∀ k ∈ d1.weights Try.prog 53, k ≤ reachBytes := fun k hk => hsz' k (by simp [DataW.weightsEach, hk])
  have u2 : ∀ k ∈ d2.weights Try.prog 36, k ≤ reachBytes := fun k hk => hsz' k (by simp [DataW.weightsEach, hk])
  have u3 : ∀ k ∈ d3.weights Try.prog 36, k ≤ reachBytes := fun k hk => hsz' k (by simp [DataW.weightsEach, hk])
  obtain ⟨x0, cs0, rfl, w0, z0⟩ := arg_struct Try.underlying53 opens_subnet (hval 0 53 v0 rfl rfl) k0 u0
  obtain ⟨x1, cs1, rfl, w1, z1⟩ := arg_struct Try.underlying53 opens_subnet (hval 1 53 v1 rfl rfl) k1 u1
  obtain ⟨A2, n2, c2, l2, rfl, w2, z2⟩ := arg_slice Try.underlying36 (opens_slice Try.underlying36 (opens_u8 Try.underlying5) (by kernel_rfl) (by decide) (of_decide_eq_true (by kernel_rfl))) (hval 2 36 v2 rfl rfl) k2 u2
  obtain ⟨A3, n3, c3, l3, rfl, w3, z3⟩ := arg_slice Try.underlying36 (opens_slice Try.underlying36 (opens_u8 Try.underlying5) (by kernel_rfl) (by decide) (of_decide_eq_true (by kernel_rfl))) (hval 3 36 v3 rfl rfl) k3 u3
  clear hA0 hA
  refine (walk W x0 cs0 w0 x1 cs1 w1 A2 n2 c2 l2 w2 A3 n3 c3 l3 w3).mono fun e W' ⟨he, bel⟩ => ?_
  subst he
  exact ⟨_, rfl, _, _, _, [], _, [], hW', trodAll_mk1 (shut_bool Try.underlying4 _), (trodAll_cons_mk (Below.trod laidOut (by kernel_rfl) (of_decide_eq_true (by kernel_rfl)) k0 bel lt0) (trodAll_cons_mk (Below.trod laidOut (by kernel_rfl) (of_decide_eq_true (by kernel_rfl)) k1 bel lt1) (trodAll_cons_mk (Below.trod laidOut (by kernel_rfl) (of_decide_eq_true (by kernel_rfl)) k2 bel lt2) (trodAll_cons_mk (Below.trod laidOut (by kernel_rfl) (of_decide_eq_true (by kernel_rfl)) k3 bel lt3) trodAll_mk0)))), rfl, bel.frame _, fun h => by cases h⟩

set_option maxRecDepth 100000 in
theorem lifted (os : Os) (started : os.Started) (H : Type) (enc : TypeId × Value → H) :
    ReturnsInHanded {} Try.checked os 8 .any (Rows.subnetNestsSpec.pre6 enc Try.prog Try.f8 Rows.subnetNestsRow.domain false) (Rows.subnetNestsSpec.post enc Try.prog Try.f8 false true false false) := by
  refine returnsInHanded_of_change_sized (C := Try.checked) own started (by kernel_rfl) Try.func8
    (ChangeSpec.witness6 (enc := enc) (C := Try.checked) false ⟨#[], #[.agg #[.int .i64 0, .int .i64 0, .int .i64 0, .slice none 0 0], .agg #[.int .i64 0, .int .i64 0, .int .i64 0, .slice none 0 0], .slice none 0 0, .slice none 0 0], []⟩ 8 (by kernel_rfl) (by kernel_rfl) (by kernel_rfl) (by kernel_rfl)) ?_
  intro W base args ds gs before hval hW _ hsz _
  exact contract H enc W base args ds gs before hval hW hsz

/-- the statement -/
theorem proved : Rows.SubnetNestsSaid :=
  OpenClaim.holds_of_wide 8 Try.f8 rfl rfl rfl rfl rfl rfl rfl ⟨rfl, rfl, rfl, rfl, rfl⟩ rfl rfl rfl rfl rfl (by kernel_rfl) Try.func8 (by kernel_rfl)
    (of_decide_eq_true (by kernel_rfl)) (by unfold Func.isWrapper; first | (rw [if_pos (by decide +kernel)]; kernel_rfl) | (rw [if_neg (by decide +kernel)]; exact ⟨rfl, rfl⟩))
    (fun os started H enc _ => lifted os started H enc)

end subnetNests
end Go.Proofs.Ytbpflpmhnmdeoaa
