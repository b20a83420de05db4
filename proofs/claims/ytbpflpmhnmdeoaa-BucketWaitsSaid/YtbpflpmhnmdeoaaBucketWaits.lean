/- BucketWaits is true of every input: a bucket filled at one time and then at a later one is as filled at the later one. No condition. -/
import Derived.Test.YtbpflpmhnmdeoaaFill
import Derived.Test.YtbpflpmhnmdeoaaRep
import Derived.OpenShut
import Derived.JoinedCond
namespace Go.Proofs.Ytbpflpmhnmdeoaa
open Go.ChangeShapes Go.WideShapes Go.ChangeAt Go.RowKit
set_option linter.unusedVariables false
namespace bucketWaits

set_option maxHeartbeats 4000000 in
theorem walk (w : World) (x : Int × Int × Int × Int × Unit) (cs : Array Value) (hx : bucketR.rel w w.heap.size x cs.toList)
    (c : Int) (hc : I64 c) (now : Int) (hnow : I64 now) (later : Int) (hlater : I64 later) :
    Calls Try.prog 3 #[.agg cs, .int .i64 c, .int .i64 now, .int .i64 later] w fun e w' => e = .returned (.bool true) ∧ Below w.heap.size w w' := by
  obtain ⟨r, u, s, a, rfl, hr, hu, hs, ha⟩ := bucket_of hx
  clear hx
  have CK := hid filled_true
  by_cases p1 : BOk r u s a ∧ a ≤ now ∧ now ≤ 2147483647
  · obtain ⟨k, h1, h2⟩ := p1
    have C1 := hid (fill_ok r u s a now k h1 h2)
    by_cases p2 : now ≤ later ∧ later ≤ 2147483647
    · obtain ⟨h3, h4⟩ := p2
      have C2 := hid (fill_ok r u (fillN r u s a now) now later (k.fill h1 h2) h3 h4)
      have C3 := hid (fill_ok r u s a later k (by omega) h4)
      rw [fill_fill k h1 h3 h4] at C2
      by_cases p4 : BOk r u c a
      · have C4 := hid (fill_ok r u c a later p4 (by omega) h4)
        have hm : s ≤ c → fillN r u s a later ≤ fillN r u c a later := fill_mono
        clear hr hu hs ha hc hnow hlater
        generalize fillN r u s a now = F1 at *
        generalize fillN r u s a later = F2 at *
        generalize fillN r u c a later = F3 at *
        have hcase : c < s ∨ (s ≤ c ∧ F2 ≤ F3) := by omega
        clear hm k p4 h1 h2 h3 h4
        rcases hcase with hcs | ⟨hcs, hF⟩
        all_goals
          go_enter Try.func3, Try.ntmps3
          go_wp2_with fail
          refine (CK.out _).mono ?_
          rintro e w1 ⟨rfl, hb⟩
          obtain ⟨os, d, rfl⟩ := ext_of_below hb
          clear hb
          go_wp2_with fail
          refine (C1.out _).mono ?_
          rintro e w1 ⟨rfl, hb⟩
          obtain ⟨os, d, rfl⟩ := ext_of_below hb
          clear hb
          go_wp2_with fail
          refine (C2.out _).mono ?_
          rintro e w1 ⟨rfl, hb⟩
          obtain ⟨os, d, rfl⟩ := ext_of_below hb
          clear hb
          go_wp2_with fail
          refine (C3.out _).mono ?_
          rintro e w1 ⟨rfl, hb⟩
          obtain ⟨os, d, rfl⟩ := ext_of_below hb
          clear hb
          go_wp2_with fail
          go_wp2_with fail
          refine (C4.out _).mono ?_
          rintro e w1 ⟨rfl, hb⟩
          obtain ⟨os, d, rfl⟩ := ext_of_below hb
          clear hb
          go_wp2
          go_ret
          refine ⟨rfl, ?_⟩
          (repeat' (first | (with_reducible exact Below.refl _ _) | (with_reducible assumption) | (with_reducible refine Below.ext ?_ ?_ _ _) | (with_reducible refine Below.alloc ?_ ?_ _) | (with_reducible refine Below.setCell ?_ ?_ _) | (with_reducible refine Below.drew ?_) | go_size | (simp [size_ext]; done) | (simp [size_ext]; omega)))
      · have C4 := hid (fill_bad r u c a later (fun h => p4 h.1))
        clear hr hu hs ha hc hnow hlater
        generalize fillN r u s a now = F1 at *
        generalize fillN r u s a later = F2 at *
        clear k p4 h1 h2 h3 h4
        go_enter Try.func3, Try.ntmps3
        go_wp2_with fail
        refine (CK.out _).mono ?_
        rintro e w1 ⟨rfl, hb⟩
        obtain ⟨os, d, rfl⟩ := ext_of_below hb
        clear hb
        go_wp2_with fail
        refine (C1.out _).mono ?_
        rintro e w1 ⟨rfl, hb⟩
        obtain ⟨os, d, rfl⟩ := ext_of_below hb
        clear hb
        go_wp2_with fail
        refine (C2.out _).mono ?_
        rintro e w1 ⟨rfl, hb⟩
        obtain ⟨os, d, rfl⟩ := ext_of_below hb
        clear hb
        go_wp2_with fail
        refine (C3.out _).mono ?_
        rintro e w1 ⟨rfl, hb⟩
        obtain ⟨os, d, rfl⟩ := ext_of_below hb
        clear hb
        go_wp2_with fail
        refine (C4.out _).mono ?_
        rintro e w1 ⟨rfl, hb⟩
        obtain ⟨os, d, rfl⟩ := ext_of_below hb
        clear hb
        go_wp2
        go_ret
        refine ⟨rfl, ?_⟩
        (repeat' (first | (with_reducible exact Below.refl _ _) | (with_reducible assumption) | (with_reducible refine Below.ext ?_ ?_ _ _) | (with_reducible refine Below.alloc ?_ ?_ _) | (with_reducible refine Below.setCell ?_ ?_ _) | (with_reducible refine Below.drew ?_) | go_size | (simp [size_ext]; done) | (simp [size_ext]; omega)))
    · have C2 := hid (fill_bad r u (fillN r u s a now) now later (fun h => p2 h.2))
      obtain ⟨r3, u3, s3, a3, E3, hE3, c3⟩ := fill_some r u s a later
      have C3 := hid c3
      clear hr hu hs ha hc hnow hlater c3
      generalize fillN r u s a now = F1 at *
      clear k p2 h1 h2
      rcases hE3 with rfl | rfl
      all_goals
        go_enter Try.func3, Try.ntmps3
        go_wp2_with fail
        refine (CK.out _).mono ?_
        rintro e w1 ⟨rfl, hb⟩
        obtain ⟨os, d, rfl⟩ := ext_of_below hb
        clear hb
        go_wp2_with fail
        refine (C1.out _).mono ?_
        rintro e w1 ⟨rfl, hb⟩
        obtain ⟨os, d, rfl⟩ := ext_of_below hb
        clear hb
        go_wp2_with fail
        refine (C2.out _).mono ?_
        rintro e w1 ⟨rfl, hb⟩
        obtain ⟨os, d, rfl⟩ := ext_of_below hb
        clear hb
        go_wp2_with fail
        refine (C3.out _).mono ?_
        rintro e w1 ⟨rfl, hb⟩
        obtain ⟨os, d, rfl⟩ := ext_of_below hb
        clear hb
        go_wp2
        go_ret
        refine ⟨rfl, ?_⟩
        (repeat' (first | (with_reducible exact Below.refl _ _) | (with_reducible assumption) | (with_reducible refine Below.ext ?_ ?_ _ _) | (with_reducible refine Below.alloc ?_ ?_ _) | (with_reducible refine Below.setCell ?_ ?_ _) | (with_reducible refine Below.drew ?_) | go_size | (simp [size_ext]; done) | (simp [size_ext]; omega)))
  · have C1 := hid (fill_bad r u s a now p1)
    obtain ⟨r2, u2, s2, a2, E2, hE2, c2⟩ := fill_some 0 0 0 0 later
    obtain ⟨r3, u3, s3, a3, E3, hE3, c3⟩ := fill_some r u s a later
    have C2 := hid c2
    have C3 := hid c3
    clear hr hu hs ha hc hnow hlater c2 c3 p1
    rcases hE2 with rfl | rfl <;> rcases hE3 with rfl | rfl
    all_goals
      go_enter Try.func3, Try.ntmps3
      go_wp2_with fail
      refine (CK.out _).mono ?_
      rintro e w1 ⟨rfl, hb⟩
      obtain ⟨os, d, rfl⟩ := ext_of_below hb
      clear hb
      go_wp2_with fail
      refine (C1.out _).mono ?_
      rintro e w1 ⟨rfl, hb⟩
      obtain ⟨os, d, rfl⟩ := ext_of_below hb
      clear hb
      go_wp2_with fail
      refine (C2.out _).mono ?_
      rintro e w1 ⟨rfl, hb⟩
      obtain ⟨os, d, rfl⟩ := ext_of_below hb
      clear hb
      go_wp2_with fail
      refine (C3.out _).mono ?_
      rintro e w1 ⟨rfl, hb⟩
      obtain ⟨os, d, rfl⟩ := ext_of_below hb
      clear hb
      go_wp2
      go_ret
      refine ⟨rfl, ?_⟩
      (repeat' (first | (with_reducible exact Below.refl _ _) | (with_reducible assumption) | (with_reducible refine Below.ext ?_ ?_ _ _) | (with_reducible refine Below.alloc ?_ ?_ _) | (with_reducible refine Below.setCell ?_ ?_ _) | (with_reducible refine Below.drew ?_) | go_size | (simp [size_ext]; done) | (simp [size_ext]; omega)))

theorem contract (H : Type) (enc : TypeId × Value → H) (W : World) (base : Nat) (args : Array Value) (ds gs : List (DataW H)) (before : List MemPlace)
    (hval : ∀ (j : Nat) t v, Try.f3.params[j]? = some t → args[j]? = some v → Value.okWide Try.prog W .any base t v)
    (hW : DataW.Whole enc Try.prog Try.f3.params.toList Rows.bucketWaitsSpec.vars false W args.toList ds gs before) :
    Calls Try.prog 3 args W fun e W' => ∃ v, e = .returned v ∧ Rows.bucketWaitsSpec.post enc Try.prog Try.f3 false true false false W args v W' := by
  have hW' := hW
  obtain ⟨p, q, hA0, hV, rfl, hfz, hnd⟩ := hW
  have hA : DataW.TrodAll enc Try.prog W 0 (fun _ => true) true Try.f3.params.toList args.toList ds p := hA0
  rw [Try.params3] at hA hval
  obtain ⟨v0, vs0, d0, ds0, p0, q0, hargs, rfl, rfl, k0, r0⟩ := trodAll_cons hA
  obtain ⟨v1, vs1, d1, ds1, p1, q1, rfl, rfl, rfl, k1, r1⟩ := trodAll_cons r0
  obtain ⟨v2, vs2, d2, ds2, p2, q2, rfl, rfl, rfl, k2, r2⟩ := trodAll_cons r1
  obtain ⟨v3, vs3, d3, ds3, p3, q3, rfl, rfl, rfl, k3, r3⟩ := trodAll_cons r2
  obtain ⟨rfl, rfl, rfl⟩ := trodAll_nil r3
  obtain rfl : args = #[v0, v1, v2, v3] := by cases args; simp_all
  obtain ⟨rfl, rfl⟩ := trodVars_none hV
  have lt0 : ∀ x ∈ p0, x.block < W.heap.size := by obtain ⟨m, hm⟩ := k0; exact DataW.trod_lt m _ _ _ hm
  have lt1 : ∀ x ∈ p1, x.block < W.heap.size := by obtain ⟨m, hm⟩ := k1; exact DataW.trod_lt m _ _ _ hm
  have lt2 : ∀ x ∈ p2, x.block < W.heap.size := by obtain ⟨m, hm⟩ := k2; exact DataW.trod_lt m _ _ _ hm
  have lt3 : ∀ x ∈ p3, x.block < W.heap.size := by obtain ⟨m, hm⟩ := k3; exact DataW.trod_lt m _ _ _ hm
  obtain ⟨x0, cs0, rfl, w0, z0⟩ := arg_struct Try.underlying23 opens_bucket (hval 0 23 v0 rfl rfl) k0
  obtain ⟨a1, rfl, w1, z1⟩ := arg_int Try.underlying3 (hval 1 3 v1 rfl rfl) k1
  obtain ⟨a2, rfl, w2, z2⟩ := arg_int Try.underlying3 (hval 2 3 v2 rfl rfl) k2
  obtain ⟨a3, rfl, w3, z3⟩ := arg_int Try.underlying3 (hval 3 3 v3 rfl rfl) k3
  clear hA0 hA
  refine (walk W x0 cs0 w0 a1 w1 a2 w2 a3 w3).mono fun e W' ⟨he, bel⟩ => ?_
  subst he
  exact ⟨_, rfl, _, _, _, [], _, [], hW', trodAll_mk1 (shut_bool Try.underlying4 _), (trodAll_cons_mk (Below.trod laidOut (by kernel_rfl) (of_decide_eq_true (by kernel_rfl)) k0 bel lt0) (trodAll_cons_mk (Below.trod laidOut (by kernel_rfl) (of_decide_eq_true (by kernel_rfl)) k1 bel lt1) (trodAll_cons_mk (Below.trod laidOut (by kernel_rfl) (of_decide_eq_true (by kernel_rfl)) k2 bel lt2) (trodAll_cons_mk (Below.trod laidOut (by kernel_rfl) (of_decide_eq_true (by kernel_rfl)) k3 bel lt3) trodAll_mk0)))), rfl, bel.frame _, fun h => by cases h⟩

set_option maxRecDepth 100000 in
theorem lifted (os : Os) (started : os.Started) (H : Type) (enc : TypeId × Value → H) :
    ReturnsInHanded {} Try.checked os 3 .any (Rows.bucketWaitsSpec.pre6 enc Try.prog Try.f3 Rows.bucketWaitsRow.domain false) (Rows.bucketWaitsSpec.post enc Try.prog Try.f3 false true false false) := by
  refine returnsInHanded_of_change (C := Try.checked) own started (by kernel_rfl) Try.func3
    (ChangeSpec.witness6 (enc := enc) (C := Try.checked) false ⟨#[], #[.agg #[.int .i64 0, .int .i64 0, .int .i64 0, .int .i64 0], .int .i64 0, .int .i64 0, .int .i64 0], []⟩ 8 (by kernel_rfl) (by kernel_rfl) (by kernel_rfl) (by kernel_rfl)) ?_
  intro W base args ds gs before hval hW _ _
  exact contract H enc W base args ds gs before hval hW

/-- the statement -/
theorem proved : Rows.BucketWaitsSaid :=
  OpenClaim.holds_of_wide 3 Try.f3 rfl rfl rfl rfl rfl rfl rfl ⟨rfl, rfl, rfl, rfl, rfl⟩ rfl rfl rfl rfl rfl (by kernel_rfl) Try.func3 (by kernel_rfl)
    (of_decide_eq_true (by kernel_rfl)) (by unfold Func.isWrapper; first | (rw [if_pos (by decide +kernel)]; kernel_rfl) | (rw [if_neg (by decide +kernel)]; exact ⟨rfl, rfl⟩))
    (fun os started H enc _ => lifted os started H enc)

end bucketWaits
end Go.Proofs.Ytbpflpmhnmdeoaa
