/- BucketSplits is true of every input: two numbers are taken at one time, one behind the other, just if both together would be. No condition. -/
import Derived.Test.YtbpflpmhnmdeoaaTake
import Derived.Test.YtbpflpmhnmdeoaaRep
import Derived.OpenShut
import Derived.JoinedCond
namespace Go.Proofs.Ytbpflpmhnmdeoaa
open Go.ChangeShapes Go.WideShapes Go.ChangeAt Go.RowKit
set_option linter.unusedVariables false
namespace bucketSplits

set_option maxHeartbeats 4000000 in
theorem walk (w : World) (x : Int × Int × Int × Int × Unit) (cs : Array Value) (hx : bucketR.rel w w.heap.size x cs.toList)
    (now : Int) (hnow : I64 now) (m : Int) (hm : I64 m) (n : Int) (hn : I64 n) :
    Calls Try.prog 5 #[.agg cs, .int .i64 now, .int .i64 m, .int .i64 n] w fun e w' => e = .returned (.bool true) ∧ Below w.heap.size w w' := by
  obtain ⟨r, u, s, a, rfl, hr, hu, hs, ha⟩ := bucket_of hx
  clear hx hr hu hs ha hnow hm hn
  have CK := hid filled_true
  have hways : m < 0 ∨ (0 ≤ m ∧ n < 0) ∨ (0 ≤ m ∧ 0 ≤ n ∧ 1099511627776 < m) ∨ (0 ≤ m ∧ 0 ≤ n ∧ m ≤ 1099511627776 ∧ 1099511627776 < n) ∨ (0 ≤ m ∧ 0 ≤ n ∧ m ≤ 1099511627776 ∧ n ≤ 1099511627776) := by omega
  rcases hways with h | ⟨h0, h⟩ | ⟨h0, h1, h⟩ | ⟨h0, h1, h2, h⟩ | ⟨h0, h1, h2, h3⟩
  iterate 4
    · go_enter Try.func5, Try.ntmps5
      go_wp2_with fail
      refine (CK.out _).mono ?_
      rintro e w1 ⟨rfl, hb⟩
      obtain ⟨os, d, rfl⟩ := ext_of_below hb
      clear hb
      go_wp2
      all_goals
        go_ret
        refine ⟨rfl, ?_⟩
        (repeat' (first | (with_reducible exact Below.refl _ _) | (with_reducible assumption) | (with_reducible refine Below.ext ?_ ?_ _ _) | (with_reducible refine Below.alloc ?_ ?_ _) | (with_reducible refine Below.setCell ?_ ?_ _) | (with_reducible refine Below.drew ?_) | go_size | (simp [size_ext]; done) | (simp [size_ext]; omega)))
  by_cases p : BOk r u s a ∧ a ≤ now ∧ now ≤ 2147483647
  · obtain ⟨k, h5, h6⟩ := p
    have kF := k.fill h5 h6
    have lF : fillN r u s a now ≤ u := fill_le
    have y1 := take_yes r u s a now m k h5 h6 h0
    have n1 := take_no r u s a now m k h5 h6 h0
    have y3 := take_yes r u s a now (m + n) k h5 h6 (by omega)
    have n3 := take_no r u s a now (m + n) k h5 h6 (by omega)
    have t2 : ∀ c, 0 ≤ c → c ≤ fillN r u s a now → (n ≤ c → ∀ w, Calls Try.prog 14 #[bucketV r u c now, .int .i64 now, .int .i64 n] w fun e w' => e = .returned (.tuple #[bucketV r u (c - n) now, .bool true, .nilIface]) ∧ Below w.heap.size w w') ∧
        (c < n → ∀ w, Calls Try.prog 14 #[bucketV r u c now, .int .i64 now, .int .i64 n] w fun e w' => e = .returned (.tuple #[bucketV r u c now, .bool false, .nilIface]) ∧ Below w.heap.size w w') := by
      intro c c0 c1
      have e : fillN r u c now now = c := fill_same (by omega)
      refine ⟨fun h w => ?_, fun h w => ?_⟩
      · have := take_yes r u c now now n (kF.less c0 c1) (Int.le_refl _) h6 h1 (by omega) w
        rwa [e] at this
      · have := take_no r u c now now n (kF.less c0 c1) (Int.le_refl _) h6 h1 (by omega) w
        rwa [e] at this
    have F0 := kF.h0
    clear k kF h5 h6
    generalize fillN r u s a now = F at *
    by_cases c1 : m ≤ F
    · by_cases c2 : n ≤ F - m
      · have C1 := hid (y1 c1)
        have C2 := hid ((t2 (F - m) (by omega) (by omega)).1 c2)
        have C3 := hid (y3 (by omega))
        clear y1 n1 y3 n3 t2
        have e : (F - m - n == F - (m + n)) = true := by simp; omega
        go_enter Try.func5, Try.ntmps5
        go_wp2_with fail
        refine (CK.out _).mono ?_
        rintro e w1 ⟨rfl, hb⟩
        obtain ⟨os, d, rfl⟩ := ext_of_below hb
        clear hb
        go_wp2_with fail
        refine (C1.out _).mono ?_
        rintro e w1 ⟨rfl, hb⟩
        obtain ⟨os, d, rfl⟩ := ext_of_below hb
        clear hb
        go_wp2_with fail
        refine (C2.out _).mono ?_
        rintro e w1 ⟨rfl, hb⟩
        obtain ⟨os, d, rfl⟩ := ext_of_below hb
        clear hb
        go_wp2_with fail
        refine (C3.out _).mono ?_
        rintro e w1 ⟨rfl, hb⟩
        obtain ⟨os, d, rfl⟩ := ext_of_below hb
        clear hb
        go_wp2
        go_ret
        refine ⟨rfl, ?_⟩
        (repeat' (first | (with_reducible exact Below.refl _ _) | (with_reducible assumption) | (with_reducible refine Below.ext ?_ ?_ _ _) | (with_reducible refine Below.alloc ?_ ?_ _) | (with_reducible refine Below.setCell ?_ ?_ _) | (with_reducible refine Below.drew ?_) | go_size | (simp [size_ext]; done) | (simp [size_ext]; omega)))
      · have C1 := hid (y1 c1)
        have C2 := hid ((t2 (F - m) (by omega) (by omega)).2 (by omega))
        have C3 := hid (n3 (by omega))
        clear y1 n1 y3 n3 t2
        go_enter Try.func5, Try.ntmps5
        go_wp2_with fail
        refine (CK.out _).mono ?_
        rintro e w1 ⟨rfl, hb⟩
        obtain ⟨os, d, rfl⟩ := ext_of_below hb
        clear hb
        go_wp2_with fail
        refine (C1.out _).mono ?_
        rintro e w1 ⟨rfl, hb⟩
        obtain ⟨os, d, rfl⟩ := ext_of_below hb
        clear hb
        go_wp2_with fail
        refine (C2.out _).mono ?_
        rintro e w1 ⟨rfl, hb⟩
        obtain ⟨os, d, rfl⟩ := ext_of_below hb
        clear hb
        go_wp2_with fail
        refine (C3.out _).mono ?_
        rintro e w1 ⟨rfl, hb⟩
        obtain ⟨os, d, rfl⟩ := ext_of_below hb
        clear hb
        go_wp2
        go_ret
        refine ⟨rfl, ?_⟩
        (repeat' (first | (with_reducible exact Below.refl _ _) | (with_reducible assumption) | (with_reducible refine Below.ext ?_ ?_ _ _) | (with_reducible refine Below.alloc ?_ ?_ _) | (with_reducible refine Below.setCell ?_ ?_ _) | (with_reducible refine Below.drew ?_) | go_size | (simp [size_ext]; done) | (simp [size_ext]; omega)))
    · have C3 := hid (n3 (by omega))
      have C1 := hid (n1 (by omega))
      by_cases c2 : n ≤ F
      · have C2 := hid ((t2 F F0 (Int.le_refl _)).1 c2)
        clear y1 n1 y3 n3 t2
        go_enter Try.func5, Try.ntmps5
        go_wp2_with fail
        refine (CK.out _).mono ?_
        rintro e w1 ⟨rfl, hb⟩
        obtain ⟨os, d, rfl⟩ := ext_of_below hb
        clear hb
        go_wp2_with fail
        refine (C1.out _).mono ?_
        rintro e w1 ⟨rfl, hb⟩
        obtain ⟨os, d, rfl⟩ := ext_of_below hb
        clear hb
        go_wp2_with fail
        refine (C2.out _).mono ?_
        rintro e w1 ⟨rfl, hb⟩
        obtain ⟨os, d, rfl⟩ := ext_of_below hb
        clear hb
        go_wp2_with fail
        refine (C3.out _).mono ?_
        rintro e w1 ⟨rfl, hb⟩
        obtain ⟨os, d, rfl⟩ := ext_of_below hb
        clear hb
        go_wp2
        go_ret
        refine ⟨rfl, ?_⟩
        (repeat' (first | (with_reducible exact Below.refl _ _) | (with_reducible assumption) | (with_reducible refine Below.ext ?_ ?_ _ _) | (with_reducible refine Below.alloc ?_ ?_ _) | (with_reducible refine Below.setCell ?_ ?_ _) | (with_reducible refine Below.drew ?_) | go_size | (simp [size_ext]; done) | (simp [size_ext]; omega)))
      · have C2 := hid ((t2 F F0 (Int.le_refl _)).2 (by omega))
        clear y1 n1 y3 n3 t2
        go_enter Try.func5, Try.ntmps5
        go_wp2_with fail
        refine (CK.out _).mono ?_
        rintro e w1 ⟨rfl, hb⟩
        obtain ⟨os, d, rfl⟩ := ext_of_below hb
        clear hb
        go_wp2_with fail
        refine (C1.out _).mono ?_
        rintro e w1 ⟨rfl, hb⟩
        obtain ⟨os, d, rfl⟩ := ext_of_below hb
        clear hb
        go_wp2_with fail
        refine (C2.out _).mono ?_
        rintro e w1 ⟨rfl, hb⟩
        obtain ⟨os, d, rfl⟩ := ext_of_below hb
        clear hb
        go_wp2_with fail
        refine (C3.out _).mono ?_
        rintro e w1 ⟨rfl, hb⟩
        obtain ⟨os, d, rfl⟩ := ext_of_below hb
        clear hb
        go_wp2
        go_ret
        refine ⟨rfl, ?_⟩
        (repeat' (first | (with_reducible exact Below.refl _ _) | (with_reducible assumption) | (with_reducible refine Below.ext ?_ ?_ _ _) | (with_reducible refine Below.alloc ?_ ?_ _) | (with_reducible refine Below.setCell ?_ ?_ _) | (with_reducible refine Below.drew ?_) | go_size | (simp [size_ext]; done) | (simp [size_ext]; omega)))
  · obtain ⟨r2, u2, s2, a2, ok, E2, hE2, c2⟩ := take_some 0 0 0 0 now n
    have C1 := hid (take_bad r u s a now m p)
    have C2 := hid c2
    have C3 := hid (take_bad r u s a now (m + n) p)
    clear c2 p
    rcases hE2 with rfl | rfl
    all_goals
      go_enter Try.func5, Try.ntmps5
      go_wp2_with fail
      refine (CK.out _).mono ?_
      rintro e w1 ⟨rfl, hb⟩
      obtain ⟨os, d, rfl⟩ := ext_of_below hb
      clear hb
      go_wp2_with fail
      refine (C1.out _).mono ?_
      rintro e w1 ⟨rfl, hb⟩
      obtain ⟨os, d, rfl⟩ := ext_of_below hb
      clear hb
      go_wp2_with fail
      refine (C2.out _).mono ?_
      rintro e w1 ⟨rfl, hb⟩
      obtain ⟨os, d, rfl⟩ := ext_of_below hb
      clear hb
      go_wp2_with fail
      refine (C3.out _).mono ?_
      rintro e w1 ⟨rfl, hb⟩
      obtain ⟨os, d, rfl⟩ := ext_of_below hb
      clear hb
      go_wp2
      go_ret
      refine ⟨rfl, ?_⟩
      (repeat' (first | (with_reducible exact Below.refl _ _) | (with_reducible assumption) | (with_reducible refine Below.ext ?_ ?_ _ _) | (with_reducible refine Below.alloc ?_ ?_ _) | (with_reducible refine Below.setCell ?_ ?_ _) | (with_reducible refine Below.drew ?_) | go_size | (simp [size_ext]; done) | (simp [size_ext]; omega)))

theorem contract (H : Type) (enc : TypeId × Value → H) (W : World) (base : Nat) (args : Array Value) (ds gs : List (DataW H)) (before : List MemPlace)
    (hval : ∀ (j : Nat) t v, Try.f5.params[j]? = some t → args[j]? = some v → Value.okWide Try.prog W .any base t v)
    (hW : DataW.Whole enc Try.prog Try.f5.params.toList Rows.bucketSplitsSpec.vars false W args.toList ds gs before) :
    Calls Try.prog 5 args W fun e W' => ∃ v, e = .returned v ∧ Rows.bucketSplitsSpec.post enc Try.prog Try.f5 false true false false W args v W' := by
  have hW' := hW
  obtain ⟨p, q, hA0, hV, rfl, hfz, hnd⟩ := hW
  have hA : DataW.TrodAll enc Try.prog W 0 (fun _ => true) true Try.f5.params.toList args.toList ds p := hA0
  rw [Try.params5] at hA hval
  obtain ⟨v0, vs0, d0, ds0, p0, q0, hargs, rfl, rfl, k0, r0⟩ := trodAll_cons hA
  obtain ⟨v1, vs1, d1, ds1, p1, q1, rfl, rfl, rfl, k1, r1⟩ := trodAll_cons r0
  obtain ⟨v2, vs2, d2, ds2, p2, q2, rfl, rfl, rfl, k2, r2⟩ := trodAll_cons r1
  obtain ⟨v3, vs3, d3, ds3, p3, q3, rfl, rfl, rfl, k3, r3⟩ := trodAll_cons r2
  obtain ⟨rfl, rfl, rfl⟩ := trodAll_nil r3
  obtain rfl : args = #[v0, v1, v2, v3] := by cases args; simp_all
  obtain ⟨rfl, rfl⟩ := trodVars_none hV
  have lt0 : ∀ x ∈ p0, x.block < W.heap.size := by obtain ⟨m, hm⟩ := k0; exact DataW.trod_lt m _ _ _ hm
  have lt1 : ∀ x ∈ p1, x.block < W.heap.size := by obtain ⟨m, hm⟩ := k1; exact DataW.trod_lt m _ _ _ hm
  have lt2 : ∀ x ∈ p2, x.block < W.heap.size := by obtain ⟨m, hm⟩ := k2; exact DataW.trod_lt m _ _ _ hm
  have lt3 : ∀ x ∈ p3, x.block < W.heap.size := by obtain ⟨m, hm⟩ := k3; exact DataW.trod_lt m _ _ _ hm
  obtain ⟨x0, cs0, rfl, w0, z0⟩ := arg_struct Try.underlying23 opens_bucket (hval 0 23 v0 rfl rfl) k0
  obtain ⟨a1, rfl, w1, z1⟩ := arg_int Try.underlying3 (hval 1 3 v1 rfl rfl) k1
  obtain ⟨a2, rfl, w2, z2⟩ := arg_int Try.underlying3 (hval 2 3 v2 rfl rfl) k2
  obtain ⟨a3, rfl, w3, z3⟩ := arg_int Try.underlying3 (hval 3 3 v3 rfl rfl) k3
  clear hA0 hA
  refine (walk W x0 cs0 w0 a1 w1 a2 w2 a3 w3).mono fun e W' ⟨he, bel⟩ => ?_
  subst he
  exact ⟨_, rfl, _, _, _, [], _, [], hW', trodAll_mk1 (shut_bool Try.underlying4 _), (trodAll_cons_mk (Below.trod laidOut (by kernel_rfl) (of_decide_eq_true (by kernel_rfl)) k0 bel lt0) (trodAll_cons_mk (Below.trod laidOut (by kernel_rfl) (of_decide_eq_true (by kernel_rfl)) k1 bel lt1) (trodAll_cons_mk (Below.trod laidOut (by kernel_rfl) (of_decide_eq_true (by kernel_rfl)) k2 bel lt2) (trodAll_cons_mk (Below.trod laidOut (by kernel_rfl) (of_decide_eq_true (by kernel_rfl)) k3 bel lt3) trodAll_mk0)))), rfl, bel.frame _, fun h => by cases h⟩

set_option maxRecDepth 100000 in
theorem lifted (os : Os) (started : os.Started) (H : Type) (enc : TypeId × Value → H) :
    ReturnsInHanded {} Try.checked os 5 .any (Rows.bucketSplitsSpec.pre6 enc Try.prog Try.f5 Rows.bucketSplitsRow.domain false) (Rows.bucketSplitsSpec.post enc Try.prog Try.f5 false true false false) := by
  refine returnsInHanded_of_change (C := Try.checked) own started (by kernel_rfl) Try.func5
    (ChangeSpec.witness6 (enc := enc) (C := Try.checked) false ⟨#[], #[.agg #[.int .i64 0, .int .i64 0, .int .i64 0, .int .i64 0], .int .i64 0, .int .i64 0, .int .i64 0], []⟩ 8 (by kernel_rfl) (by kernel_rfl) (by kernel_rfl) (by kernel_rfl)) ?_
  intro W base args ds gs before hval hW _ _
  exact contract H enc W base args ds gs before hval hW

/-- the statement -/
theorem proved : Rows.BucketSplitsSaid :=
  OpenClaim.holds_of_wide 5 Try.f5 rfl rfl rfl rfl rfl rfl rfl ⟨rfl, rfl, rfl, rfl, rfl⟩ rfl rfl rfl rfl rfl (by kernel_rfl) Try.func5 (by kernel_rfl)
    (of_decide_eq_true (by kernel_rfl)) (by unfold Func.isWrapper; first | (rw [if_pos (by decide +kernel)]; kernel_rfl) | (rw [if_neg (by decide +kernel)]; exact ⟨rfl, rfl⟩))
    (fun os started H enc _ => lifted os started H enc)

end bucketSplits
end Go.Proofs.Ytbpflpmhnmdeoaa
