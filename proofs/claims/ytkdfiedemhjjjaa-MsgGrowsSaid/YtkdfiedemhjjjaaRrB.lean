/- rr: Read. -/
import Derived.Test.YtkdfiedemhjjjaaRrA
import Derived.Test.YtkdfiedemhjjjaaSim
import Derived.Deep.DrawnRows
namespace Go.Proofs.Ytkdfiedemhjjjaa
open Go.RowKit
set_option linter.unusedVariables false
attribute [local go_sem ↓] Go.wp_at_zero Go.wp_at_succ

set_option maxRecDepth 100000 in
set_option maxHeartbeats 4000000 in
theorem rread_ok {w : World} {A : Option Addr} {n c : Nat} {m : List UInt8} (hM : Rd u8R w w.heap.size A n c m) {at_ : Int} {l : List ByteArray} {p en : Nat} (hr : rrF m at_ = (0, l, p, en)) {k : Nat} (hk : l.length = k) {T C L : Int} {D : List UInt8} (hrec : recOf m l p en = (l, T, C, L, D, ())) {nd : Nat} (hd : D.length = nd) :
    Calls Try.prog 9 #[.slice A n c, .int .i64 at_] w fun e w' => ∃ A' c' A2 c2, e = .returned (.tuple #[.agg #[.slice A' k c', .int .i64 T, .int .i64 C, .int .i64 L, .slice A2 nd c2], .int .i64 (en : Int), .nilIface]) ∧ (Rd strR w' w'.heap.size A' k c' l ∧ Rd u8R w' w'.heap.size A2 nd c2 D) ∧ Below w.heap.size w w' := by
  obtain ⟨h1, h2, h3, h4⟩ := rrF_ok.1 hr
  have hn := hM.len
  have hcap := hM.cap
  have hmax := hM.max
  have hlim := hM.lim
  simp only [u8R, Nat.mul_one] at hlim
  unfold maxLen at hmax
  rw [hn] at h2 h4
  obtain ⟨b, o, rfl, lb⟩ := hM.addr (by omega)
  have CF := hid fun w' (hb : Below w.heap.size w w') => fixed_ok (hM.later hb) hr hk
  simp only [recOf, Prod.mk.injEq, true_and, and_true] at hrec
  obtain ⟨r1, r2, r3, r4⟩ := hrec
  have T1 := at2_le m p
  have T2 := at2_le m (p + 2)
  have T3 := at2_le m (p + 4)
  have T4 := at2_le m (p + 6)
  have CT0 := fun w' (hb : Below w.heap.size w w') => two_rr ((hM.later hb).dropB (k := p) (by omega)) (by omega) (at2_drop m p 0)
  have CT2 := fun w' (hb : Below w.heap.size w w') => two_rr ((hM.later hb).dropB (k := p + 2) (by omega)) (by omega) (at2_drop m (p + 2) 0)
  have CT4 := fun w' (hb : Below w.heap.size w w') => two_rr ((hM.later hb).dropB (k := p + 4) (by omega)) (by omega) (at2_drop m (p + 4) 0)
  have CT6 := fun w' (hb : Below w.heap.size w w') => two_rr ((hM.later hb).dropB (k := p + 6) (by omega)) (by omega) (at2_drop m (p + 6) 0)
  simp only [Nat.add_zero] at CT0 CT2 CT4 CT6
  have bo := b64_or (at2 m (p + 4) * 65536) (at2 m (p + 6)) (by omega) (by omega)
  rw [show at2 m (p + 4) * 65536 ||| at2 m (p + 6) = at2 m (p + 4) * 65536 + at2 m (p + 6) from or_low _ _ 16 (by omega)] at bo
  have bo' : bits .or .i64 ((at2 m (p + 4) : Nat) * 65536 : Int) (at2 m (p + 6) : Nat) = L := by rw [← r3]; simpa using bo
  have wl : IntKind.i64.wrap (((at2 m (p + 4) : Nat) : Int) * 65536) = ((at2 m (p + 4) : Nat) : Int) * 65536 := IntWalk.i64_in _ (by omega)
  have hD : en - (p + 10) = nd := by rw [← hd, ← r4, List.length_take, List.length_drop]; omega
  obtain ⟨SA, SC, hs, hrd⟩ := slice_two hM (i := p + 10) (j := en) (by omega) h4 (by omega) (a := (p : Int) + 10) (b := (en : Int)) (by omega) rfl
  rw [r4] at hrd
  rw [hD] at hs hrd
  have CC := fun w' (hb : Below w.heap.size w w') => clone_rd (hrd.below hb) (by omega)
  replace CC := hid CC
  generalize at2 m p = t0 at *
  generalize at2 m (p + 2) = t2 at *
  generalize at2 m (p + 4) = t4 at *
  generalize at2 m (p + 6) = t6 at *
  subst r1 r2
  rw [show p + 2 = ((p : Int) + 2).toNat by omega] at CT2
  rw [show p + 4 = ((p : Int) + 4).toNat by omega] at CT4
  rw [show p + 6 = ((p : Int) + 6).toNat by omega] at CT6
  have CT0 := hid CT0
  have CT2 := hid CT2
  have CT4 := hid CT4
  have CT6 := hid CT6
  have h3' : p + 10 ≤ en := by omega
  clear hr hM h1 h3 bo r3 r4 hrd hD hd
  have w2 : IntKind.i64.wrap ((p : Int) + 2) = (p : Int) + 2 := IntWalk.i64_in _ (by omega)
  have w4 : IntKind.i64.wrap ((p : Int) + 4) = (p : Int) + 4 := IntWalk.i64_in _ (by omega)
  have w6 : IntKind.i64.wrap ((p : Int) + 6) = (p : Int) + 6 := IntWalk.i64_in _ (by omega)
  have w10 : IntKind.i64.wrap ((p : Int) + 10) = (p : Int) + 10 := IntWalk.i64_in _ (by omega)
  have q0 : (p : Int) ≤ (n : Int) := by omega
  have q2 : (p : Int) + 2 ≤ (n : Int) := by omega
  have q4 : (p : Int) + 4 ≤ (n : Int) := by omega
  have q6 : (p : Int) + 6 ≤ (n : Int) := by omega
  have p0 : (0 : Int) ≤ (p : Int) := by omega
  have p2 : (0 : Int) ≤ (p : Int) + 2 := by omega
  have p4 : (0 : Int) ≤ (p : Int) + 4 := by omega
  have p6 : (0 : Int) ≤ (p : Int) + 6 := by omega
  have q0' : p ≤ n := by omega
  have q2' : p + 2 ≤ n := by omega
  have q4' : p + 4 ≤ n := by omega
  have q6' : p + 6 ≤ n := by omega
  have x0 : ¬ c = p := by omega
  have x2 : ¬ c = p + 2 := by omega
  have x4 : ¬ c = p + 4 := by omega
  have x6 : ¬ c = p + 6 := by omega
  have tk0 : True := trivial; have tk1 : True := trivial; have tk2 : True := trivial; have tk3 : True := trivial; have tk4 : True := trivial; have tk5 : True := trivial; have tk6 : True := trivial; have tk7 : True := trivial; have tk8 : True := trivial; have tk9 : True := trivial; have tk10 : True := trivial; have tk11 : True := trivial; have tk12 : True := trivial
  go_enter Try.func9, Try.ntmps9
  go_wp2_with (go_at_call 29; have _t := tk1; (with_reducible refine (CF.out _ (by (repeat' (first | (with_reducible exact Below.refl _ _) | (with_reducible assumption) | (with_reducible refine below_ext0 ?_ _ _) | (with_reducible refine below_alloc0 ?_ _) | (with_reducible refine Below.ext ?_ ?_ _ _) | (with_reducible refine Below.alloc ?_ ?_ _) | (with_reducible refine Below.setCell ?_ ?_ _) | (with_reducible refine Below.drew ?_) | (with_reducible refine below_draws ?_ _) | go_size | (simp [size_ext]; done) | (simp [size_ext]; omega))))).mono ?_); rintro e w1 ⟨Atk1, ctk1, rfl, hr, hb⟩; obtain ⟨otk1, dtk1, rfl⟩ := ext_of_below hb; (try simp only [ext_drew, ext_drewN] at hr); have R1 := hid hr; clear hr; clear hb tk1)
  go_region_held3 (fun _ => True) (trivial) (first
    | (go_at_call 30; have _t := tk2; (with_reducible refine (CT0.out _ (by (repeat' (first | (with_reducible exact Below.refl _ _) | (with_reducible assumption) | (with_reducible refine below_ext0 ?_ _ _) | (with_reducible refine below_alloc0 ?_ _) | (with_reducible refine Below.ext ?_ ?_ _ _) | (with_reducible refine Below.alloc ?_ ?_ _) | (with_reducible refine Below.setCell ?_ ?_ _) | (with_reducible refine Below.drew ?_) | (with_reducible refine below_draws ?_ _) | go_size | (simp [size_ext]; done) | (simp [size_ext]; omega))))).mono ?_); rintro e w1 ⟨rfl, hb⟩; obtain ⟨otk2, dtk2, rfl⟩ := ext_of_below hb; clear hb tk2)
    | (go_at_call 30; have _t := tk3; (with_reducible refine (CT2.out _ (by (repeat' (first | (with_reducible exact Below.refl _ _) | (with_reducible assumption) | (with_reducible refine below_ext0 ?_ _ _) | (with_reducible refine below_alloc0 ?_ _) | (with_reducible refine Below.ext ?_ ?_ _ _) | (with_reducible refine Below.alloc ?_ ?_ _) | (with_reducible refine Below.setCell ?_ ?_ _) | (with_reducible refine Below.drew ?_) | (with_reducible refine below_draws ?_ _) | go_size | (simp [size_ext]; done) | (simp [size_ext]; omega))))).mono ?_); rintro e w1 ⟨rfl, hb⟩; obtain ⟨otk3, dtk3, rfl⟩ := ext_of_below hb; clear hb tk3)
    | (go_at_call 30; have _t := tk4; (with_reducible refine (CT4.out _ (by (repeat' (first | (with_reducible exact Below.refl _ _) | (with_reducible assumption) | (with_reducible refine below_ext0 ?_ _ _) | (with_reducible refine below_alloc0 ?_ _) | (with_reducible refine Below.ext ?_ ?_ _ _) | (with_reducible refine Below.alloc ?_ ?_ _) | (with_reducible refine Below.setCell ?_ ?_ _) | (with_reducible refine Below.drew ?_) | (with_reducible refine below_draws ?_ _) | go_size | (simp [size_ext]; done) | (simp [size_ext]; omega))))).mono ?_); rintro e w1 ⟨rfl, hb⟩; obtain ⟨otk4, dtk4, rfl⟩ := ext_of_below hb; clear hb tk4)
    | (go_at_call 30; have _t := tk5; (with_reducible refine (CT6.out _ (by (repeat' (first | (with_reducible exact Below.refl _ _) | (with_reducible assumption) | (with_reducible refine below_ext0 ?_ _ _) | (with_reducible refine below_alloc0 ?_ _) | (with_reducible refine Below.ext ?_ ?_ _ _) | (with_reducible refine Below.alloc ?_ ?_ _) | (with_reducible refine Below.setCell ?_ ?_ _) | (with_reducible refine Below.drew ?_) | (with_reducible refine below_draws ?_ _) | go_size | (simp [size_ext]; done) | (simp [size_ext]; omega))))).mono ?_); rintro e w1 ⟨rfl, hb⟩; obtain ⟨otk5, dtk5, rfl⟩ := ext_of_below hb; clear hb tk5))
  all_goals
    clear CT0 CT2 CT4 CT6 w2 w4 w6 q0 q2 q4 q6 p0 p2 p4 p6 q0' q2' q4' q6' x0 x2 x4 x6 bo' wl T1 T2 T3 T4
    go_wp2_with (go_at_call 31; have _t := tk6; (with_reducible refine (CC.out _ (by (repeat' (first | (with_reducible exact Below.refl _ _) | (with_reducible assumption) | (with_reducible refine below_ext0 ?_ _ _) | (with_reducible refine below_alloc0 ?_ _) | (with_reducible refine Below.ext ?_ ?_ _ _) | (with_reducible refine Below.alloc ?_ ?_ _) | (with_reducible refine Below.setCell ?_ ?_ _) | (with_reducible refine Below.drew ?_) | (with_reducible refine below_draws ?_ _) | go_size | (simp [size_ext]; done) | (simp [size_ext]; omega))))).mono ?_); rintro e w1 ⟨Atk6, ctk6, rfl, hr, hb⟩; obtain ⟨otk6, dtk6, rfl⟩ := ext_of_below hb; (try simp only [ext_drew, ext_drewN] at hr); have R6 := hid hr; clear hr; clear hb tk6)
    refine bodyPost_ret (v := .tuple #[.agg #[.slice Atk1 k ctk1, .int .i64 (t0 : Int), .int .i64 (t2 : Int), .int .i64 L, .slice Atk6 nd ctk6], .int .i64 (en : Int), .nilIface]) (by simp [results, Try.results9, go_sem]) rfl ?_
    refine ⟨_, _, _, _, rfl, ⟨?_, ?_⟩, (by (repeat' (first | (with_reducible exact Below.refl _ _) | (with_reducible assumption) | (with_reducible refine below_ext0 ?_ _ _) | (with_reducible refine below_alloc0 ?_ _) | (with_reducible refine Below.ext ?_ ?_ _ _) | (with_reducible refine Below.alloc ?_ ?_ _) | (with_reducible refine Below.setCell ?_ ?_ _) | (with_reducible refine Below.drew ?_) | (with_reducible refine below_draws ?_ _) | go_size | (simp [size_ext]; done) | (simp [size_ext]; omega))))⟩
    · exact Rd.near_str R1.out (by (repeat' (first | ((with_reducible refine NearP.of_sim ?_); (repeat' (first | (with_reducible exact SimP.refl _ _) | (with_reducible refine SimP.ext ?_ _ _ _) | (with_reducible refine SimP.alloc ?_ _) | (with_reducible refine SimP.allocs ?_ _ _ _ ?_) | (with_reducible refine SimP.set ?_ _ _ _) | (with_reducible assumption) | (with_reducible refine FreeB.far ?_ ?_ _) | (with_reducible refine SimP.drew ?_) | (with_reducible refine SimP.drew' ?_) | (simp [IsStr, IsU8, IsI64]; done))); done) | (with_reducible refine NearP.ext ?_ _ _) | (with_reducible refine NearP.alloc ?_ _) | (with_reducible refine NearP.drew ?_))))
    · exact Rd.near_u8 R6.out (by (repeat' (first | ((with_reducible refine NearP.of_sim ?_); (repeat' (first | (with_reducible exact SimP.refl _ _) | (with_reducible refine SimP.ext ?_ _ _ _) | (with_reducible refine SimP.alloc ?_ _) | (with_reducible refine SimP.allocs ?_ _ _ _ ?_) | (with_reducible refine SimP.set ?_ _ _ _) | (with_reducible assumption) | (with_reducible refine FreeB.far ?_ ?_ _) | (with_reducible refine SimP.drew ?_) | (with_reducible refine SimP.drew' ?_) | (simp [IsStr, IsU8, IsI64]; done))); done) | (with_reducible refine NearP.ext ?_ _ _) | (with_reducible refine NearP.alloc ?_ _) | (with_reducible refine NearP.drew ?_))))
end Go.Proofs.Ytkdfiedemhjjjaa
