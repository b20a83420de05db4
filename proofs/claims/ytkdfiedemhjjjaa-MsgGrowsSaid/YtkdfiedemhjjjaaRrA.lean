/- rr: two bytes as a number; the fixed part of a record. -/
import Derived.Test.YtkdfiedemhjjjaaWireL
import Derived.Test.YtkdfiedemhjjjaaRrP
namespace Go.Proofs.Ytkdfiedemhjjjaa
open Go.RowKit
set_option linter.unusedVariables false

theorem below_ext0 {w w' : World} (h : Below w.heap.size w w') (os : Array Obj) (d : Nat) : Below w.heap.size w (ext w' os d) := Below.ext h h.size os d
theorem below_alloc0 {w w' : World} (h : Below w.heap.size w w') (o : Obj) : Below w.heap.size w (w'.alloc o) := Below.alloc h h.size o
theorem results_tmp4 {fn : Func} {t u v x : Tmp} (h : fn.results = #[.tmp t, .tmp u, .tmp v, .tmp x]) (tmps : Array Value) (P : Program) (w : World) :
    (results fn tmps).run P w = .ok (.tuple #[tmps.getD t undef, tmps.getD u undef, tmps.getD v undef, tmps.getD x undef]) w := by
  simp [results, h]
/-- two bytes of a slice -/
theorem Rd.two {w : World} {B n c b o : Nat} {m : List UInt8} (hM : Rd u8R w B (some ⟨b, o, none⟩) n c m) (p : Nat) (hp : p + 2 ≤ n) :
    ∃ x y : UInt8, at2 m p = x.toNat * 256 + y.toNat ∧ w.cell? ⟨b, o + p, none⟩ = some (.int .u8 (x.toNat : Int)) ∧ w.cell? ⟨b, o + p + 1, none⟩ = some (.int .u8 (y.toNat : Int)) ∧ b < B := by
  obtain ⟨x, hx, c0, _, lb⟩ := hM.byte p (by omega)
  obtain ⟨y, hy, c1, _, _⟩ := hM.byte (p + 1) (by omega)
  exact ⟨x, y, by unfold at2; rw [hx, hy], c0, c1, lb⟩
/-- a slice with two bounds, wherever its end stands -/
theorem slice_two {w : World} {B n c i j : Nat} {A : Option Addr} {m : List UInt8} (hM : Rd u8R w B A n c m) (hij : i ≤ j) (hj : j ≤ n) (hA : 0 < n) {a b : Int} (ha : a = (i : Int)) (hb : b = (j : Int)) :
    ∃ S C, (∀ w' : World, (Instr.slice 22 (.slice A n c) (some (.int .i64 a)) (some (.int .i64 b)) none).run Try.prog w' = .ok (.slice S (j - i) C) w') ∧ Rd u8R w B S (j - i) C ((m.drop i).take (j - i)) := by
  subst ha hb
  have hcap := hM.cap
  obtain ⟨g, o, rfl, hg⟩ := hM.addr hA
  have h1 : (j : Int) ≤ (c : Int) := by omega
  have h2 : (i : Int) ≤ (j : Int) := by omega
  have hsz : (Try.prog.info? 5).map (·.size) = some 1 := by kernel_rfl
  by_cases hc : c = i
  · refine ⟨some ⟨g, o, none⟩, 0, ?_, ?_⟩
    · intro w'
      obtain rfl : j = c := by omega
      subst hc
      simp [Instr.slice, Instr.sliceBounds, Instr.sliceBound, go_sem, Try.underlying22]
    · have e : j - i = 0 := by omega
      rw [e]
      exact ⟨by simp, Nat.le_refl _, by simp [maxLen], by simp, fun e => (by cases e), fun i hi => by simp at hi⟩
  · refine ⟨some ⟨g, o + i, none⟩, c - i, ?_, (hM.dropB (k := i) (by omega)).take (by omega)⟩
    intro w'
    have e3 : j ≤ c := by omega
    simp [Instr.slice, Instr.sliceBounds, Instr.sliceBound, go_sem, Try.underlying22, e3, hij, hc]
theorem two_rr {w : World} {B b o n c : Nat} {m : List UInt8} (hM : Rd u8R w B (some ⟨b, o, none⟩) n c m) (h2 : 2 ≤ n) {k : Nat} (hk : at2 m 0 = k) :
    Calls Try.prog 30 #[.slice (some ⟨b, o, none⟩) n c] w fun e w' => e = .returned (.int .i64 (k : Int)) ∧ Below w.heap.size w w' := by
  obtain ⟨x, y, hxy, c0, c1, lb⟩ := hM.two 0 (by omega)
  rw [hk] at hxy
  rw [Nat.add_zero] at c0 c1
  have hc := hM.cap
  have hm := hM.max
  unfold maxLen at hm
  have two := two_or x y
  have hx := x.toNat_lt
  have hy := y.toNat_lt
  have hkk : (x.toNat : Int) * 256 + (y.toNat : Int) = (k : Int) := by omega
  rw [hkk] at two
  have p0 : (0 : Int) ≤ (x.toNat : Int) := by omega
  have p1 : (0 : Int) ≤ (y.toNat : Int) := by omega
  have p2 : (x.toNat : Int) ≤ 255 := by omega
  have p3 : (y.toNat : Int) ≤ 255 := by omega
  clear hM hkk hxy hk hx hy
  generalize (x.toNat : Int) = y0 at *
  generalize (y.toNat : Int) = y1 at *
  have v0 : IntKind.i64.wrap y0 = y0 := IntWalk.i64_in _ (by omega)
  have v01 : IntKind.i64.wrap (y0 * 256) = y0 * 256 := IntWalk.i64_in _ (by omega)
  have v1 : IntKind.i64.wrap y1 = y1 := IntWalk.i64_in _ (by omega)
  have j0 : (0 : Int) < (n : Int) := by omega
  have j1 : (1 : Int) < (n : Int) := by omega
  have j2 : 0 < n := by omega
  have j3 : 1 < n := by omega
  go_enter Try.func30, Try.ntmps30
  go_wp2_with fail
  go_region_held3 (fun w' => w'.cell? ⟨b, o, none⟩ = some (.int .u8 y0) ∧ w'.cell? ⟨b, o + 1, none⟩ = some (.int .u8 y1)) (go_keep) (fail)
  all_goals go_wp2
  all_goals go_ret
  all_goals exact ⟨rfl, by (repeat' (first | (with_reducible exact Below.refl _ _) | (with_reducible assumption) | (with_reducible refine below_ext0 ?_ _ _) | (with_reducible refine below_alloc0 ?_ _) | (with_reducible refine Below.ext ?_ ?_ _ _) | (with_reducible refine Below.alloc ?_ ?_ _) | (with_reducible refine Below.setCell ?_ ?_ _) | (with_reducible refine Below.drew ?_) | (with_reducible refine below_draws ?_ _) | go_size | (simp [size_ext]; done) | (simp [size_ext]; omega)))⟩

set_option maxRecDepth 100000 in
set_option maxHeartbeats 2000000 in
theorem fixed_ok {w : World} {A : Option Addr} {n c : Nat} {m : List UInt8} (hM : Rd u8R w w.heap.size A n c m) {at_ : Int} {l : List ByteArray} {p en : Nat} (hr : rrF m at_ = (0, l, p, en)) {k : Nat} (hk : l.length = k) :
    Calls Try.prog 29 #[.slice A n c, .int .i64 at_] w fun e w' => ∃ A' c', e = .returned (.tuple #[.slice A' k c', .int .i64 (p : Int), .int .i64 (en : Int), .nilIface]) ∧ Rd strR w' w'.heap.size A' k c' l ∧ Below w.heap.size w w' := by
  obtain ⟨h1, h2, h3, h4⟩ := rrF_ok.1 hr
  have hn := hM.len
  have hcap := hM.cap
  have hmax := hM.max
  have hlim := hM.lim
  simp only [u8R, Nat.mul_one] at hlim
  unfold maxLen at hmax
  rw [hn] at h2 h4
  obtain ⟨b, o, rfl, lb⟩ := hM.addr (by omega)
  have CR := hid (read_ok hM h1 hk)
  obtain ⟨t, ht⟩ : ∃ t, at2 m (p + 8) = t := ⟨_, rfl⟩
  have ht1 : t ≤ 65535 := by rw [← ht]; exact at2_le _ _
  have CT := hid fun w' (hb : Below w.heap.size w w') => two_rr ((hM.later hb).dropB (k := p + 8) (by omega)) (by omega) ((at2_drop m (p + 8) 0).trans ht)
  rw [ht] at h3
  subst h3
  clear hr hn ht hM h1 hk
  have w1 : IntKind.i64.wrap ((n : Int) - (p : Int)) = (n : Int) - (p : Int) := IntWalk.i64_in _ (by omega)
  have w2 : IntKind.i64.wrap ((p : Int) + 10) = (p : Int) + 10 := IntWalk.i64_in _ (by omega)
  have w3 : IntKind.i64.wrap ((p : Int) + 8) = (p : Int) + 8 := IntWalk.i64_in _ (by omega)
  have w4 : IntKind.i64.wrap ((p : Int) + 10 + (t : Int)) = (p : Int) + 10 + (t : Int) := IntWalk.i64_in _ (by omega)
  have q1 : ¬ ((n : Int) - (p : Int) < 10) := by omega
  have q1' : decide ((n : Int) - (p : Int) < 10) = false := decide_eq_false q1
  have q2 : (0 : Int) ≤ (p : Int) + 8 := by omega
  have q3 : (p : Int) + 8 ≤ (n : Int) := by omega
  have q4 : ¬ ((n : Int) < (p : Int) + 10 + (t : Int)) := by omega
  have q5 : decide ((n : Int) < (p : Int) + 10 + (t : Int)) = false := decide_eq_false q4
  have q6 : p + 8 ≤ n := by omega
  have q7 : ¬ c = p + 8 := by omega
  have tk0 : True := trivial; have tk1 : True := trivial; have tk2 : True := trivial; have tk3 : True := trivial; have tk4 : True := trivial; have tk5 : True := trivial; have tk6 : True := trivial; have tk7 : True := trivial; have tk8 : True := trivial; have tk9 : True := trivial; have tk10 : True := trivial; have tk11 : True := trivial; have tk12 : True := trivial
  go_enter Try.func29, Try.ntmps29
  go_wp2_with (first
    | (go_at_call 40; have _t := tk1; (with_reducible refine (CR.out).mono ?_); rintro e w1 ⟨Atk1, ctk1, rfl, hr, hb⟩; obtain ⟨otk1, dtk1, rfl⟩ := ext_of_below hb; (try simp only [ext_drew, ext_drewN] at hr); have R1 := hid hr; clear hr; clear hb tk1)
    | (go_at_call 30; have _t := tk2; (with_reducible refine (CT.out _ (by (repeat' (first | (with_reducible exact Below.refl _ _) | (with_reducible assumption) | (with_reducible refine below_ext0 ?_ _ _) | (with_reducible refine below_alloc0 ?_ _) | (with_reducible refine Below.ext ?_ ?_ _ _) | (with_reducible refine Below.alloc ?_ ?_ _) | (with_reducible refine Below.setCell ?_ ?_ _) | (with_reducible refine Below.drew ?_) | (with_reducible refine below_draws ?_ _) | go_size | (simp [size_ext]; done) | (simp [size_ext]; omega))))).mono ?_); rintro e w1 ⟨rfl, hb⟩; obtain ⟨otk2, dtk2, rfl⟩ := ext_of_below hb; clear hb tk2))
  ((try simp only [Exit.inBlock, Exit.then]); refine bodyPost_ret (results_tmp4 rfl _ _ _) rfl ?_)
  exact ⟨_, _, by simp, R1.out.later (by (repeat' (first | (with_reducible exact Below.refl _ _) | (with_reducible assumption) | (with_reducible refine below_ext0 ?_ _ _) | (with_reducible refine below_alloc0 ?_ _) | (with_reducible refine Below.ext ?_ ?_ _ _) | (with_reducible refine Below.alloc ?_ ?_ _) | (with_reducible refine Below.setCell ?_ ?_ _) | (with_reducible refine Below.drew ?_) | (with_reducible refine below_draws ?_ _) | go_size | (simp [size_ext]; done) | (simp [size_ext]; omega)))), (by (repeat' (first | (with_reducible exact Below.refl _ _) | (with_reducible assumption) | (with_reducible refine below_ext0 ?_ _ _) | (with_reducible refine below_alloc0 ?_ _) | (with_reducible refine Below.ext ?_ ?_ _ _) | (with_reducible refine Below.alloc ?_ ?_ _) | (with_reducible refine Below.setCell ?_ ?_ _) | (with_reducible refine Below.drew ?_) | (with_reducible refine below_draws ?_ _) | go_size | (simp [size_ext]; done) | (simp [size_ext]; omega))))⟩

/-- the ways that end in a fault -/
theorem fixed_bad {w : World} {A : Option Addr} {n c : Nat} {m : List UInt8} (hM : Rd u8R w w.heap.size A n c m) {at_ k : Int} (hr : (rrF m at_).1 = k) (hk : k ≠ 0) :
    Calls Try.prog 29 #[.slice A n c, .int .i64 at_] w fun e w' => e = .returned (.tuple #[.slice none 0 0, .int .i64 0, .int .i64 0, .iface 65 (.int .i64 k)]) ∧ Below w.heap.size w w' := by
  have hn := hM.len
  have hcap := hM.cap
  have hmax := hM.max
  have hlim := hM.lim
  simp only [u8R, Nat.mul_one] at hlim
  unfold maxLen at hmax
  by_cases h0 : (rdN m at_).1 = 0
  · have hrd : rdN m at_ = (0, (rdN m at_).2.1, (rdN m at_).2.2) := by rw [← h0]
    obtain ⟨a, p, rfl, hp, hnm, _⟩ := rdN_ok.1 hrd
    rw [hp] at hrd
    have hlt := hnm.lt
    rw [hn] at hlt
    unfold rrF at hr
    rw [if_pos h0, hp, Int.toNat_natCast, hn] at hr
    obtain ⟨b, o, rfl, lb⟩ := hM.addr (by omega)
    have CR := hid (read_ok hM hrd rfl)
    generalize (rdN m (a : Int)).2.1.length = nl at *
    have w1 : IntKind.i64.wrap ((n : Int) - (p : Int)) = (n : Int) - (p : Int) := IntWalk.i64_in _ (by omega)
    have w2 : IntKind.i64.wrap ((p : Int) + 10) = (p : Int) + 10 := IntWalk.i64_in _ (by omega)
    have w3 : IntKind.i64.wrap ((p : Int) + 8) = (p : Int) + 8 := IntWalk.i64_in _ (by omega)
    by_cases hs : p + 10 ≤ n
    · obtain ⟨t, ht⟩ : ∃ t, at2 m (p + 8) = t := ⟨_, rfl⟩
      have ht1 : t ≤ 65535 := by rw [← ht]; exact at2_le _ _
      have CT := hid fun w' (hb : Below w.heap.size w w') => two_rr ((hM.later hb).dropB (k := p + 8) (by omega)) (by omega) ((at2_drop m (p + 8) 0).trans ht)
      rw [ht] at hr
      have h1 : ¬ (p + 10 + t ≤ n) := fun h => by rw [if_pos ⟨hs, h⟩] at hr; exact hk hr.symm
      rw [if_neg (fun h => h1 h.2)] at hr
      obtain rfl : k = 2 := hr.symm
      clear hr h0 hrd hp hnm ht hM hk hn
      have w4 : IntKind.i64.wrap ((p : Int) + 10 + (t : Int)) = (p : Int) + 10 + (t : Int) := IntWalk.i64_in _ (by omega)
      have q1 : ¬ ((n : Int) - (p : Int) < 10) := by omega
      have q1' : decide ((n : Int) - (p : Int) < 10) = false := decide_eq_false q1
      have q2 : (0 : Int) ≤ (p : Int) + 8 := by omega
      have q3 : (p : Int) + 8 ≤ (n : Int) := by omega
      have q4 : (n : Int) < (p : Int) + 10 + (t : Int) := by omega
      have q5 : decide ((n : Int) < (p : Int) + 10 + (t : Int)) = true := decide_eq_true q4
      have q6 : p + 8 ≤ n := by omega
      have q7 : ¬ c = p + 8 := by omega
      have tk0 : True := trivial; have tk1 : True := trivial; have tk2 : True := trivial; have tk3 : True := trivial; have tk4 : True := trivial; have tk5 : True := trivial; have tk6 : True := trivial; have tk7 : True := trivial; have tk8 : True := trivial; have tk9 : True := trivial; have tk10 : True := trivial; have tk11 : True := trivial; have tk12 : True := trivial
      go_enter Try.func29, Try.ntmps29
      go_wp2_with (first
        | (go_at_call 40; have _t := tk1; (with_reducible refine (CR.out).mono ?_); rintro e w1 ⟨Atk1, ctk1, rfl, hr, hb⟩; obtain ⟨otk1, dtk1, rfl⟩ := ext_of_below hb; (try simp only [ext_drew, ext_drewN] at hr); have R1 := hid hr; clear hr; clear hb tk1)
        | (go_at_call 30; have _t := tk2; (with_reducible refine (CT.out _ (by (repeat' (first | (with_reducible exact Below.refl _ _) | (with_reducible assumption) | (with_reducible refine below_ext0 ?_ _ _) | (with_reducible refine below_alloc0 ?_ _) | (with_reducible refine Below.ext ?_ ?_ _ _) | (with_reducible refine Below.alloc ?_ ?_ _) | (with_reducible refine Below.setCell ?_ ?_ _) | (with_reducible refine Below.drew ?_) | (with_reducible refine below_draws ?_ _) | go_size | (simp [size_ext]; done) | (simp [size_ext]; omega))))).mono ?_); rintro e w1 ⟨rfl, hb⟩; obtain ⟨otk2, dtk2, rfl⟩ := ext_of_below hb; clear hb tk2))
      ((try simp only [Exit.inBlock, Exit.then]); refine bodyPost_ret (results_tmp4 rfl _ _ _) rfl ?_)
      exact ⟨by simp, (by (repeat' (first | (with_reducible exact Below.refl _ _) | (with_reducible assumption) | (with_reducible refine below_ext0 ?_ _ _) | (with_reducible refine below_alloc0 ?_ _) | (with_reducible refine Below.ext ?_ ?_ _ _) | (with_reducible refine Below.alloc ?_ ?_ _) | (with_reducible refine Below.setCell ?_ ?_ _) | (with_reducible refine Below.drew ?_) | (with_reducible refine below_draws ?_ _) | go_size | (simp [size_ext]; done) | (simp [size_ext]; omega))))⟩
    · rw [if_neg (fun h => hs h.1)] at hr
      obtain rfl : k = 2 := hr.symm
      clear hr h0 hrd hp hnm hM hk hn
      have q1 : ((n : Int) - (p : Int) < 10) := by omega
      have q1' : decide ((n : Int) - (p : Int) < 10) = true := decide_eq_true q1
      have tk0 : True := trivial; have tk1 : True := trivial; have tk2 : True := trivial; have tk3 : True := trivial; have tk4 : True := trivial; have tk5 : True := trivial; have tk6 : True := trivial; have tk7 : True := trivial; have tk8 : True := trivial; have tk9 : True := trivial; have tk10 : True := trivial; have tk11 : True := trivial; have tk12 : True := trivial
      go_enter Try.func29, Try.ntmps29
      go_wp2_with (go_at_call 40; have _t := tk1; (with_reducible refine (CR.out).mono ?_); rintro e w1 ⟨Atk1, ctk1, rfl, hr, hb⟩; obtain ⟨otk1, dtk1, rfl⟩ := ext_of_below hb; (try simp only [ext_drew, ext_drewN] at hr); have R1 := hid hr; clear hr; clear hb tk1)
      ((try simp only [Exit.inBlock, Exit.then]); refine bodyPost_ret (results_tmp4 rfl _ _ _) rfl ?_)
      exact ⟨by simp, (by (repeat' (first | (with_reducible exact Below.refl _ _) | (with_reducible assumption) | (with_reducible refine below_ext0 ?_ _ _) | (with_reducible refine below_alloc0 ?_ _) | (with_reducible refine Below.ext ?_ ?_ _ _) | (with_reducible refine Below.alloc ?_ ?_ _) | (with_reducible refine Below.setCell ?_ ?_ _) | (with_reducible refine Below.drew ?_) | (with_reducible refine below_draws ?_ _) | go_size | (simp [size_ext]; done) | (simp [size_ext]; omega))))⟩
  · unfold rrF at hr
    rw [if_neg h0] at hr
    have CR := hid (read_bad hM hr hk)
    clear hM h0 hr
    have tk0 : True := trivial; have tk1 : True := trivial; have tk2 : True := trivial; have tk3 : True := trivial; have tk4 : True := trivial; have tk5 : True := trivial; have tk6 : True := trivial; have tk7 : True := trivial; have tk8 : True := trivial; have tk9 : True := trivial; have tk10 : True := trivial; have tk11 : True := trivial; have tk12 : True := trivial
    go_enter Try.func29, Try.ntmps29
    go_wp2_with (go_at_call 40; have _t := tk1; (with_reducible refine (CR.out).mono ?_); rintro e w1 ⟨rfl, hb⟩; obtain ⟨otk1, dtk1, rfl⟩ := ext_of_below hb; clear hb tk1)
    ((try simp only [Exit.inBlock, Exit.then]); refine bodyPost_ret (results_tmp4 rfl _ _ _) rfl ?_)
    exact ⟨by simp, (by (repeat' (first | (with_reducible exact Below.refl _ _) | (with_reducible assumption) | (with_reducible refine below_ext0 ?_ _ _) | (with_reducible refine below_alloc0 ?_ _) | (with_reducible refine Below.ext ?_ ?_ _ _) | (with_reducible refine Below.alloc ?_ ?_ _) | (with_reducible refine Below.setCell ?_ ?_ _) | (with_reducible refine Below.drew ?_) | (with_reducible refine below_draws ?_ _) | go_size | (simp [size_ext]; done) | (simp [size_ext]; omega))))⟩
theorem skip_ok {w : World} {A : Option Addr} {n c : Nat} {m : List UInt8} (hM : Rd u8R w w.heap.size A n c m) {at_ : Int} {l : List ByteArray} {p en : Nat} (hr : rrF m at_ = (0, l, p, en)) :
    Calls Try.prog 11 #[.slice A n c, .int .i64 at_] w fun e w' => e = .returned (.tuple #[.int .i64 ((p + 4 : Nat) : Int), .int .i64 (en : Int), .nilIface]) ∧ Below w.heap.size w w' := by
  obtain ⟨h1, h2, h3, h4⟩ := rrF_ok.1 hr
  have hn := hM.len
  have hlim := hM.lim
  simp only [u8R, Nat.mul_one] at hlim
  have CF := hid (fixed_ok hM hr rfl)
  have w1 : IntKind.i64.wrap ((p : Int) + 4) = (p : Int) + 4 := IntWalk.i64_in _ (by omega)
  clear hr h1 h2 h3 h4 hn hlim hM
  generalize l.length = k at *
  have tk0 : True := trivial; have tk1 : True := trivial; have tk2 : True := trivial; have tk3 : True := trivial; have tk4 : True := trivial; have tk5 : True := trivial; have tk6 : True := trivial; have tk7 : True := trivial; have tk8 : True := trivial; have tk9 : True := trivial; have tk10 : True := trivial; have tk11 : True := trivial; have tk12 : True := trivial
  go_enter Try.func11, Try.ntmps11
  go_wp2_with (go_at_call 29; have _t := tk1; (with_reducible refine (CF.out).mono ?_); rintro e w1 ⟨Atk1, ctk1, rfl, hr, hb⟩; obtain ⟨otk1, dtk1, rfl⟩ := ext_of_below hb; (try simp only [ext_drew, ext_drewN] at hr); have R1 := hid hr; clear hr; clear hb tk1)
  go_ret3
  exact ⟨by simp, (by (repeat' (first | (with_reducible exact Below.refl _ _) | (with_reducible assumption) | (with_reducible refine below_ext0 ?_ _ _) | (with_reducible refine below_alloc0 ?_ _) | (with_reducible refine Below.ext ?_ ?_ _ _) | (with_reducible refine Below.alloc ?_ ?_ _) | (with_reducible refine Below.setCell ?_ ?_ _) | (with_reducible refine Below.drew ?_) | (with_reducible refine below_draws ?_ _) | go_size | (simp [size_ext]; done) | (simp [size_ext]; omega))))⟩
theorem skip_bad {w : World} {A : Option Addr} {n c : Nat} {m : List UInt8} (hM : Rd u8R w w.heap.size A n c m) {at_ k : Int} (hr : (rrF m at_).1 = k) (hk : k ≠ 0) :
    Calls Try.prog 11 #[.slice A n c, .int .i64 at_] w fun e w' => e = .returned (.tuple #[.int .i64 0, .int .i64 0, .iface 65 (.int .i64 k)]) ∧ Below w.heap.size w w' := by
  have CF := hid (fixed_bad hM hr hk)
  clear hr hk hM
  have tk0 : True := trivial; have tk1 : True := trivial; have tk2 : True := trivial; have tk3 : True := trivial; have tk4 : True := trivial; have tk5 : True := trivial; have tk6 : True := trivial; have tk7 : True := trivial; have tk8 : True := trivial; have tk9 : True := trivial; have tk10 : True := trivial; have tk11 : True := trivial; have tk12 : True := trivial
  go_enter Try.func11, Try.ntmps11
  go_wp2_with (go_at_call 29; have _t := tk1; (with_reducible refine (CF.out).mono ?_); rintro e w1 ⟨rfl, hb⟩; obtain ⟨otk1, dtk1, rfl⟩ := ext_of_below hb; clear hb tk1)
  go_ret3
  exact ⟨by simp, (by (repeat' (first | (with_reducible exact Below.refl _ _) | (with_reducible assumption) | (with_reducible refine below_ext0 ?_ _ _) | (with_reducible refine below_alloc0 ?_ _) | (with_reducible refine Below.ext ?_ ?_ _ _) | (with_reducible refine Below.alloc ?_ ?_ _) | (with_reducible refine Below.setCell ?_ ?_ _) | (with_reducible refine Below.drew ?_) | (with_reducible refine below_draws ?_ _) | go_size | (simp [size_ext]; done) | (simp [size_ext]; omega))))⟩
theorem clone_rd {w : World} {A : Option Addr} {n c B : Nat} {m : List UInt8} (hM : Rd u8R w B A n c m) (hn : n ≤ 140737488355328) :
    Calls Try.prog 31 #[.slice A n c] w fun e w' => ∃ A' c', e = .returned (.slice A' n c') ∧ Rd u8R w' w'.heap.size A' n c' m ∧ Below w.heap.size w w' := by
  refine (clone_bytes w A n c m _ hM).mono ?_
  rintro e w' ⟨v, rfl, ho, hb⟩
  have hl := hM.len
  subst hl
  obtain ⟨A', c', rfl, hr⟩ := own_rd_u8 ho hb.size hn
  exact ⟨A', c', rfl, hr, hb⟩
end Go.Proofs.Ytkdfiedemhjjjaa
