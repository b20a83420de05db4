/- subnet's In. -/
import Derived.Test.YtbpflpmhnmdeoaaDoorSubnet
import Derived.Test.YtbpflpmhnmdeoaaDoorQuietExt
namespace Go.Proofs.YtbpflpmhnmdeoaaDoor
open Go.RowKit
set_option linter.unusedVariables false
set_option linter.unusedSimpArgs false

theorem check_bad' (f s sc : Int) (A : Option Addr) (n c : Nat) (hk : ¬ SOk f s sc n) (w : World) : Calls Tryd.prog 40 #[subnetV f s sc A n c] w fun e w' => e = .returned (.iface 28 (.int .i64 (errS f s sc n))) ∧ Below w.heap.size w w' :=
  (check_bad f s sc A n c hk w).mono fun _ _ ⟨h, e⟩ => ⟨h, by subst e; (repeat' (first | (with_reducible exact Below.refl _ _) | (with_reducible assumption) | (with_reducible refine below_ext0 ?_ _ _) | (with_reducible refine below_alloc0 ?_ _) | (with_reducible refine Below.ext ?_ ?_ _ _) | (with_reducible refine Below.alloc ?_ ?_ _) | (with_reducible refine Below.setCell ?_ ?_ _) | (with_reducible refine Below.drew ?_) | (with_reducible refine below_draws ?_ _) | go_size | (simp [size_ext]; done) | (simp [size_ext]; omega)))⟩
theorem check_ok' (f s sc : Int) (A : Option Addr) (n c : Nat) (hk : SOk f s sc n) (w : World) : Calls Tryd.prog 40 #[subnetV f s sc A n c] w fun e w' => e = .returned .nilIface ∧ Below w.heap.size w w' :=
  (check_ok f s sc A n c hk w).mono fun _ _ ⟨h, e⟩ => ⟨h, by subst e; (repeat' (first | (with_reducible exact Below.refl _ _) | (with_reducible assumption) | (with_reducible refine below_ext0 ?_ _ _) | (with_reducible refine below_alloc0 ?_ _) | (with_reducible refine Below.ext ?_ ?_ _ _) | (with_reducible refine Below.alloc ?_ ?_ _) | (with_reducible refine Below.setCell ?_ ?_ _) | (with_reducible refine Below.drew ?_) | (with_reducible refine below_draws ?_ _) | go_size | (simp [size_ext]; done) | (simp [size_ext]; omega)))⟩

set_option maxRecDepth 100000 in
set_option maxHeartbeats 2000000 in
theorem In_fault (w : World) (A1 : Option Addr) (n1 c1 : Nat) (f s sc : Int) (A2 : Option Addr) (n2 c2 : Nat) (hk : ¬ SOk f s sc n2) :
    Calls Tryd.prog 27 #[.slice A1 n1 c1, subnetV f s sc A2 n2 c2] w fun e w' => e = .returned (.bool false) ∧ Below w.heap.size w w' := by
  have CK := hid (check_bad' f s sc A2 n2 c2 hk)
  clear hk
  go_enter Tryd.func27, Tryd.ntmps27
  go_wp2_with fail
  refine wp_region_ext (by kernel_rfl) (by kernel_rfl) ?_
  repeat (go_big_quiet_step ((go_at_call 40; exact Calls.quiet_ext (CK.out _))))
  refine wpQuiet_nil ?_
  rintro _ ⟨⟨os, d⟩, rfl⟩
  simp only [exts]
  go_wp2
  go_ret
  exact ⟨rfl, by (repeat' (first | (with_reducible exact Below.refl _ _) | (with_reducible assumption) | (with_reducible refine below_ext0 ?_ _ _) | (with_reducible refine below_alloc0 ?_ _) | (with_reducible refine Below.ext ?_ ?_ _ _) | (with_reducible refine Below.alloc ?_ ?_ _) | (with_reducible refine Below.setCell ?_ ?_ _) | (with_reducible refine Below.drew ?_) | (with_reducible refine below_draws ?_ _) | go_size | (simp [size_ext]; done) | (simp [size_ext]; omega)))⟩

set_option maxRecDepth 100000 in
set_option maxHeartbeats 2000000 in
theorem In_len (w : World) (A1 : Option Addr) (n1 c1 : Nat) (f s sc : Int) (A2 : Option Addr) (n2 c2 : Nat) (hk : SOk f s sc n2) (hn : n1 ≠ n2) :
    Calls Tryd.prog 27 #[.slice A1 n1 c1, subnetV f s sc A2 n2 c2] w fun e w' => e = .returned (.bool false) ∧ Below w.heap.size w w' := by
  have CK := hid (check_ok' f s sc A2 n2 c2 hk)
  have hv : ((n1 : Int) == (n2 : Int)) = false := by rw [beq_eq_false_iff_ne]; omega
  clear hk hn
  go_enter Tryd.func27, Tryd.ntmps27
  go_wp2_with fail
  refine wp_region_ext (by kernel_rfl) (by kernel_rfl) ?_
  repeat (go_big_quiet_step ((go_at_call 40; exact Calls.quiet_ext (CK.out _))))
  refine wpQuiet_nil ?_
  rintro _ ⟨⟨os, d⟩, rfl⟩
  simp only [exts]
  go_wp2
  go_ret
  exact ⟨rfl, by (repeat' (first | (with_reducible exact Below.refl _ _) | (with_reducible assumption) | (with_reducible refine below_ext0 ?_ _ _) | (with_reducible refine below_alloc0 ?_ _) | (with_reducible refine Below.ext ?_ ?_ _ _) | (with_reducible refine Below.alloc ?_ ?_ _) | (with_reducible refine Below.setCell ?_ ?_ _) | (with_reducible refine Below.drew ?_) | (with_reducible refine below_draws ?_ _) | go_size | (simp [size_ext]; done) | (simp [size_ext]; omega)))⟩

/-- mask, its result as a slice -/
theorem mask_rd (w : World) (A : Option Addr) (n c : Nat) (l : List UInt8) (B : Nat) (h : Rd u8R w B A n c l) (m : Int) (m0 : -4611686018427387904 ≤ m) (m1 : m ≤ 4611686018427387904) :
    Calls Tryd.prog 37 #[.slice A n c, .int .i64 m] w fun e w' => ∃ A' c', e = .returned (.slice A' n c') ∧ Rd u8R w' w'.heap.size A' n c' (maskL l m) ∧ Below w.heap.size w w' := by
  have hlim := h.lim
  simp only [u8R, Nat.mul_one] at hlim
  have hl := h.len
  refine (mask_any w A n c l B h m m0 m1).mono ?_
  rintro e w' ⟨v, rfl, hown, hlow⟩
  obtain ⟨A', c', rfl, hr⟩ := rd_of_own (R := u8R) hown (rels_u8.2 rfl) (by rw [maskL_len]; exact hl) (Nat.le_refl _) (by simpa [u8R] using hlim) (by decide)
  exact ⟨A', c', rfl, hr, hlow⟩

set_option maxRecDepth 100000 in
set_option maxHeartbeats 4000000 in
theorem In_ok (w : World) (A1 : Option Addr) (n c1 : Nat) (l1 : List UInt8) (h1 : Rd u8R w w.heap.size A1 n c1 l1) (f s sc : Int) (A2 : Option Addr) (c2 : Nat) (l2 : List UInt8) (h2 : Rd u8R w w.heap.size A2 n c2 l2) (hk : SOk f s sc n) :
    Calls Tryd.prog 27 #[.slice A1 n c1, subnetV f s sc A2 n c2] w fun e w' => e = .returned (.bool (decide (maskL l1 s = maskL l2 s))) ∧ Below w.heap.size w w' := by
  have s0 := hk.s0
  have s1 := hk.s1
  have CK := hid (check_ok f s sc A2 n c2 hk)
  have lim := h1.lim
  simp only [u8R, Nat.mul_one] at lim
  have CM1 := hid fun w' (hb : Below w.heap.size w w') => mask_rd w' A1 n c1 l1 _ (h1.below hb) s (by omega) (by omega)
  have CM2 := hid fun w' (hb : Below w.heap.size w w') => mask_rd w' A2 n c2 l2 _ (h2.below hb) s (by omega) (by omega)
  clear hk h1 h2
  have tok1 : True := trivial
  go_enter Tryd.func27, Tryd.ntmps27
  go_wp2_with fail
  go_region_held3 (fun w' => w'.cell? ⟨w.heap.size, 0, none⟩ = some (.int .i64 f) ∧ w'.cell? ⟨w.heap.size, 1, none⟩ = some (.int .i64 s) ∧ w'.cell? ⟨w.heap.size, 2, none⟩ = some (.int .i64 sc) ∧ w'.cell? ⟨w.heap.size, 3, none⟩ = some (.slice A2 n c2))
    (((try dsimp only); (repeat' apply And.intro) <;> (first | assumption | (go_simp; done))))
    (first
      | (go_at_call 40; refine (CK.out _).mono ?_; rintro e w1 ⟨rfl, rfl⟩)
      | (go_at_call 37; have _t := tok1; refine (CM1.out _ (by (repeat' (first | (with_reducible exact Below.refl _ _) | (with_reducible assumption) | (with_reducible refine below_ext0 ?_ _ _) | (with_reducible refine below_alloc0 ?_ _) | (with_reducible refine Below.ext ?_ ?_ _ _) | (with_reducible refine Below.alloc ?_ ?_ _) | (with_reducible refine Below.setCell ?_ ?_ _) | (with_reducible refine Below.drew ?_) | (with_reducible refine below_draws ?_ _) | go_size | (simp [size_ext]; done) | (simp [size_ext]; omega))))).mono ?_; rintro e w1 ⟨A3, c3, rfl, hr, hb⟩; obtain ⟨os, d, rfl⟩ := ext_of_below hb; (try simp only [ext_drew, ext_drewN] at hr); have R1 := hid hr; clear hr; clear hb tok1)
      | (go_at_call 37; refine (CM2.out _ (by (repeat' (first | (with_reducible exact Below.refl _ _) | (with_reducible assumption) | (with_reducible refine below_ext0 ?_ _ _) | (with_reducible refine below_alloc0 ?_ _) | (with_reducible refine Below.ext ?_ ?_ _ _) | (with_reducible refine Below.alloc ?_ ?_ _) | (with_reducible refine Below.setCell ?_ ?_ _) | (with_reducible refine Below.drew ?_) | (with_reducible refine below_draws ?_ _) | go_size | (simp [size_ext]; done) | (simp [size_ext]; omega))))).mono ?_; rintro e w1 ⟨A4, c4, rfl, hr, hb⟩; obtain ⟨os1, d1, rfl⟩ := ext_of_below hb; (try simp only [ext_drew, ext_drewN] at hr); have R2 := hid hr; clear hr; clear hb)
      | (go_at_call 41; refine (equal_bytes _ _ _ _ _ _ (R1.out.below (by (repeat' (first | (with_reducible exact Below.refl _ _) | (with_reducible assumption) | (with_reducible refine below_ext0 ?_ _ _) | (with_reducible refine below_alloc0 ?_ _) | (with_reducible refine Below.ext ?_ ?_ _ _) | (with_reducible refine Below.alloc ?_ ?_ _) | (with_reducible refine Below.setCell ?_ ?_ _) | (with_reducible refine Below.drew ?_) | (with_reducible refine below_draws ?_ _) | go_size | (simp [size_ext]; done) | (simp [size_ext]; omega))))) _ _ _ _ _ R2.out).mono ?_; rintro e w1 ⟨rfl, hb⟩; obtain ⟨os2, d2, rfl⟩ := ext_of_below hb; clear hb))
  all_goals
    go_wp2
    go_ret
    exact ⟨rfl, by (repeat' (first | (with_reducible exact Below.refl _ _) | (with_reducible assumption) | (with_reducible refine below_ext0 ?_ _ _) | (with_reducible refine below_alloc0 ?_ _) | (with_reducible refine Below.ext ?_ ?_ _ _) | (with_reducible refine Below.alloc ?_ ?_ _) | (with_reducible refine Below.setCell ?_ ?_ _) | (with_reducible refine Below.drew ?_) | (with_reducible refine below_draws ?_ _) | go_size | (simp [size_ext]; done) | (simp [size_ext]; omega)))⟩
end Go.Proofs.YtbpflpmhnmdeoaaDoor
