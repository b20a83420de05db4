/- subnet's functions: size, check, Mask, In. -/
import Derived.Test.YtkdfiedemhjjjaaK14
import Derived.Test.YtkdfiedemhjjjaaK1
import Derived.Deep.QuietTactic
import Derived.BigQuiet
import Derived.Test.YtkdfiedemhjjjaaK3
namespace Go.Proofs.Ytkdfiedemhjjjaa
open Go.RowKit
set_option linter.unusedVariables false
set_option linter.unusedSimpArgs false

@[reducible] def subnetV (f s sc : Int) (A : Option Addr) (n c : Nat) : Value := .agg #[.int .i64 f, .int .i64 s, .int .i64 sc, .slice A n c]
/-- a subnet without a fault -/
structure SOk (f s sc : Int) (n : Nat) : Prop where
  fam : (f = 1 ∧ n = 4) ∨ (f = 2 ∧ n = 16)
  s0 : 0 ≤ s
  s1 : s ≤ 8 * (n : Int)
  sc0 : 0 ≤ sc
  sc1 : sc ≤ 8 * (n : Int)
theorem SOk_iff (f s sc : Int) (n : Nat) : SOk f s sc n ↔ (((f = 1 ∧ n = 4) ∨ (f = 2 ∧ n = 16)) ∧ 0 ≤ s ∧ s ≤ 8 * (n : Int) ∧ 0 ≤ sc ∧ sc ≤ 8 * (n : Int)) := ⟨fun ⟨a, b, c, d, e⟩ => ⟨a, b, c, d, e⟩, fun ⟨a, b, c, d, e⟩ => ⟨a, b, c, d, e⟩⟩
/-- what is wrong with it -/
def errS (f s sc : Int) (n : Nat) : Int :=
  if f = 1 then (if n = 4 then (if 0 ≤ s ∧ s ≤ 32 ∧ 0 ≤ sc ∧ sc ≤ 32 then 0 else 6) else 2)
  else if f = 2 then (if n = 16 then (if 0 ≤ s ∧ s ≤ 128 ∧ 0 ≤ sc ∧ sc ≤ 128 then 0 else 6) else 2) else 6

theorem size_any (f : Int) (w : World) : Calls Try.prog 53 #[.int .i64 f] w fun e w' => e = .returned (.int .i64 (if f = 1 then 4 else if f = 2 then 16 else 0)) ∧ w' = w := by
  by_cases h1 : f = 1
  · subst h1
    go_enter Try.func53, Try.ntmps53
    go_wp2
    go_ret
    exact ⟨rfl, rfl⟩
  · by_cases h2 : f = 2
    · subst h2
      go_enter Try.func53, Try.ntmps53
      go_wp2
      go_ret
      exact ⟨rfl, rfl⟩
    · have e1 : (f == 1) = false := by simp [h1]
      have e2 : (f == 2) = false := by simp [h2]
      rw [if_neg h1, if_neg h2]
      clear h1 h2
      go_enter Try.func53, Try.ntmps53
      go_wp2
      go_ret
      exact ⟨rfl, rfl⟩

set_option maxHeartbeats 2000000 in
theorem check_ok (f s sc : Int) (A : Option Addr) (n c : Nat) (hk : SOk f s sc n) (w : World) : Calls Try.prog 51 #[subnetV f s sc A n c] w fun e w' => e = .returned .nilIface ∧ w' = w.alloc (.cells #[.int .i64 f, .int .i64 s, .int .i64 sc, .slice A n c] 71) := by
  obtain ⟨hf, s0, s1, sc0, sc1⟩ := hk
  rcases hf with ⟨rfl, rfl⟩ | ⟨rfl, rfl⟩
  all_goals
    go_enter Try.func51, Try.ntmps51
    go_wp2
    go_ret
    exact ⟨rfl, rfl⟩

set_option maxHeartbeats 2000000 in
theorem check_bad (f s sc : Int) (A : Option Addr) (n c : Nat) (hk : ¬ SOk f s sc n) (w : World) : Calls Try.prog 51 #[subnetV f s sc A n c] w fun e w' => e = .returned (.iface 65 (.int .i64 (errS f s sc n))) ∧ w' = w.alloc (.cells #[.int .i64 f, .int .i64 s, .int .i64 sc, .slice A n c] 71) := by
  rw [SOk_iff] at hk
  by_cases h1 : f = 1
  · subst h1
    by_cases hn : n = 4
    · subst hn
      have hr : errS 1 s sc 4 = 6 := by unfold errS; rw [if_pos rfl, if_pos rfl, if_neg (by omega)]
      rw [hr]
      have hways : s < 0 ∨ (0 ≤ s ∧ 32 < s) ∨ ((0 ≤ s ∧ s ≤ 32) ∧ (sc < 0 ∨ (0 ≤ sc ∧ 32 < sc))) := by omega
      clear hk hr
      rcases hways with h | ⟨_, h⟩ | ⟨⟨_, _⟩, h | ⟨_, h⟩⟩
      all_goals
        go_enter Try.func51, Try.ntmps51
        go_wp2
        go_ret
        exact ⟨rfl, rfl⟩
    · have hr : errS 1 s sc n = 2 := by unfold errS; rw [if_pos rfl, if_neg hn]
      rw [hr]
      have hv : ((n : Int) != 4) = true := by rw [bne_iff_ne]; omega
      clear hk hr hn
      go_enter Try.func51, Try.ntmps51
      go_wp2
      go_ret
      exact ⟨rfl, rfl⟩
  · by_cases h2 : f = 2
    · subst h2
      by_cases hn : n = 16
      · subst hn
        have hr : errS 2 s sc 16 = 6 := by unfold errS; rw [if_neg (by decide), if_pos rfl, if_pos rfl, if_neg (by omega)]
        rw [hr]
        have hways : s < 0 ∨ (0 ≤ s ∧ 128 < s) ∨ ((0 ≤ s ∧ s ≤ 128) ∧ (sc < 0 ∨ (0 ≤ sc ∧ 128 < sc))) := by omega
        clear hk hr
        rcases hways with h | ⟨_, h⟩ | ⟨⟨_, _⟩, h | ⟨_, h⟩⟩
        all_goals
          go_enter Try.func51, Try.ntmps51
          go_wp2
          go_ret
          exact ⟨rfl, rfl⟩
      · have hr : errS 2 s sc n = 2 := by unfold errS; rw [if_neg (by decide), if_pos rfl, if_neg hn]
        rw [hr]
        have hv : ((n : Int) != 16) = true := by rw [bne_iff_ne]; omega
        clear hk hr hn
        go_enter Try.func51, Try.ntmps51
        go_wp2
        go_ret
        exact ⟨rfl, rfl⟩
    · have hr : errS f s sc n = 6 := by unfold errS; rw [if_neg h1, if_neg h2]
      rw [hr]
      have e1 : (f == 1) = false := by simp [h1]
      have e2 : (f == 2) = false := by simp [h2]
      clear hk hr h1 h2
      go_enter Try.func51, Try.ntmps51
      go_wp2
      go_ret
      exact ⟨rfl, rfl⟩

/-! Mask -/
end Go.Proofs.Ytkdfiedemhjjjaa
/- A region that draws its order and whose calls may lay new blocks, but hand back values that do not hang on where: walked once. No function of the program. -/
namespace Go.Proofs.Ytkdfiedemhjjjaa
open Go.RowKit
set_option linter.unusedVariables false
set_option linter.unusedSimpArgs false

/-- the world with more behind -/
structure Behind where
  os : Array Obj
  d : Nat
instance : Nonempty Behind := ⟨⟨#[], 0⟩⟩
def exts (w : World) (x : Behind) : World := ext w x.os x.d
theorem exts_below {B : Nat} {w0 w : World} (h : Below B w0 w) (hB : B ≤ w.heap.size) (x : Behind) : Below B w0 (exts w x) := Below.ext h hB x.os x.d
@[go_sem] theorem cell_exts (w : World) (x : Behind) (n i : Nat) (h : n < w.heap.size) : (exts w x).cell? ⟨n, i, none⟩ = w.cell? ⟨n, i, none⟩ := cell_ext w x.os x.d n i h
@[go_sem] theorem frozen_exts (w : World) (x : Behind) (n i : Nat) (h : n < w.heap.size) : (exts w x).frozen? ⟨n, i, none⟩ = w.frozen? ⟨n, i, none⟩ := frozen_ext w x.os x.d n i h

theorem wp_region_ext {P : Program} {id : Nat} {Q : Exit → Act → World → Prop} {a : Act} {w : World} {l : List Oper} (hm : P.follows .mixedOrders = true) (hB : Region.lexB .any l.toArray = true)
    (h : wpQuiet P l.toArray (fun w' => ∃ x, w' = exts w x) (fun a' => ∀ w', (∃ x, w' = exts w x) → Q .normal a' w') l a) : (Code.region id l.toArray true).wp P Q a w :=
  wp_region_quiet (C := fun w' => ∃ x, w' = exts w x) hm hB ⟨⟨#[], w.drawn + 1⟩, by simp [exts, ext]⟩ (by simpa using h)
theorem Calls.quiet_ext {P : Program} {f : FuncId} {args : Array Value} {w : World} {x : Behind} {v : Value}
    (h : Calls P f args (exts w x) fun e w' => e = .returned v ∧ Below (exts w x).heap.size (exts w x) w') : Calls P f args (exts w x) fun e w'' => e = .returned v ∧ ∃ y, w'' = exts w y :=
  h.mono fun _ _ ⟨he, hb⟩ => ⟨he, by
    obtain ⟨os, d, h⟩ := ext_of_below ((below_ext w x.os x.d).trans (hb.mono (by simp [exts, ext])))
    exact ⟨⟨os, d⟩, h⟩⟩
end Go.Proofs.Ytkdfiedemhjjjaa
/- subnet's In. -/
namespace Go.Proofs.Ytkdfiedemhjjjaa
open Go.RowKit
set_option linter.unusedVariables false
set_option linter.unusedSimpArgs false

theorem check_bad' (f s sc : Int) (A : Option Addr) (n c : Nat) (hk : ¬ SOk f s sc n) (w : World) : Calls Try.prog 51 #[subnetV f s sc A n c] w fun e w' => e = .returned (.iface 65 (.int .i64 (errS f s sc n))) ∧ Below w.heap.size w w' :=
  (check_bad f s sc A n c hk w).mono fun _ _ ⟨h, e⟩ => ⟨h, by subst e; (repeat' (first | (with_reducible exact Below.refl _ _) | (with_reducible assumption) | (with_reducible refine below_ext0 ?_ _ _) | (with_reducible refine below_alloc0 ?_ _) | (with_reducible refine Below.ext ?_ ?_ _ _) | (with_reducible refine Below.alloc ?_ ?_ _) | (with_reducible refine Below.setCell ?_ ?_ _) | (with_reducible refine Below.drew ?_) | (with_reducible refine below_draws ?_ _) | go_size | (simp [size_ext]; done) | (simp [size_ext]; omega)))⟩
theorem check_ok' (f s sc : Int) (A : Option Addr) (n c : Nat) (hk : SOk f s sc n) (w : World) : Calls Try.prog 51 #[subnetV f s sc A n c] w fun e w' => e = .returned .nilIface ∧ Below w.heap.size w w' :=
  (check_ok f s sc A n c hk w).mono fun _ _ ⟨h, e⟩ => ⟨h, by subst e; (repeat' (first | (with_reducible exact Below.refl _ _) | (with_reducible assumption) | (with_reducible refine below_ext0 ?_ _ _) | (with_reducible refine below_alloc0 ?_ _) | (with_reducible refine Below.ext ?_ ?_ _ _) | (with_reducible refine Below.alloc ?_ ?_ _) | (with_reducible refine Below.setCell ?_ ?_ _) | (with_reducible refine Below.drew ?_) | (with_reducible refine below_draws ?_ _) | go_size | (simp [size_ext]; done) | (simp [size_ext]; omega)))⟩

set_option maxRecDepth 100000 in
set_option maxHeartbeats 2000000 in
theorem In_fault (w : World) (A1 : Option Addr) (n1 c1 : Nat) (f s sc : Int) (A2 : Option Addr) (n2 c2 : Nat) (hk : ¬ SOk f s sc n2) :
    Calls Try.prog 27 #[.slice A1 n1 c1, subnetV f s sc A2 n2 c2] w fun e w' => e = .returned (.bool false) ∧ Below w.heap.size w w' := by
  have CK := hid (check_bad' f s sc A2 n2 c2 hk)
  clear hk
  go_enter Try.func27, Try.ntmps27
  go_wp2_with fail
  refine wp_region_ext (by kernel_rfl) (by kernel_rfl) ?_
  repeat (go_big_quiet_step ((go_at_call 51; exact Calls.quiet_ext (CK.out _))))
  refine wpQuiet_nil ?_
  rintro _ ⟨⟨os, d⟩, rfl⟩
  simp only [exts]
  go_wp2
  go_ret
  exact ⟨rfl, by (repeat' (first | (with_reducible exact Below.refl _ _) | (with_reducible assumption) | (with_reducible refine below_ext0 ?_ _ _) | (with_reducible refine below_alloc0 ?_ _) | (with_reducible refine Below.ext ?_ ?_ _ _) | (with_reducible refine Below.alloc ?_ ?_ _) | (with_reducible refine Below.setCell ?_ ?_ _) | (with_reducible refine Below.drew ?_) | (with_reducible refine below_draws ?_ _) | go_size | (simp [size_ext]; done) | (simp [size_ext]; omega)))⟩

set_option maxRecDepth 100000 in
set_option maxHeartbeats 2000000 in
theorem In_len (w : World) (A1 : Option Addr) (n1 c1 : Nat) (f s sc : Int) (A2 : Option Addr) (n2 c2 : Nat) (hk : SOk f s sc n2) (hn : n1 ≠ n2) :
    Calls Try.prog 27 #[.slice A1 n1 c1, subnetV f s sc A2 n2 c2] w fun e w' => e = .returned (.bool false) ∧ Below w.heap.size w w' := by
  have CK := hid (check_ok' f s sc A2 n2 c2 hk)
  have hv : ((n1 : Int) == (n2 : Int)) = false := by rw [beq_eq_false_iff_ne]; omega
  clear hk hn
  go_enter Try.func27, Try.ntmps27
  go_wp2_with fail
  refine wp_region_ext (by kernel_rfl) (by kernel_rfl) ?_
  repeat (go_big_quiet_step ((go_at_call 51; exact Calls.quiet_ext (CK.out _))))
  refine wpQuiet_nil ?_
  rintro _ ⟨⟨os, d⟩, rfl⟩
  simp only [exts]
  go_wp2
  go_ret
  exact ⟨rfl, by (repeat' (first | (with_reducible exact Below.refl _ _) | (with_reducible assumption) | (with_reducible refine below_ext0 ?_ _ _) | (with_reducible refine below_alloc0 ?_ _) | (with_reducible refine Below.ext ?_ ?_ _ _) | (with_reducible refine Below.alloc ?_ ?_ _) | (with_reducible refine Below.setCell ?_ ?_ _) | (with_reducible refine Below.drew ?_) | (with_reducible refine below_draws ?_ _) | go_size | (simp [size_ext]; done) | (simp [size_ext]; omega)))⟩

/-- mask, its result as a slice -/
theorem mask_rd (w : World) (A : Option Addr) (n c : Nat) (l : List UInt8) (B : Nat) (h : Rd u8R w B A n c l) (m : Int) (m0 : -4611686018427387904 ≤ m) (m1 : m ≤ 4611686018427387904) :
    Calls Try.prog 52 #[.slice A n c, .int .i64 m] w fun e w' => ∃ A' c', e = .returned (.slice A' n c') ∧ Rd u8R w' w'.heap.size A' n c' (maskL l m) ∧ Below w.heap.size w w' := by
  have hlim := h.lim
  simp only [u8R, Nat.mul_one] at hlim
  have hl := h.len
  refine (mask_any w A n c l B h m m0 m1).mono ?_
  rintro e w' ⟨v, rfl, hown, hlow⟩
  obtain ⟨A', c', rfl, hr⟩ := rd_of_own (R := u8R) hown (rels_u8.2 rfl) (by rw [maskL_len]; exact hl) (Nat.le_refl _) (by simpa [u8R] using hlim) (by decide)
  exact ⟨A', c', rfl, hr, hlow⟩

set_option maxRecDepth 100000 in
set_option maxHeartbeats 4000000 in
theorem In_ok (w : World) (A1 : Option Addr) (n c1 : Nat) (l1 : List UInt8) (h1 : Rd u8R w w.heap.size A1 n c1 l1) (f s sc : Int) (A2 : Option Addr) (c2 : Nat) (l2 : List UInt8) (h2 : Rd u8R w w.heap.size A2 n c2 l2) (hk : SOk f s sc n) :
    Calls Try.prog 27 #[.slice A1 n c1, subnetV f s sc A2 n c2] w fun e w' => e = .returned (.bool (decide (maskL l1 s = maskL l2 s))) ∧ Below w.heap.size w w' := by
  have s0 := hk.s0
  have s1 := hk.s1
  have CK := hid (check_ok f s sc A2 n c2 hk)
  have lim := h1.lim
  simp only [u8R, Nat.mul_one] at lim
  have CM1 := hid fun w' (hb : Below w.heap.size w w') => mask_rd w' A1 n c1 l1 _ (h1.below hb) s (by omega) (by omega)
  have CM2 := hid fun w' (hb : Below w.heap.size w w') => mask_rd w' A2 n c2 l2 _ (h2.below hb) s (by omega) (by omega)
  clear hk h1 h2
  have tok1 : True := trivial
  go_enter Try.func27, Try.ntmps27
  go_wp2_with fail
  go_region_held3 (fun w' => w'.cell? ⟨w.heap.size, 0, none⟩ = some (.int .i64 f) ∧ w'.cell? ⟨w.heap.size, 1, none⟩ = some (.int .i64 s) ∧ w'.cell? ⟨w.heap.size, 2, none⟩ = some (.int .i64 sc) ∧ w'.cell? ⟨w.heap.size, 3, none⟩ = some (.slice A2 n c2))
    (((try dsimp only); (repeat' apply And.intro) <;> (first | assumption | (go_simp; done))))
    (first
      | (go_at_call 51; refine (CK.out _).mono ?_; rintro e w1 ⟨rfl, rfl⟩)
      | (go_at_call 52; have _t := tok1; refine (CM1.out _ (by (repeat' (first | (with_reducible exact Below.refl _ _) | (with_reducible assumption) | (with_reducible refine below_ext0 ?_ _ _) | (with_reducible refine below_alloc0 ?_ _) | (with_reducible refine Below.ext ?_ ?_ _ _) | (with_reducible refine Below.alloc ?_ ?_ _) | (with_reducible refine Below.setCell ?_ ?_ _) | (with_reducible refine Below.drew ?_) | (with_reducible refine below_draws ?_ _) | go_size | (simp [size_ext]; done) | (simp [size_ext]; omega))))).mono ?_; rintro e w1 ⟨A3, c3, rfl, hr, hb⟩; obtain ⟨os, d, rfl⟩ := ext_of_below hb; (try simp only [ext_drew, ext_drewN] at hr); have R1 := hid hr; clear hr; clear hb tok1)
      | (go_at_call 52; refine (CM2.out _ (by (repeat' (first | (with_reducible exact Below.refl _ _) | (with_reducible assumption) | (with_reducible refine below_ext0 ?_ _ _) | (with_reducible refine below_alloc0 ?_ _) | (with_reducible refine Below.ext ?_ ?_ _ _) | (with_reducible refine Below.alloc ?_ ?_ _) | (with_reducible refine Below.setCell ?_ ?_ _) | (with_reducible refine Below.drew ?_) | (with_reducible refine below_draws ?_ _) | go_size | (simp [size_ext]; done) | (simp [size_ext]; omega))))).mono ?_; rintro e w1 ⟨A4, c4, rfl, hr, hb⟩; obtain ⟨os1, d1, rfl⟩ := ext_of_below hb; (try simp only [ext_drew, ext_drewN] at hr); have R2 := hid hr; clear hr; clear hb)
      | (go_at_call 54; refine (equal_bytes _ _ _ _ _ _ (R1.out.below (by (repeat' (first | (with_reducible exact Below.refl _ _) | (with_reducible assumption) | (with_reducible refine below_ext0 ?_ _ _) | (with_reducible refine below_alloc0 ?_ _) | (with_reducible refine Below.ext ?_ ?_ _ _) | (with_reducible refine Below.alloc ?_ ?_ _) | (with_reducible refine Below.setCell ?_ ?_ _) | (with_reducible refine Below.drew ?_) | (with_reducible refine below_draws ?_ _) | go_size | (simp [size_ext]; done) | (simp [size_ext]; omega))))) _ _ _ _ _ R2.out).mono ?_; rintro e w1 ⟨rfl, hb⟩; obtain ⟨os2, d2, rfl⟩ := ext_of_below hb; clear hb))
  all_goals
    go_wp2
    go_ret
    exact ⟨rfl, by (repeat' (first | (with_reducible exact Below.refl _ _) | (with_reducible assumption) | (with_reducible refine below_ext0 ?_ _ _) | (with_reducible refine below_alloc0 ?_ _) | (with_reducible refine Below.ext ?_ ?_ _ _) | (with_reducible refine Below.alloc ?_ ?_ _) | (with_reducible refine Below.setCell ?_ ?_ _) | (with_reducible refine Below.drew ?_) | (with_reducible refine below_draws ?_ _) | go_size | (simp [size_ext]; done) | (simp [size_ext]; omega)))⟩
end Go.Proofs.Ytkdfiedemhjjjaa
/- Plain laws of masked addresses: less of less. No function of the program. -/
namespace Go.Proofs.Ytkdfiedemhjjjaa
open Go.RowKit
set_option linter.unusedVariables false
set_option linter.unusedSimpArgs false

theorem div_mul_le {a c x : Nat} (h : a ≤ c) : x / 2 ^ a * 2 ^ a / 2 ^ c * 2 ^ c = x / 2 ^ c * 2 ^ c := by
  obtain ⟨d, rfl⟩ := Nat.exists_eq_add_of_le h
  rw [Nat.pow_add, ← Nat.div_div_eq_div_mul, Nat.mul_div_cancel _ (Nat.two_pow_pos a), Nat.div_div_eq_div_mul]
theorem div_mul_ge {a c x : Nat} (h : c ≤ a) : x / 2 ^ a * 2 ^ a / 2 ^ c * 2 ^ c = x / 2 ^ a * 2 ^ a := by
  obtain ⟨d, rfl⟩ := Nat.exists_eq_add_of_le h
  apply Nat.div_mul_cancel
  rw [Nat.pow_add]
  exact Nat.dvd_trans (Nat.dvd_mul_right _ _) (Nat.dvd_mul_left _ _)
theorem ofNat_mask (x e : Nat) (h : x < 256) : (UInt8.ofNat (x / 2 ^ e * 2 ^ e)).toNat = x / 2 ^ e * 2 ^ e := by
  have : x / 2 ^ e * 2 ^ e ≤ x := Nat.div_mul_le_self _ _
  rw [UInt8.toNat_ofNat', Nat.mod_eq_of_lt (by omega)]
theorem maskB_le0 {b : UInt8} {i : Int} (h : i ≤ 0) : maskB b i = 0 := if_pos h
theorem maskB_ge8 {b : UInt8} {i : Int} (h : 8 ≤ i) : maskB b i = b := by rw [maskB, if_neg (by omega), if_neg (by omega)]
theorem maskB_zero (i : Int) : maskB 0 i = 0 := by
  unfold maskB
  split
  · rfl
  · split
    · simp
    · rfl
theorem maskB_maskB (b : UInt8) (i j : Int) : maskB (maskB b i) j = maskB b (if i ≤ j then i else j) := by
  by_cases hi : i ≤ 0
  · rw [maskB_le0 hi, maskB_zero]
    split
    · rw [maskB_le0 hi]
    · rw [maskB_le0 (by omega)]
  · by_cases hj : j ≤ 0
    · rw [maskB_le0 hj, if_neg (by omega), maskB_le0 hj]
    · by_cases hi8 : 8 ≤ i
      · rw [maskB_ge8 hi8]
        split
        · rw [maskB_ge8 hi8, maskB_ge8 (by omega)]
        · rfl
      · by_cases hj8 : 8 ≤ j
        · rw [maskB_ge8 hj8, if_pos (by omega)]
        · have hb := b.toNat_lt
          have e1 : maskB b i = UInt8.ofNat (b.toNat / 2 ^ (8 - i.toNat) * 2 ^ (8 - i.toNat)) := by rw [maskB, if_neg hi, if_pos (by omega)]
          have e2 : maskB (maskB b i) j = UInt8.ofNat ((maskB b i).toNat / 2 ^ (8 - j.toNat) * 2 ^ (8 - j.toNat)) := by rw [maskB, if_neg hj, if_pos (by omega)]
          rw [e2, e1, ofNat_mask _ _ hb]
          split
          · rw [div_mul_ge (by omega), e1]
          · rw [div_mul_le (by omega), maskB, if_neg hj, if_pos (by omega)]
/-- less of less -/
theorem maskL_maskL (l : List UInt8) (i j : Int) : maskL (maskL l i) j = maskL l (if i ≤ j then i else j) := by
  unfold maskL
  apply List.ext_getElem (by simp)
  intro k h1 h2
  simp only [List.getElem_mapIdx]
  rw [maskB_maskB]
  congr 1
  split <;> split <;> omega
theorem maskL_less {l m : List UInt8} {i j : Int} (h : maskL l i = maskL m i) (hij : j ≤ i) : maskL l j = maskL m j := by
  have := congrArg (fun x => maskL x j) h
  simp only [maskL_maskL] at this
  by_cases e : i ≤ j
  · rw [show j = i by omega]; exact h
  · rwa [if_neg e] at this
theorem maskL_getElem (l : List UInt8) (i : Int) (k : Nat) (h : k < (maskL l i).length) : (maskL l i)[k] = maskB (l[k]'(by rw [maskL_len] at h; exact h)) (i - 8 * (k : Int)) := by simp [maskL]
/-- its bytes that have a bit, and 0 behind -/
theorem maskL_fill (l : List UInt8) (s : Int) (m : Nat) (h0 : 0 ≤ s) (h1 : s ≤ 8 * (l.length : Int)) (hm : (m : Int) = (s + 7) / 8) : (maskL l s).take m ++ List.replicate (l.length - m) 0 = maskL l s := by
  apply List.ext_getElem
  · simp [maskL_len]; omega
  · intro k a b
    rw [maskL_len] at b
    by_cases c : k < m
    · rw [List.getElem_append_left (by simp [maskL_len]; omega), List.getElem_take]
    · rw [List.getElem_append_right (by simp [maskL_len]; omega), List.getElem_replicate, maskL_getElem, maskB_le0 (by omega)]
theorem maskL_take (l : List UInt8) (s : Int) (m : Nat) : maskL (l.take m) s = (maskL l s).take m := by
  apply List.ext_getElem
  · simp [maskL_len]
  · intro k a b
    rw [maskL_getElem, List.getElem_take, List.getElem_take, maskL_getElem]
/-- masked, filled up and masked again -/
theorem maskL_pad (r : List UInt8) (s : Int) (n : Nat) (h : r = maskL r s) : maskL (r ++ List.replicate n 0) s = r ++ List.replicate n 0 := by
  apply List.ext_getElem
  · simp [maskL_len]
  · intro k a b
    rw [maskL_getElem]
    by_cases c : k < r.length
    · rw [List.getElem_append_left c]
      have := maskL_getElem r s k (by rw [maskL_len]; exact c)
      rw [← this]
      exact (List.getElem_of_eq h c).symm
    · rw [List.getElem_append_right (by omega)]
      simp [maskB_zero]
end Go.Proofs.Ytkdfiedemhjjjaa
/- subnet's In, of whatever address and subnet; the law's own question. -/
namespace Go.Proofs.Ytkdfiedemhjjjaa
open Go.RowKit
set_option linter.unusedVariables false
set_option linter.unusedSimpArgs false

instance (f s sc : Int) (n : Nat) : Decidable (SOk f s sc n) := decidable_of_iff _ (SOk_iff f s sc n).symm
/-- is it in the subnet? -/
def inB (f s sc : Int) (l1 l2 : List UInt8) : Bool := decide (SOk f s sc l2.length) && (decide (l1.length = l2.length) && decide (maskL l1 s = maskL l2 s))

theorem In_any (w : World) (A1 : Option Addr) (n1 c1 : Nat) (l1 : List UInt8) (h1 : Rd u8R w w.heap.size A1 n1 c1 l1) (f s sc : Int) (A2 : Option Addr) (n2 c2 : Nat) (l2 : List UInt8) (h2 : Rd u8R w w.heap.size A2 n2 c2 l2) :
    Calls Try.prog 27 #[.slice A1 n1 c1, subnetV f s sc A2 n2 c2] w fun e w' => e = .returned (.bool (inB f s sc l1 l2)) ∧ Below w.heap.size w w' := by
  have e1 := h1.len
  have e2 := h2.len
  by_cases hk : SOk f s sc n2
  · by_cases hn : n1 = n2
    · subst hn
      have : inB f s sc l1 l2 = decide (maskL l1 s = maskL l2 s) := by unfold inB; rw [e1, e2, decide_eq_true hk]; simp
      rw [this]
      exact In_ok w A1 n1 c1 l1 h1 f s sc A2 c2 l2 h2 hk
    · have : inB f s sc l1 l2 = false := by unfold inB; rw [e1, e2, decide_eq_false hn]; simp
      rw [this]
      exact In_len w A1 n1 c1 f s sc A2 n2 c2 hk hn
  · have : inB f s sc l1 l2 = false := by unfold inB; rw [e2, decide_eq_false hk]; simp
    rw [this]
    exact In_fault w A1 n1 c1 f s sc A2 n2 c2 hk

theorem inB_iff {f s sc : Int} {l1 l2 : List UInt8} : inB f s sc l1 l2 = true ↔ SOk f s sc l2.length ∧ l1.length = l2.length ∧ maskL l1 s = maskL l2 s := by
  unfold inB; simp

/-! a subnet that came in -/
abbrev subnetR : Rep (Int × Int × Int × List UInt8 × Unit) := pairR intR (pairR intR (pairR intR (pairR (sliceR u8R) unitR)))
theorem opens_subnet : Opens Try.prog 71 subnetR := opens_struct Try.underlying71 rfl (by kernel_rfl) (fields_cons rfl (by kernel_rfl) (opens_int Try.underlying3) (fields_cons rfl (by kernel_rfl) (opens_int Try.underlying3) (fields_cons rfl (by kernel_rfl) (opens_int Try.underlying3) (fields_cons rfl (by kernel_rfl) (opens_slice Try.underlying22 (opens_u8 Try.underlying5) (by kernel_rfl) (by decide) (of_decide_eq_true (by kernel_rfl))) (fields_nil _)))))
theorem subnet_of {w : World} {B : Nat} {x : Int × Int × Int × List UInt8 × Unit} {cs : Array Value} (h : subnetR.rel w B x cs.toList) :
    ∃ f s sc A n c l, Value.agg cs = subnetV f s sc A n c ∧ cs = #[.int .i64 f, .int .i64 s, .int .i64 sc, .slice A n c] ∧ I64 f ∧ I64 s ∧ I64 sc ∧ Rd u8R w B A n c l := by
  obtain ⟨_, _, e0, ⟨rfl, h1⟩, _, _, rfl, ⟨rfl, h2⟩, _, _, rfl, ⟨rfl, h3⟩, _, _, rfl, ⟨A, n, c, rfl, h4⟩, rfl⟩ := h
  have : cs = #[.int .i64 x.1, .int .i64 x.2.1, .int .i64 x.2.2.1, .slice A n c] := by cases cs; simp_all
  exact ⟨_, _, _, A, n, c, _, by rw [this], this, h1, h2, h3, h4⟩
end Go.Proofs.Ytkdfiedemhjjjaa
/- subnet's Encode. -/
namespace Go.Proofs.Ytkdfiedemhjjjaa
open Go.RowKit
set_option linter.unusedVariables false
set_option linter.unusedSimpArgs false

/-- how many bytes of the address are sent -/
def sentN (s : Int) : Nat := ((s + 7) / 8).toNat
/-- a subnet's bytes -/
def encL (f s sc : Int) (l : List UInt8) : List UInt8 := [0, UInt8.ofNat f.toNat, UInt8.ofNat s.toNat, UInt8.ofNat sc.toNat] ++ (maskL l s).take (sentN s)

theorem bytesV4 (a b c d : Int) (ha : 0 ≤ a ∧ a < 256) (hb : 0 ≤ b ∧ b < 256) (hc : 0 ≤ c ∧ c < 256) (hd : 0 ≤ d ∧ d < 256) : [Value.int .u8 a, .int .u8 b, .int .u8 c, .int .u8 d] = bytesV [UInt8.ofNat a.toNat, UInt8.ofNat b.toNat, UInt8.ofNat c.toNat, UInt8.ofNat d.toNat] := by
  have e : ∀ x : Int, 0 ≤ x ∧ x < 256 → ((UInt8.ofNat x.toNat).toNat : Int) = x := fun x hx => by rw [UInt8.toNat_ofNat', Nat.mod_eq_of_lt (by omega)]; omega
  simp only [bytesV, List.map_cons, List.map_nil, e a ha, e b hb, e c hc, e d hd]

set_option maxRecDepth 100000 in
set_option maxHeartbeats 4000000 in
theorem Encode_ok (w : World) (f s sc : Int) (A : Option Addr) (n c : Nat) (l : List UInt8) (h : Rd u8R w w.heap.size A n c l) (hk : SOk f s sc n) :
    Calls Try.prog 25 #[subnetV f s sc A n c] w fun e w' => ∃ A' m' c', e = .returned (.tuple #[.slice A' m' c', .nilIface]) ∧ Rd u8R w' w'.heap.size A' m' c' (encL f s sc l) ∧ Below w.heap.size w w' := by
  have s0 := hk.s0
  have s1 := hk.s1
  have sc0 := hk.sc0
  have sc1 := hk.sc1
  have hn16 : n ≤ 16 := by rcases hk.fam with h | h <;> omega
  have hn4 : 4 ≤ n := by rcases hk.fam with h | h <;> omega
  have f0 : 1 ≤ f := by rcases hk.fam with h | h <;> omega
  have f1 : f ≤ 2 := by rcases hk.fam with h | h <;> omega
  have CK := hid (check_ok f s sc A n c hk)
  have CM := hid fun w' (hb : Below w.heap.size w w') => mask_rd w' A n c l _ (h.below hb) s (by omega) (by omega)
  have hl := hid h.len
  clear hk h
  obtain ⟨k, hkk⟩ : ∃ k, sentN s = k := ⟨_, rfl⟩
  have kle : k ≤ n := by unfold sentN at hkk; omega
  have q2 : IntKind.i64.wrap ((s + 7).tdiv 8) = (k : Int) := by
    have e : (s + 7).tdiv 8 = (s + 7) / 8 := Int.tdiv_eq_ediv_of_nonneg (by omega)
    rw [e]
    unfold sentN at hkk
    rw [IntWalk.i64_in _ (by omega)]
    omega
  have HK := hid hkk
  clear hkk
  have q1 : IntKind.i64.wrap (s + 7) = s + 7 := IntWalk.i64_in _ (by omega)
  go_enter Try.func25, Try.ntmps25
  go_wp2_with (first | (go_at_call 51; refine (CK.out _).mono ?_; rintro e w1 ⟨rfl, rfl⟩))
  go_region_held3 (fun w' => w'.cell? ⟨w.heap.size, 0, none⟩ = some (.int .i64 f) ∧ w'.cell? ⟨w.heap.size, 1, none⟩ = some (.int .i64 s) ∧ w'.cell? ⟨w.heap.size, 2, none⟩ = some (.int .i64 sc) ∧ w'.cell? ⟨w.heap.size, 3, none⟩ = some (.slice A n c))
    (((try dsimp only); (repeat' apply And.intro) <;> (first | assumption | (go_simp; done))))
    (first
      | (go_at_call 52; refine (CM.out _ (by (repeat' (first | (with_reducible exact Below.refl _ _) | (with_reducible assumption) | (with_reducible refine below_ext0 ?_ _ _) | (with_reducible refine below_alloc0 ?_ _) | (with_reducible refine Below.ext ?_ ?_ _ _) | (with_reducible refine Below.alloc ?_ ?_ _) | (with_reducible refine Below.setCell ?_ ?_ _) | (with_reducible refine Below.drew ?_) | (with_reducible refine below_draws ?_ _) | go_size | (simp [size_ext]; done) | (simp [size_ext]; omega))))).mono ?_; rintro e w1 ⟨A4, c4, rfl, hr, hb⟩; obtain ⟨os1, d1, rfl⟩ := ext_of_below hb; obtain ⟨b4, o4, rfl, lb4⟩ := hr.addr (by omega); (try simp only [ext_drew, ext_drewN] at hr); have R2 := hid hr; clear hr; clear hb lb4; have k1 := R2.out.cap; have k2 : (k : Int) ≤ (c4 : Int) := (by omega); have k3 : k ≤ c4 := (by omega))
      | (refine step_app rfl (.tmp 21) (.tmp 31) 22 rfl (w.heap.size + 1) 5 1 1 el_u8 _ 4 [.int .u8 0, .int .u8 f, .int .u8 s, .int .u8 sc] rfl (own_ext (own_lit _ _ (by simp) (by omega) rfl (by decide) rfl) _ _) _ k _ _ rfl (R2.out.take kle).src_u8 (by omega) (by unfold maxLen; omega) (by simp [size_ext]; omega) ?_; intro v9 w9 ho9 hg9 _; have hb9 := grown_below (own_ext (own_lit (base := w.heap.size + 1) (e := 5) (size := 1) (n := 4) #[.int .u8 0, .int .u8 f, .int .u8 s, .int .u8 sc] _ (by simp) (by omega) rfl (by decide) rfl) _ _) hg9 (by simp [size_ext]; omega); have hz := (fun i => hb9.cell (p := ⟨w.heap.size, i, none⟩) (by simp)); have HO := hid ho9; have HL := hid hb9; clear ho9 hg9 hb9))
  all_goals
    have hx : [Value.int .u8 0, .int .u8 f, .int .u8 s, .int .u8 sc] ++ (((maskL l s).take k).map fun b => Value.int .u8 (b.toNat : Int)) = bytesV (encL f s sc l) := by
      rw [bytesV4 0 f s sc (by omega) (by omega) (by omega) (by omega), encL, HK.out]
      simp [bytesV]
    have ho := HO.out
    rw [hx] at ho
    obtain ⟨A', c', rfl, hr⟩ := rd_of_own (R := u8R) ho (rels_u8.2 rfl) (by simp only [encL, HK.out]; simp [maskL_len, hl.out]; omega) (by have := HL.out.size; simp [size_ext] at this; omega) (by simp [u8R]; omega) (by decide)
    (try simp only [ext_drew, ext_drewN] at hr); have HR := hid hr; clear hr
    clear hx ho HO
    go_wp2
    go_ret2
    exact ⟨A', _, c', rfl, HR.out, Below.trans (by (repeat' (first | (with_reducible exact Below.refl _ _) | (with_reducible assumption) | (with_reducible refine below_ext0 ?_ _ _) | (with_reducible refine below_alloc0 ?_ _) | (with_reducible refine Below.ext ?_ ?_ _ _) | (with_reducible refine Below.alloc ?_ ?_ _) | (with_reducible refine Below.setCell ?_ ?_ _) | (with_reducible refine Below.drew ?_) | (with_reducible refine below_draws ?_ _) | go_size | (simp [size_ext]; done) | (simp [size_ext]; omega)))) (HL.out.mono (by omega))⟩

set_option maxRecDepth 100000 in
set_option maxHeartbeats 4000000 in
theorem Encode_bad (w : World) (f s sc : Int) (A : Option Addr) (n c : Nat) (hk : ¬ SOk f s sc n) :
    Calls Try.prog 25 #[subnetV f s sc A n c] w fun e w' => e = .returned (.tuple #[.slice none 0 0, .iface 65 (.int .i64 (errS f s sc n))]) ∧ Below w.heap.size w w' := by
  have CK := hid (check_bad f s sc A n c hk)
  clear hk
  go_enter Try.func25, Try.ntmps25
  go_wp2_with (first | (go_at_call 51; refine (CK.out _).mono ?_; rintro e w1 ⟨rfl, rfl⟩))
  go_ret2
  exact ⟨rfl, by (repeat' (first | (with_reducible exact Below.refl _ _) | (with_reducible assumption) | (with_reducible refine below_ext0 ?_ _ _) | (with_reducible refine below_alloc0 ?_ _) | (with_reducible refine Below.ext ?_ ?_ _ _) | (with_reducible refine Below.alloc ?_ ?_ _) | (with_reducible refine Below.setCell ?_ ?_ _) | (with_reducible refine Below.drew ?_) | (with_reducible refine below_draws ?_ _) | go_size | (simp [size_ext]; done) | (simp [size_ext]; omega)))⟩
end Go.Proofs.Ytkdfiedemhjjjaa
