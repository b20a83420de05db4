/- msg: the writer's question and record, where they may not be. -/
import Derived.Test.YthccknobnpbdeaaDoorK4
import Derived.Test.YthccknobnpbdeaaDoorK2
import Derived.Deep.DrawnRows
import Derived.Test.YthccknobnpbdeaaDoorK1
import Derived.BigRegion
import Derived.Deep.RegionHeld3
import Derived.Deep.DeepCutAuto
import Derived.Deep.LoopGhost
import Derived.Deep.QuietTactic
import Derived.BigQuiet
import Derived.Deep.Light
namespace Go.Proofs.YthccknobnpbdeaaDoor
open Go.RowKit
set_option linter.unusedVariables false
set_option linter.unusedSimpArgs false

set_option maxRecDepth 100000 in
set_option maxHeartbeats 4000000 in
theorem wquestion_bad {w : World} {g : Nat} {A : Option Addr} {n c : Nat} {A1 : Option Addr} {n1 c1 : Nat} (hB : Blk w g 85 (wrC A n c A1 n1 c1)) {b : List UInt8} (hM : Rd u8R w w.heap.size A n c b) {ss : List Int} (hS : Rd intR w w.heap.size A1 n1 c1 ss) {A3 : Option Addr} {n3 c3 : Nat} {l : List ByteArray} (hL : Rd strR w w.heap.size A3 n3 c3 l) {T C : Int} (hT : I64 T) (hC : I64 C)
    (hlim : n + 65536 + 512 ≤ 140737488355328) (hlim1 : n1 * 8 + 4096 ≤ 140737488355328) {k : Int} (hf : qErr (l, T, C, ()) = k) (hk : k ≠ 0) :
    Calls Tryd.prog 33 #[.pointer (some ⟨g, 0, none⟩), .agg #[.slice A3 n3 c3, .int .i64 T, .int .i64 C]] w fun e w' => e = .returned (.iface 29 (.int .i64 k)) ∧ Below w.heap.size w w' := by
  have hg := hB.lt
  have HB := hid hB
  have c0 : w.cell? ⟨g, 0, none⟩ = some (.slice A n c) := hB.cell 0
  have c1' : w.cell? ⟨g, 1, none⟩ = some (.slice A1 n1 c1) := hB.cell 1
  obtain ⟨a1, a2⟩ := hT
  obtain ⟨b1, b2⟩ := hC
  by_cases h0 : nameErr l = 0
  · have CP : ∀ w', Below w.heap.size w w' → Calls Tryd.prog 48 #[.slice A n c, .slice A1 n1 c1, .slice A3 n3 c3] w' fun e w2 => ∃ A2 n2 c2 A' n' c', e = .returned (.tuple #[.slice A2 n2 c2, .slice A' n' c', .nilIface]) ∧ Below w'.heap.size w' w2 := fun w' hb => by
      refine (pack_own w' A n c b (hM.later hb) A1 n1 c1 ss (hS.later hb) A3 n3 c3 l (hL.later hb) (by omega) (by omega)).mono ?_
      rintro e w2 ⟨hb2, he⟩
      rw [if_pos h0] at he
      obtain ⟨v, v', he, ho⟩ := he
      obtain ⟨A', c', rfl, _⟩ := own_slice ho.all
      obtain ⟨A2, c2, rfl, _⟩ := own_slice ho.out
      exact ⟨A2, _, c2, A', _, c', he, hb2⟩
    replace CP := hid CP
    have ways : k = 6 ∧ ((T < 0) ∨ (0 ≤ T ∧ 65535 < T) ∨ (0 ≤ T ∧ T ≤ 65535 ∧ C < 0) ∨ (0 ≤ T ∧ T ≤ 65535 ∧ 0 ≤ C ∧ 65535 < C)) := by
      unfold qErr at hf
      rw [if_pos h0] at hf
      simp only at hf
      split at hf
      · exact absurd hf.symm hk
      · exact ⟨hf.symm, by omega⟩
    clear hf hk h0 hM hS hL hB
    obtain ⟨rfl, h⟩ := ways
    rcases h with q1 | ⟨q1, q2⟩ | ⟨q1, q2, q3⟩ | ⟨q1, q2, q3, q4⟩
    all_goals
      try (have p0 : ¬ (T < 0) := by omega)
      try (have p0 : T < 0 := by omega)
      try (have e0 : decide (T < 0) = false := decide_eq_false (by omega))
      try (have e0 : decide (T < 0) = true := decide_eq_true (by omega))
      try (have p1 : ¬ (65535 < T) := by omega)
      try (have p1 : 65535 < T := by omega)
      try (have e1 : decide (65535 < T) = false := decide_eq_false (by omega))
      try (have e1 : decide (65535 < T) = true := decide_eq_true (by omega))
      try (have p2 : ¬ (C < 0) := by omega)
      try (have p2 : C < 0 := by omega)
      try (have e2 : decide (C < 0) = false := decide_eq_false (by omega))
      try (have e2 : decide (C < 0) = true := decide_eq_true (by omega))
      try (have p3 : ¬ (65535 < C) := by omega)
      try (have p3 : 65535 < C := by omega)
      try (have e3 : decide (65535 < C) = false := decide_eq_false (by omega))
      try (have e3 : decide (65535 < C) = true := decide_eq_true (by omega))
      have tk0 : True := trivial; have tk1 : True := trivial; have tk2 : True := trivial; have tk3 : True := trivial; have tk4 : True := trivial; have tk5 : True := trivial; have tk6 : True := trivial; have tk7 : True := trivial; have tk8 : True := trivial; have tk9 : True := trivial; have tk10 : True := trivial; have tk11 : True := trivial; have tk12 : True := trivial
      go_enter Tryd.func33, Tryd.ntmps33
      go_wp2_with fail
      go_region_held3 (fun w' => w'.cell? ⟨g, 0, none⟩ = some (.slice A n c) ∧ w'.cell? ⟨g, 1, none⟩ = some (.slice A1 n1 c1) ∧ w'.cell? ⟨w.heap.size, 0, none⟩ = some (.slice A3 n3 c3)) (((try dsimp only); (repeat' apply And.intro) <;> (first | assumption | (go_simp; done)))) (first
        | (go_at_call 48; have _t := tk1; (with_reducible refine (CP.out _ (by (repeat' (first | (with_reducible exact Below.refl _ _) | (with_reducible assumption) | (with_reducible refine below_ext0 ?_ _ _) | (with_reducible refine below_alloc0 ?_ _) | (with_reducible refine Below.ext ?_ ?_ _ _) | (with_reducible refine Below.alloc ?_ ?_ _) | (with_reducible refine Below.setCell ?_ ?_ _) | (with_reducible refine Below.drew ?_) | (with_reducible refine below_draws ?_ _) | go_size | (simp [size_ext]; done) | (simp [size_ext]; omega))))).mono ?_); rintro e w1 ⟨A2, n2, c2, A', n', c', rfl, hb1⟩; have kx := (Blk.below (by (repeat' (first | (with_reducible exact Blk.new _ _ _) | (with_reducible assumption) | (with_reducible refine Blk.ext ?_ _ _) | (with_reducible refine Blk.drew ?_) | (with_reducible refine Blk.alloc ?_ _)))) hb1 (by simp) : Blk w1 w.heap.size 51 #[.slice A3 n3 c3, .int .i64 T, .int .i64 C]); have hB0 := HB.out; have hk := (Blk.below (by (repeat' (first | (with_reducible exact Blk.new _ _ _) | (with_reducible assumption) | (with_reducible refine Blk.ext ?_ _ _) | (with_reducible refine Blk.drew ?_) | (with_reducible refine Blk.alloc ?_ _)))) hb1 (by simp; omega) : Blk w1 g 85 (wrC A n c A1 n1 c1)); have kg0 : w1.cell? ⟨g, 0, none⟩ = some (.slice A n c) := hk.cell 0; have kg1 : w1.cell? ⟨g, 1, none⟩ = some (.slice A1 n1 c1) := hk.cell 1; have x0 : w1.cell? ⟨w.heap.size, 0, none⟩ = some (.slice A3 n3 c3) := kx.cell 0; have x1 : w1.cell? ⟨w.heap.size, 1, none⟩ = some (.int .i64 T) := kx.cell 1; have x2 : w1.cell? ⟨w.heap.size, 2, none⟩ = some (.int .i64 C) := kx.cell 2; have HB1 := hid (Below.trans (by (repeat' (first | (with_reducible exact Below.refl _ _) | (with_reducible assumption) | (with_reducible refine below_ext0 ?_ _ _) | (with_reducible refine below_alloc0 ?_ _) | (with_reducible refine Below.ext ?_ ?_ _ _) | (with_reducible refine Below.alloc ?_ ?_ _) | (with_reducible refine Below.setCell ?_ ?_ _) | (with_reducible refine Below.drew ?_) | (with_reducible refine below_draws ?_ _) | go_size | (simp [size_ext]; done) | (simp [size_ext]; omega)))) (hb1.mono (by simp)) : Below w.heap.size w w1); clear hb1 kx hk hB0 tk1))
      all_goals
        go_wp2
        go_ret
        exact ⟨rfl, HB1.out⟩
  · have CP : ∀ w', Below w.heap.size w w' → Calls Tryd.prog 48 #[.slice A n c, .slice A1 n1 c1, .slice A3 n3 c3] w' fun e w2 => e = .returned (.tuple #[.slice none 0 0, .slice none 0 0, .iface 29 (.int .i64 k)]) ∧ Below w'.heap.size w' w2 := fun w' hb => by
      unfold qErr at hf
      rw [if_neg h0] at hf
      exact pack_bad (hM.later hb) (hS.later hb) (hL.later hb) (by omega) (by omega) hf hk
    replace CP := hid CP
    clear hM hS hL hB hf hk h0
    have tk0 : True := trivial; have tk1 : True := trivial; have tk2 : True := trivial; have tk3 : True := trivial; have tk4 : True := trivial; have tk5 : True := trivial; have tk6 : True := trivial; have tk7 : True := trivial; have tk8 : True := trivial; have tk9 : True := trivial; have tk10 : True := trivial; have tk11 : True := trivial; have tk12 : True := trivial
    go_enter Tryd.func33, Tryd.ntmps33
    go_wp2_with fail
    go_region_held3 (fun w' => w'.cell? ⟨g, 0, none⟩ = some (.slice A n c) ∧ w'.cell? ⟨g, 1, none⟩ = some (.slice A1 n1 c1) ∧ w'.cell? ⟨w.heap.size, 0, none⟩ = some (.slice A3 n3 c3)) (((try dsimp only); (repeat' apply And.intro) <;> (first | assumption | (go_simp; done)))) (first
      | (go_at_call 48; have _t := tk1; (with_reducible refine (CP.out _ (by (repeat' (first | (with_reducible exact Below.refl _ _) | (with_reducible assumption) | (with_reducible refine below_ext0 ?_ _ _) | (with_reducible refine below_alloc0 ?_ _) | (with_reducible refine Below.ext ?_ ?_ _ _) | (with_reducible refine Below.alloc ?_ ?_ _) | (with_reducible refine Below.setCell ?_ ?_ _) | (with_reducible refine Below.drew ?_) | (with_reducible refine below_draws ?_ _) | go_size | (simp [size_ext]; done) | (simp [size_ext]; omega))))).mono ?_); rintro e w1 ⟨rfl, hb1⟩; have kx := (Blk.below (by (repeat' (first | (with_reducible exact Blk.new _ _ _) | (with_reducible assumption) | (with_reducible refine Blk.ext ?_ _ _) | (with_reducible refine Blk.drew ?_) | (with_reducible refine Blk.alloc ?_ _)))) hb1 (by simp) : Blk w1 w.heap.size 51 #[.slice A3 n3 c3, .int .i64 T, .int .i64 C]); have hB0 := HB.out; have hk := (Blk.below (by (repeat' (first | (with_reducible exact Blk.new _ _ _) | (with_reducible assumption) | (with_reducible refine Blk.ext ?_ _ _) | (with_reducible refine Blk.drew ?_) | (with_reducible refine Blk.alloc ?_ _)))) hb1 (by simp; omega) : Blk w1 g 85 (wrC A n c A1 n1 c1)); have kg0 : w1.cell? ⟨g, 0, none⟩ = some (.slice A n c) := hk.cell 0; have kg1 : w1.cell? ⟨g, 1, none⟩ = some (.slice A1 n1 c1) := hk.cell 1; have x0 : w1.cell? ⟨w.heap.size, 0, none⟩ = some (.slice A3 n3 c3) := kx.cell 0; have HB1 := hid (Below.trans (by (repeat' (first | (with_reducible exact Below.refl _ _) | (with_reducible assumption) | (with_reducible refine below_ext0 ?_ _ _) | (with_reducible refine below_alloc0 ?_ _) | (with_reducible refine Below.ext ?_ ?_ _ _) | (with_reducible refine Below.alloc ?_ ?_ _) | (with_reducible refine Below.setCell ?_ ?_ _) | (with_reducible refine Below.drew ?_) | (with_reducible refine below_draws ?_ _) | go_size | (simp [size_ext]; done) | (simp [size_ext]; omega)))) (hb1.mono (by simp)) : Below w.heap.size w w1); clear hb1 kx hk hB0 tk1))
    all_goals
      go_wp2
      go_ret
      exact ⟨rfl, HB1.out⟩

set_option maxRecDepth 100000 in
set_option maxHeartbeats 4000000 in
theorem wrecord_bad {w : World} {g : Nat} {A : Option Addr} {n c : Nat} {A1 : Option Addr} {n1 c1 : Nat} (hB : Blk w g 85 (wrC A n c A1 n1 c1)) {b : List UInt8} (hM : Rd u8R w w.heap.size A n c b) {ss : List Int} (hS : Rd intR w w.heap.size A1 n1 c1 ss) {A3 : Option Addr} {n3 c3 : Nat} {l : List ByteArray} (hL : Rd strR w w.heap.size A3 n3 c3 l) {T C L : Int} {A4 : Option Addr} {n4 c4 : Nat} {d : List UInt8} (hD : Rd u8R w w.heap.size A4 n4 c4 d) (hT : I64 T) (hC : I64 C) (hTL : I64 L)
    (hlim : n + 65536 + 512 ≤ 140737488355328) (hlim1 : n1 * 8 + 4096 ≤ 140737488355328) {k : Int} (hf : recErr (l, T, C, L, d, ()) = k) (hk : k ≠ 0) :
    Calls Tryd.prog 34 #[.pointer (some ⟨g, 0, none⟩), .agg #[.slice A3 n3 c3, .int .i64 T, .int .i64 C, .int .i64 L, .slice A4 n4 c4]] w fun e w' => e = .returned (.iface 29 (.int .i64 k)) ∧ Below w.heap.size w w' := by
  have hg := hB.lt
  have HB := hid hB
  have CP := hid fun w' (hb : Below w.heap.size w w') => rwrite_bad (hM.later hb) (hS.later hb) (hL.later hb) (hD.later hb) hT hC hTL hlim hlim1 hf hk
  have c0 : w.cell? ⟨g, 0, none⟩ = some (.slice A n c) := hB.cell 0
  have c1' : w.cell? ⟨g, 1, none⟩ = some (.slice A1 n1 c1) := hB.cell 1
  clear hM hS hL hD hf hB hk
  have tk0 : True := trivial; have tk1 : True := trivial; have tk2 : True := trivial; have tk3 : True := trivial; have tk4 : True := trivial; have tk5 : True := trivial; have tk6 : True := trivial; have tk7 : True := trivial; have tk8 : True := trivial; have tk9 : True := trivial; have tk10 : True := trivial; have tk11 : True := trivial; have tk12 : True := trivial
  go_enter Tryd.func34, Tryd.ntmps34
  go_wp2_with fail
  go_region_held3 (fun w' => w'.cell? ⟨g, 0, none⟩ = some (.slice A n c) ∧ w'.cell? ⟨g, 1, none⟩ = some (.slice A1 n1 c1) ∧ w'.cell? ⟨w.heap.size, 0, none⟩ = some (.slice A3 n3 c3) ∧ w'.cell? ⟨w.heap.size, 1, none⟩ = some (.int .i64 T) ∧ w'.cell? ⟨w.heap.size, 2, none⟩ = some (.int .i64 C) ∧ w'.cell? ⟨w.heap.size, 3, none⟩ = some (.int .i64 L) ∧ w'.cell? ⟨w.heap.size, 4, none⟩ = some (.slice A4 n4 c4)) (((try dsimp only); (repeat' apply And.intro) <;> (first | assumption | (go_simp; done)))) (first
    | (go_at_call 49; have _t := tk1; (with_reducible refine (CP.out _ (by (repeat' (first | (with_reducible exact Below.refl _ _) | (with_reducible assumption) | (with_reducible refine below_ext0 ?_ _ _) | (with_reducible refine below_alloc0 ?_ _) | (with_reducible refine Below.ext ?_ ?_ _ _) | (with_reducible refine Below.alloc ?_ ?_ _) | (with_reducible refine Below.setCell ?_ ?_ _) | (with_reducible refine Below.drew ?_) | (with_reducible refine below_draws ?_ _) | go_size | (simp [size_ext]; done) | (simp [size_ext]; omega))))).mono ?_); rintro e w1 ⟨rfl, hb1⟩; have kx := (Blk.below (by (repeat' (first | (with_reducible exact Blk.new _ _ _) | (with_reducible assumption) | (with_reducible refine Blk.ext ?_ _ _) | (with_reducible refine Blk.drew ?_) | (with_reducible refine Blk.alloc ?_ _)))) hb1 (by simp) : Blk w1 w.heap.size 53 #[.slice A3 n3 c3, .int .i64 T, .int .i64 C, .int .i64 L, .slice A4 n4 c4]); have x0 : w1.cell? ⟨w.heap.size, 0, none⟩ = some (.slice A3 n3 c3) := kx.cell 0; have x1 : w1.cell? ⟨w.heap.size, 1, none⟩ = some (.int .i64 T) := kx.cell 1; have x2 : w1.cell? ⟨w.heap.size, 2, none⟩ = some (.int .i64 C) := kx.cell 2; have x3 : w1.cell? ⟨w.heap.size, 3, none⟩ = some (.int .i64 L) := kx.cell 3; have x4 : w1.cell? ⟨w.heap.size, 4, none⟩ = some (.slice A4 n4 c4) := kx.cell 4; have hB0 := HB.out; have hk := (Blk.below (by (repeat' (first | (with_reducible exact Blk.new _ _ _) | (with_reducible assumption) | (with_reducible refine Blk.ext ?_ _ _) | (with_reducible refine Blk.drew ?_) | (with_reducible refine Blk.alloc ?_ _)))) hb1 (by simp; omega) : Blk w1 g 85 (wrC A n c A1 n1 c1)); have kg0 : w1.cell? ⟨g, 0, none⟩ = some (.slice A n c) := hk.cell 0; have kg1 : w1.cell? ⟨g, 1, none⟩ = some (.slice A1 n1 c1) := hk.cell 1; have HB1 := hid (Below.trans (by (repeat' (first | (with_reducible exact Below.refl _ _) | (with_reducible assumption) | (with_reducible refine below_ext0 ?_ _ _) | (with_reducible refine below_alloc0 ?_ _) | (with_reducible refine Below.ext ?_ ?_ _ _) | (with_reducible refine Below.alloc ?_ ?_ _) | (with_reducible refine Below.setCell ?_ ?_ _) | (with_reducible refine Below.drew ?_) | (with_reducible refine below_draws ?_ _) | go_size | (simp [size_ext]; done) | (simp [size_ext]; omega)))) (hb1.mono (by simp)) : Below w.heap.size w w1); clear hb1 kx hk hB0 tk1))
  all_goals
    go_wp2
    go_ret
    exact ⟨rfl, HB1.out⟩
end Go.Proofs.YthccknobnpbdeaaDoor
/- rr: Read. -/
namespace Go.Proofs.YthccknobnpbdeaaDoor
open Go.RowKit
set_option linter.unusedVariables false
set_option linter.unusedSimpArgs false
attribute [local go_sem ↓] Go.wp_at_zero Go.wp_at_succ

set_option maxRecDepth 100000 in
set_option maxHeartbeats 4000000 in
theorem rread_ok {w : World} {A : Option Addr} {n c : Nat} {m : List UInt8} (hM : Rd u8R w w.heap.size A n c m) {at_ : Int} {l : List ByteArray} {p en : Nat} (hr : rrF m at_ = (0, l, p, en)) {k : Nat} (hk : l.length = k) {T C L : Int} {D : List UInt8} (hrec : recOf m l p en = (l, T, C, L, D, ())) {nd : Nat} (hd : D.length = nd) :
    Calls Tryd.prog 19 #[.slice A n c, .int .i64 at_] w fun e w' => ∃ A' c' A2 c2, e = .returned (.tuple #[.agg #[.slice A' k c', .int .i64 T, .int .i64 C, .int .i64 L, .slice A2 nd c2], .int .i64 (en : Int), .nilIface]) ∧ (Rd strR w' w'.heap.size A' k c' l ∧ Rd u8R w' w'.heap.size A2 nd c2 D) ∧ Below w.heap.size w w' := by
  obtain ⟨h1, h2, h3, h4⟩ := rrF_ok.1 hr
  have hn := hM.len
  have hcap := hM.cap
  have hmax := hM.max
  have hlim := hM.lim
  simp only [u8R, Nat.mul_one] at hlim
  unfold maxLen at hmax
  rw [hn] at h2 h4
  obtain ⟨b, o, rfl, lb⟩ := hM.addr (by omega)
  have CF := hid fun w' (hb : Below w.heap.size w w') => fixed_ok (hM.later hb) hr hk
  simp only [recOf, Prod.mk.injEq, true_and, and_true] at hrec
  obtain ⟨r1, r2, r3, r4⟩ := hrec
  have T1 := at2_le m p
  have T2 := at2_le m (p + 2)
  have T3 := at2_le m (p + 4)
  have T4 := at2_le m (p + 6)
  have CT0 := fun w' (hb : Below w.heap.size w w') => two_rr ((hM.later hb).dropB (k := p) (by omega)) (by omega) (at2_drop m p 0)
  have CT2 := fun w' (hb : Below w.heap.size w w') => two_rr ((hM.later hb).dropB (k := p + 2) (by omega)) (by omega) (at2_drop m (p + 2) 0)
  have CT4 := fun w' (hb : Below w.heap.size w w') => two_rr ((hM.later hb).dropB (k := p + 4) (by omega)) (by omega) (at2_drop m (p + 4) 0)
  have CT6 := fun w' (hb : Below w.heap.size w w') => two_rr ((hM.later hb).dropB (k := p + 6) (by omega)) (by omega) (at2_drop m (p + 6) 0)
  simp only [Nat.add_zero] at CT0 CT2 CT4 CT6
  have bo := b64_or (at2 m (p + 4) * 65536) (at2 m (p + 6)) (by omega) (by omega)
  rw [show at2 m (p + 4) * 65536 ||| at2 m (p + 6) = at2 m (p + 4) * 65536 + at2 m (p + 6) from or_low _ _ 16 (by omega)] at bo
  have bo' : bits .or .i64 ((at2 m (p + 4) : Nat) * 65536 : Int) (at2 m (p + 6) : Nat) = L := by rw [← r3]; simpa using bo
  have wl : IntKind.i64.wrap (((at2 m (p + 4) : Nat) : Int) * 65536) = ((at2 m (p + 4) : Nat) : Int) * 65536 := IntWalk.i64_in _ (by omega)
  have hD : en - (p + 10) = nd := by rw [← hd, ← r4, List.length_take, List.length_drop]; omega
  obtain ⟨SA, SC, hs, hrd⟩ := slice_two hM (i := p + 10) (j := en) (by omega) h4 (by omega) (a := (p : Int) + 10) (b := (en : Int)) (by omega) rfl
  rw [r4] at hrd
  rw [hD] at hs hrd
  have CC := fun w' (hb : Below w.heap.size w w') => clone_rd (hrd.below hb) (by omega)
  replace CC := hid CC
  generalize at2 m p = t0 at *
  generalize at2 m (p + 2) = t2 at *
  generalize at2 m (p + 4) = t4 at *
  generalize at2 m (p + 6) = t6 at *
  subst r1 r2
  rw [show p + 2 = ((p : Int) + 2).toNat by omega] at CT2
  rw [show p + 4 = ((p : Int) + 4).toNat by omega] at CT4
  rw [show p + 6 = ((p : Int) + 6).toNat by omega] at CT6
  have CT0 := hid CT0
  have CT2 := hid CT2
  have CT4 := hid CT4
  have CT6 := hid CT6
  have h3' : p + 10 ≤ en := by omega
  clear hr hM h1 h3 bo r3 r4 hrd hD hd
  have w2 : IntKind.i64.wrap ((p : Int) + 2) = (p : Int) + 2 := IntWalk.i64_in _ (by omega)
  have w4 : IntKind.i64.wrap ((p : Int) + 4) = (p : Int) + 4 := IntWalk.i64_in _ (by omega)
  have w6 : IntKind.i64.wrap ((p : Int) + 6) = (p : Int) + 6 := IntWalk.i64_in _ (by omega)
  have w10 : IntKind.i64.wrap ((p : Int) + 10) = (p : Int) + 10 := IntWalk.i64_in _ (by omega)
  have q0 : (p : Int) ≤ (n : Int) := by omega
  have q2 : (p : Int) + 2 ≤ (n : Int) := by omega
  have q4 : (p : Int) + 4 ≤ (n : Int) := by omega
  have q6 : (p : Int) + 6 ≤ (n : Int) := by omega
  have p0 : (0 : Int) ≤ (p : Int) := by omega
  have p2 : (0 : Int) ≤ (p : Int) + 2 := by omega
  have p4 : (0 : Int) ≤ (p : Int) + 4 := by omega
  have p6 : (0 : Int) ≤ (p : Int) + 6 := by omega
  have q0' : p ≤ n := by omega
  have q2' : p + 2 ≤ n := by omega
  have q4' : p + 4 ≤ n := by omega
  have q6' : p + 6 ≤ n := by omega
  have x0 : ¬ c = p := by omega
  have x2 : ¬ c = p + 2 := by omega
  have x4 : ¬ c = p + 4 := by omega
  have x6 : ¬ c = p + 6 := by omega
  have tk0 : True := trivial; have tk1 : True := trivial; have tk2 : True := trivial; have tk3 : True := trivial; have tk4 : True := trivial; have tk5 : True := trivial; have tk6 : True := trivial; have tk7 : True := trivial; have tk8 : True := trivial; have tk9 : True := trivial; have tk10 : True := trivial; have tk11 : True := trivial; have tk12 : True := trivial
  go_enter Tryd.func19, Tryd.ntmps19
  go_wp2_with (go_at_call 40; have _t := tk1; (with_reducible refine (CF.out _ (by (repeat' (first | (with_reducible exact Below.refl _ _) | (with_reducible assumption) | (with_reducible refine below_ext0 ?_ _ _) | (with_reducible refine below_alloc0 ?_ _) | (with_reducible refine Below.ext ?_ ?_ _ _) | (with_reducible refine Below.alloc ?_ ?_ _) | (with_reducible refine Below.setCell ?_ ?_ _) | (with_reducible refine Below.drew ?_) | (with_reducible refine below_draws ?_ _) | go_size | (simp [size_ext]; done) | (simp [size_ext]; omega))))).mono ?_); rintro e w1 ⟨Atk1, ctk1, rfl, hr, hb⟩; obtain ⟨otk1, dtk1, rfl⟩ := ext_of_below hb; (try simp only [ext_drew, ext_drewN] at hr); have R1 := hid hr; clear hr; clear hb tk1)
  go_region_held3 (fun _ => True) (trivial) (first
    | (go_at_call 41; have _t := tk2; (with_reducible refine (CT0.out _ (by (repeat' (first | (with_reducible exact Below.refl _ _) | (with_reducible assumption) | (with_reducible refine below_ext0 ?_ _ _) | (with_reducible refine below_alloc0 ?_ _) | (with_reducible refine Below.ext ?_ ?_ _ _) | (with_reducible refine Below.alloc ?_ ?_ _) | (with_reducible refine Below.setCell ?_ ?_ _) | (with_reducible refine Below.drew ?_) | (with_reducible refine below_draws ?_ _) | go_size | (simp [size_ext]; done) | (simp [size_ext]; omega))))).mono ?_); rintro e w1 ⟨rfl, hb⟩; obtain ⟨otk2, dtk2, rfl⟩ := ext_of_below hb; clear hb tk2)
    | (go_at_call 41; have _t := tk3; (with_reducible refine (CT2.out _ (by (repeat' (first | (with_reducible exact Below.refl _ _) | (with_reducible assumption) | (with_reducible refine below_ext0 ?_ _ _) | (with_reducible refine below_alloc0 ?_ _) | (with_reducible refine Below.ext ?_ ?_ _ _) | (with_reducible refine Below.alloc ?_ ?_ _) | (with_reducible refine Below.setCell ?_ ?_ _) | (with_reducible refine Below.drew ?_) | (with_reducible refine below_draws ?_ _) | go_size | (simp [size_ext]; done) | (simp [size_ext]; omega))))).mono ?_); rintro e w1 ⟨rfl, hb⟩; obtain ⟨otk3, dtk3, rfl⟩ := ext_of_below hb; clear hb tk3)
    | (go_at_call 41; have _t := tk4; (with_reducible refine (CT4.out _ (by (repeat' (first | (with_reducible exact Below.refl _ _) | (with_reducible assumption) | (with_reducible refine below_ext0 ?_ _ _) | (with_reducible refine below_alloc0 ?_ _) | (with_reducible refine Below.ext ?_ ?_ _ _) | (with_reducible refine Below.alloc ?_ ?_ _) | (with_reducible refine Below.setCell ?_ ?_ _) | (with_reducible refine Below.drew ?_) | (with_reducible refine below_draws ?_ _) | go_size | (simp [size_ext]; done) | (simp [size_ext]; omega))))).mono ?_); rintro e w1 ⟨rfl, hb⟩; obtain ⟨otk4, dtk4, rfl⟩ := ext_of_below hb; clear hb tk4)
    | (go_at_call 41; have _t := tk5; (with_reducible refine (CT6.out _ (by (repeat' (first | (with_reducible exact Below.refl _ _) | (with_reducible assumption) | (with_reducible refine below_ext0 ?_ _ _) | (with_reducible refine below_alloc0 ?_ _) | (with_reducible refine Below.ext ?_ ?_ _ _) | (with_reducible refine Below.alloc ?_ ?_ _) | (with_reducible refine Below.setCell ?_ ?_ _) | (with_reducible refine Below.drew ?_) | (with_reducible refine below_draws ?_ _) | go_size | (simp [size_ext]; done) | (simp [size_ext]; omega))))).mono ?_); rintro e w1 ⟨rfl, hb⟩; obtain ⟨otk5, dtk5, rfl⟩ := ext_of_below hb; clear hb tk5))
  all_goals
    clear CT0 CT2 CT4 CT6 w2 w4 w6 q0 q2 q4 q6 p0 p2 p4 p6 q0' q2' q4' q6' x0 x2 x4 x6 bo' wl T1 T2 T3 T4
    go_wp2_with (go_at_call 42; have _t := tk6; (with_reducible refine (CC.out _ (by (repeat' (first | (with_reducible exact Below.refl _ _) | (with_reducible assumption) | (with_reducible refine below_ext0 ?_ _ _) | (with_reducible refine below_alloc0 ?_ _) | (with_reducible refine Below.ext ?_ ?_ _ _) | (with_reducible refine Below.alloc ?_ ?_ _) | (with_reducible refine Below.setCell ?_ ?_ _) | (with_reducible refine Below.drew ?_) | (with_reducible refine below_draws ?_ _) | go_size | (simp [size_ext]; done) | (simp [size_ext]; omega))))).mono ?_); rintro e w1 ⟨Atk6, ctk6, rfl, hr, hb⟩; obtain ⟨otk6, dtk6, rfl⟩ := ext_of_below hb; (try simp only [ext_drew, ext_drewN] at hr); have R6 := hid hr; clear hr; clear hb tk6)
    refine bodyPost_ret (v := .tuple #[.agg #[.slice Atk1 k ctk1, .int .i64 (t0 : Int), .int .i64 (t2 : Int), .int .i64 L, .slice Atk6 nd ctk6], .int .i64 (en : Int), .nilIface]) (by simp [results, Tryd.results19, go_sem]) rfl ?_
    refine ⟨_, _, _, _, rfl, ⟨?_, ?_⟩, (by (repeat' (first | (with_reducible exact Below.refl _ _) | (with_reducible assumption) | (with_reducible refine below_ext0 ?_ _ _) | (with_reducible refine below_alloc0 ?_ _) | (with_reducible refine Below.ext ?_ ?_ _ _) | (with_reducible refine Below.alloc ?_ ?_ _) | (with_reducible refine Below.setCell ?_ ?_ _) | (with_reducible refine Below.drew ?_) | (with_reducible refine below_draws ?_ _) | go_size | (simp [size_ext]; done) | (simp [size_ext]; omega))))⟩
    · exact Rd.near_str R1.out (by (repeat' (first | ((with_reducible refine NearP.of_sim ?_); (repeat' (first | (with_reducible exact SimP.refl _ _) | (with_reducible refine SimP.ext ?_ _ _ _) | (with_reducible refine SimP.alloc ?_ _) | (with_reducible refine SimP.allocs ?_ _ _ _ ?_) | (with_reducible refine SimP.set ?_ _ _ _) | (with_reducible assumption) | (with_reducible refine FreeB.far ?_ ?_ _) | (with_reducible refine SimP.drew ?_) | (with_reducible refine SimP.drew' ?_) | (simp [IsStr, IsU8, IsI64]; done))); done) | (with_reducible refine NearP.ext ?_ _ _) | (with_reducible refine NearP.alloc ?_ _) | (with_reducible refine NearP.drew ?_))))
    · exact Rd.near_u8 R6.out (by (repeat' (first | ((with_reducible refine NearP.of_sim ?_); (repeat' (first | (with_reducible exact SimP.refl _ _) | (with_reducible refine SimP.ext ?_ _ _ _) | (with_reducible refine SimP.alloc ?_ _) | (with_reducible refine SimP.allocs ?_ _ _ _ ?_) | (with_reducible refine SimP.set ?_ _ _ _) | (with_reducible assumption) | (with_reducible refine FreeB.far ?_ ?_ _) | (with_reducible refine SimP.drew ?_) | (with_reducible refine SimP.drew' ?_) | (simp [IsStr, IsU8, IsI64]; done))); done) | (with_reducible refine NearP.ext ?_ _ _) | (with_reducible refine NearP.alloc ?_ _) | (with_reducible refine NearP.drew ?_))))
end Go.Proofs.YthccknobnpbdeaaDoor
/- records: how one lies in memory; are two the same; a record sent, as the laws meet it; a store into a row of the call's own. -/
namespace Go.Proofs.YthccknobnpbdeaaDoor
open Go.RowKit
set_option linter.unusedVariables false
set_option linter.unusedSimpArgs false

abbrev recR : Rep RecT := pairR (sliceR strR) (pairR intR (pairR intR (pairR intR (pairR (sliceR u8R) unitR))))
theorem opens_record : Opens Tryd.prog 53 recR := opens_struct Tryd.underlying53 rfl (by kernel_rfl) (fields_cons rfl (by kernel_rfl) (opens_slice Tryd.underlying46 (opens_str Tryd.underlying9) (by kernel_rfl) (by decide) (of_decide_eq_true (by kernel_rfl))) (fields_cons rfl (by kernel_rfl) (opens_int Tryd.underlying3) (fields_cons rfl (by kernel_rfl) (opens_int Tryd.underlying3) (fields_cons rfl (by kernel_rfl) (opens_int Tryd.underlying3) (fields_cons rfl (by kernel_rfl) (opens_slice Tryd.underlying22 (opens_u8 Tryd.underlying5) (by kernel_rfl) (by decide) (of_decide_eq_true (by kernel_rfl))) (fields_nil _))))))
theorem record_of {w : World} {B : Nat} {x : RecT} {cs : Array Value} (h : recR.rel w B x cs.toList) :
    ∃ A n c A' n' c' l T C L d, x = (l, T, C, L, d, ()) ∧ cs = #[.slice A n c, .int .i64 T, .int .i64 C, .int .i64 L, .slice A' n' c'] ∧ Rd strR w B A n c l ∧ (I64 T ∧ I64 C ∧ I64 L) ∧ Rd u8R w B A' n' c' d := by
  obtain ⟨l, T, C, L, d, u⟩ := x
  obtain ⟨_, _, e0, ⟨A, n, c, rfl, h1⟩, _, _, rfl, ⟨rfl, h2⟩, _, _, rfl, ⟨rfl, h3⟩, _, _, rfl, ⟨rfl, h4⟩, _, _, rfl, ⟨A', n', c', rfl, h5⟩, rfl⟩ := h
  exact ⟨A, n, c, A', n', c', l, T, C, L, d, rfl, by cases cs; simp_all, h1, ⟨h2, h3, h4⟩, h5⟩

theorem record_yes {w : World} {A1 : Option Addr} {n1 c1 B1 : Nat} {l : List ByteArray} {A2 : Option Addr} {n2 c2 B2 : Nat} {d : List UInt8} {A3 : Option Addr} {n3 c3 B3 : Nat} {A4 : Option Addr} {n4 c4 B4 : Nat} {T C L : Int} (h1 : Rd strR w B1 A1 n1 c1 l) (h2 : Rd u8R w B2 A2 n2 c2 d) (h3 : Rd strR w B3 A3 n3 c3 l) (h4 : Rd u8R w B4 A4 n4 c4 d)
    (z1 : B1 ≤ w.heap.size) (z2 : B2 ≤ w.heap.size) (z3 : B3 ≤ w.heap.size) (z4 : B4 ≤ w.heap.size) :
    Calls Tryd.prog 44 #[.agg #[.slice A1 n1 c1, .int .i64 T, .int .i64 C, .int .i64 L, .slice A2 n2 c2], .agg #[.slice A3 n3 c3, .int .i64 T, .int .i64 C, .int .i64 L, .slice A4 n4 c4]] w fun e w' => e = .returned (.bool true) ∧ Below w.heap.size w w' := by
  have q : ∀ {B : Nat} {w' : World}, B ≤ w.heap.size → Below w.heap.size w w' → Below B w w' := fun hB hb => hb.mono hB
  have CT := hid fun w' (hb : Below w.heap.size w w') => texts_yes (h1.below (q z1 hb)) (h3.below (q z3 hb))
  have CB := hid fun w' (hb : Below w.heap.size w w') => bytes_yes (h2.below (q z2 hb)) (h4.below (q z4 hb))
  clear h1 h2 h3 h4 q
  have tk0 : True := trivial; have tk1 : True := trivial; have tk2 : True := trivial; have tk3 : True := trivial; have tk4 : True := trivial; have tk5 : True := trivial; have tk6 : True := trivial; have tk7 : True := trivial; have tk8 : True := trivial; have tk9 : True := trivial; have tk10 : True := trivial; have tk11 : True := trivial; have tk12 : True := trivial
  go_enter Tryd.func44, Tryd.ntmps44
  go_wp2_with (first
    | (go_at_call 21; have _t := tk1; (with_reducible refine (CT.out _ (by (repeat' (first | (with_reducible exact Below.refl _ _) | (with_reducible assumption) | (with_reducible refine below_ext0 ?_ _ _) | (with_reducible refine below_alloc0 ?_ _) | (with_reducible refine Below.ext ?_ ?_ _ _) | (with_reducible refine Below.alloc ?_ ?_ _) | (with_reducible refine Below.setCell ?_ ?_ _) | (with_reducible refine Below.drew ?_) | (with_reducible refine below_draws ?_ _) | go_size | (simp [size_ext]; done) | (simp [size_ext]; omega))))).mono ?_); rintro e w1 ⟨rfl, hb⟩; obtain ⟨otk1, dtk1, rfl⟩ := ext_of_below hb; clear hb tk1)
    | (go_at_call 10; have _t := tk2; (with_reducible refine (CB.out _ (by (repeat' (first | (with_reducible exact Below.refl _ _) | (with_reducible assumption) | (with_reducible refine below_ext0 ?_ _ _) | (with_reducible refine below_alloc0 ?_ _) | (with_reducible refine Below.ext ?_ ?_ _ _) | (with_reducible refine Below.alloc ?_ ?_ _) | (with_reducible refine Below.setCell ?_ ?_ _) | (with_reducible refine Below.drew ?_) | (with_reducible refine below_draws ?_ _) | go_size | (simp [size_ext]; done) | (simp [size_ext]; omega))))).mono ?_); rintro e w1 ⟨rfl, hb⟩; obtain ⟨otk2, dtk2, rfl⟩ := ext_of_below hb; clear hb tk2))
  go_ret
  exact ⟨by simp, (by (repeat' (first | (with_reducible exact Below.refl _ _) | (with_reducible assumption) | (with_reducible refine below_ext0 ?_ _ _) | (with_reducible refine below_alloc0 ?_ _) | (with_reducible refine Below.ext ?_ ?_ _ _) | (with_reducible refine Below.alloc ?_ ?_ _) | (with_reducible refine Below.setCell ?_ ?_ _) | (with_reducible refine Below.drew ?_) | (with_reducible refine below_draws ?_ _) | go_size | (simp [size_ext]; done) | (simp [size_ext]; omega))))⟩

/-- a store into a row of the call's own -/
theorem own_set {w : World} {base g n cap : Nat} {e : TypeId} {xs : List Value} (h : w.ownsRow base e 1 (.slice (some ⟨g, 0, none⟩) n cap) n xs) (i : Nat) (u : Value) : (w.setCell ⟨g, i, none⟩ u).ownsRow base e 1 (.slice (some ⟨g, 0, none⟩) n cap) n (xs.set i u) := by
  refine ⟨by rw [List.length_set]; exact h.1, ?_⟩
  rcases h.2 with ⟨h1, _⟩ | ⟨g', cap', cur, h1, hb, hh, hn, hc, hs, ht⟩
  · cases h1
  · cases h1
    refine .inr ⟨g, cap, cur.setIfInBounds i u, rfl, hb, Blk.set (show Blk w g e cur from hh) i u, hn, hc, by simpa using hs, ?_⟩
    rw [Array.toList_setIfInBounds, List.take_set, ht]
theorem own_cell {w : World} {base g n cap : Nat} {e : TypeId} {xs : List Value} (h : w.ownsRow base e 1 (.slice (some ⟨g, 0, none⟩) n cap) n xs) (i : Nat) (hi : i < n) : ∃ u, w.cell? ⟨g, i, none⟩ = some u ∧ w.frozen? ⟨g, i, none⟩ = false := by
  rcases h.2 with ⟨h1, _⟩ | ⟨g', cap', cur, h1, hb, hh, hn, hc, hs, ht⟩
  · cases h1
  · cases h1
    have hk : Blk w g e cur := hh
    refine ⟨cur[i]'(by omega), ?_, hk.frozen i⟩
    rw [hk.cell, Array.getElem?_eq_getElem]
/-- the four stores of a TTL -/
@[reducible] def ttlW (w : World) (g a : Nat) (L : Int) : World := (((w.setCell ⟨g, a, none⟩ (.int .u8 (L / 16777216))).setCell ⟨g, a + 1, none⟩ (.int .u8 (L / 65536 % 256))).setCell ⟨g, a + 2, none⟩ (.int .u8 (L / 256 % 256))).setCell ⟨g, a + 3, none⟩ (.int .u8 (L % 256))
/-- another TTL stored in its place -/
theorem rd_ttl {w : World} {base g n cap : Nat} {P d : List UInt8} {T C L L' : Int} (ho : w.ownsRow base 5 1 (.slice (some ⟨g, 0, none⟩) n cap) n (bytesV (P ++ recTail T C L d))) (hb : base ≤ w.heap.size) (a : Nat) (ha : a = P.length + 4) (hL : 0 ≤ L' ∧ L' ≤ 4294967295) (hn : n ≤ 140737488355328) :
    Rd u8R (ttlW w g a L') (ttlW w g a L').heap.size (some ⟨g, 0, none⟩) n cap (P ++ recTail T C L' d) := by
  have h4 := own_set (own_set (own_set (own_set ho a (.int .u8 (L' / 16777216))) (a + 1) (.int .u8 (L' / 65536 % 256))) (a + 2) (.int .u8 (L' / 256 % 256))) (a + 3) (.int .u8 (L' % 256))
  have c : ∀ x : Int, 0 ≤ x → x ≤ 255 → Value.int .u8 x = Value.int .u8 ((UInt8.ofNat x.toNat).toNat : Int) := fun x h0 h1 => by congr 1; rw [UInt8.toNat_ofNat']; omega
  have hset := recB_ttl P d T C L L' a ha
  have e : (((((bytesV (P ++ recTail T C L d)).set a (.int .u8 (L' / 16777216))).set (a + 1) (.int .u8 (L' / 65536 % 256))).set (a + 2) (.int .u8 (L' / 256 % 256))).set (a + 3) (.int .u8 (L' % 256))) = bytesV (P ++ recTail T C L' d) := by
    rw [← hset, c (L' / 16777216) (by omega) (by omega), c (L' / 65536 % 256) (by omega) (by omega), c (L' / 256 % 256) (by omega) (by omega), c (L' % 256) (by omega) (by omega)]
    rw [show L' / 65536 / 256 % 256 = L' / 16777216 by omega, show L' % 65536 / 256 % 256 = L' / 256 % 256 by omega, show L' % 65536 % 256 = L' % 256 by omega]
    simp only [bytesV, List.map_set]
  rw [e] at h4
  have hl : (P ++ recTail T C L' d).length = n := by
    have := ho.1
    simp only [bytesV, List.length_map, List.length_append, recTail_len, Nat.mul_one] at this
    rw [List.length_append, recTail_len]; omega
  subst hl
  obtain ⟨A', c', he, hr⟩ := own_rd_u8 h4 (by simpa using hb) hn
  cases he
  exact hr

/-- a record sent, as the laws meet it -/
theorem rwrite_rd {w : World} {A : Option Addr} {n c : Nat} {m : List UInt8} (hM : Rd u8R w w.heap.size A n c m) {A1 : Option Addr} {n1 c1 : Nat} {ss : List Int} (hS : Rd intR w w.heap.size A1 n1 c1 ss) {A3 : Option Addr} {n3 c3 : Nat} {l : List ByteArray} (hL : Rd strR w w.heap.size A3 n3 c3 l) {T C L : Int} {A4 : Option Addr} {n4 c4 : Nat} {d : List UInt8} (hD : Rd u8R w w.heap.size A4 n4 c4 d)
    (hlim : n + 65536 + 512 ≤ 140737488355328) (hlim1 : n1 * 8 + 4096 ≤ 140737488355328) (hf : recErr (l, T, C, L, d, ()) = 0) {X : List UInt8} (hX : recB m ss (l, T, C, L, d, ()) = X) {Y : List Int} (hY : ss ++ packN m ss l m.length = Y) {k k2 : Nat} (hk : X.length = k) (hk2 : Y.length = k2) :
    Calls Tryd.prog 49 #[.slice A n c, .slice A1 n1 c1, .agg #[.slice A3 n3 c3, .int .i64 T, .int .i64 C, .int .i64 L, .slice A4 n4 c4]] w fun e w' => ∃ A' c' A2 c2, e = .returned (.tuple #[.slice A' k c', .slice A2 k2 c2, .nilIface]) ∧ (Rd u8R w' w'.heap.size A' k c' X ∧ Rd intR w' w'.heap.size A2 k2 c2 Y) ∧ Below w.heap.size w w' := by
  have hm := hM.len
  have hs := hS.len
  refine (rwrite_ok hM hS hL hD hlim hlim1 hf).mono ?_
  rintro e w' ⟨v, v', rfl, ho, hb⟩
  have h1 := ho.out
  have h2 := ho.all
  have h3 := ho.ints
  have h4 := ho.lenX
  have h5 := ho.lenY
  simp only at h2 h3 h5
  rw [hX] at h1 h4
  rw [hY] at h2 h3 h5
  subst hk hk2
  obtain ⟨A', c', rfl, hr⟩ := own_rd_u8 h1 hb.size (by omega)
  obtain ⟨A2, c2, rfl, hr2⟩ := own_rd_int h2 h3 hb.size (by omega)
  exact ⟨A', c', A2, c2, rfl, ⟨hr, hr2⟩, hb⟩
theorem rd_seven {w : World} {g : Nat} (t : TypeId) (hg : g = w.heap.size) : Rd u8R (w.alloc (.cells #[.int .u8 7] t)) (w.alloc (.cells #[.int .u8 7] t)).heap.size (some ⟨g, 0, none⟩) 1 1 [7] :=
  rd_lit t _ [7] 1 hg rfl rfl (by omega)
theorem fact_rr {w : World} {g : Nat} (t : TypeId) (hg : g = w.heap.size) : Calls Tryd.prog 49 #[.slice none 0 0, .slice none 0 0, .agg #[.slice none 0 0, .int .i64 1, .int .i64 0, .int .i64 0, .slice (some ⟨g, 0, none⟩) 1 1]] (w.alloc (.cells #[.int .u8 7] t)) fun e w' => ∃ A' c' A2 c2, e = .returned (.tuple #[.slice A' 12 c', .slice A2 0 c2, .nilIface]) ∧ (Rd u8R w' w'.heap.size A' 12 c' (recB [] [] ([], 1, 0, 0, [7], ())) ∧ Rd intR w' w'.heap.size A2 0 c2 []) ∧ Below (w.alloc (.cells #[.int .u8 7] t)).heap.size (w.alloc (.cells #[.int .u8 7] t)) w' :=
  rwrite_rd (rd_nil _ _) (rd_nil _ _) (rd_nil _ _) (rd_seven t hg) (by omega) (by omega) (by decide +kernel) rfl rfl rfl rfl
theorem sz_bytes (l : List UInt8) : (sliceR u8R).sz l = l.length + 1 := by
  show (l.map fun _ => 1).sum + 1 = _
  induction l with
  | nil => rfl
  | cons a l ih => simp at ih ⊢; omega
theorem sz_ints (l : List Int) : (sliceR intR).sz l = l.length + 1 := by
  show (l.map fun _ => 1).sum + 1 = _
  induction l with
  | nil => rfl
  | cons a l ih => simp at ih ⊢; omega
end Go.Proofs.YthccknobnpbdeaaDoor
/- The header's functions. -/
namespace Go.Proofs.YthccknobnpbdeaaDoor
open Go.RowKit
set_option linter.unusedVariables false
set_option linter.unusedSimpArgs false

theorem places_any (w : World) : Calls Tryd.prog 37 #[] w fun e w' => e = .returned (.agg #[.int .i64 15, .int .i64 10, .int .i64 9, .int .i64 8, .int .i64 7, .int .i64 6, .int .i64 5]) ∧ Below w.heap.size w w' := by
  go_enter Tryd.func37, Tryd.ntmps37
  go_wp2
  refine bodyPost_ret (v := .agg #[.int .i64 15, .int .i64 10, .int .i64 9, .int .i64 8, .int .i64 7, .int .i64 6, .int .i64 5]) (by simp [results, Tryd.results37, go_sem]) rfl ⟨rfl, ?_⟩
  (repeat' (first | (with_reducible exact Below.refl _ _) | (with_reducible assumption) | (with_reducible refine below_ext0 ?_ _ _) | (with_reducible refine below_alloc0 ?_ _) | (with_reducible refine Below.ext ?_ ?_ _ _) | (with_reducible refine Below.alloc ?_ ?_ _) | (with_reducible refine Below.setCell ?_ ?_ _) | (with_reducible refine Below.drew ?_) | (with_reducible refine below_draws ?_ _) | go_size | (simp [size_ext]; done) | (simp [size_ext]; omega)))

set_option maxHeartbeats 1000000 in
theorem flags_any (b o : Nat) (w : World) : Calls Tryd.prog 38 #[.pointer (some ⟨b, o, none⟩)] w fun e w' => e = .returned (.agg #[.pointer (some ⟨b, o + 1, none⟩), .pointer (some ⟨b, o + 3, none⟩), .pointer (some ⟨b, o + 4, none⟩), .pointer (some ⟨b, o + 5, none⟩), .pointer (some ⟨b, o + 6, none⟩), .pointer (some ⟨b, o + 7, none⟩), .pointer (some ⟨b, o + 8, none⟩)]) ∧ Below w.heap.size w w' := by
  go_enter Tryd.func38, Tryd.ntmps38
  go_wp2
  go_region
  all_goals
    go_wp2
    refine bodyPost_ret (v := .agg #[.pointer (some ⟨b, o + 1, none⟩), .pointer (some ⟨b, o + 3, none⟩), .pointer (some ⟨b, o + 4, none⟩), .pointer (some ⟨b, o + 5, none⟩), .pointer (some ⟨b, o + 6, none⟩), .pointer (some ⟨b, o + 7, none⟩), .pointer (some ⟨b, o + 8, none⟩)]) (by simp [results, Tryd.results38, go_sem]) rfl ⟨rfl, ?_⟩
    (repeat' (first | (with_reducible exact Below.refl _ _) | (with_reducible assumption) | (with_reducible refine below_ext0 ?_ _ _) | (with_reducible refine below_alloc0 ?_ _) | (with_reducible refine Below.ext ?_ ?_ _ _) | (with_reducible refine Below.alloc ?_ ?_ _) | (with_reducible refine Below.setCell ?_ ?_ _) | (with_reducible refine Below.drew ?_) | (with_reducible refine below_draws ?_ _) | go_size | (simp [size_ext]; done) | (simp [size_ext]; omega)))

/-- a header -/
structure Hd where
  id : Int
  an : Bool
  op : Int
  aa : Bool
  tc : Bool
  rd : Bool
  ra : Bool
  z : Bool
  ad : Bool
  cd : Bool
  code : Int
@[reducible] def hdCells (h : Hd) : Array Value := #[.int .i64 h.id, .bool h.an, .int .i64 h.op, .bool h.aa, .bool h.tc, .bool h.rd, .bool h.ra, .bool h.z, .bool h.ad, .bool h.cd, .int .i64 h.code]
structure HOk (h : Hd) : Prop where
  i0 : 0 ≤ h.id
  i1 : h.id ≤ 65535
  o0 : 0 ≤ h.op
  o1 : h.op ≤ 15
  c0 : 0 ≤ h.code
  c1 : h.code ≤ 15

/-- the word of flags, when k of seven are in -/
def flagOf (h : Hd) : Nat → Bool
  | 0 => h.an
  | 1 => h.aa
  | 2 => h.tc
  | 3 => h.rd
  | 4 => h.ra
  | 5 => h.z
  | _ => h.ad
def bitOf : Nat → Int
  | 0 => 32768
  | 1 => 1024
  | 2 => 512
  | 3 => 256
  | 4 => 128
  | 5 => 64
  | _ => 32
def wk (h : Hd) : Nat → Int
  | 0 => bits .or .i64 (h.op * 2048) h.code
  | k + 1 => if flagOf h k then bits .or .i64 (wk h k) (bitOf k) else wk h k

/-- the word of flags, whole -/
def word (h : Hd) : Int := if h.cd then bits .or .i64 (wk h 7) 16 else wk h 7

set_option maxRecDepth 100000 in
set_option maxHeartbeats 4000000 in
theorem hwrite_bad (h : Hd) (k : ¬ HOk h) (w : World) : Calls Tryd.prog 32 #[.agg (hdCells h)] w fun e w' => e = .returned (.tuple #[.slice none 0 0, .iface 29 (.int .i64 6)]) ∧ Below w.heap.size w w' := by
  obtain ⟨id, an, op, aa, tc, rd, ra, z, ad, cd, code⟩ := h
  have hways : id < 0 ∨ (0 ≤ id ∧ 65535 < id) ∨ ((0 ≤ id ∧ id ≤ 65535) ∧ (op < 0 ∨ (0 ≤ op ∧ 15 < op) ∨ ((0 ≤ op ∧ op ≤ 15) ∧ (code < 0 ∨ (0 ≤ code ∧ 15 < code))))) := by
    have : ¬ (0 ≤ id ∧ id ≤ 65535 ∧ 0 ≤ op ∧ op ≤ 15 ∧ 0 ≤ code ∧ code ≤ 15) := fun ⟨a, b, c, d, e, f⟩ => k ⟨a, b, c, d, e, f⟩
    omega
  clear k
  rcases hways with c | ⟨_, c⟩ | ⟨⟨_, _⟩, c | ⟨_, c⟩ | ⟨⟨_, _⟩, c | ⟨_, c⟩⟩⟩
  all_goals
    go_enter Tryd.func32, Tryd.ntmps32
    go_wp2
    go_ret2
    refine ⟨rfl, ?_⟩
    (repeat' (first | (with_reducible exact Below.refl _ _) | (with_reducible assumption) | (with_reducible refine below_ext0 ?_ _ _) | (with_reducible refine below_alloc0 ?_ _) | (with_reducible refine Below.ext ?_ ?_ _ _) | (with_reducible refine Below.alloc ?_ ?_ _) | (with_reducible refine Below.setCell ?_ ?_ _) | (with_reducible refine Below.drew ?_) | (with_reducible refine below_draws ?_ _) | go_size | (simp [size_ext]; done) | (simp [size_ext]; omega)))

set_option maxRecDepth 100000 in
set_option maxHeartbeats 4000000 in
theorem hwrite_ok (h : Hd) (k : HOk h) (w : World) : Calls Tryd.prog 32 #[.agg (hdCells h)] w fun e w' => ∃ g, e = .returned (.tuple #[.slice (some ⟨g, 0, none⟩) 4 4, .nilIface]) ∧ w.heap.size ≤ g ∧
    Blk w' g 5 #[.int .u8 (h.id / 256), .int .u8 (h.id % 256), .int .u8 (word h / 256 % 256), .int .u8 (word h % 256)] ∧ Below w.heap.size w w' := by
  obtain ⟨id, an, op, aa, tc, rd, ra, z, ad, cd, code⟩ := h
  obtain ⟨i0, i1, o0, o1, c0, c1⟩ := k
  simp only at i0 i1 o0 o1 c0 c1
  have CP := hid places_any
  go_enter Tryd.func32, Tryd.ntmps32
  go_wp2_with fail
  refine (CP.out _).mono ?_
  rintro e w1 ⟨rfl, hb⟩
  obtain ⟨os, d, rfl⟩ := ext_of_below hb
  clear hb
  go_wp2_with fail
  have hblk0 := hid (((Blk.new w 24 (hdCells ⟨id, an, op, aa, tc, rd, ra, z, ad, cd, code⟩)).ext os d))
  have hlow0 : Below w.heap.size w (ext (w.alloc (.cells (hdCells ⟨id, an, op, aa, tc, rd, ra, z, ad, cd, code⟩) 24)) os d) := by (repeat' (first | (with_reducible exact Below.refl _ _) | (with_reducible assumption) | (with_reducible refine below_ext0 ?_ _ _) | (with_reducible refine below_alloc0 ?_ _) | (with_reducible refine Below.ext ?_ ?_ _ _) | (with_reducible refine Below.alloc ?_ ?_ _) | (with_reducible refine Below.setCell ?_ ?_ _) | (with_reducible refine Below.drew ?_) | (with_reducible refine below_draws ?_ _) | go_size | (simp [size_ext]; done) | (simp [size_ext]; omega)))
  have HLOW0 := hid hlow0
  clear hlow0
  go_loopg [4, 43] 7 (fun kk v4 v43 wr => ∃ (k : Nat) (x : Int), k ≤ 7 ∧ kk = 7 - k ∧ v43 = .int .i64 k ∧ v4 = .int .i64 x ∧ x = wk ⟨id, an, op, aa, tc, rd, ra, z, ad, cd, code⟩ k ∧ Blk wr w.heap.size 24 (hdCells ⟨id, an, op, aa, tc, rd, ra, z, ad, cd, code⟩) ∧ Below w.heap.size w wr)
  case atStart => exact ⟨0, _, by omega, rfl, rfl, rfl, rfl, hblk0.out, HLOW0.out⟩
  case round =>
    obtain ⟨k, x, hk, rfl, rfl, rfl, hx, hb, hlow⟩ := hrel
    have HX := hid hx
    have HLOW := hid hlow
    have HB := hid hb
    have lb := hb.lt
    have cc := fun i => hb.cell i
    have c1 := cc 1
    have c3 := cc 3
    have c4 := cc 4
    have c5 := cc 5
    have c6 := cc 6
    have c7 := cc 7
    have c8 := cc 8
    have c9 := cc 9
    have c00 := cc 0
    simp only [hdCells] at c1 c3 c4 c5 c6 c7 c8 c9 c00
    simp at c1 c3 c4 c5 c6 c7 c8 c9 c00
    clear cc hx hb hlow hblk0 HLOW0 CP
    by_cases hk7 : k < 7
    · have hways : k = 0 ∨ k = 1 ∨ k = 2 ∨ k = 3 ∨ k = 4 ∨ k = 5 ∨ k = 6 := by omega
      rcases hways with rfl | rfl | rfl | rfl | rfl | rfl | rfl
      · have ix : ∀ w, (Instr.index 92 (.agg #[.int .i64 15, .int .i64 10, .int .i64 9, .int .i64 8, .int .i64 7, .int .i64 6, .int .i64 5]) (.int .i64 0)).run Tryd.prog w = .ok (.int .i64 15) w := fun _ => by kernel_rfl
        have iy : ∀ b w, (Instr.index 95 (.agg #[.pointer (some ⟨b, 0 + 1, none⟩), .pointer (some ⟨b, 0 + 3, none⟩), .pointer (some ⟨b, 0 + 4, none⟩), .pointer (some ⟨b, 0 + 5, none⟩), .pointer (some ⟨b, 0 + 6, none⟩), .pointer (some ⟨b, 0 + 7, none⟩), .pointer (some ⟨b, 0 + 8, none⟩)]) (.int .i64 0)).run Tryd.prog w = .ok (.pointer (some ⟨b, 0 + 1, none⟩)) w := fun _ _ => by kernel_rfl
        have CF := hid flags_any
        go_wp2_with fail
        refine (CF.out _ _ _).mono ?_
        rintro e w1 ⟨rfl, hb⟩
        obtain ⟨os, d, rfl⟩ := ext_of_below hb
        clear hb
        go_wp2
        all_goals
          go_roundg (7 - (0 + 1))
          case measure => omega
          case rel =>
            go_light
            refine ⟨0 + 1, _, by omega, rfl, by go_num, rfl, ?_, HB.out.ext _ _, HLOW.out.trans ((below_ext _ _ _).mono (Nat.le_of_lt lb))⟩
            rw [wk, ← HX.out]
            simp [flagOf, bitOf, *]
      · have ix : ∀ w, (Instr.index 92 (.agg #[.int .i64 15, .int .i64 10, .int .i64 9, .int .i64 8, .int .i64 7, .int .i64 6, .int .i64 5]) (.int .i64 1)).run Tryd.prog w = .ok (.int .i64 10) w := fun _ => by kernel_rfl
        have iy : ∀ b w, (Instr.index 95 (.agg #[.pointer (some ⟨b, 0 + 1, none⟩), .pointer (some ⟨b, 0 + 3, none⟩), .pointer (some ⟨b, 0 + 4, none⟩), .pointer (some ⟨b, 0 + 5, none⟩), .pointer (some ⟨b, 0 + 6, none⟩), .pointer (some ⟨b, 0 + 7, none⟩), .pointer (some ⟨b, 0 + 8, none⟩)]) (.int .i64 1)).run Tryd.prog w = .ok (.pointer (some ⟨b, 0 + 3, none⟩)) w := fun _ _ => by kernel_rfl
        have CF := hid flags_any
        go_wp2_with fail
        refine (CF.out _ _ _).mono ?_
        rintro e w1 ⟨rfl, hb⟩
        obtain ⟨os, d, rfl⟩ := ext_of_below hb
        clear hb
        go_wp2
        all_goals
          go_roundg (7 - (1 + 1))
          case measure => omega
          case rel =>
            go_light
            refine ⟨1 + 1, _, by omega, rfl, by go_num, rfl, ?_, HB.out.ext _ _, HLOW.out.trans ((below_ext _ _ _).mono (Nat.le_of_lt lb))⟩
            rw [wk, ← HX.out]
            simp [flagOf, bitOf, *]
      · have ix : ∀ w, (Instr.index 92 (.agg #[.int .i64 15, .int .i64 10, .int .i64 9, .int .i64 8, .int .i64 7, .int .i64 6, .int .i64 5]) (.int .i64 2)).run Tryd.prog w = .ok (.int .i64 9) w := fun _ => by kernel_rfl
        have iy : ∀ b w, (Instr.index 95 (.agg #[.pointer (some ⟨b, 0 + 1, none⟩), .pointer (some ⟨b, 0 + 3, none⟩), .pointer (some ⟨b, 0 + 4, none⟩), .pointer (some ⟨b, 0 + 5, none⟩), .pointer (some ⟨b, 0 + 6, none⟩), .pointer (some ⟨b, 0 + 7, none⟩), .pointer (some ⟨b, 0 + 8, none⟩)]) (.int .i64 2)).run Tryd.prog w = .ok (.pointer (some ⟨b, 0 + 4, none⟩)) w := fun _ _ => by kernel_rfl
        have CF := hid flags_any
        go_wp2_with fail
        refine (CF.out _ _ _).mono ?_
        rintro e w1 ⟨rfl, hb⟩
        obtain ⟨os, d, rfl⟩ := ext_of_below hb
        clear hb
        go_wp2
        all_goals
          go_roundg (7 - (2 + 1))
          case measure => omega
          case rel =>
            go_light
            refine ⟨2 + 1, _, by omega, rfl, by go_num, rfl, ?_, HB.out.ext _ _, HLOW.out.trans ((below_ext _ _ _).mono (Nat.le_of_lt lb))⟩
            rw [wk, ← HX.out]
            simp [flagOf, bitOf, *]
      · have ix : ∀ w, (Instr.index 92 (.agg #[.int .i64 15, .int .i64 10, .int .i64 9, .int .i64 8, .int .i64 7, .int .i64 6, .int .i64 5]) (.int .i64 3)).run Tryd.prog w = .ok (.int .i64 8) w := fun _ => by kernel_rfl
        have iy : ∀ b w, (Instr.index 95 (.agg #[.pointer (some ⟨b, 0 + 1, none⟩), .pointer (some ⟨b, 0 + 3, none⟩), .pointer (some ⟨b, 0 + 4, none⟩), .pointer (some ⟨b, 0 + 5, none⟩), .pointer (some ⟨b, 0 + 6, none⟩), .pointer (some ⟨b, 0 + 7, none⟩), .pointer (some ⟨b, 0 + 8, none⟩)]) (.int .i64 3)).run Tryd.prog w = .ok (.pointer (some ⟨b, 0 + 5, none⟩)) w := fun _ _ => by kernel_rfl
        have CF := hid flags_any
        go_wp2_with fail
        refine (CF.out _ _ _).mono ?_
        rintro e w1 ⟨rfl, hb⟩
        obtain ⟨os, d, rfl⟩ := ext_of_below hb
        clear hb
        go_wp2
        all_goals
          go_roundg (7 - (3 + 1))
          case measure => omega
          case rel =>
            go_light
            refine ⟨3 + 1, _, by omega, rfl, by go_num, rfl, ?_, HB.out.ext _ _, HLOW.out.trans ((below_ext _ _ _).mono (Nat.le_of_lt lb))⟩
            rw [wk, ← HX.out]
            simp [flagOf, bitOf, *]
      · have ix : ∀ w, (Instr.index 92 (.agg #[.int .i64 15, .int .i64 10, .int .i64 9, .int .i64 8, .int .i64 7, .int .i64 6, .int .i64 5]) (.int .i64 4)).run Tryd.prog w = .ok (.int .i64 7) w := fun _ => by kernel_rfl
        have iy : ∀ b w, (Instr.index 95 (.agg #[.pointer (some ⟨b, 0 + 1, none⟩), .pointer (some ⟨b, 0 + 3, none⟩), .pointer (some ⟨b, 0 + 4, none⟩), .pointer (some ⟨b, 0 + 5, none⟩), .pointer (some ⟨b, 0 + 6, none⟩), .pointer (some ⟨b, 0 + 7, none⟩), .pointer (some ⟨b, 0 + 8, none⟩)]) (.int .i64 4)).run Tryd.prog w = .ok (.pointer (some ⟨b, 0 + 6, none⟩)) w := fun _ _ => by kernel_rfl
        have CF := hid flags_any
        go_wp2_with fail
        refine (CF.out _ _ _).mono ?_
        rintro e w1 ⟨rfl, hb⟩
        obtain ⟨os, d, rfl⟩ := ext_of_below hb
        clear hb
        go_wp2
        all_goals
          go_roundg (7 - (4 + 1))
          case measure => omega
          case rel =>
            go_light
            refine ⟨4 + 1, _, by omega, rfl, by go_num, rfl, ?_, HB.out.ext _ _, HLOW.out.trans ((below_ext _ _ _).mono (Nat.le_of_lt lb))⟩
            rw [wk, ← HX.out]
            simp [flagOf, bitOf, *]
      · have ix : ∀ w, (Instr.index 92 (.agg #[.int .i64 15, .int .i64 10, .int .i64 9, .int .i64 8, .int .i64 7, .int .i64 6, .int .i64 5]) (.int .i64 5)).run Tryd.prog w = .ok (.int .i64 6) w := fun _ => by kernel_rfl
        have iy : ∀ b w, (Instr.index 95 (.agg #[.pointer (some ⟨b, 0 + 1, none⟩), .pointer (some ⟨b, 0 + 3, none⟩), .pointer (some ⟨b, 0 + 4, none⟩), .pointer (some ⟨b, 0 + 5, none⟩), .pointer (some ⟨b, 0 + 6, none⟩), .pointer (some ⟨b, 0 + 7, none⟩), .pointer (some ⟨b, 0 + 8, none⟩)]) (.int .i64 5)).run Tryd.prog w = .ok (.pointer (some ⟨b, 0 + 7, none⟩)) w := fun _ _ => by kernel_rfl
        have CF := hid flags_any
        go_wp2_with fail
        refine (CF.out _ _ _).mono ?_
        rintro e w1 ⟨rfl, hb⟩
        obtain ⟨os, d, rfl⟩ := ext_of_below hb
        clear hb
        go_wp2
        all_goals
          go_roundg (7 - (5 + 1))
          case measure => omega
          case rel =>
            go_light
            refine ⟨5 + 1, _, by omega, rfl, by go_num, rfl, ?_, HB.out.ext _ _, HLOW.out.trans ((below_ext _ _ _).mono (Nat.le_of_lt lb))⟩
            rw [wk, ← HX.out]
            simp [flagOf, bitOf, *]
      · have ix : ∀ w, (Instr.index 92 (.agg #[.int .i64 15, .int .i64 10, .int .i64 9, .int .i64 8, .int .i64 7, .int .i64 6, .int .i64 5]) (.int .i64 6)).run Tryd.prog w = .ok (.int .i64 5) w := fun _ => by kernel_rfl
        have iy : ∀ b w, (Instr.index 95 (.agg #[.pointer (some ⟨b, 0 + 1, none⟩), .pointer (some ⟨b, 0 + 3, none⟩), .pointer (some ⟨b, 0 + 4, none⟩), .pointer (some ⟨b, 0 + 5, none⟩), .pointer (some ⟨b, 0 + 6, none⟩), .pointer (some ⟨b, 0 + 7, none⟩), .pointer (some ⟨b, 0 + 8, none⟩)]) (.int .i64 6)).run Tryd.prog w = .ok (.pointer (some ⟨b, 0 + 8, none⟩)) w := fun _ _ => by kernel_rfl
        have CF := hid flags_any
        go_wp2_with fail
        refine (CF.out _ _ _).mono ?_
        rintro e w1 ⟨rfl, hb⟩
        obtain ⟨os, d, rfl⟩ := ext_of_below hb
        clear hb
        go_wp2
        all_goals
          go_roundg (7 - (6 + 1))
          case measure => omega
          case rel =>
            go_light
            refine ⟨6 + 1, _, by omega, rfl, by go_num, rfl, ?_, HB.out.ext _ _, HLOW.out.trans ((below_ext _ _ _).mono (Nat.le_of_lt lb))⟩
            rw [wk, ← HX.out]
            simp [flagOf, bitOf, *]
    · have k7 : k = 7 := by omega
      subst k7
      cases cd
      all_goals
        go_wp2
        refine bodyPost_ret (results_tmp2 rfl _ _ _) rfl ?_
        refine ⟨wr.heap.size, rfl, HLOW.out.size, ?_, ?_⟩
        · rw [word, ← HX.out]; exact Blk.new' _ _ rfl
        · exact HLOW.out.alloc (Nat.le_of_lt lb) _
end Go.Proofs.YthccknobnpbdeaaDoor
/- The header's Read. -/
namespace Go.Proofs.YthccknobnpbdeaaDoor
open Go.RowKit
set_option linter.unusedVariables false
set_option linter.unusedSimpArgs false

set_option maxRecDepth 100000 in
set_option maxHeartbeats 4000000 in
theorem read_short (A : Option Addr) (n c : Nat) (hn : n < 4) (w : World) : Calls Tryd.prog 15 #[.slice A n c] w fun e w' => e = .returned (.tuple #[.agg (hdCells ⟨0, false, 0, false, false, false, false, false, false, false, 0⟩), .iface 29 (.int .i64 2)]) ∧ Below w.heap.size w w' := by
  go_enter Tryd.func15, Tryd.ntmps15
  go_wp2
  refine bodyPost_ret (v := .tuple #[.agg (hdCells ⟨0, false, 0, false, false, false, false, false, false, false, 0⟩), .iface 29 (.int .i64 2)]) (by simp [results, Tryd.results15, go_sem]) rfl ⟨rfl, ?_⟩
  (repeat' (first | (with_reducible exact Below.refl _ _) | (with_reducible assumption) | (with_reducible refine below_ext0 ?_ _ _) | (with_reducible refine below_alloc0 ?_ _) | (with_reducible refine Below.ext ?_ ?_ _ _) | (with_reducible refine Below.alloc ?_ ?_ _) | (with_reducible refine Below.setCell ?_ ?_ _) | (with_reducible refine Below.drew ?_) | (with_reducible refine below_draws ?_ _) | go_size | (simp [size_ext]; done) | (simp [size_ext]; omega)))

theorem Blk.drewN {w : World} {g : Nat} {t : TypeId} {cs : Array Value} (h : Blk w g t cs) (n : Nat) : Blk (w.drewN n) g t cs := h
theorem below_drewN {B : Nat} {a w : World} (h : Below B a w) (n : Nat) : Below B a (w.drewN n) := ⟨h.os, h.tape, h.output, h.size, h.block⟩
/-- a bit of a word -/
def bitq (wd : Int) (p : Nat) : Bool := bits .and .i64 (wd / 2 ^ p) 1 == 1
/-- the header of a word, k of seven flags in -/
def fl (wd : Int) (p k i : Nat) : Bool := if i < k then bitq wd p else false
def hdK (id wd : Int) (k : Nat) : Hd := ⟨id, fl wd 15 k 0, bits .and .i64 (wd / 2048) 15, fl wd 10 k 1, fl wd 9 k 2, fl wd 8 k 3, fl wd 7 k 4, fl wd 6 k 5, fl wd 5 k 6, bits .and .i64 wd 16 != 0, bits .and .i64 wd 15⟩

set_option maxRecDepth 100000 in
set_option maxHeartbeats 4000000 in
theorem hread_ok (b o n c : Nat) (x0 x1 x2 x3 : Int) (hn : 4 ≤ n) (hc : n ≤ c) (hm : c ≤ 9223372036854775807) (w : World) (c0 : w.cell? ⟨b, o, none⟩ = some (.int .u8 x0)) (c1 : w.cell? ⟨b, o + 1, none⟩ = some (.int .u8 x1))
    (c2 : w.cell? ⟨b, o + 2, none⟩ = some (.int .u8 x2)) (c3 : w.cell? ⟨b, o + 3, none⟩ = some (.int .u8 x3)) (a0 : 0 ≤ x0) (b0 : x0 ≤ 255) (a1 : 0 ≤ x1) (b1 : x1 ≤ 255) (a2 : 0 ≤ x2) (b2 : x2 ≤ 255) (a3 : 0 ≤ x3) (b3 : x3 ≤ 255) :
    Calls Tryd.prog 15 #[.slice (some ⟨b, o, none⟩) n c] w fun e w' => e = .returned (.tuple #[.agg (hdCells (hdK (bits .or .i64 (x0 * 256) x1) (bits .or .i64 (x2 * 256) x3) 7)), .nilIface]) ∧ Below w.heap.size w w' := by
  have jn : 0 < n := by omega
  have j0 : (0 : Int) < (n : Int) := by omega
  have j1 : (1 : Int) < (n : Int) := by omega
  have j2 : (2 : Int) < (n : Int) := by omega
  have j3 : (3 : Int) < (n : Int) := by omega
  have lb : b < w.heap.size := World.block_lt_of_cell? w _ c0
  have CP := hid places_any
  go_enter Tryd.func15, Tryd.ntmps15
  go_wp2_with fail
  go_quiet (fail)
  go_upto_region 4 with fail
  go_region_held3 (fun w' => w'.cell? ⟨b, o, none⟩ = some (.int .u8 x0) ∧ w'.cell? ⟨b, o + 1, none⟩ = some (.int .u8 x1)) (go_keep) (fail)
  all_goals (go_wp2_with fail)
  generalize hwd : bits BinOp.or IntKind.i64 (x2 * 256) x3 = wd
  generalize hid' : bits BinOp.or IntKind.i64 (x0 * 256) x1 = id
  have HWD := hid hwd
  have HID := hid hid'
  clear hwd hid'
  clear c0 c1 c2 c3
  refine (CP.out _).mono ?_
  rintro e w1 ⟨rfl, hb⟩
  obtain ⟨os, d, rfl⟩ := ext_of_below hb
  clear hb
  go_wp2_with fail
  have hb0 := hid (show Blk (ext (((w.alloc (.cells (hdCells ⟨0, false, 0, false, false, false, false, false, false, false, 0⟩) 24)).drewN (nq + 1)).alloc (.cells (hdCells (hdK id wd 0)) 24)) os d) (w.heap.size + 1) 24 (hdCells (hdK id wd 0)) from
    (Blk.new' _ _ (by simp)).ext os d)
  have hz0 := hid (show Blk (ext (((w.alloc (.cells (hdCells ⟨0, false, 0, false, false, false, false, false, false, false, 0⟩) 24)).drewN (nq + 1)).alloc (.cells (hdCells (hdK id wd 0)) 24)) os d) w.heap.size 24 (hdCells ⟨0, false, 0, false, false, false, false, false, false, false, 0⟩) from
    ((Blk.new w _ _).drewN _).alloc _ |>.ext os d)
  have hl0 := hid (show Below w.heap.size w (ext (((w.alloc (.cells (hdCells ⟨0, false, 0, false, false, false, false, false, false, false, 0⟩) 24)).drewN (nq + 1)).alloc (.cells (hdCells (hdK id wd 0)) 24)) os d) from
    (((below_drewN ((Below.refl _ _).alloc (Nat.le_refl _) _) _).alloc (by simp) _).trans ((below_ext _ _ _).mono (by simp; omega))))
  go_loopg [43] 7 (fun kk v43 wr => ∃ (k : Nat), k ≤ 7 ∧ kk = 7 - k ∧ v43 = .int .i64 k ∧ Blk wr (w.heap.size + 1) 24 (hdCells (hdK id wd k)) ∧ Blk wr w.heap.size 24 (hdCells ⟨0, false, 0, false, false, false, false, false, false, false, 0⟩) ∧ Below w.heap.size w wr)
  case atStart => exact ⟨0, by omega, rfl, rfl, hb0.out, hz0.out, hl0.out⟩
  case round =>
    obtain ⟨k, hk, rfl, rfl, hb, hz, hlow⟩ := hrel
    have HLOW := hid hlow
    have HB := hid hb
    have HZ := hid hz
    have lbb := hb.lt
    have lbz := hz.lt
    have CF := hid flags_any
    clear hb hz hlow hb0 hz0 hl0 CP
    by_cases hk7 : k < 7
    · have hways : k = 0 ∨ k = 1 ∨ k = 2 ∨ k = 3 ∨ k = 4 ∨ k = 5 ∨ k = 6 := by omega
      rcases hways with rfl | rfl | rfl | rfl | rfl | rfl | rfl
      · have ix : ∀ w, (Instr.index 92 (.agg #[.int .i64 15, .int .i64 10, .int .i64 9, .int .i64 8, .int .i64 7, .int .i64 6, .int .i64 5]) (.int .i64 0)).run Tryd.prog w = .ok (.int .i64 15) w := fun _ => by kernel_rfl
        have iy : ∀ b w, (Instr.index 95 (.agg #[.pointer (some ⟨b, 0 + 1, none⟩), .pointer (some ⟨b, 0 + 3, none⟩), .pointer (some ⟨b, 0 + 4, none⟩), .pointer (some ⟨b, 0 + 5, none⟩), .pointer (some ⟨b, 0 + 6, none⟩), .pointer (some ⟨b, 0 + 7, none⟩), .pointer (some ⟨b, 0 + 8, none⟩)]) (.int .i64 0)).run Tryd.prog w = .ok (.pointer (some ⟨b, 0 + 1, none⟩)) w := fun _ _ => by kernel_rfl
        have cf := HB.out.cell 1
        have ff := HB.out.frozen 1
        simp [hdK, fl] at cf
        go_upto_region 8 with fail
        go_region_held3 (fun _ => True) (trivial) (first | (go_at_call 38; refine (CF.out _ _ _).mono ?_; rintro e w1 ⟨rfl, hbw⟩; obtain ⟨os, d, rfl⟩ := ext_of_below hbw; clear hbw))
        all_goals
          go_wp2
          go_roundg (7 - (0 + 1))
          case measure => omega
          case rel =>
            go_light
            have low := HLOW.out
            refine ⟨0 + 1, by omega, rfl, by go_num, ?_, ?_, ?_⟩
            · have h := (HB.out.set 1 (.bool (bitq wd 15))).ext os d
              simpa [hdK, fl, hdCells, bitq] using h
            · exact (HZ.out.far (by simp) _).ext _ _
            · (repeat' (first | (with_reducible exact Below.refl _ _) | (with_reducible assumption) | (with_reducible refine below_ext0 ?_ _ _) | (with_reducible refine below_alloc0 ?_ _) | (with_reducible refine Below.ext ?_ ?_ _ _) | (with_reducible refine Below.alloc ?_ ?_ _) | (with_reducible refine Below.setCell ?_ ?_ _) | (with_reducible refine Below.drew ?_) | (with_reducible refine below_draws ?_ _) | go_size | (simp [size_ext]; done) | (simp [size_ext]; omega)))
      · have ix : ∀ w, (Instr.index 92 (.agg #[.int .i64 15, .int .i64 10, .int .i64 9, .int .i64 8, .int .i64 7, .int .i64 6, .int .i64 5]) (.int .i64 1)).run Tryd.prog w = .ok (.int .i64 10) w := fun _ => by kernel_rfl
        have iy : ∀ b w, (Instr.index 95 (.agg #[.pointer (some ⟨b, 0 + 1, none⟩), .pointer (some ⟨b, 0 + 3, none⟩), .pointer (some ⟨b, 0 + 4, none⟩), .pointer (some ⟨b, 0 + 5, none⟩), .pointer (some ⟨b, 0 + 6, none⟩), .pointer (some ⟨b, 0 + 7, none⟩), .pointer (some ⟨b, 0 + 8, none⟩)]) (.int .i64 1)).run Tryd.prog w = .ok (.pointer (some ⟨b, 0 + 3, none⟩)) w := fun _ _ => by kernel_rfl
        have cf := HB.out.cell 3
        have ff := HB.out.frozen 3
        simp [hdK, fl] at cf
        go_upto_region 8 with fail
        go_region_held3 (fun _ => True) (trivial) (first | (go_at_call 38; refine (CF.out _ _ _).mono ?_; rintro e w1 ⟨rfl, hbw⟩; obtain ⟨os, d, rfl⟩ := ext_of_below hbw; clear hbw))
        all_goals
          go_wp2
          go_roundg (7 - (1 + 1))
          case measure => omega
          case rel =>
            go_light
            have low := HLOW.out
            refine ⟨1 + 1, by omega, rfl, by go_num, ?_, ?_, ?_⟩
            · have h := (HB.out.set 3 (.bool (bitq wd 10))).ext os d
              simpa [hdK, fl, hdCells, bitq] using h
            · exact (HZ.out.far (by simp) _).ext _ _
            · (repeat' (first | (with_reducible exact Below.refl _ _) | (with_reducible assumption) | (with_reducible refine below_ext0 ?_ _ _) | (with_reducible refine below_alloc0 ?_ _) | (with_reducible refine Below.ext ?_ ?_ _ _) | (with_reducible refine Below.alloc ?_ ?_ _) | (with_reducible refine Below.setCell ?_ ?_ _) | (with_reducible refine Below.drew ?_) | (with_reducible refine below_draws ?_ _) | go_size | (simp [size_ext]; done) | (simp [size_ext]; omega)))
      · have ix : ∀ w, (Instr.index 92 (.agg #[.int .i64 15, .int .i64 10, .int .i64 9, .int .i64 8, .int .i64 7, .int .i64 6, .int .i64 5]) (.int .i64 2)).run Tryd.prog w = .ok (.int .i64 9) w := fun _ => by kernel_rfl
        have iy : ∀ b w, (Instr.index 95 (.agg #[.pointer (some ⟨b, 0 + 1, none⟩), .pointer (some ⟨b, 0 + 3, none⟩), .pointer (some ⟨b, 0 + 4, none⟩), .pointer (some ⟨b, 0 + 5, none⟩), .pointer (some ⟨b, 0 + 6, none⟩), .pointer (some ⟨b, 0 + 7, none⟩), .pointer (some ⟨b, 0 + 8, none⟩)]) (.int .i64 2)).run Tryd.prog w = .ok (.pointer (some ⟨b, 0 + 4, none⟩)) w := fun _ _ => by kernel_rfl
        have cf := HB.out.cell 4
        have ff := HB.out.frozen 4
        simp [hdK, fl] at cf
        go_upto_region 8 with fail
        go_region_held3 (fun _ => True) (trivial) (first | (go_at_call 38; refine (CF.out _ _ _).mono ?_; rintro e w1 ⟨rfl, hbw⟩; obtain ⟨os, d, rfl⟩ := ext_of_below hbw; clear hbw))
        all_goals
          go_wp2
          go_roundg (7 - (2 + 1))
          case measure => omega
          case rel =>
            go_light
            have low := HLOW.out
            refine ⟨2 + 1, by omega, rfl, by go_num, ?_, ?_, ?_⟩
            · have h := (HB.out.set 4 (.bool (bitq wd 9))).ext os d
              simpa [hdK, fl, hdCells, bitq] using h
            · exact (HZ.out.far (by simp) _).ext _ _
            · (repeat' (first | (with_reducible exact Below.refl _ _) | (with_reducible assumption) | (with_reducible refine below_ext0 ?_ _ _) | (with_reducible refine below_alloc0 ?_ _) | (with_reducible refine Below.ext ?_ ?_ _ _) | (with_reducible refine Below.alloc ?_ ?_ _) | (with_reducible refine Below.setCell ?_ ?_ _) | (with_reducible refine Below.drew ?_) | (with_reducible refine below_draws ?_ _) | go_size | (simp [size_ext]; done) | (simp [size_ext]; omega)))
      · have ix : ∀ w, (Instr.index 92 (.agg #[.int .i64 15, .int .i64 10, .int .i64 9, .int .i64 8, .int .i64 7, .int .i64 6, .int .i64 5]) (.int .i64 3)).run Tryd.prog w = .ok (.int .i64 8) w := fun _ => by kernel_rfl
        have iy : ∀ b w, (Instr.index 95 (.agg #[.pointer (some ⟨b, 0 + 1, none⟩), .pointer (some ⟨b, 0 + 3, none⟩), .pointer (some ⟨b, 0 + 4, none⟩), .pointer (some ⟨b, 0 + 5, none⟩), .pointer (some ⟨b, 0 + 6, none⟩), .pointer (some ⟨b, 0 + 7, none⟩), .pointer (some ⟨b, 0 + 8, none⟩)]) (.int .i64 3)).run Tryd.prog w = .ok (.pointer (some ⟨b, 0 + 5, none⟩)) w := fun _ _ => by kernel_rfl
        have cf := HB.out.cell 5
        have ff := HB.out.frozen 5
        simp [hdK, fl] at cf
        go_upto_region 8 with fail
        go_region_held3 (fun _ => True) (trivial) (first | (go_at_call 38; refine (CF.out _ _ _).mono ?_; rintro e w1 ⟨rfl, hbw⟩; obtain ⟨os, d, rfl⟩ := ext_of_below hbw; clear hbw))
        all_goals
          go_wp2
          go_roundg (7 - (3 + 1))
          case measure => omega
          case rel =>
            go_light
            have low := HLOW.out
            refine ⟨3 + 1, by omega, rfl, by go_num, ?_, ?_, ?_⟩
            · have h := (HB.out.set 5 (.bool (bitq wd 8))).ext os d
              simpa [hdK, fl, hdCells, bitq] using h
            · exact (HZ.out.far (by simp) _).ext _ _
            · (repeat' (first | (with_reducible exact Below.refl _ _) | (with_reducible assumption) | (with_reducible refine below_ext0 ?_ _ _) | (with_reducible refine below_alloc0 ?_ _) | (with_reducible refine Below.ext ?_ ?_ _ _) | (with_reducible refine Below.alloc ?_ ?_ _) | (with_reducible refine Below.setCell ?_ ?_ _) | (with_reducible refine Below.drew ?_) | (with_reducible refine below_draws ?_ _) | go_size | (simp [size_ext]; done) | (simp [size_ext]; omega)))
      · have ix : ∀ w, (Instr.index 92 (.agg #[.int .i64 15, .int .i64 10, .int .i64 9, .int .i64 8, .int .i64 7, .int .i64 6, .int .i64 5]) (.int .i64 4)).run Tryd.prog w = .ok (.int .i64 7) w := fun _ => by kernel_rfl
        have iy : ∀ b w, (Instr.index 95 (.agg #[.pointer (some ⟨b, 0 + 1, none⟩), .pointer (some ⟨b, 0 + 3, none⟩), .pointer (some ⟨b, 0 + 4, none⟩), .pointer (some ⟨b, 0 + 5, none⟩), .pointer (some ⟨b, 0 + 6, none⟩), .pointer (some ⟨b, 0 + 7, none⟩), .pointer (some ⟨b, 0 + 8, none⟩)]) (.int .i64 4)).run Tryd.prog w = .ok (.pointer (some ⟨b, 0 + 6, none⟩)) w := fun _ _ => by kernel_rfl
        have cf := HB.out.cell 6
        have ff := HB.out.frozen 6
        simp [hdK, fl] at cf
        go_upto_region 8 with fail
        go_region_held3 (fun _ => True) (trivial) (first | (go_at_call 38; refine (CF.out _ _ _).mono ?_; rintro e w1 ⟨rfl, hbw⟩; obtain ⟨os, d, rfl⟩ := ext_of_below hbw; clear hbw))
        all_goals
          go_wp2
          go_roundg (7 - (4 + 1))
          case measure => omega
          case rel =>
            go_light
            have low := HLOW.out
            refine ⟨4 + 1, by omega, rfl, by go_num, ?_, ?_, ?_⟩
            · have h := (HB.out.set 6 (.bool (bitq wd 7))).ext os d
              simpa [hdK, fl, hdCells, bitq] using h
            · exact (HZ.out.far (by simp) _).ext _ _
            · (repeat' (first | (with_reducible exact Below.refl _ _) | (with_reducible assumption) | (with_reducible refine below_ext0 ?_ _ _) | (with_reducible refine below_alloc0 ?_ _) | (with_reducible refine Below.ext ?_ ?_ _ _) | (with_reducible refine Below.alloc ?_ ?_ _) | (with_reducible refine Below.setCell ?_ ?_ _) | (with_reducible refine Below.drew ?_) | (with_reducible refine below_draws ?_ _) | go_size | (simp [size_ext]; done) | (simp [size_ext]; omega)))
      · have ix : ∀ w, (Instr.index 92 (.agg #[.int .i64 15, .int .i64 10, .int .i64 9, .int .i64 8, .int .i64 7, .int .i64 6, .int .i64 5]) (.int .i64 5)).run Tryd.prog w = .ok (.int .i64 6) w := fun _ => by kernel_rfl
        have iy : ∀ b w, (Instr.index 95 (.agg #[.pointer (some ⟨b, 0 + 1, none⟩), .pointer (some ⟨b, 0 + 3, none⟩), .pointer (some ⟨b, 0 + 4, none⟩), .pointer (some ⟨b, 0 + 5, none⟩), .pointer (some ⟨b, 0 + 6, none⟩), .pointer (some ⟨b, 0 + 7, none⟩), .pointer (some ⟨b, 0 + 8, none⟩)]) (.int .i64 5)).run Tryd.prog w = .ok (.pointer (some ⟨b, 0 + 7, none⟩)) w := fun _ _ => by kernel_rfl
        have cf := HB.out.cell 7
        have ff := HB.out.frozen 7
        simp [hdK, fl] at cf
        go_upto_region 8 with fail
        go_region_held3 (fun _ => True) (trivial) (first | (go_at_call 38; refine (CF.out _ _ _).mono ?_; rintro e w1 ⟨rfl, hbw⟩; obtain ⟨os, d, rfl⟩ := ext_of_below hbw; clear hbw))
        all_goals
          go_wp2
          go_roundg (7 - (5 + 1))
          case measure => omega
          case rel =>
            go_light
            have low := HLOW.out
            refine ⟨5 + 1, by omega, rfl, by go_num, ?_, ?_, ?_⟩
            · have h := (HB.out.set 7 (.bool (bitq wd 6))).ext os d
              simpa [hdK, fl, hdCells, bitq] using h
            · exact (HZ.out.far (by simp) _).ext _ _
            · (repeat' (first | (with_reducible exact Below.refl _ _) | (with_reducible assumption) | (with_reducible refine below_ext0 ?_ _ _) | (with_reducible refine below_alloc0 ?_ _) | (with_reducible refine Below.ext ?_ ?_ _ _) | (with_reducible refine Below.alloc ?_ ?_ _) | (with_reducible refine Below.setCell ?_ ?_ _) | (with_reducible refine Below.drew ?_) | (with_reducible refine below_draws ?_ _) | go_size | (simp [size_ext]; done) | (simp [size_ext]; omega)))
      · have ix : ∀ w, (Instr.index 92 (.agg #[.int .i64 15, .int .i64 10, .int .i64 9, .int .i64 8, .int .i64 7, .int .i64 6, .int .i64 5]) (.int .i64 6)).run Tryd.prog w = .ok (.int .i64 5) w := fun _ => by kernel_rfl
        have iy : ∀ b w, (Instr.index 95 (.agg #[.pointer (some ⟨b, 0 + 1, none⟩), .pointer (some ⟨b, 0 + 3, none⟩), .pointer (some ⟨b, 0 + 4, none⟩), .pointer (some ⟨b, 0 + 5, none⟩), .pointer (some ⟨b, 0 + 6, none⟩), .pointer (some ⟨b, 0 + 7, none⟩), .pointer (some ⟨b, 0 + 8, none⟩)]) (.int .i64 6)).run Tryd.prog w = .ok (.pointer (some ⟨b, 0 + 8, none⟩)) w := fun _ _ => by kernel_rfl
        have cf := HB.out.cell 8
        have ff := HB.out.frozen 8
        simp [hdK, fl] at cf
        go_upto_region 8 with fail
        go_region_held3 (fun _ => True) (trivial) (first | (go_at_call 38; refine (CF.out _ _ _).mono ?_; rintro e w1 ⟨rfl, hbw⟩; obtain ⟨os, d, rfl⟩ := ext_of_below hbw; clear hbw))
        all_goals
          go_wp2
          go_roundg (7 - (6 + 1))
          case measure => omega
          case rel =>
            go_light
            have low := HLOW.out
            refine ⟨6 + 1, by omega, rfl, by go_num, ?_, ?_, ?_⟩
            · have h := (HB.out.set 8 (.bool (bitq wd 5))).ext os d
              simpa [hdK, fl, hdCells, bitq] using h
            · exact (HZ.out.far (by simp) _).ext _ _
            · (repeat' (first | (with_reducible exact Below.refl _ _) | (with_reducible assumption) | (with_reducible refine below_ext0 ?_ _ _) | (with_reducible refine below_alloc0 ?_ _) | (with_reducible refine Below.ext ?_ ?_ _ _) | (with_reducible refine Below.alloc ?_ ?_ _) | (with_reducible refine Below.setCell ?_ ?_ _) | (with_reducible refine Below.drew ?_) | (with_reducible refine below_draws ?_ _) | go_size | (simp [size_ext]; done) | (simp [size_ext]; omega)))
    · have k7 : k = 7 := by omega
      subst k7
      have gg := fun i => HB.out.cell i
      have zz := fun i => HZ.out.cell i
      have zf := fun i => HZ.out.frozen i
      have g0 := gg 0
      have z0 := zz 0
      have y0 := zf 0
      have g1 := gg 1
      have z1 := zz 1
      have y1 := zf 1
      have g2 := gg 2
      have z2 := zz 2
      have y2 := zf 2
      have g3 := gg 3
      have z3 := zz 3
      have y3 := zf 3
      have g4 := gg 4
      have z4 := zz 4
      have y4 := zf 4
      have g5 := gg 5
      have z5 := zz 5
      have y5 := zf 5
      have g6 := gg 6
      have z6 := zz 6
      have y6 := zf 6
      have g7 := gg 7
      have z7 := zz 7
      have y7 := zf 7
      have g8 := gg 8
      have z8 := zz 8
      have y8 := zf 8
      have g9 := gg 9
      have z9 := zz 9
      have y9 := zf 9
      have g10 := gg 10
      have z10 := zz 10
      have y10 := zf 10
      clear gg zz zf
      simp only [hdCells] at g0 z0 g1 z1 g2 z2 g3 z3 g4 z4 g5 z5 g6 z6 g7 z7 g8 z8 g9 z9 g10 z10
      simp at g0 z0 g1 z1 g2 z2 g3 z3 g4 z4 g5 z5 g6 z6 g7 z7 g8 z8 g9 z9 g10 z10
      have low := HLOW.out
      generalize hH : hdK id wd 7 = H at *
      have HH := hid hH
      clear hH
      go_wp2
      refine bodyPost_ret (v := .tuple #[.agg (hdCells H), .nilIface]) (by simp [results, Tryd.results15, go_sem, hdCells, z0, z1, z2, z3, z4, z5, z6, z7, z8, z9, z10]) rfl ⟨by rw [HWD.out, HID.out, HH.out], ?_⟩
      (repeat' (first | (with_reducible exact Below.refl _ _) | (with_reducible assumption) | (with_reducible refine below_ext0 ?_ _ _) | (with_reducible refine below_alloc0 ?_ _) | (with_reducible refine Below.ext ?_ ?_ _ _) | (with_reducible refine Below.alloc ?_ ?_ _) | (with_reducible refine Below.setCell ?_ ?_ _) | (with_reducible refine Below.drew ?_) | (with_reducible refine below_draws ?_ _) | go_size | (simp [size_ext]; done) | (simp [size_ext]; omega)))
end Go.Proofs.YthccknobnpbdeaaDoor
/- The header's plain law: four bytes, one header. No walk here. -/
namespace Go.Proofs.YthccknobnpbdeaaDoor
open Go.RowKit
set_option linter.unusedVariables false
set_option linter.unusedSimpArgs false

theorem ofInt64 (a : Nat) (ha : a < 9223372036854775808) : (BitVec.ofInt 64 (a : Int)).toNat = a := by
  rw [BitVec.ofInt_natCast, BitVec.toNat_ofNat]; exact Nat.mod_eq_of_lt (by omega)
theorem and64 (a b : Nat) (ha : a < 9223372036854775808) (hb : b < 9223372036854775808) : bits .and .i64 (a : Int) (b : Int) = ((a &&& b : Nat) : Int) := by
  have hx : a &&& b < 2 ^ 63 := Nat.and_lt_two_pow _ (by omega)
  show IntKind.i64.wrap ((BitVec.ofInt 64 (a : Int) &&& BitVec.ofInt 64 (b : Int)).toNat : Int) = _
  rw [BitVec.toNat_and, ofInt64 a ha, ofInt64 b hb, IntKind.wrap_i64]
  omega
theorem or64 (a b : Nat) (ha : a < 9223372036854775808) (hb : b < 9223372036854775808) : bits .or .i64 (a : Int) (b : Int) = ((a ||| b : Nat) : Int) := by
  have hx : a ||| b < 2 ^ 63 := Nat.or_lt_two_pow (by omega) (by omega)
  show IntKind.i64.wrap ((BitVec.ofInt 64 (a : Int) ||| BitVec.ofInt 64 (b : Int)).toNat : Int) = _
  rw [BitVec.toNat_or, ofInt64 a ha, ofInt64 b hb, IntKind.wrap_i64]
  omega
/-- two bytes as one number -/
theorem or256 (a b : Nat) (hb : b < 256) : a * 256 ||| b = a * 256 + b := by
  have := Nat.shiftLeft_add_eq_or_of_lt (i := 8) (b := b) hb a
  rw [Nat.shiftLeft_eq] at this
  exact this.symm
theorem and_low (a n : Nat) : a &&& (2 ^ n - 1) = a % 2 ^ n := Nat.and_two_pow_sub_one_eq_mod a n

/-- the word over Nat, in the order of the code -/
def wordN (o c : Nat) (an aa tc rd ra z ad cd : Bool) : Nat :=
  let a := o * 2048 ||| c
  let a := if an then a ||| 32768 else a
  let a := if aa then a ||| 1024 else a
  let a := if tc then a ||| 512 else a
  let a := if rd then a ||| 256 else a
  let a := if ra then a ||| 128 else a
  let a := if z then a ||| 64 else a
  let a := if ad then a ||| 32 else a
  if cd then a ||| 16 else a
def sumN (o c : Nat) (an aa tc rd ra z ad cd : Bool) : Nat :=
  o * 2048 + c + an.toNat * 32768 + aa.toNat * 1024 + tc.toNat * 512 + rd.toNat * 256 + ra.toNat * 128 + z.toNat * 64 + ad.toNat * 32 + cd.toNat * 16
theorem word_sum : ∀ o, o < 16 → ∀ c, c < 16 → ∀ an aa tc rd ra z ad cd, wordN o c an aa tc rd ra z ad cd = sumN o c an aa tc rd ra z ad cd := by decide +kernel

theorem word_eq (h : Hd) (k : HOk h) : word h = (sumN h.op.toNat h.code.toNat h.an h.aa h.tc h.rd h.ra h.z h.ad h.cd : Nat) := by
  obtain ⟨id, an, op, aa, tc, rd, ra, z, ad, cd, code⟩ := h
  obtain ⟨i0, i1, o0, o1, c0, c1⟩ := k
  simp only at *
  obtain ⟨o, rfl⟩ := Int.eq_ofNat_of_zero_le o0
  obtain ⟨c, rfl⟩ := Int.eq_ofNat_of_zero_le c0
  simp only [Int.toNat_natCast]
  rw [← word_sum o (by omega) c (by omega)]
  have step : ∀ (a b : Nat) (q : Bool), a < 65536 → b < 65536 → (if q then bits .or .i64 (a : Int) (b : Int) else (a : Int)) = ((if q then a ||| b else a : Nat) : Int) ∧ (if q then a ||| b else a) < 65536 := by
    intro a b q ha hb
    cases q
    · exact ⟨rfl, ha⟩
    · exact ⟨or64 a b (by omega) (by omega), Nat.or_lt_two_pow (n := 16) ha hb⟩
  have e0 : bits .or .i64 ((o : Int) * 2048) (c : Int) = ((o * 2048 ||| c : Nat) : Int) := by
    have := or64 (o * 2048) c (by omega) (by omega)
    simpa using this
  have l0 : o * 2048 ||| c < 65536 := Nat.or_lt_two_pow (n := 16) (by omega) (by omega)
  simp only [word, wk, flagOf, bitOf, wordN]
  rw [e0]
  have s1 := step _ 32768 an l0 (by omega)
  have s2 := step _ 1024 aa s1.2 (by omega)
  have s3 := step _ 512 tc s2.2 (by omega)
  have s4 := step _ 256 rd s3.2 (by omega)
  have s5 := step _ 128 ra s4.2 (by omega)
  have s6 := step _ 64 z s5.2 (by omega)
  have s7 := step _ 32 ad s6.2 (by omega)
  have s8 := step _ 16 cd s7.2 (by omega)
  rw [← s8.1, ← s7.1, ← s6.1, ← s5.1, ← s4.1, ← s3.1, ← s2.1, ← s1.1]
  rfl

theorem bool_toNat_le (b : Bool) : b.toNat ≤ 1 := by cases b <;> decide
theorem hd_ext {h g : Hd} (a : h.id = g.id) (b : h.an = g.an) (c : h.op = g.op) (d : h.aa = g.aa) (e : h.tc = g.tc) (f : h.rd = g.rd) (i : h.ra = g.ra) (j : h.z = g.z) (k : h.ad = g.ad) (l : h.cd = g.cd) (m : h.code = g.code) : h = g := by
  cases h; cases g; simp_all
theorem bitq_nat (w p : Nat) (hw : w < 65536) : bitq (w : Int) p = (w / 2 ^ p % 2 == 1) := by
  unfold bitq
  have e : ((w : Int) / 2 ^ p) = ((w / 2 ^ p : Nat) : Int) := by simp
  have hd : w / 2 ^ p ≤ w := Nat.div_le_self _ _
  rw [e, show ((1 : Int)) = ((1 : Nat) : Int) from rfl, and64 _ _ (by omega) (by omega), show (1 : Nat) = 2 ^ 1 - 1 from rfl, and_low]
  rw [Bool.eq_iff_iff]
  simp
  omega
theorem and16_two : ∀ a, a < 256 → ∀ b, b < 256 → ((a * 256 + b) &&& 16 != 0) = ((a * 256 + b) / 16 % 2 == 1) := by decide +kernel
theorem and16_all (w : Nat) (hw : w < 65536) : (w &&& 16 != 0) = (w / 16 % 2 == 1) := by
  have := and16_two (w / 256) (by omega) (w % 256) (by omega)
  rwa [show w / 256 * 256 + w % 256 = w by omega] at this
theorem and16_nat (w : Nat) (hw : w < 65536) : (bits .and .i64 (w : Int) 16 != 0) = (w / 16 % 2 == 1) := by
  rw [show ((16 : Int)) = ((16 : Nat) : Int) from rfl, and64 _ _ (by omega) (by omega), ← and16_all w hw, Bool.eq_iff_iff]
  simp
theorem hdK_nat (i w : Nat) (hi : i < 65536) (hw : w < 65536) : hdK (i : Int) (w : Int) 7 =
    ⟨i, w / 32768 % 2 == 1, ((w / 2048 % 16 : Nat) : Int), w / 1024 % 2 == 1, w / 512 % 2 == 1, w / 256 % 2 == 1, w / 128 % 2 == 1, w / 64 % 2 == 1, w / 32 % 2 == 1, w / 16 % 2 == 1, ((w % 16 : Nat) : Int)⟩ := by
  have e : ((w : Int) / 2048) = ((w / 2048 : Nat) : Int) := by simp
  refine hd_ext rfl ?_ ?_ ?_ ?_ ?_ ?_ ?_ ?_ ?_ ?_
  · exact bitq_nat w 15 hw
  · show bits .and .i64 ((w : Int) / 2048) 15 = _
    rw [e, show ((15 : Int)) = ((15 : Nat) : Int) from rfl, and64 _ _ (by omega) (by omega), show (15 : Nat) = 2 ^ 4 - 1 from rfl, and_low]
  · exact bitq_nat w 10 hw
  · exact bitq_nat w 9 hw
  · exact bitq_nat w 8 hw
  · exact bitq_nat w 7 hw
  · exact bitq_nat w 6 hw
  · exact bitq_nat w 5 hw
  · exact and16_nat w hw
  · show bits .and .i64 (w : Int) 15 = _
    rw [show ((15 : Int)) = ((15 : Nat) : Int) from rfl, and64 _ _ (by omega) (by omega), show (15 : Nat) = 2 ^ 4 - 1 from rfl, and_low]

set_option maxRecDepth 100000 in
/-- each header that may be is its bytes -/
theorem back_head (h : Hd) (k : HOk h) : hdK (bits .or .i64 (h.id / 256 * 256) (h.id % 256)) (bits .or .i64 (word h / 256 % 256 * 256) (word h % 256)) 7 = h ∧ 0 ≤ word h ∧ word h ≤ 65535 := by
  have hw := word_eq h k
  obtain ⟨id, an, op, aa, tc, rd, ra, z, ad, cd, code⟩ := h
  obtain ⟨i0, i1, o0, o1, c0, c1⟩ := k
  simp only at i0 i1 o0 o1 c0 c1 hw ⊢
  obtain ⟨o, rfl⟩ := Int.eq_ofNat_of_zero_le o0
  obtain ⟨c, rfl⟩ := Int.eq_ofNat_of_zero_le c0
  obtain ⟨i, rfl⟩ := Int.eq_ofNat_of_zero_le i0
  simp only [Int.toNat_natCast] at hw
  rw [hw]
  generalize hW : sumN o c an aa tc rd ra z ad cd = W
  unfold sumN at hW
  have q1 := bool_toNat_le an
  have q2 := bool_toNat_le aa
  have q3 := bool_toNat_le tc
  have q4 := bool_toNat_le rd
  have q5 := bool_toNat_le ra
  have q6 := bool_toNat_le z
  have q7 := bool_toNat_le ad
  have q8 := bool_toNat_le cd
  have hW1 : W < 65536 := by omega
  have e1 : bits .or .i64 ((i : Int) / 256 * 256) ((i : Int) % 256) = (i : Int) := by
    have := or64 (i / 256 * 256) (i % 256) (by omega) (by omega)
    rw [or256 _ _ (by omega)] at this
    have h2 : i / 256 * 256 + i % 256 = i := by omega
    rw [h2] at this
    simp only [Int.natCast_mul, Int.natCast_ediv, Int.natCast_emod] at this
    exact this
  have e2 : bits .or .i64 ((W : Int) / 256 % 256 * 256) ((W : Int) % 256) = (W : Int) := by
    have := or64 (W / 256 % 256 * 256) (W % 256) (by omega) (by omega)
    rw [or256 _ _ (by omega)] at this
    have h2 : W / 256 % 256 * 256 + W % 256 = W := by omega
    rw [h2] at this
    simp only [Int.natCast_mul, Int.natCast_ediv, Int.natCast_emod] at this
    exact this
  rw [e1, e2, hdK_nat i W (by omega) hW1]
  have tb : ∀ (b : Bool) (n : Nat), n = b.toNat → (n == 1) = b := by intro b n h; subst h; cases b <;> rfl
  refine ⟨hd_ext rfl (tb _ _ (by dsimp only; omega)) (by simp only; omega) (tb _ _ (by dsimp only; omega)) (tb _ _ (by dsimp only; omega)) (tb _ _ (by dsimp only; omega)) (tb _ _ (by dsimp only; omega)) (tb _ _ (by dsimp only; omega)) (tb _ _ (by dsimp only; omega)) (tb _ _ (by dsimp only; omega)) (by simp only; omega), by omega, by omega⟩

set_option maxRecDepth 100000 in
/-- any four bytes are those of their header -/
theorem back_bytes (x0 x1 x2 x3 : Nat) (h0 : x0 < 256) (h1 : x1 < 256) (h2 : x2 < 256) (h3 : x3 < 256) :
    ∃ h, hdK (bits .or .i64 ((x0 : Int) * 256) x1) (bits .or .i64 ((x2 : Int) * 256) x3) 7 = h ∧ HOk h ∧ h.id / 256 = x0 ∧ h.id % 256 = x1 ∧ word h / 256 % 256 = x2 ∧ word h % 256 = x3 := by
  have e1 : bits .or .i64 ((x0 : Int) * 256) (x1 : Int) = ((x0 * 256 + x1 : Nat) : Int) := by
    have := or64 (x0 * 256) x1 (by omega) (by omega)
    rw [or256 _ _ h1] at this
    rw [← this, Int.natCast_mul]; rfl
  have e2 : bits .or .i64 ((x2 : Int) * 256) (x3 : Int) = ((x2 * 256 + x3 : Nat) : Int) := by
    have := or64 (x2 * 256) x3 (by omega) (by omega)
    rw [or256 _ _ h3] at this
    rw [← this, Int.natCast_mul]; rfl
  generalize hi : x0 * 256 + x1 = i at *
  generalize hw : x2 * 256 + x3 = w at *
  refine ⟨_, rfl, ?_⟩
  rw [e1, e2, hdK_nat i w (by omega) (by omega)]
  have k : HOk ⟨i, w / 32768 % 2 == 1, ((w / 2048 % 16 : Nat) : Int), w / 1024 % 2 == 1, w / 512 % 2 == 1, w / 256 % 2 == 1, w / 128 % 2 == 1, w / 64 % 2 == 1, w / 32 % 2 == 1, w / 16 % 2 == 1, ((w % 16 : Nat) : Int)⟩ :=
    ⟨by simp only; omega, by simp only; omega, by simp only; omega, by simp only; omega, by simp only; omega, by simp only; omega⟩
  have hW := word_eq _ k
  have hs : sumN (w / 2048 % 16) (w % 16) (w / 32768 % 2 == 1) (w / 1024 % 2 == 1) (w / 512 % 2 == 1) (w / 256 % 2 == 1) (w / 128 % 2 == 1) (w / 64 % 2 == 1) (w / 32 % 2 == 1) (w / 16 % 2 == 1) = w := by
    have tb : ∀ n, n < 2 → (n == 1).toNat = n := by intro n h; have : n = 0 ∨ n = 1 := by omega
                                                    rcases this with rfl | rfl <;> rfl
    unfold sumN
    rw [tb _ (by omega), tb _ (by omega), tb _ (by omega), tb _ (by omega), tb _ (by omega), tb _ (by omega), tb _ (by omega), tb _ (by omega)]
    omega
  simp only [Int.toNat_natCast, hs] at hW
  rw [hW]
  exact ⟨k, by simp only; omega, by simp only; omega, by omega, by omega⟩
end Go.Proofs.YthccknobnpbdeaaDoor
/- A header that came in; the bytes that Write makes of one. -/
namespace Go.Proofs.YthccknobnpbdeaaDoor
open Go.RowKit
set_option linter.unusedVariables false
set_option linter.unusedSimpArgs false

abbrev headerR : Rep (Int × Bool × Int × Bool × Bool × Bool × Bool × Bool × Bool × Bool × Int × Unit) :=
  pairR intR (pairR boolR (pairR intR (pairR boolR (pairR boolR (pairR boolR (pairR boolR (pairR boolR (pairR boolR (pairR boolR (pairR intR unitR))))))))))
theorem opens_header : Opens Tryd.prog 24 headerR := opens_struct Tryd.underlying24 rfl (by kernel_rfl)
  (fields_cons rfl (by kernel_rfl) (opens_int Tryd.underlying3) (fields_cons rfl (by kernel_rfl) (opens_bool Tryd.underlying4) (fields_cons rfl (by kernel_rfl) (opens_int Tryd.underlying3) (fields_cons rfl (by kernel_rfl) (opens_bool Tryd.underlying4) (fields_cons rfl (by kernel_rfl) (opens_bool Tryd.underlying4) (fields_cons rfl (by kernel_rfl) (opens_bool Tryd.underlying4)
    (fields_cons rfl (by kernel_rfl) (opens_bool Tryd.underlying4) (fields_cons rfl (by kernel_rfl) (opens_bool Tryd.underlying4) (fields_cons rfl (by kernel_rfl) (opens_bool Tryd.underlying4) (fields_cons rfl (by kernel_rfl) (opens_bool Tryd.underlying4) (fields_cons rfl (by kernel_rfl) (opens_int Tryd.underlying3) (fields_nil _))))))))))))
theorem header_of {w : World} {B : Nat} {x : Int × Bool × Int × Bool × Bool × Bool × Bool × Bool × Bool × Bool × Int × Unit} {cs : Array Value} (h : headerR.rel w B x cs.toList) : ∃ h : Hd, cs = hdCells h := by
  obtain ⟨_, _, e0, ⟨rfl, h1⟩, _, _, rfl, rfl, _, _, rfl, ⟨rfl, h2⟩, _, _, rfl, rfl, _, _, rfl, rfl, _, _, rfl, rfl, _, _, rfl, rfl, _, _, rfl, rfl, _, _, rfl, rfl, _, _, rfl, rfl, _, _, rfl, ⟨rfl, h3⟩, rfl⟩ := h
  exact ⟨⟨x.1, x.2.1, x.2.2.1, x.2.2.2.1, x.2.2.2.2.1, x.2.2.2.2.2.1, x.2.2.2.2.2.2.1, x.2.2.2.2.2.2.2.1, x.2.2.2.2.2.2.2.2.1, x.2.2.2.2.2.2.2.2.2.1, x.2.2.2.2.2.2.2.2.2.2.1⟩, by cases cs; simpa [hdCells] using e0⟩

/-- what Write's bytes are, as bytes -/
theorem byte_of (x : Int) (h0 : 0 ≤ x) (h1 : x ≤ 255) : ∃ b : UInt8, x = (b.toNat : Int) := ⟨UInt8.ofNat x.toNat, by simp only [UInt8.toNat_ofNat']; omega⟩

/-- Write, of a header that may be: four bytes, of which Read makes it again -/
theorem write_read (h : Hd) (k : HOk h) : ∃ l : List UInt8, l.length = 4 ∧ (∀ w, Calls Tryd.prog 32 #[.agg (hdCells h)] w fun e w' => ∃ g, e = .returned (.tuple #[.slice (some ⟨g, 0, none⟩) 4 4, .nilIface]) ∧ w.heap.size ≤ g ∧
      Rd u8R w' w'.heap.size (some ⟨g, 0, none⟩) 4 4 l ∧ Below w.heap.size w w') ∧
    (l.map fun b => (b.toNat : Int)) = [h.id / 256, h.id % 256, word h / 256 % 256, word h % 256] ∧
    (∀ (w : World) (g : Nat), Rd u8R w w.heap.size (some ⟨g, 0, none⟩) 4 4 l → Calls Tryd.prog 15 #[.slice (some ⟨g, 0, none⟩) 4 4] w fun e w' => e = .returned (.tuple #[.agg (hdCells h), .nilIface]) ∧ Below w.heap.size w w') := by
  obtain ⟨hb, w0, w1⟩ := back_head h k
  have i0 := k.i0
  have i1 := k.i1
  obtain ⟨b0, e0⟩ := byte_of (h.id / 256) (by omega) (by omega)
  obtain ⟨b1, e1⟩ := byte_of (h.id % 256) (by omega) (by omega)
  obtain ⟨b2, e2⟩ := byte_of (word h / 256 % 256) (by omega) (by omega)
  obtain ⟨b3, e3⟩ := byte_of (word h % 256) (by omega) (by omega)
  refine ⟨[b0, b1, b2, b3], rfl, fun w => ?_, by simp [e0, e1, e2, e3], fun w g hr => ?_⟩
  · refine (hwrite_ok h k w).mono ?_
    rintro e w' ⟨g, he, hg, hblk, hlow⟩
    exact ⟨g, he, hg, rd_of_blk [b0, b1, b2, b3] hblk (by simp [e0, e1, e2, e3]) (by simp), hlow⟩
  · have cell : ∀ i (hi : i < 4), w.cell? ⟨g, i, none⟩ = some (.int .u8 (([b0, b1, b2, b3][i]'(by simpa using hi)).toNat : Int)) := by
      intro i hi
      obtain ⟨b, o, e, _, hc⟩ := hr.u8 i hi
      injection e with e
      injection e with e1 e2
      subst e1 e2
      simpa using hc
    have r := hread_ok g 0 4 4 (h.id / 256) (h.id % 256) (word h / 256 % 256) (word h % 256) (Nat.le_refl _) (Nat.le_refl _) (by omega) w
      (by rw [e0]; simpa using cell 0 (by omega)) (by rw [e1]; simpa using cell 1 (by omega)) (by rw [e2]; simpa using cell 2 (by omega)) (by rw [e3]; simpa using cell 3 (by omega))
      (by omega) (by omega) (by omega) (by omega) (by omega) (by omega) (by omega) (by omega)
    rwa [hb] at r

end Go.Proofs.YthccknobnpbdeaaDoor
