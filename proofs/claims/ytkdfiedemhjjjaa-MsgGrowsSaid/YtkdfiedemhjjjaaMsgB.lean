/- msg: the writer's question and record, where they may not be. -/
import Derived.Test.YtkdfiedemhjjjaaMsgA
namespace Go.Proofs.Ytkdfiedemhjjjaa
open Go.RowKit
set_option linter.unusedVariables false

set_option maxRecDepth 100000 in
set_option maxHeartbeats 4000000 in
theorem wquestion_bad {w : World} {g : Nat} {A : Option Addr} {n c : Nat} {A1 : Option Addr} {n1 c1 : Nat} (hB : Blk w g 88 (wrC A n c A1 n1 c1)) {b : List UInt8} (hM : Rd u8R w w.heap.size A n c b) {ss : List Int} (hS : Rd intR w w.heap.size A1 n1 c1 ss) {A3 : Option Addr} {n3 c3 : Nat} {l : List ByteArray} (hL : Rd strR w w.heap.size A3 n3 c3 l) {T C : Int} (hT : I64 T) (hC : I64 C)
    (hlim : n + 65536 + 512 ≤ 140737488355328) (hlim1 : n1 * 8 + 4096 ≤ 140737488355328) {k : Int} (hf : qErr (l, T, C, ()) = k) (hk : k ≠ 0) :
    Calls Try.prog 34 #[.pointer (some ⟨g, 0, none⟩), .agg #[.slice A3 n3 c3, .int .i64 T, .int .i64 C]] w fun e w' => e = .returned (.iface 65 (.int .i64 k)) ∧ Below w.heap.size w w' := by
  have hg := hB.lt
  have HB := hid hB
  have c0 : w.cell? ⟨g, 0, none⟩ = some (.slice A n c) := hB.cell 0
  have c1' : w.cell? ⟨g, 1, none⟩ = some (.slice A1 n1 c1) := hB.cell 1
  obtain ⟨a1, a2⟩ := hT
  obtain ⟨b1, b2⟩ := hC
  by_cases h0 : nameErr l = 0
  · have CP : ∀ w', Below w.heap.size w w' → Calls Try.prog 28 #[.slice A n c, .slice A1 n1 c1, .slice A3 n3 c3] w' fun e w2 => ∃ A2 n2 c2 A' n' c', e = .returned (.tuple #[.slice A2 n2 c2, .slice A' n' c', .nilIface]) ∧ Below w'.heap.size w' w2 := fun w' hb => by
      refine (pack_own w' A n c b (hM.later hb) A1 n1 c1 ss (hS.later hb) A3 n3 c3 l (hL.later hb) (by omega) (by omega)).mono ?_
      rintro e w2 ⟨hb2, he⟩
      rw [if_pos h0] at he
      obtain ⟨v, v', he, ho⟩ := he
      obtain ⟨A', c', rfl, _⟩ := own_slice ho.all
      obtain ⟨A2, c2, rfl, _⟩ := own_slice ho.out
      exact ⟨A2, _, c2, A', _, c', he, hb2⟩
    replace CP := hid CP
    have ways : k = 6 ∧ ((T < 0) ∨ (0 ≤ T ∧ 65535 < T) ∨ (0 ≤ T ∧ T ≤ 65535 ∧ C < 0) ∨ (0 ≤ T ∧ T ≤ 65535 ∧ 0 ≤ C ∧ 65535 < C)) := by
      unfold qErr at hf
      rw [if_pos h0] at hf
      simp only at hf
      split at hf
      · exact absurd hf.symm hk
      · exact ⟨hf.symm, by omega⟩
    clear hf hk h0 hM hS hL hB
    obtain ⟨rfl, h⟩ := ways
    rcases h with q1 | ⟨q1, q2⟩ | ⟨q1, q2, q3⟩ | ⟨q1, q2, q3, q4⟩
    all_goals
      try (have p0 : ¬ (T < 0) := by omega)
      try (have p0 : T < 0 := by omega)
      try (have e0 : decide (T < 0) = false := decide_eq_false (by omega))
      try (have e0 : decide (T < 0) = true := decide_eq_true (by omega))
      try (have p1 : ¬ (65535 < T) := by omega)
      try (have p1 : 65535 < T := by omega)
      try (have e1 : decide (65535 < T) = false := decide_eq_false (by omega))
      try (have e1 : decide (65535 < T) = true := decide_eq_true (by omega))
      try (have p2 : ¬ (C < 0) := by omega)
      try (have p2 : C < 0 := by omega)
      try (have e2 : decide (C < 0) = false := decide_eq_false (by omega))
      try (have e2 : decide (C < 0) = true := decide_eq_true (by omega))
      try (have p3 : ¬ (65535 < C) := by omega)
      try (have p3 : 65535 < C := by omega)
      try (have e3 : decide (65535 < C) = false := decide_eq_false (by omega))
      try (have e3 : decide (65535 < C) = true := decide_eq_true (by omega))
      have tk0 : True := trivial; have tk1 : True := trivial; have tk2 : True := trivial; have tk3 : True := trivial; have tk4 : True := trivial; have tk5 : True := trivial; have tk6 : True := trivial; have tk7 : True := trivial; have tk8 : True := trivial; have tk9 : True := trivial; have tk10 : True := trivial; have tk11 : True := trivial; have tk12 : True := trivial
      go_enter Try.func34, Try.ntmps34
      go_wp2_with fail
      go_region_held3 (fun w' => w'.cell? ⟨g, 0, none⟩ = some (.slice A n c) ∧ w'.cell? ⟨g, 1, none⟩ = some (.slice A1 n1 c1) ∧ w'.cell? ⟨w.heap.size, 0, none⟩ = some (.slice A3 n3 c3)) (((try dsimp only); (repeat' apply And.intro) <;> (first | assumption | (go_simp; done)))) (first
        | (go_at_call 28; have _t := tk1; (with_reducible refine (CP.out _ (by (repeat' (first | (with_reducible exact Below.refl _ _) | (with_reducible assumption) | (with_reducible refine below_ext0 ?_ _ _) | (with_reducible refine below_alloc0 ?_ _) | (with_reducible refine Below.ext ?_ ?_ _ _) | (with_reducible refine Below.alloc ?_ ?_ _) | (with_reducible refine Below.setCell ?_ ?_ _) | (with_reducible refine Below.drew ?_) | (with_reducible refine below_draws ?_ _) | go_size | (simp [size_ext]; done) | (simp [size_ext]; omega))))).mono ?_); rintro e w1 ⟨A2, n2, c2, A', n', c', rfl, hb1⟩; have kx := (Blk.below (by (repeat' (first | (with_reducible exact Blk.new _ _ _) | (with_reducible assumption) | (with_reducible refine Blk.ext ?_ _ _) | (with_reducible refine Blk.drew ?_) | (with_reducible refine Blk.alloc ?_ _)))) hb1 (by simp) : Blk w1 w.heap.size 49 #[.slice A3 n3 c3, .int .i64 T, .int .i64 C]); have hB0 := HB.out; have hk := (Blk.below (by (repeat' (first | (with_reducible exact Blk.new _ _ _) | (with_reducible assumption) | (with_reducible refine Blk.ext ?_ _ _) | (with_reducible refine Blk.drew ?_) | (with_reducible refine Blk.alloc ?_ _)))) hb1 (by simp; omega) : Blk w1 g 88 (wrC A n c A1 n1 c1)); have kg0 : w1.cell? ⟨g, 0, none⟩ = some (.slice A n c) := hk.cell 0; have kg1 : w1.cell? ⟨g, 1, none⟩ = some (.slice A1 n1 c1) := hk.cell 1; have x0 : w1.cell? ⟨w.heap.size, 0, none⟩ = some (.slice A3 n3 c3) := kx.cell 0; have x1 : w1.cell? ⟨w.heap.size, 1, none⟩ = some (.int .i64 T) := kx.cell 1; have x2 : w1.cell? ⟨w.heap.size, 2, none⟩ = some (.int .i64 C) := kx.cell 2; have HB1 := hid (Below.trans (by (repeat' (first | (with_reducible exact Below.refl _ _) | (with_reducible assumption) | (with_reducible refine below_ext0 ?_ _ _) | (with_reducible refine below_alloc0 ?_ _) | (with_reducible refine Below.ext ?_ ?_ _ _) | (with_reducible refine Below.alloc ?_ ?_ _) | (with_reducible refine Below.setCell ?_ ?_ _) | (with_reducible refine Below.drew ?_) | (with_reducible refine below_draws ?_ _) | go_size | (simp [size_ext]; done) | (simp [size_ext]; omega)))) (hb1.mono (by simp)) : Below w.heap.size w w1); clear hb1 kx hk hB0 tk1))
      all_goals
        go_wp2
        go_ret
        exact ⟨rfl, HB1.out⟩
  · have CP : ∀ w', Below w.heap.size w w' → Calls Try.prog 28 #[.slice A n c, .slice A1 n1 c1, .slice A3 n3 c3] w' fun e w2 => e = .returned (.tuple #[.slice none 0 0, .slice none 0 0, .iface 65 (.int .i64 k)]) ∧ Below w'.heap.size w' w2 := fun w' hb => by
      unfold qErr at hf
      rw [if_neg h0] at hf
      exact pack_bad (hM.later hb) (hS.later hb) (hL.later hb) (by omega) (by omega) hf hk
    replace CP := hid CP
    clear hM hS hL hB hf hk h0
    have tk0 : True := trivial; have tk1 : True := trivial; have tk2 : True := trivial; have tk3 : True := trivial; have tk4 : True := trivial; have tk5 : True := trivial; have tk6 : True := trivial; have tk7 : True := trivial; have tk8 : True := trivial; have tk9 : True := trivial; have tk10 : True := trivial; have tk11 : True := trivial; have tk12 : True := trivial
    go_enter Try.func34, Try.ntmps34
    go_wp2_with fail
    go_region_held3 (fun w' => w'.cell? ⟨g, 0, none⟩ = some (.slice A n c) ∧ w'.cell? ⟨g, 1, none⟩ = some (.slice A1 n1 c1) ∧ w'.cell? ⟨w.heap.size, 0, none⟩ = some (.slice A3 n3 c3)) (((try dsimp only); (repeat' apply And.intro) <;> (first | assumption | (go_simp; done)))) (first
      | (go_at_call 28; have _t := tk1; (with_reducible refine (CP.out _ (by (repeat' (first | (with_reducible exact Below.refl _ _) | (with_reducible assumption) | (with_reducible refine below_ext0 ?_ _ _) | (with_reducible refine below_alloc0 ?_ _) | (with_reducible refine Below.ext ?_ ?_ _ _) | (with_reducible refine Below.alloc ?_ ?_ _) | (with_reducible refine Below.setCell ?_ ?_ _) | (with_reducible refine Below.drew ?_) | (with_reducible refine below_draws ?_ _) | go_size | (simp [size_ext]; done) | (simp [size_ext]; omega))))).mono ?_); rintro e w1 ⟨rfl, hb1⟩; have kx := (Blk.below (by (repeat' (first | (with_reducible exact Blk.new _ _ _) | (with_reducible assumption) | (with_reducible refine Blk.ext ?_ _ _) | (with_reducible refine Blk.drew ?_) | (with_reducible refine Blk.alloc ?_ _)))) hb1 (by simp) : Blk w1 w.heap.size 49 #[.slice A3 n3 c3, .int .i64 T, .int .i64 C]); have hB0 := HB.out; have hk := (Blk.below (by (repeat' (first | (with_reducible exact Blk.new _ _ _) | (with_reducible assumption) | (with_reducible refine Blk.ext ?_ _ _) | (with_reducible refine Blk.drew ?_) | (with_reducible refine Blk.alloc ?_ _)))) hb1 (by simp; omega) : Blk w1 g 88 (wrC A n c A1 n1 c1)); have kg0 : w1.cell? ⟨g, 0, none⟩ = some (.slice A n c) := hk.cell 0; have kg1 : w1.cell? ⟨g, 1, none⟩ = some (.slice A1 n1 c1) := hk.cell 1; have x0 : w1.cell? ⟨w.heap.size, 0, none⟩ = some (.slice A3 n3 c3) := kx.cell 0; have HB1 := hid (Below.trans (by (repeat' (first | (with_reducible exact Below.refl _ _) | (with_reducible assumption) | (with_reducible refine below_ext0 ?_ _ _) | (with_reducible refine below_alloc0 ?_ _) | (with_reducible refine Below.ext ?_ ?_ _ _) | (with_reducible refine Below.alloc ?_ ?_ _) | (with_reducible refine Below.setCell ?_ ?_ _) | (with_reducible refine Below.drew ?_) | (with_reducible refine below_draws ?_ _) | go_size | (simp [size_ext]; done) | (simp [size_ext]; omega)))) (hb1.mono (by simp)) : Below w.heap.size w w1); clear hb1 kx hk hB0 tk1))
    all_goals
      go_wp2
      go_ret
      exact ⟨rfl, HB1.out⟩

set_option maxRecDepth 100000 in
set_option maxHeartbeats 4000000 in
theorem wrecord_bad {w : World} {g : Nat} {A : Option Addr} {n c : Nat} {A1 : Option Addr} {n1 c1 : Nat} (hB : Blk w g 88 (wrC A n c A1 n1 c1)) {b : List UInt8} (hM : Rd u8R w w.heap.size A n c b) {ss : List Int} (hS : Rd intR w w.heap.size A1 n1 c1 ss) {A3 : Option Addr} {n3 c3 : Nat} {l : List ByteArray} (hL : Rd strR w w.heap.size A3 n3 c3 l) {T C L : Int} {A4 : Option Addr} {n4 c4 : Nat} {d : List UInt8} (hD : Rd u8R w w.heap.size A4 n4 c4 d) (hT : I64 T) (hC : I64 C) (hTL : I64 L)
    (hlim : n + 65536 + 512 ≤ 140737488355328) (hlim1 : n1 * 8 + 4096 ≤ 140737488355328) {k : Int} (hf : recErr (l, T, C, L, d, ()) = k) (hk : k ≠ 0) :
    Calls Try.prog 36 #[.pointer (some ⟨g, 0, none⟩), .agg #[.slice A3 n3 c3, .int .i64 T, .int .i64 C, .int .i64 L, .slice A4 n4 c4]] w fun e w' => e = .returned (.iface 65 (.int .i64 k)) ∧ Below w.heap.size w w' := by
  have hg := hB.lt
  have HB := hid hB
  have CP := hid fun w' (hb : Below w.heap.size w w') => rwrite_bad (hM.later hb) (hS.later hb) (hL.later hb) (hD.later hb) hT hC hTL hlim hlim1 hf hk
  have c0 : w.cell? ⟨g, 0, none⟩ = some (.slice A n c) := hB.cell 0
  have c1' : w.cell? ⟨g, 1, none⟩ = some (.slice A1 n1 c1) := hB.cell 1
  clear hM hS hL hD hf hB hk
  have tk0 : True := trivial; have tk1 : True := trivial; have tk2 : True := trivial; have tk3 : True := trivial; have tk4 : True := trivial; have tk5 : True := trivial; have tk6 : True := trivial; have tk7 : True := trivial; have tk8 : True := trivial; have tk9 : True := trivial; have tk10 : True := trivial; have tk11 : True := trivial; have tk12 : True := trivial
  go_enter Try.func36, Try.ntmps36
  go_wp2_with fail
  go_region_held3 (fun w' => w'.cell? ⟨g, 0, none⟩ = some (.slice A n c) ∧ w'.cell? ⟨g, 1, none⟩ = some (.slice A1 n1 c1) ∧ w'.cell? ⟨w.heap.size, 0, none⟩ = some (.slice A3 n3 c3) ∧ w'.cell? ⟨w.heap.size, 1, none⟩ = some (.int .i64 T) ∧ w'.cell? ⟨w.heap.size, 2, none⟩ = some (.int .i64 C) ∧ w'.cell? ⟨w.heap.size, 3, none⟩ = some (.int .i64 L) ∧ w'.cell? ⟨w.heap.size, 4, none⟩ = some (.slice A4 n4 c4)) (((try dsimp only); (repeat' apply And.intro) <;> (first | assumption | (go_simp; done)))) (first
    | (go_at_call 8; have _t := tk1; (with_reducible refine (CP.out _ (by (repeat' (first | (with_reducible exact Below.refl _ _) | (with_reducible assumption) | (with_reducible refine below_ext0 ?_ _ _) | (with_reducible refine below_alloc0 ?_ _) | (with_reducible refine Below.ext ?_ ?_ _ _) | (with_reducible refine Below.alloc ?_ ?_ _) | (with_reducible refine Below.setCell ?_ ?_ _) | (with_reducible refine Below.drew ?_) | (with_reducible refine below_draws ?_ _) | go_size | (simp [size_ext]; done) | (simp [size_ext]; omega))))).mono ?_); rintro e w1 ⟨rfl, hb1⟩; have kx := (Blk.below (by (repeat' (first | (with_reducible exact Blk.new _ _ _) | (with_reducible assumption) | (with_reducible refine Blk.ext ?_ _ _) | (with_reducible refine Blk.drew ?_) | (with_reducible refine Blk.alloc ?_ _)))) hb1 (by simp) : Blk w1 w.heap.size 26 #[.slice A3 n3 c3, .int .i64 T, .int .i64 C, .int .i64 L, .slice A4 n4 c4]); have x0 : w1.cell? ⟨w.heap.size, 0, none⟩ = some (.slice A3 n3 c3) := kx.cell 0; have x1 : w1.cell? ⟨w.heap.size, 1, none⟩ = some (.int .i64 T) := kx.cell 1; have x2 : w1.cell? ⟨w.heap.size, 2, none⟩ = some (.int .i64 C) := kx.cell 2; have x3 : w1.cell? ⟨w.heap.size, 3, none⟩ = some (.int .i64 L) := kx.cell 3; have x4 : w1.cell? ⟨w.heap.size, 4, none⟩ = some (.slice A4 n4 c4) := kx.cell 4; have hB0 := HB.out; have hk := (Blk.below (by (repeat' (first | (with_reducible exact Blk.new _ _ _) | (with_reducible assumption) | (with_reducible refine Blk.ext ?_ _ _) | (with_reducible refine Blk.drew ?_) | (with_reducible refine Blk.alloc ?_ _)))) hb1 (by simp; omega) : Blk w1 g 88 (wrC A n c A1 n1 c1)); have kg0 : w1.cell? ⟨g, 0, none⟩ = some (.slice A n c) := hk.cell 0; have kg1 : w1.cell? ⟨g, 1, none⟩ = some (.slice A1 n1 c1) := hk.cell 1; have HB1 := hid (Below.trans (by (repeat' (first | (with_reducible exact Below.refl _ _) | (with_reducible assumption) | (with_reducible refine below_ext0 ?_ _ _) | (with_reducible refine below_alloc0 ?_ _) | (with_reducible refine Below.ext ?_ ?_ _ _) | (with_reducible refine Below.alloc ?_ ?_ _) | (with_reducible refine Below.setCell ?_ ?_ _) | (with_reducible refine Below.drew ?_) | (with_reducible refine below_draws ?_ _) | go_size | (simp [size_ext]; done) | (simp [size_ext]; omega)))) (hb1.mono (by simp)) : Below w.heap.size w w1); clear hb1 kx hk hB0 tk1))
  all_goals
    go_wp2
    go_ret
    exact ⟨rfl, HB1.out⟩
end Go.Proofs.Ytkdfiedemhjjjaa
