/- The document's answers of records: RecordFault, RecordAt. -/
import Derived.Test.YthccknobnpbdeaaDoorK12
import Derived.Deep.DrawnRows
namespace Go.Proofs.YthccknobnpbdeaaDoor
open Go.RowKit
set_option linter.unusedVariables false
set_option linter.unusedSimpArgs false
attribute [local go_sem ↓] Go.wp_at_zero Go.wp_at_succ

theorem recErr_cases (l : List ByteArray) (T C L : Int) (d : List UInt8) (n4 : Nat) (hd : d.length = n4) (h0 : nameErr l = 0) :
    (recErr (l, T, C, L, d, ()) = 6 ∧ ((T < 0) ∨ (0 ≤ T ∧ 65535 < T) ∨ (0 ≤ T ∧ T ≤ 65535 ∧ C < 0) ∨ (0 ≤ T ∧ T ≤ 65535 ∧ 0 ≤ C ∧ 65535 < C) ∨ (0 ≤ T ∧ T ≤ 65535 ∧ 0 ≤ C ∧ C ≤ 65535 ∧ L < 0) ∨ (0 ≤ T ∧ T ≤ 65535 ∧ 0 ≤ C ∧ C ≤ 65535 ∧ 0 ≤ L ∧ 4294967295 < L))) ∨ (recErr (l, T, C, L, d, ()) = 7 ∧ 0 ≤ T ∧ T ≤ 65535 ∧ 0 ≤ C ∧ C ≤ 65535 ∧ 0 ≤ L ∧ L ≤ 4294967295 ∧ 65535 < n4) ∨ (recErr (l, T, C, L, d, ()) = 0 ∧ 0 ≤ T ∧ T ≤ 65535 ∧ 0 ≤ C ∧ C ≤ 65535 ∧ 0 ≤ L ∧ L ≤ 4294967295 ∧ n4 ≤ 65535) := by
  unfold recErr
  rw [if_pos h0]
  simp only
  rw [hd]
  split
  · rename_i h
    split
    · exact .inr (.inr ⟨rfl, h.1, h.2.1, h.2.2.1, h.2.2.2.1, h.2.2.2.2.1, h.2.2.2.2.2, by omega⟩)
    · exact .inr (.inl ⟨rfl, h.1, h.2.1, h.2.2.1, h.2.2.2.1, h.2.2.2.2.1, h.2.2.2.2.2, by omega⟩)
  · exact .inl ⟨rfl, by omega⟩

set_option maxRecDepth 100000 in
set_option maxHeartbeats 4000000 in
theorem rfault_any {w : World} {A3 : Option Addr} {n3 c3 : Nat} {l : List ByteArray} (hL : Rd strR w w.heap.size A3 n3 c3 l) {T C L : Int} {A4 : Option Addr} {n4 c4 : Nat} {d : List UInt8} (hD : Rd u8R w w.heap.size A4 n4 c4 d) (hT : I64 T) (hC : I64 C) (hTL : I64 L) :
    Calls Tryd.prog 30 #[.agg #[.slice A3 n3 c3, .int .i64 T, .int .i64 C, .int .i64 L, .slice A4 n4 c4]] w fun e w' => e = .returned (.int .i64 (recErr (l, T, C, L, d, ()))) ∧ Below w.heap.size w w' := by
  have hT' := hT
  have hC' := hC
  obtain ⟨a1, a2⟩ := hT'
  obtain ⟨b1, b2⟩ := hC'
  obtain ⟨g1, g2⟩ := hTL
  have hdm := hD.lim
  simp only [u8R, Nat.mul_one] at hdm
  have NF := fun w' (hb : Below w.heap.size w w') => nfault_any w' A3 n3 c3 l w'.heap.size (hL.later hb)
  by_cases h0 : nameErr l = 0
  · rw [h0] at NF
    replace NF := hid NF
    have ways := recErr_cases l T C L d n4 hD.len h0
    clear hL hD h0
    rcases ways with ⟨he, h⟩ | ⟨he, q1, q2, q3, q4, q5, q6, q7⟩ | ⟨he, q1, q2, q3, q4, q5, q6, q7⟩
    · rw [he]
      clear he
      rcases h with q1 | ⟨q1, q2⟩ | ⟨q1, q2, q3⟩ | ⟨q1, q2, q3, q4⟩ | ⟨q1, q2, q3, q4, q5⟩ | ⟨q1, q2, q3, q4, q5, q6⟩
      all_goals
        try (have p0 : ¬ (T < 0) := by omega)
        try (have p0 : T < 0 := by omega)
        try (have e0 : decide (T < 0) = false := decide_eq_false (by omega))
        try (have e0 : decide (T < 0) = true := decide_eq_true (by omega))
        try (have p1 : ¬ (65535 < T) := by omega)
        try (have p1 : 65535 < T := by omega)
        try (have e1 : decide (65535 < T) = false := decide_eq_false (by omega))
        try (have e1 : decide (65535 < T) = true := decide_eq_true (by omega))
        try (have p2 : ¬ (C < 0) := by omega)
        try (have p2 : C < 0 := by omega)
        try (have e2 : decide (C < 0) = false := decide_eq_false (by omega))
        try (have e2 : decide (C < 0) = true := decide_eq_true (by omega))
        try (have p3 : ¬ (65535 < C) := by omega)
        try (have p3 : 65535 < C := by omega)
        try (have e3 : decide (65535 < C) = false := decide_eq_false (by omega))
        try (have e3 : decide (65535 < C) = true := decide_eq_true (by omega))
        try (have p4 : ¬ (L < 0) := by omega)
        try (have p4 : L < 0 := by omega)
        try (have e4 : decide (L < 0) = false := decide_eq_false (by omega))
        try (have e4 : decide (L < 0) = true := decide_eq_true (by omega))
        try (have p5 : ¬ (4294967295 < L) := by omega)
        try (have p5 : 4294967295 < L := by omega)
        try (have e5 : decide (4294967295 < L) = false := decide_eq_false (by omega))
        try (have e5 : decide (4294967295 < L) = true := decide_eq_true (by omega))
        try (have p6 : ¬ ((65535 : Int) < (n4 : Int)) := by omega)
        try (have p6 : (65535 : Int) < (n4 : Int) := by omega)
        try (have e6 : decide ((65535 : Int) < (n4 : Int)) = false := decide_eq_false (by omega))
        try (have e6 : decide ((65535 : Int) < (n4 : Int)) = true := decide_eq_true (by omega))
        try (have bT : (decide (0 ≤ T) && decide (T ≤ 65535)) = true := (by simp; omega); have CWT := fun w' => rword_any w' T hT; rw [bT] at CWT; replace CWT := hid CWT)
        try (have bT : (decide (0 ≤ T) && decide (T ≤ 65535)) = false := (by simp; omega); have CWT := fun w' => rword_any w' T hT; rw [bT] at CWT; replace CWT := hid CWT)
        try (have bC : (decide (0 ≤ C) && decide (C ≤ 65535)) = true := (by simp; omega); have CWC := fun w' => rword_any w' C hC; rw [bC] at CWC; replace CWC := hid CWC)
        try (have bC : (decide (0 ≤ C) && decide (C ≤ 65535)) = false := (by simp; omega); have CWC := fun w' => rword_any w' C hC; rw [bC] at CWC; replace CWC := hid CWC)
        have tk0 : True := trivial; have tk1 : True := trivial; have tk2 : True := trivial; have tk3 : True := trivial; have tk4 : True := trivial; have tk5 : True := trivial; have tk6 : True := trivial; have tk7 : True := trivial; have tk8 : True := trivial; have tk9 : True := trivial; have tk10 : True := trivial; have tk11 : True := trivial; have tk12 : True := trivial
        go_enter Tryd.func30, Tryd.ntmps30
        go_wp2_with (first
          | (go_at_call 26; have _t := tk1; (with_reducible refine (NF.out _ (by (repeat' (first | (with_reducible exact Below.refl _ _) | (with_reducible assumption) | (with_reducible refine below_ext0 ?_ _ _) | (with_reducible refine below_alloc0 ?_ _) | (with_reducible refine Below.ext ?_ ?_ _ _) | (with_reducible refine Below.alloc ?_ ?_ _) | (with_reducible refine Below.setCell ?_ ?_ _) | (with_reducible refine Below.drew ?_) | (with_reducible refine below_draws ?_ _) | go_size | (simp [size_ext]; done) | (simp [size_ext]; omega))))).mono ?_); rintro e w1 ⟨rfl, hw⟩; subst w1; clear tk1)
          | (go_at_call 27; have _t := tk2; (with_reducible refine (CWT.out _).mono ?_); rintro e w1 ⟨rfl, hb⟩; obtain ⟨otk2, dtk2, rfl⟩ := ext_of_below hb; clear hb tk2)
          | (go_at_call 27; have _t := tk3; (with_reducible refine (CWC.out _).mono ?_); rintro e w1 ⟨rfl, hb⟩; obtain ⟨otk3, dtk3, rfl⟩ := ext_of_below hb; clear hb tk3))
        go_ret
        exact ⟨by first | rfl | (simp; done), (by (repeat' (first | (with_reducible exact Below.refl _ _) | (with_reducible assumption) | (with_reducible refine below_ext0 ?_ _ _) | (with_reducible refine below_alloc0 ?_ _) | (with_reducible refine Below.ext ?_ ?_ _ _) | (with_reducible refine Below.alloc ?_ ?_ _) | (with_reducible refine Below.setCell ?_ ?_ _) | (with_reducible refine Below.drew ?_) | (with_reducible refine below_draws ?_ _) | go_size | (simp [size_ext]; done) | (simp [size_ext]; omega))))⟩
    all_goals
      rw [he]
      clear he
      try (have p0 : ¬ (T < 0) := by omega)
      try (have p0 : T < 0 := by omega)
      try (have e0 : decide (T < 0) = false := decide_eq_false (by omega))
      try (have e0 : decide (T < 0) = true := decide_eq_true (by omega))
      try (have p1 : ¬ (65535 < T) := by omega)
      try (have p1 : 65535 < T := by omega)
      try (have e1 : decide (65535 < T) = false := decide_eq_false (by omega))
      try (have e1 : decide (65535 < T) = true := decide_eq_true (by omega))
      try (have p2 : ¬ (C < 0) := by omega)
      try (have p2 : C < 0 := by omega)
      try (have e2 : decide (C < 0) = false := decide_eq_false (by omega))
      try (have e2 : decide (C < 0) = true := decide_eq_true (by omega))
      try (have p3 : ¬ (65535 < C) := by omega)
      try (have p3 : 65535 < C := by omega)
      try (have e3 : decide (65535 < C) = false := decide_eq_false (by omega))
      try (have e3 : decide (65535 < C) = true := decide_eq_true (by omega))
      try (have p4 : ¬ (L < 0) := by omega)
      try (have p4 : L < 0 := by omega)
      try (have e4 : decide (L < 0) = false := decide_eq_false (by omega))
      try (have e4 : decide (L < 0) = true := decide_eq_true (by omega))
      try (have p5 : ¬ (4294967295 < L) := by omega)
      try (have p5 : 4294967295 < L := by omega)
      try (have e5 : decide (4294967295 < L) = false := decide_eq_false (by omega))
      try (have e5 : decide (4294967295 < L) = true := decide_eq_true (by omega))
      try (have p6 : ¬ ((65535 : Int) < (n4 : Int)) := by omega)
      try (have p6 : (65535 : Int) < (n4 : Int) := by omega)
      try (have e6 : decide ((65535 : Int) < (n4 : Int)) = false := decide_eq_false (by omega))
      try (have e6 : decide ((65535 : Int) < (n4 : Int)) = true := decide_eq_true (by omega))
      try (have bT : (decide (0 ≤ T) && decide (T ≤ 65535)) = true := (by simp; omega); have CWT := fun w' => rword_any w' T hT; rw [bT] at CWT; replace CWT := hid CWT)
      try (have bT : (decide (0 ≤ T) && decide (T ≤ 65535)) = false := (by simp; omega); have CWT := fun w' => rword_any w' T hT; rw [bT] at CWT; replace CWT := hid CWT)
      try (have bC : (decide (0 ≤ C) && decide (C ≤ 65535)) = true := (by simp; omega); have CWC := fun w' => rword_any w' C hC; rw [bC] at CWC; replace CWC := hid CWC)
      try (have bC : (decide (0 ≤ C) && decide (C ≤ 65535)) = false := (by simp; omega); have CWC := fun w' => rword_any w' C hC; rw [bC] at CWC; replace CWC := hid CWC)
      have tk0 : True := trivial; have tk1 : True := trivial; have tk2 : True := trivial; have tk3 : True := trivial; have tk4 : True := trivial; have tk5 : True := trivial; have tk6 : True := trivial; have tk7 : True := trivial; have tk8 : True := trivial; have tk9 : True := trivial; have tk10 : True := trivial; have tk11 : True := trivial; have tk12 : True := trivial
      go_enter Tryd.func30, Tryd.ntmps30
      go_wp2_with (first
        | (go_at_call 26; have _t := tk1; (with_reducible refine (NF.out _ (by (repeat' (first | (with_reducible exact Below.refl _ _) | (with_reducible assumption) | (with_reducible refine below_ext0 ?_ _ _) | (with_reducible refine below_alloc0 ?_ _) | (with_reducible refine Below.ext ?_ ?_ _ _) | (with_reducible refine Below.alloc ?_ ?_ _) | (with_reducible refine Below.setCell ?_ ?_ _) | (with_reducible refine Below.drew ?_) | (with_reducible refine below_draws ?_ _) | go_size | (simp [size_ext]; done) | (simp [size_ext]; omega))))).mono ?_); rintro e w1 ⟨rfl, hw⟩; subst w1; clear tk1)
        | (go_at_call 27; have _t := tk2; (with_reducible refine (CWT.out _).mono ?_); rintro e w1 ⟨rfl, hb⟩; obtain ⟨otk2, dtk2, rfl⟩ := ext_of_below hb; clear hb tk2)
        | (go_at_call 27; have _t := tk3; (with_reducible refine (CWC.out _).mono ?_); rintro e w1 ⟨rfl, hb⟩; obtain ⟨otk3, dtk3, rfl⟩ := ext_of_below hb; clear hb tk3))
      go_ret
      exact ⟨by first | rfl | (simp; done), (by (repeat' (first | (with_reducible exact Below.refl _ _) | (with_reducible assumption) | (with_reducible refine below_ext0 ?_ _ _) | (with_reducible refine below_alloc0 ?_ _) | (with_reducible refine Below.ext ?_ ?_ _ _) | (with_reducible refine Below.alloc ?_ ?_ _) | (with_reducible refine Below.setCell ?_ ?_ _) | (with_reducible refine Below.drew ?_) | (with_reducible refine below_draws ?_ _) | go_size | (simp [size_ext]; done) | (simp [size_ext]; omega))))⟩
  · have he : recErr (l, T, C, L, d, ()) = nameErr l := by unfold recErr; rw [if_neg h0]
    rw [he]
    generalize nameErr l = k at *
    have k0 : (k == 0) = false := by rw [beq_eq_false_iff_ne]; exact h0
    replace NF := hid NF
    clear hL hD he
    have tk0 : True := trivial; have tk1 : True := trivial; have tk2 : True := trivial; have tk3 : True := trivial; have tk4 : True := trivial; have tk5 : True := trivial; have tk6 : True := trivial; have tk7 : True := trivial; have tk8 : True := trivial; have tk9 : True := trivial; have tk10 : True := trivial; have tk11 : True := trivial; have tk12 : True := trivial
    go_enter Tryd.func30, Tryd.ntmps30
    go_wp2_with (go_at_call 26; have _t := tk1; (with_reducible refine (NF.out _ (by (repeat' (first | (with_reducible exact Below.refl _ _) | (with_reducible assumption) | (with_reducible refine below_ext0 ?_ _ _) | (with_reducible refine below_alloc0 ?_ _) | (with_reducible refine Below.ext ?_ ?_ _ _) | (with_reducible refine Below.alloc ?_ ?_ _) | (with_reducible refine Below.setCell ?_ ?_ _) | (with_reducible refine Below.drew ?_) | (with_reducible refine below_draws ?_ _) | go_size | (simp [size_ext]; done) | (simp [size_ext]; omega))))).mono ?_); rintro e w1 ⟨rfl, hw⟩; subst w1; clear tk1)
    go_ret
    exact ⟨by first | rfl | (simp; done), (by (repeat' (first | (with_reducible exact Below.refl _ _) | (with_reducible assumption) | (with_reducible refine below_ext0 ?_ _ _) | (with_reducible refine below_alloc0 ?_ _) | (with_reducible refine Below.ext ?_ ?_ _ _) | (with_reducible refine Below.alloc ?_ ?_ _) | (with_reducible refine Below.setCell ?_ ?_ _) | (with_reducible refine Below.drew ?_) | (with_reducible refine below_draws ?_ _) | go_size | (simp [size_ext]; done) | (simp [size_ext]; omega))))⟩

set_option maxRecDepth 100000 in
set_option maxHeartbeats 8000000 in
theorem recAt_ok {w : World} {A : Option Addr} {n c : Nat} {m : List UInt8} (hM : Rd u8R w w.heap.size A n c m) {at_ : Int} (hat : at_ ≤ 9223372036854775807) {l : List ByteArray} {p en : Nat} (hr : rrF m at_ = (0, l, p, en)) {k : Nat} (hk : l.length = k) {T C L : Int} {D : List UInt8} (hrec : recOf m l p en = (l, T, C, L, D, ())) {nd : Nat} (hd : D.length = nd) :
    Calls Tryd.prog 14 #[.slice A n c, .int .i64 at_] w fun e w' => ∃ A' c' A2 c2, e = .returned (.agg #[.slice A' k c', .int .i64 T, .int .i64 C, .int .i64 L, .slice A2 nd c2, .int .i64 ((p + 4 : Nat) : Int), .int .i64 (en : Int), .int .i64 0]) ∧ (Rd strR w' w'.heap.size A' k c' l ∧ Rd u8R w' w'.heap.size A2 nd c2 D) ∧ Below w.heap.size w w' := by
  obtain ⟨h1, h2, h3, h4⟩ := rrF_ok.1 hr
  have hn := hM.len
  have hcap := hM.cap
  have hmax := hM.max
  have hlim := hM.lim
  simp only [u8R, Nat.mul_one] at hlim
  unfold maxLen at hmax
  rw [hn] at h2 h4
  obtain ⟨b, o, rfl, lb⟩ := hM.addr (by omega)
  have CN : ∀ w', Below w.heap.size w w' → Calls Tryd.prog 13 #[.slice (some ⟨b, o, none⟩) n c, .int .i64 at_] w' fun e w2 => ∃ A' c', e = .returned (.agg #[.slice A' k c', .int .i64 (p : Int), .int .i64 0]) ∧ Rd strR w2 w2.heap.size A' k c' l ∧ Below w'.heap.size w' w2 := fun w' hb => by
    refine (nameAt_any w' _ n c m (hM.later hb) at_ hat).mono ?_
    rintro e w2 ⟨hb2, A', c', he, hrd⟩
    rw [h1] at he hrd
    simp only [hk] at he hrd
    exact ⟨A', c', he, hrd, hb2⟩
  replace CN := hid CN
  simp only [recOf, Prod.mk.injEq, true_and, and_true] at hrec
  obtain ⟨r1, r2, r3, r4⟩ := hrec
  have T1 := at2_le m p
  have T2 := at2_le m (p + 2)
  have T3 := at2_le m (p + 4)
  have T4 := at2_le m (p + 6)
  have T5 := at2_le m (p + 8)
  have CT : ∀ j, j + 2 ≤ n → ∀ x : Int, x = (j : Int) → ∀ w', Below w.heap.size w w' → Calls Tryd.prog 12 #[.slice (some ⟨b, o, none⟩) n c, .int .i64 x] w' fun e w2 => e = .returned (.int .i64 ((at2 m j : Nat) : Int)) ∧ Below w'.heap.size w' w2 := fun j hj x hx w' hb => rpair_at (hM.later hb) j hx hj rfl
  have CT0 := CT p (by omega) _ rfl
  have CT2 := CT (p + 2) (by omega) ((p : Int) + 2) (by omega)
  have CT4 := CT (p + 4) (by omega) ((p : Int) + 4) (by omega)
  have CT6 := CT (p + 6) (by omega) ((p : Int) + 6) (by omega)
  have CT8 := CT (p + 8) (by omega) ((p : Int) + 8) (by omega)
  have hD : en - (p + 10) = nd := by rw [← hd, ← r4, List.length_take, List.length_drop]; omega
  obtain ⟨SA, SC, hs, hrd⟩ := slice_two hM (i := p + 10) (j := en) (by omega) h4 (by omega) (a := (p : Int) + 10) (b := (p : Int) + 10 + ((at2 m (p + 8) : Nat) : Int)) (by omega) (by omega)
  rw [r4] at hrd
  rw [hD] at hs hrd
  have HRD := hid hrd
  generalize at2 m p = t0 at *
  generalize at2 m (p + 2) = t2 at *
  generalize at2 m (p + 4) = t4 at *
  generalize at2 m (p + 6) = t6 at *
  generalize at2 m (p + 8) = t8 at *
  subst r1 r2
  subst h3
  have CT0 := hid CT0
  have CT2 := hid CT2
  have CT4 := hid CT4
  have CT6 := hid CT6
  have CT8 := hid CT8
  have bo' : IntKind.i64.wrap (((t4 : Nat) : Int) * 65536 + ((t6 : Nat) : Int)) = L := by rw [← r3]; exact IntWalk.i64_in _ (by omega)
  have wl : IntKind.i64.wrap (((t4 : Nat) : Int) * 65536) = ((t4 : Nat) : Int) * 65536 := IntWalk.i64_in _ (by omega)
  clear CT hr hM h1 r4 hrd hD hd
  have w2 : IntKind.i64.wrap ((p : Int) + 2) = (p : Int) + 2 := IntWalk.i64_in _ (by omega)
  have w4 : IntKind.i64.wrap ((p : Int) + 4) = (p : Int) + 4 := IntWalk.i64_in _ (by omega)
  have w6 : IntKind.i64.wrap ((p : Int) + 6) = (p : Int) + 6 := IntWalk.i64_in _ (by omega)
  have w8 : IntKind.i64.wrap ((p : Int) + 8) = (p : Int) + 8 := IntWalk.i64_in _ (by omega)
  have w10 : IntKind.i64.wrap ((p : Int) + 10) = (p : Int) + 10 := IntWalk.i64_in _ (by omega)
  have w11 : IntKind.i64.wrap ((p : Int) + 10 + (t8 : Int)) = (p : Int) + 10 + (t8 : Int) := IntWalk.i64_in _ (by omega)
  have d0 : ¬ (n : Int) < (p : Int) + 10 := by omega
  have d1 : decide ((n : Int) < (p : Int) + 10) = false := decide_eq_false d0
  have d2 : ¬ (n : Int) < (p : Int) + 10 + (t8 : Int) := by omega
  have d3 : decide ((n : Int) < (p : Int) + 10 + (t8 : Int)) = false := decide_eq_false d2
  have tk0 : True := trivial; have tk1 : True := trivial; have tk2 : True := trivial; have tk3 : True := trivial; have tk4 : True := trivial; have tk5 : True := trivial; have tk6 : True := trivial; have tk7 : True := trivial; have tk8 : True := trivial; have tk9 : True := trivial; have tk10 : True := trivial; have tk11 : True := trivial; have tk12 : True := trivial
  have tk13 : True := trivial
  go_enter Tryd.func14, Tryd.ntmps14
  go_wp2_with (first
    | (go_at_call 13; have _t := tk1; (with_reducible refine (CN.out _ (by (repeat' (first | (with_reducible exact Below.refl _ _) | (with_reducible assumption) | (with_reducible refine below_ext0 ?_ _ _) | (with_reducible refine below_alloc0 ?_ _) | (with_reducible refine Below.ext ?_ ?_ _ _) | (with_reducible refine Below.alloc ?_ ?_ _) | (with_reducible refine Below.setCell ?_ ?_ _) | (with_reducible refine Below.drew ?_) | (with_reducible refine below_draws ?_ _) | go_size | (simp [size_ext]; done) | (simp [size_ext]; omega))))).mono ?_); rintro e w1 ⟨Atk1, ctk1, rfl, hr, hb⟩; obtain ⟨otk1, dtk1, rfl⟩ := ext_of_below hb; (try simp only [ext_drew, ext_drewN] at hr); have R1 := hid hr; clear hr; clear hb tk1)
    | (go_at_call 12; have _t := tk2; (with_reducible refine (CT8.out _ (by (repeat' (first | (with_reducible exact Below.refl _ _) | (with_reducible assumption) | (with_reducible refine below_ext0 ?_ _ _) | (with_reducible refine below_alloc0 ?_ _) | (with_reducible refine Below.ext ?_ ?_ _ _) | (with_reducible refine Below.alloc ?_ ?_ _) | (with_reducible refine Below.setCell ?_ ?_ _) | (with_reducible refine Below.drew ?_) | (with_reducible refine below_draws ?_ _) | go_size | (simp [size_ext]; done) | (simp [size_ext]; omega))))).mono ?_); rintro e w1 ⟨rfl, hb⟩; obtain ⟨otk2, dtk2, rfl⟩ := ext_of_below hb; clear hb tk2))
  go_region_held3 (fun w' => w'.cell? ⟨w.heap.size + 1 + otk1.size, 0, none⟩ = some (.slice Atk1 k ctk1)) (((try dsimp only); (repeat' apply And.intro) <;> (first | assumption | (go_simp; done)))) (first
    | (go_at_call 12; have _t := tk3; (with_reducible refine (CT0.out _ (by (repeat' (first | (with_reducible exact Below.refl _ _) | (with_reducible assumption) | (with_reducible refine below_ext0 ?_ _ _) | (with_reducible refine below_alloc0 ?_ _) | (with_reducible refine Below.ext ?_ ?_ _ _) | (with_reducible refine Below.alloc ?_ ?_ _) | (with_reducible refine Below.setCell ?_ ?_ _) | (with_reducible refine Below.drew ?_) | (with_reducible refine below_draws ?_ _) | go_size | (simp [size_ext]; done) | (simp [size_ext]; omega))))).mono ?_); rintro e w1 ⟨rfl, hb⟩; obtain ⟨otk3, dtk3, rfl⟩ := ext_of_below hb; clear hb tk3)
    | (go_at_call 12; have _t := tk4; (with_reducible refine (CT2.out _ (by (repeat' (first | (with_reducible exact Below.refl _ _) | (with_reducible assumption) | (with_reducible refine below_ext0 ?_ _ _) | (with_reducible refine below_alloc0 ?_ _) | (with_reducible refine Below.ext ?_ ?_ _ _) | (with_reducible refine Below.alloc ?_ ?_ _) | (with_reducible refine Below.setCell ?_ ?_ _) | (with_reducible refine Below.drew ?_) | (with_reducible refine below_draws ?_ _) | go_size | (simp [size_ext]; done) | (simp [size_ext]; omega))))).mono ?_); rintro e w1 ⟨rfl, hb⟩; obtain ⟨otk4, dtk4, rfl⟩ := ext_of_below hb; clear hb tk4)
    | (go_at_call 12; have _t := tk5; (with_reducible refine (CT4.out _ (by (repeat' (first | (with_reducible exact Below.refl _ _) | (with_reducible assumption) | (with_reducible refine below_ext0 ?_ _ _) | (with_reducible refine below_alloc0 ?_ _) | (with_reducible refine Below.ext ?_ ?_ _ _) | (with_reducible refine Below.alloc ?_ ?_ _) | (with_reducible refine Below.setCell ?_ ?_ _) | (with_reducible refine Below.drew ?_) | (with_reducible refine below_draws ?_ _) | go_size | (simp [size_ext]; done) | (simp [size_ext]; omega))))).mono ?_); rintro e w1 ⟨rfl, hb⟩; obtain ⟨otk5, dtk5, rfl⟩ := ext_of_below hb; clear hb tk5)
    | (go_at_call 12; have _t := tk6; (with_reducible refine (CT6.out _ (by (repeat' (first | (with_reducible exact Below.refl _ _) | (with_reducible assumption) | (with_reducible refine below_ext0 ?_ _ _) | (with_reducible refine below_alloc0 ?_ _) | (with_reducible refine Below.ext ?_ ?_ _ _) | (with_reducible refine Below.alloc ?_ ?_ _) | (with_reducible refine Below.setCell ?_ ?_ _) | (with_reducible refine Below.drew ?_) | (with_reducible refine below_draws ?_ _) | go_size | (simp [size_ext]; done) | (simp [size_ext]; omega))))).mono ?_); rintro e w1 ⟨rfl, hb⟩; obtain ⟨otk6, dtk6, rfl⟩ := ext_of_below hb; clear hb tk6))
  all_goals
    go_wp2_with (go_at_call 12; have _t := tk7; (with_reducible refine (CT8.out _ (by (repeat' (first | (with_reducible exact Below.refl _ _) | (with_reducible assumption) | (with_reducible refine below_ext0 ?_ _ _) | (with_reducible refine below_alloc0 ?_ _) | (with_reducible refine Below.ext ?_ ?_ _ _) | (with_reducible refine Below.alloc ?_ ?_ _) | (with_reducible refine Below.setCell ?_ ?_ _) | (with_reducible refine Below.drew ?_) | (with_reducible refine below_draws ?_ _) | go_size | (simp [size_ext]; done) | (simp [size_ext]; omega))))).mono ?_); rintro e w1 ⟨rfl, hb⟩; obtain ⟨otk7, dtk7, rfl⟩ := ext_of_below hb; clear hb tk7)
    refine bodyPost_ret (v := .agg #[.slice Atk1 k ctk1, .int .i64 (t0 : Int), .int .i64 (t2 : Int), .int .i64 L, .slice SA nd SC, .int .i64 ((p : Int) + 4), .int .i64 ((p : Int) + 10 + (t8 : Int)), .int .i64 0]) (by simp [results, Tryd.results14, go_sem]) rfl ?_
    refine ⟨Atk1, ctk1, SA, SC, by first | rfl | (simp; done) | (push_cast; rfl), ⟨?_, ?_⟩, (by (repeat' (first | (with_reducible exact Below.refl _ _) | (with_reducible assumption) | (with_reducible refine below_ext0 ?_ _ _) | (with_reducible refine below_alloc0 ?_ _) | (with_reducible refine Below.ext ?_ ?_ _ _) | (with_reducible refine Below.alloc ?_ ?_ _) | (with_reducible refine Below.setCell ?_ ?_ _) | (with_reducible refine Below.drew ?_) | (with_reducible refine below_draws ?_ _) | go_size | (simp [size_ext]; done) | (simp [size_ext]; omega))))⟩
    · exact Rd.near_str R1.out (by (repeat' (first | ((with_reducible refine NearP.of_sim ?_); (repeat' (first | (with_reducible exact SimP.refl _ _) | (with_reducible refine SimP.ext ?_ _ _ _) | (with_reducible refine SimP.alloc ?_ _) | (with_reducible refine SimP.allocs ?_ _ _ _ ?_) | (with_reducible refine SimP.set ?_ _ _ _) | (with_reducible assumption) | (with_reducible refine FreeB.far ?_ ?_ _) | (with_reducible refine SimP.drew ?_) | (with_reducible refine SimP.drew' ?_) | (simp [IsStr, IsU8, IsI64]; done))); done) | (with_reducible refine NearP.ext ?_ _ _) | (with_reducible refine NearP.alloc ?_ _) | (with_reducible refine NearP.drew ?_))))
    · exact HRD.out.later (by (repeat' (first | (with_reducible exact Below.refl _ _) | (with_reducible assumption) | (with_reducible refine below_ext0 ?_ _ _) | (with_reducible refine below_alloc0 ?_ _) | (with_reducible refine Below.ext ?_ ?_ _ _) | (with_reducible refine Below.alloc ?_ ?_ _) | (with_reducible refine Below.setCell ?_ ?_ _) | (with_reducible refine Below.drew ?_) | (with_reducible refine below_draws ?_ _) | go_size | (simp [size_ext]; done) | (simp [size_ext]; omega))))
theorem recAt_bad {w : World} {A : Option Addr} {n c : Nat} {m : List UInt8} (hM : Rd u8R w w.heap.size A n c m) {at_ k : Int} (hat : at_ ≤ 9223372036854775807) (hr : (rrF m at_).1 = k) (hk : k ≠ 0) :
    Calls Tryd.prog 14 #[.slice A n c, .int .i64 at_] w fun e w' => e = .returned (.agg #[.slice none 0 0, .int .i64 0, .int .i64 0, .int .i64 0, .slice none 0 0, .int .i64 0, .int .i64 0, .int .i64 k]) ∧ Below w.heap.size w w' := by
  have hn := hM.len
  have hcap := hM.cap
  have hmax := hM.max
  have hlim := hM.lim
  simp only [u8R, Nat.mul_one] at hlim
  unfold maxLen at hmax
  by_cases h0 : (rdN m at_).1 = 0
  · have hrd : rdN m at_ = (0, (rdN m at_).2.1, (rdN m at_).2.2) := by rw [← h0]
    obtain ⟨a, p, rfl, hp, hnm, _⟩ := rdN_ok.1 hrd
    rw [hp] at hrd
    have hlt := hnm.lt
    rw [hn] at hlt
    unfold rrF at hr
    rw [if_pos h0, hp, Int.toNat_natCast, hn] at hr
    obtain ⟨b, o, rfl, lb⟩ := hM.addr (by omega)
    obtain ⟨nl, hnl⟩ : ∃ nl, (rdN m (a : Int)).2.1.length = nl := ⟨_, rfl⟩
    have CN : ∀ w', Below w.heap.size w w' → Calls Tryd.prog 13 #[.slice (some ⟨b, o, none⟩) n c, .int .i64 (a : Int)] w' fun e w2 => ∃ A' c', e = .returned (.agg #[.slice A' nl c', .int .i64 (p : Int), .int .i64 0]) ∧ Below w'.heap.size w' w2 := fun w' hb => by
      refine (nameAt_any w' _ n c m (hM.later hb) a hat).mono ?_
      rintro e w2 ⟨hb2, A', c', he, _⟩
      rw [h0, hp, hnl] at he
      exact ⟨A', c', he, hb2⟩
    replace CN := hid CN
    have w2 : IntKind.i64.wrap ((p : Int) + 10) = (p : Int) + 10 := IntWalk.i64_in _ (by omega)
    have w3 : IntKind.i64.wrap ((p : Int) + 8) = (p : Int) + 8 := IntWalk.i64_in _ (by omega)
    by_cases hs : p + 10 ≤ n
    · obtain ⟨t, ht⟩ : ∃ t, at2 m (p + 8) = t := ⟨_, rfl⟩
      have ht1 : t ≤ 65535 := by rw [← ht]; exact at2_le _ _
      have CT := hid fun w' (hb : Below w.heap.size w w') => rpair_at (hM.later hb) (p + 8) (x := (p : Int) + 8) (by omega) (by omega) ht
      rw [ht] at hr
      have h1 : ¬ (p + 10 + t ≤ n) := fun h => by rw [if_pos ⟨hs, h⟩] at hr; exact hk hr.symm
      rw [if_neg (fun h => h1 h.2)] at hr
      obtain rfl : k = 2 := hr.symm
      clear hr h0 hrd hp hnm ht hM hk hn hnl
      have w4 : IntKind.i64.wrap ((p : Int) + 10 + (t : Int)) = (p : Int) + 10 + (t : Int) := IntWalk.i64_in _ (by omega)
      have q1 : ¬ ((n : Int) < (p : Int) + 10) := by omega
      have q1' : decide ((n : Int) < (p : Int) + 10) = false := decide_eq_false q1
      have q4 : (n : Int) < (p : Int) + 10 + (t : Int) := by omega
      have q5 : decide ((n : Int) < (p : Int) + 10 + (t : Int)) = true := decide_eq_true q4
      have tk0 : True := trivial; have tk1 : True := trivial; have tk2 : True := trivial; have tk3 : True := trivial; have tk4 : True := trivial; have tk5 : True := trivial; have tk6 : True := trivial; have tk7 : True := trivial; have tk8 : True := trivial; have tk9 : True := trivial; have tk10 : True := trivial; have tk11 : True := trivial; have tk12 : True := trivial
      go_enter Tryd.func14, Tryd.ntmps14
      go_wp2_with (first
        | (go_at_call 13; have _t := tk1; (with_reducible refine (CN.out _ (by (repeat' (first | (with_reducible exact Below.refl _ _) | (with_reducible assumption) | (with_reducible refine below_ext0 ?_ _ _) | (with_reducible refine below_alloc0 ?_ _) | (with_reducible refine Below.ext ?_ ?_ _ _) | (with_reducible refine Below.alloc ?_ ?_ _) | (with_reducible refine Below.setCell ?_ ?_ _) | (with_reducible refine Below.drew ?_) | (with_reducible refine below_draws ?_ _) | go_size | (simp [size_ext]; done) | (simp [size_ext]; omega))))).mono ?_); rintro e w1 ⟨A1, c1, rfl, hb⟩; obtain ⟨o1, d1, rfl⟩ := ext_of_below hb; clear hb tk1)
        | (go_at_call 12; have _t := tk2; (with_reducible refine (CT.out _ (by (repeat' (first | (with_reducible exact Below.refl _ _) | (with_reducible assumption) | (with_reducible refine below_ext0 ?_ _ _) | (with_reducible refine below_alloc0 ?_ _) | (with_reducible refine Below.ext ?_ ?_ _ _) | (with_reducible refine Below.alloc ?_ ?_ _) | (with_reducible refine Below.setCell ?_ ?_ _) | (with_reducible refine Below.drew ?_) | (with_reducible refine below_draws ?_ _) | go_size | (simp [size_ext]; done) | (simp [size_ext]; omega))))).mono ?_); rintro e w1 ⟨rfl, hb⟩; obtain ⟨otk2, dtk2, rfl⟩ := ext_of_below hb; clear hb tk2))
      refine bodyPost_ret (v := .agg #[.slice none 0 0, .int .i64 0, .int .i64 0, .int .i64 0, .slice none 0 0, .int .i64 0, .int .i64 0, .int .i64 2]) (by simp [results, Tryd.results14, go_sem]) rfl ⟨rfl, (by (repeat' (first | (with_reducible exact Below.refl _ _) | (with_reducible assumption) | (with_reducible refine below_ext0 ?_ _ _) | (with_reducible refine below_alloc0 ?_ _) | (with_reducible refine Below.ext ?_ ?_ _ _) | (with_reducible refine Below.alloc ?_ ?_ _) | (with_reducible refine Below.setCell ?_ ?_ _) | (with_reducible refine Below.drew ?_) | (with_reducible refine below_draws ?_ _) | go_size | (simp [size_ext]; done) | (simp [size_ext]; omega))))⟩
    · rw [if_neg (fun h => hs h.1)] at hr
      obtain rfl : k = 2 := hr.symm
      clear hr h0 hrd hp hnm hM hk hn hnl
      have q1 : ((n : Int) < (p : Int) + 10) := by omega
      have q1' : decide ((n : Int) < (p : Int) + 10) = true := decide_eq_true q1
      have tk0 : True := trivial; have tk1 : True := trivial; have tk2 : True := trivial; have tk3 : True := trivial; have tk4 : True := trivial; have tk5 : True := trivial; have tk6 : True := trivial; have tk7 : True := trivial; have tk8 : True := trivial; have tk9 : True := trivial; have tk10 : True := trivial; have tk11 : True := trivial; have tk12 : True := trivial
      go_enter Tryd.func14, Tryd.ntmps14
      go_wp2_with (go_at_call 13; have _t := tk1; (with_reducible refine (CN.out _ (by (repeat' (first | (with_reducible exact Below.refl _ _) | (with_reducible assumption) | (with_reducible refine below_ext0 ?_ _ _) | (with_reducible refine below_alloc0 ?_ _) | (with_reducible refine Below.ext ?_ ?_ _ _) | (with_reducible refine Below.alloc ?_ ?_ _) | (with_reducible refine Below.setCell ?_ ?_ _) | (with_reducible refine Below.drew ?_) | (with_reducible refine below_draws ?_ _) | go_size | (simp [size_ext]; done) | (simp [size_ext]; omega))))).mono ?_); rintro e w1 ⟨A1, c1, rfl, hb⟩; obtain ⟨o1, d1, rfl⟩ := ext_of_below hb; clear hb tk1)
      refine bodyPost_ret (v := .agg #[.slice none 0 0, .int .i64 0, .int .i64 0, .int .i64 0, .slice none 0 0, .int .i64 0, .int .i64 0, .int .i64 2]) (by simp [results, Tryd.results14, go_sem]) rfl ⟨rfl, (by (repeat' (first | (with_reducible exact Below.refl _ _) | (with_reducible assumption) | (with_reducible refine below_ext0 ?_ _ _) | (with_reducible refine below_alloc0 ?_ _) | (with_reducible refine Below.ext ?_ ?_ _ _) | (with_reducible refine Below.alloc ?_ ?_ _) | (with_reducible refine Below.setCell ?_ ?_ _) | (with_reducible refine Below.drew ?_) | (with_reducible refine below_draws ?_ _) | go_size | (simp [size_ext]; done) | (simp [size_ext]; omega))))⟩
  · unfold rrF at hr
    rw [if_neg h0] at hr
    have CN : ∀ w', Below w.heap.size w w' → Calls Tryd.prog 13 #[.slice A n c, .int .i64 at_] w' fun e w2 => ∃ (nl : Nat) (A' : Option Addr) (c' : Nat) (nx : Int), e = .returned (.agg #[.slice A' nl c', .int .i64 nx, .int .i64 k]) ∧ Below w'.heap.size w' w2 := fun w' hb => by
      refine (nameAt_any w' _ n c m (hM.later hb) at_ hat).mono ?_
      rintro e w2 ⟨hb2, A', c', he, _⟩
      rw [hr] at he
      exact ⟨_, A', c', _, he, hb2⟩
    replace CN := hid CN
    have k0 : (k == 0) = false := by rw [beq_eq_false_iff_ne]; exact hk
    clear hM h0 hr
    have tk0 : True := trivial; have tk1 : True := trivial; have tk2 : True := trivial; have tk3 : True := trivial; have tk4 : True := trivial; have tk5 : True := trivial; have tk6 : True := trivial; have tk7 : True := trivial; have tk8 : True := trivial; have tk9 : True := trivial; have tk10 : True := trivial; have tk11 : True := trivial; have tk12 : True := trivial
    go_enter Tryd.func14, Tryd.ntmps14
    go_wp2_with (go_at_call 13; have _t := tk1; (with_reducible refine (CN.out _ (by (repeat' (first | (with_reducible exact Below.refl _ _) | (with_reducible assumption) | (with_reducible refine below_ext0 ?_ _ _) | (with_reducible refine below_alloc0 ?_ _) | (with_reducible refine Below.ext ?_ ?_ _ _) | (with_reducible refine Below.alloc ?_ ?_ _) | (with_reducible refine Below.setCell ?_ ?_ _) | (with_reducible refine Below.drew ?_) | (with_reducible refine below_draws ?_ _) | go_size | (simp [size_ext]; done) | (simp [size_ext]; omega))))).mono ?_); rintro e w1 ⟨nl, A1, c1, nx, rfl, hb⟩; obtain ⟨o1, d1, rfl⟩ := ext_of_below hb; clear hb tk1)
    refine bodyPost_ret (v := .agg #[.slice none 0 0, .int .i64 0, .int .i64 0, .int .i64 0, .slice none 0 0, .int .i64 0, .int .i64 0, .int .i64 k]) (by simp [results, Tryd.results14, go_sem]) rfl ⟨rfl, (by (repeat' (first | (with_reducible exact Below.refl _ _) | (with_reducible assumption) | (with_reducible refine below_ext0 ?_ _ _) | (with_reducible refine below_alloc0 ?_ _) | (with_reducible refine Below.ext ?_ ?_ _ _) | (with_reducible refine Below.alloc ?_ ?_ _) | (with_reducible refine Below.setCell ?_ ?_ _) | (with_reducible refine Below.drew ?_) | (with_reducible refine below_draws ?_ _) | go_size | (simp [size_ext]; done) | (simp [size_ext]; omega))))⟩
end Go.Proofs.YthccknobnpbdeaaDoor
