/- What a message tells of itself, plain: what was put is what is found. No function of the program. -/
import Derived.Test.YtfihedcobopbcaaDoorK10
import Derived.Test.YtfihedcobopbcaaDoorK6
import Derived.Test.YtfihedcobopbcaaDoorK11
namespace Go.Proofs.YtfihedcobopbcaaDoor
open Go.RowKit
set_option linter.unusedVariables false
set_option linter.unusedSimpArgs false

theorem isOpt_recO (x : OptX) (os : List OT) : isOpt (recO x os) = true := rfl
theorem silent_app (a b : List RecT) : silent (a ++ b) = silent a ++ silent b := List.filter_append ..
theorem silent_isOpt {l : List RecT} : ∀ r ∈ silent l, isOpt r = false := fun r hr => by
  have := (List.mem_filter.1 hr).2
  cases h : isOpt r with
  | false => rfl
  | true => rw [h] at this; cases this
theorem silent_idem (l : List RecT) : silent (silent l) = silent l := silent_none silent_isOpt
theorem silent_put (l : List RecT) (x : OptX) (os : List OT) : silent (silent l ++ [recO x os]) = silent l := by
  rw [silent_app, silent_idem, show silent [recO x os] = [] from rfl, List.append_nil]
theorem idxO_from {l : List RecT} (h : ∀ r ∈ l, isOpt r = false) (x : OptX) (os : List OT) : ∀ k, idxO (l ++ [recO x os]) k = ((k + l.length : Nat) : Int) := by
  induction l with
  | nil => intro k; rw [List.nil_append, idxO, if_pos (isOpt_recO x os)]; rfl
  | cons r l ih =>
    intro k
    rw [List.cons_append, idxO, if_neg (by rw [h r (by simp)]; simp), ih (fun r hr => h r (by simp [hr])), List.length_cons]
    congr 1; omega
theorem idxO_put (l : List RecT) (x : OptX) (os : List OT) : idxO (silent l ++ [recO x os]) 0 = (((silent l).length : Nat) : Int) := by
  rw [idxO_from silent_isOpt]; simp
theorem rest_put (l : List RecT) (x : OptX) (os : List OT) : ((silent l ++ [recO x os]).drop ((silent l).length + 1)).any isOpt = false := by
  rw [List.drop_eq_nil_of_le (by simp)]; rfl
theorem at_put (l : List RecT) (x : OptX) (os : List OT) : (silent l ++ [recO x os])[(silent l).length]'(by simp) = recO x os := by simp
theorem ttl2_le {x : OptX} (h : OptOk x) : 0 ≤ ttl2 x ∧ ttl2 x ≤ 4294967295 := by
  obtain ⟨_, ⟨c0, c1⟩, ⟨v0, v1⟩, ⟨z0, z1⟩⟩ := h
  unfold ttl2
  split <;> omega
theorem ttlX_ttl2 {x : OptX} (h : OptOk x) : ttlX x.size (ttl2 x) = x := by
  obtain ⟨size, code, ver, dob, z⟩ := x
  obtain ⟨_, ⟨c0, c1⟩, ⟨v0, v1⟩, ⟨z0, z1⟩⟩ := h
  simp only at c0 c1 v0 v1 z0 z1
  unfold ttlX ttl2
  simp only
  cases dob
  · simp only [Bool.false_eq_true, if_false, OptX.mk.injEq, true_and]
    refine ⟨by omega, by omega, ?_, by omega⟩
    rw [beq_eq_false_iff_ne]; omega
  · simp only [if_true, OptX.mk.injEq, true_and]
    refine ⟨by omega, by omega, ?_, by omega⟩
    rw [beq_iff_eq]; omega
theorem optsP_data : ∀ (os : List OT), optsErr os = 0 → optsP (dataO os) = some os
  | [], _ => optsP_nil
  | (C, d, ()) :: os, he => by
    rw [optsErr] at he
    simp only at he
    by_cases h1 : 0 ≤ C ∧ C ≤ 65535
    · rw [if_pos h1] at he
      by_cases h2 : d.length ≤ 65535
      · rw [if_pos h2] at he
        have ih := optsP_data os he
        have e0 : dataO ((C, d, ()) :: os) = two2 C ++ (two2 (d.length : Int) ++ (d ++ dataO os)) := by simp [dataO, optB]
        have a0 : ((at2 (dataO ((C, d, ()) :: os)) 0 : Nat) : Int) = C := by rw [e0]; exact two2_at _ _ h1.1 h1.2
        have a2 : at2 (dataO ((C, d, ()) :: os)) 2 = d.length := by
          have : at2 (dataO ((C, d, ()) :: os)) 2 = at2 (two2 (d.length : Int) ++ (d ++ dataO os)) 0 := by rw [e0]; exact at2_two C _ 0
          have h := two2_at (d.length : Int) (d ++ dataO os) (by omega) (by omega)
          rw [this]
          omega
        have hl : (dataO ((C, d, ()) :: os)).length = 4 + d.length + (dataO os).length := by rw [e0]; simp [two2_len]; omega
        have hd4 : (dataO ((C, d, ()) :: os)).drop 4 = d ++ dataO os := by rw [e0]; rfl
        rw [optsP_step (by rw [hl, a2]; omega), a0, a2, ← List.drop_drop, hd4, List.drop_left, List.take_left, ih]
        rfl
      · rw [if_neg h2] at he; cases he
    · rw [if_neg h1] at he; cases he
end Go.Proofs.YtfihedcobopbcaaDoor
/- Are two rows of records the same, two messages? They are, where they read alike. -/
namespace Go.Proofs.YtfihedcobopbcaaDoor
open Go.RowKit
set_option linter.unusedVariables false
set_option linter.unusedSimpArgs false

set_option maxRecDepth 100000 in
set_option maxHeartbeats 4000000 in
theorem records_yes {w : World} {A1 : Option Addr} {n1 c1 : Nat} {l : List RecT} {A2 : Option Addr} {n2 c2 : Nat} (h1 : Rd recR w w.heap.size A1 n1 c1 l) (h2 : Rd recR w w.heap.size A2 n2 c2 l) :
    Calls Tryd.prog 32 #[.slice A1 n1 c1, .slice A2 n2 c2] w fun e w' => e = .returned (.bool true) ∧ Below w.heap.size w w' := by
  have m1 := h1.max
  have k1 := h1.cap
  have m2 := h2.max
  have k2 := h2.cap
  unfold maxLen at m1 m2
  obtain rfl : n1 = n2 := h1.len.symm.trans h2.len
  have H1 := hid h1
  have H2 := hid h2
  clear h1 h2
  have hv : ((n1 : Int) != (n1 : Int)) = false := by simp
  go_enter Tryd.func32, Tryd.ntmps32
  go_wp2
  go_loopg [5] n1 (fun g v wi => ∃ k : Nat, k ≤ n1 ∧ g = n1 - k ∧ v = .int .i64 k ∧ Below w.heap.size w wi)
  case atStart => exact ⟨0, Nat.zero_le _, rfl, rfl, (by (repeat' (first | (with_reducible exact Below.refl _ _) | (with_reducible assumption) | (with_reducible refine below_ext0 ?_ _ _) | (with_reducible refine below_alloc0 ?_ _) | (with_reducible refine Below.ext ?_ ?_ _ _) | (with_reducible refine Below.alloc ?_ ?_ _) | (with_reducible refine Below.setCell ?_ ?_ _) | (with_reducible refine Below.drew ?_) | (with_reducible refine below_draws ?_ _) | go_size | (simp [size_ext]; done) | (simp [size_ext]; omega))))⟩
  case round =>
    obtain ⟨k, hk, rfl, rfl, hb⟩ := hrel
    have HB := hid hb
    clear hb
    by_cases hlt : k < n1
    · obtain ⟨b1, o1, A3, n3, c3, A4, n4, c4, l1, T, C, L, d, rfl, hb1, e1, x0, x1, x2, x3, x4, r1, _, s1⟩ := (H1.out.later HB.out).recd k hlt
      obtain ⟨b2, o2, A5, n5, c5, A6, n6, c6, l2, T', C', L', d', rfl, hb2, e2, y0, y1, y2, y3, y4, r2, _, s2⟩ := (H2.out.later HB.out).recd k hlt
      rw [e1] at e2
      cases e2
      have CR := hid fun w' (hb : Below wr.heap.size wr w') => record_yes (T := T) (C := C) (L := L) (r1.later hb) (s1.later hb) (r2.later hb) (s2.later hb) (Nat.le_refl _) (Nat.le_refl _) (Nat.le_refl _) (Nat.le_refl _)
      clear e1 r1 s1 r2 s2
      have t0 : (k : Int) < (n1 : Int) := by omega
      have t1 : decide ((k : Int) < (n1 : Int)) = true := decide_eq_true t0
      have t2 : (0 : Int) ≤ (k : Int) := by omega
      have v3 : IntKind.i64.wrap ((k : Int) + 1) = (k : Int) + 1 := IntWalk.i64_in _ (by omega)
      have tk0 : True := trivial; have tk1 : True := trivial; have tk2 : True := trivial; have tk3 : True := trivial; have tk4 : True := trivial; have tk5 : True := trivial; have tk6 : True := trivial; have tk7 : True := trivial; have tk8 : True := trivial; have tk9 : True := trivial; have tk10 : True := trivial; have tk11 : True := trivial; have tk12 : True := trivial
      go_wp2_with fail
      go_region_held3 (fun w' => w'.cell? ⟨b1, o1 + k * 5, none⟩ = some (.slice A3 n3 c3) ∧ w'.cell? ⟨b1, o1 + k * 5 + 1, none⟩ = some (.int .i64 T) ∧ w'.cell? ⟨b1, o1 + k * 5 + 2, none⟩ = some (.int .i64 C) ∧ w'.cell? ⟨b1, o1 + k * 5 + 3, none⟩ = some (.int .i64 L) ∧ w'.cell? ⟨b1, o1 + k * 5 + 4, none⟩ = some (.slice A4 n4 c4) ∧ w'.cell? ⟨b2, o2 + k * 5, none⟩ = some (.slice A5 n5 c5) ∧ w'.cell? ⟨b2, o2 + k * 5 + 1, none⟩ = some (.int .i64 T) ∧ w'.cell? ⟨b2, o2 + k * 5 + 2, none⟩ = some (.int .i64 C) ∧ w'.cell? ⟨b2, o2 + k * 5 + 3, none⟩ = some (.int .i64 L) ∧ w'.cell? ⟨b2, o2 + k * 5 + 4, none⟩ = some (.slice A6 n6 c6)) (((try dsimp only); (repeat' apply And.intro) <;> (first | assumption | (go_simp; done)))) (first | (go_at_call 64; have _t := tk1; (with_reducible refine (CR.out _ (by (repeat' (first | (with_reducible exact Below.refl _ _) | (with_reducible assumption) | (with_reducible refine below_ext0 ?_ _ _) | (with_reducible refine below_alloc0 ?_ _) | (with_reducible refine Below.ext ?_ ?_ _ _) | (with_reducible refine Below.alloc ?_ ?_ _) | (with_reducible refine Below.setCell ?_ ?_ _) | (with_reducible refine Below.drew ?_) | (with_reducible refine below_draws ?_ _) | go_size | (simp [size_ext]; done) | (simp [size_ext]; omega))))).mono ?_); rintro e w1 ⟨rfl, hb⟩; obtain ⟨otk1, dtk1, rfl⟩ := ext_of_below hb; clear hb tk1))
      all_goals
        go_wp2
        go_roundg (n1 - (k + 1))
        case measure => omega
        case rel =>
          have hlw := HB.out
          exact ⟨k + 1, by omega, rfl, by go_num, (by (repeat' (first | (with_reducible exact Below.refl _ _) | (with_reducible assumption) | (with_reducible refine below_ext0 ?_ _ _) | (with_reducible refine below_alloc0 ?_ _) | (with_reducible refine Below.ext ?_ ?_ _ _) | (with_reducible refine Below.alloc ?_ ?_ _) | (with_reducible refine Below.setCell ?_ ?_ _) | (with_reducible refine Below.drew ?_) | (with_reducible refine below_draws ?_ _) | go_size | (simp [size_ext]; done) | (simp [size_ext]; omega))))⟩
    · have t0 : ¬ (k : Int) < (n1 : Int) := by omega
      have t1 : decide ((k : Int) < (n1 : Int)) = false := decide_eq_false t0
      go_wp2
      go_ret
      exact ⟨rfl, HB.out⟩

set_option maxRecDepth 100000 in
set_option maxHeartbeats 8000000 in
theorem message_yes {w : World} {h : Hd} {Aq Aq' Ax Ax' Ay Ay' Az Az' : Option Addr} {nq nq' cq cq' nx nx' cx cx' ny ny' cy cy' nz nz' cz cz' : Nat} {qs : List QT} {xs ys zs : List RecT}
    (q1 : Rd qR w w.heap.size Aq nq cq qs) (x1 : Rd recR w w.heap.size Ax nx cx xs) (y1 : Rd recR w w.heap.size Ay ny cy ys) (z1 : Rd recR w w.heap.size Az nz cz zs)
    (q2 : Rd qR w w.heap.size Aq' nq' cq' qs) (x2 : Rd recR w w.heap.size Ax' nx' cx' xs) (y2 : Rd recR w w.heap.size Ay' ny' cy' ys) (z2 : Rd recR w w.heap.size Az' nz' cz' zs) :
    Calls Tryd.prog 8 #[.agg (msgC h (.slice Aq nq cq) (.slice Ax nx cx) (.slice Ay ny cy) (.slice Az nz cz)), .agg (msgC h (.slice Aq' nq' cq') (.slice Ax' nx' cx') (.slice Ay' ny' cy') (.slice Az' nz' cz'))] w fun e w' => e = .returned (.bool true) ∧ Below w.heap.size w w' := by
  obtain rfl : nq = nq' := q1.len.symm.trans q2.len
  have m1 := q1.max
  have k1 := q1.cap
  have m2 := q2.max
  have k2 := q2.cap
  unfold maxLen at m1 m2
  have Q1 := hid q1
  have Q2 := hid q2
  have CX := hid fun w' (hb : Below w.heap.size w w') => records_yes (x1.later hb) (x2.later hb)
  have CY := hid fun w' (hb : Below w.heap.size w w') => records_yes (y1.later hb) (y2.later hb)
  have CZ := hid fun w' (hb : Below w.heap.size w w') => records_yes (z1.later hb) (z2.later hb)
  clear q1 q2 x1 x2 y1 y2 z1 z2
  go_enter Tryd.func8, Tryd.ntmps8
  go_wp2
  have hB1 : Blk ((w.alloc (.cells (msgC h (.slice Aq nq cq) (.slice Ax nx cx) (.slice Ay ny cy) (.slice Az nz cz)) 28)).alloc (.cells (msgC h (.slice Aq' nq cq') (.slice Ax' nx' cx') (.slice Ay' ny' cy') (.slice Az' nz' cz')) 28)) w.heap.size 28 (msgC h (.slice Aq nq cq) (.slice Ax nx cx) (.slice Ay ny cy) (.slice Az nz cz)) := (Blk.new _ _ _).alloc _
  have hB2 : Blk ((w.alloc (.cells (msgC h (.slice Aq nq cq) (.slice Ax nx cx) (.slice Ay ny cy) (.slice Az nz cz)) 28)).alloc (.cells (msgC h (.slice Aq' nq cq') (.slice Ax' nx' cx') (.slice Ay' ny' cy') (.slice Az' nz' cz')) 28)) (w.heap.size + 1) 28 (msgC h (.slice Aq' nq cq') (.slice Ax' nx' cx') (.slice Ay' ny' cy') (.slice Az' nz' cz')) := Blk.new' _ _ (by simp)
  go_loopg [5] nq (fun g v wi => ∃ k : Nat, k ≤ nq ∧ g = nq - k ∧ v = .int .i64 k ∧ Below w.heap.size w wi ∧ Blk wi w.heap.size 28 (msgC h (.slice Aq nq cq) (.slice Ax nx cx) (.slice Ay ny cy) (.slice Az nz cz)) ∧ Blk wi (w.heap.size + 1) 28 (msgC h (.slice Aq' nq cq') (.slice Ax' nx' cx') (.slice Ay' ny' cy') (.slice Az' nz' cz')))
  case atStart => exact ⟨0, Nat.zero_le _, rfl, rfl, (by (repeat' (first | (with_reducible exact Below.refl _ _) | (with_reducible assumption) | (with_reducible refine below_ext0 ?_ _ _) | (with_reducible refine below_alloc0 ?_ _) | (with_reducible refine Below.ext ?_ ?_ _ _) | (with_reducible refine Below.alloc ?_ ?_ _) | (with_reducible refine Below.setCell ?_ ?_ _) | (with_reducible refine Below.drew ?_) | (with_reducible refine below_draws ?_ _) | go_size | (simp [size_ext]; done) | (simp [size_ext]; omega)))), hB1, hB2⟩
  case round =>
    obtain ⟨k, hk, rfl, rfl, hb, hk1, hk2⟩ := hrel
    clear hB1 hB2
    have HB := hid hb
    have zw := hk2.lt
    have c0 : wr.cell? ⟨w.heap.size, 11, none⟩ = some (.slice Aq nq cq) := hk1.cell 11
    have c1 : wr.cell? ⟨w.heap.size + 1, 11, none⟩ = some (.slice Aq' nq cq') := hk2.cell 11
    have c2 : wr.cell? ⟨w.heap.size, 12, none⟩ = some (.slice Ax nx cx) := hk1.cell 12
    have c3 : wr.cell? ⟨w.heap.size + 1, 12, none⟩ = some (.slice Ax' nx' cx') := hk2.cell 12
    have c4 : wr.cell? ⟨w.heap.size, 13, none⟩ = some (.slice Ay ny cy) := hk1.cell 13
    have c5 : wr.cell? ⟨w.heap.size + 1, 13, none⟩ = some (.slice Ay' ny' cy') := hk2.cell 13
    have c6 : wr.cell? ⟨w.heap.size, 14, none⟩ = some (.slice Az nz cz) := hk1.cell 14
    have c7 : wr.cell? ⟨w.heap.size + 1, 14, none⟩ = some (.slice Az' nz' cz') := hk2.cell 14
    have g0 : w.heap.size < wr.heap.size := by omega
    have HK1 := hid hk1
    have HK2 := hid hk2
    clear hb hk1 hk2
    have tk0 : True := trivial; have tk1 : True := trivial; have tk2 : True := trivial; have tk3 : True := trivial; have tk4 : True := trivial; have tk5 : True := trivial; have tk6 : True := trivial; have tk7 : True := trivial; have tk8 : True := trivial; have tk9 : True := trivial; have tk10 : True := trivial; have tk11 : True := trivial; have tk12 : True := trivial
    by_cases hlt : k < nq
    · obtain ⟨b1, o1, A3, n3, c3', l1, T, C, rfl, hb1, e1, x0, x1, x2, r1, _⟩ := (Q1.out.later HB.out).quest k hlt
      obtain ⟨b2, o2, A5, n5, c5', l2, T', C', rfl, hb2, e2, y0, y1, y2, r2, _⟩ := (Q2.out.later HB.out).quest k hlt
      rw [e1] at e2
      cases e2
      have CR := hid fun w' (hb : Below wr.heap.size wr w') => texts_yes (r1.later hb) (r2.later hb)
      clear e1 r1 r2
      have t0 : (k : Int) < (nq : Int) := by omega
      have t1 : decide ((k : Int) < (nq : Int)) = true := decide_eq_true t0
      have t2 : (0 : Int) ≤ (k : Int) := by omega
      have v3 : IntKind.i64.wrap ((k : Int) + 1) = (k : Int) + 1 := IntWalk.i64_in _ (by omega)
      go_wp2_with fail
      go_region_held3 (fun w' => w'.cell? ⟨w.heap.size, 11, none⟩ = some (.slice (some ⟨b1, o1, none⟩) nq cq) ∧ w'.cell? ⟨w.heap.size + 1, 11, none⟩ = some (.slice (some ⟨b2, o2, none⟩) nq cq') ∧ w'.cell? ⟨b1, o1 + k * 3, none⟩ = some (.slice A3 n3 c3') ∧ w'.cell? ⟨b2, o2 + k * 3, none⟩ = some (.slice A5 n5 c5')) (((try dsimp only); (repeat' apply And.intro) <;> (first | assumption | (go_simp; done)))) (first | (go_at_call 31; have _t := tk1; (with_reducible refine (CR.out _ (by (repeat' (first | (with_reducible exact Below.refl _ _) | (with_reducible assumption) | (with_reducible refine below_ext0 ?_ _ _) | (with_reducible refine below_alloc0 ?_ _) | (with_reducible refine Below.ext ?_ ?_ _ _) | (with_reducible refine Below.alloc ?_ ?_ _) | (with_reducible refine Below.setCell ?_ ?_ _) | (with_reducible refine Below.drew ?_) | (with_reducible refine below_draws ?_ _) | go_size | (simp [size_ext]; done) | (simp [size_ext]; omega))))).mono ?_); rintro e w1 ⟨rfl, hb⟩; obtain ⟨otk1, dtk1, rfl⟩ := ext_of_below hb; clear hb tk1))
      all_goals
        go_wp2_with fail
        go_region_held3 (fun w' => w'.cell? ⟨w.heap.size, 11, none⟩ = some (.slice (some ⟨b1, o1, none⟩) nq cq) ∧ w'.cell? ⟨w.heap.size + 1, 11, none⟩ = some (.slice (some ⟨b2, o2, none⟩) nq cq') ∧ w'.cell? ⟨b1, o1 + k * 3 + 1, none⟩ = some (.int .i64 T) ∧ w'.cell? ⟨b2, o2 + k * 3 + 1, none⟩ = some (.int .i64 T) ∧ w'.cell? ⟨b1, o1 + k * 3 + 2, none⟩ = some (.int .i64 C) ∧ w'.cell? ⟨b2, o2 + k * 3 + 2, none⟩ = some (.int .i64 C)) (((try dsimp only); (repeat' apply And.intro) <;> (first | assumption | (go_simp; done)))) (fail)
        all_goals
          go_wp2
          go_roundg (nq - (k + 1))
          case measure => omega
          case rel =>
            have hlw := HB.out
            exact ⟨k + 1, by omega, rfl, by go_num, (by (repeat' (first | (with_reducible exact Below.refl _ _) | (with_reducible assumption) | (with_reducible refine below_ext0 ?_ _ _) | (with_reducible refine below_alloc0 ?_ _) | (with_reducible refine Below.ext ?_ ?_ _ _) | (with_reducible refine Below.alloc ?_ ?_ _) | (with_reducible refine Below.setCell ?_ ?_ _) | (with_reducible refine Below.drew ?_) | (with_reducible refine below_draws ?_ _) | go_size | (simp [size_ext]; done) | (simp [size_ext]; omega)))), by have := HK1.out; (repeat' (first | (with_reducible exact Blk.new _ _ _) | (with_reducible assumption) | (with_reducible refine Blk.ext ?_ _ _) | (with_reducible refine Blk.drew ?_) | (with_reducible refine Blk.alloc ?_ _))), by have := HK2.out; (repeat' (first | (with_reducible exact Blk.new _ _ _) | (with_reducible assumption) | (with_reducible refine Blk.ext ?_ _ _) | (with_reducible refine Blk.drew ?_) | (with_reducible refine Blk.alloc ?_ _)))⟩
    · have t0 : ¬ (k : Int) < (nq : Int) := by omega
      have t1 : decide ((k : Int) < (nq : Int)) = false := decide_eq_false t0
      have hlw := HB.out
      go_wp2_with (first
        | (go_at_call 32; have _t := tk1; (with_reducible refine (CX.out _ (by (repeat' (first | (with_reducible exact Below.refl _ _) | (with_reducible assumption) | (with_reducible refine below_ext0 ?_ _ _) | (with_reducible refine below_alloc0 ?_ _) | (with_reducible refine Below.ext ?_ ?_ _ _) | (with_reducible refine Below.alloc ?_ ?_ _) | (with_reducible refine Below.setCell ?_ ?_ _) | (with_reducible refine Below.drew ?_) | (with_reducible refine below_draws ?_ _) | go_size | (simp [size_ext]; done) | (simp [size_ext]; omega))))).mono ?_); rintro e w1 ⟨rfl, hb⟩; obtain ⟨otk1, dtk1, rfl⟩ := ext_of_below hb; clear hb tk1)
        | (go_at_call 32; have _t := tk2; (with_reducible refine (CY.out _ (by (repeat' (first | (with_reducible exact Below.refl _ _) | (with_reducible assumption) | (with_reducible refine below_ext0 ?_ _ _) | (with_reducible refine below_alloc0 ?_ _) | (with_reducible refine Below.ext ?_ ?_ _ _) | (with_reducible refine Below.alloc ?_ ?_ _) | (with_reducible refine Below.setCell ?_ ?_ _) | (with_reducible refine Below.drew ?_) | (with_reducible refine below_draws ?_ _) | go_size | (simp [size_ext]; done) | (simp [size_ext]; omega))))).mono ?_); rintro e w1 ⟨rfl, hb⟩; obtain ⟨otk2, dtk2, rfl⟩ := ext_of_below hb; clear hb tk2)
        | (go_at_call 32; have _t := tk3; (with_reducible refine (CZ.out _ (by (repeat' (first | (with_reducible exact Below.refl _ _) | (with_reducible assumption) | (with_reducible refine below_ext0 ?_ _ _) | (with_reducible refine below_alloc0 ?_ _) | (with_reducible refine Below.ext ?_ ?_ _ _) | (with_reducible refine Below.alloc ?_ ?_ _) | (with_reducible refine Below.setCell ?_ ?_ _) | (with_reducible refine Below.drew ?_) | (with_reducible refine below_draws ?_ _) | go_size | (simp [size_ext]; done) | (simp [size_ext]; omega))))).mono ?_); rintro e w1 ⟨rfl, hb⟩; obtain ⟨otk3, dtk3, rfl⟩ := ext_of_below hb; clear hb tk3))
      go_ret
      exact ⟨rfl, (by (repeat' (first | (with_reducible exact Below.refl _ _) | (with_reducible assumption) | (with_reducible refine below_ext0 ?_ _ _) | (with_reducible refine below_alloc0 ?_ _) | (with_reducible refine Below.ext ?_ ?_ _ _) | (with_reducible refine Below.alloc ?_ ?_ _) | (with_reducible refine Below.setCell ?_ ?_ _) | (with_reducible refine Below.drew ?_) | (with_reducible refine below_draws ?_ _) | go_size | (simp [size_ext]; done) | (simp [size_ext]; omega))))⟩
end Go.Proofs.YtfihedcobopbcaaDoor
/- edns as the laws meet it: Find of what was put; are two Opts the same; told. -/
namespace Go.Proofs.YtfihedcobopbcaaDoor
open Go.RowKit
set_option linter.unusedVariables false
set_option linter.unusedSimpArgs false

theorem find_put {w : World} {h : Hd} {Aq Ax Ay Az : Option Addr} {nq cq nx cx ny cy nz cz : Nat} {zs : List RecT} {x : OptX} {os : List OT} (hZ : Rd recR w w.heap.size Az nz cz (silent zs ++ [recO x os])) (hk : OptOk x) (he : optsErr os = 0) (hd : (dataO os).length ≤ 65535) {no : Nat} (hn : os.length = no) :
    Calls Tryd.prog 14 #[.agg (msgC h (.slice Aq nq cq) (.slice Ax nx cx) (.slice Ay ny cy) (.slice Az nz cz))] w fun e w' => ∃ A c, e = .returned (.tuple #[.agg (optC x (.slice A no c)), .bool true, .nilIface]) ∧ Rd oR w' w'.heap.size A no c os ∧ Below w.heap.size w w' := by
  have hl := hZ.len
  rw [List.length_append, List.length_singleton] at hl
  have := find_ok (h := h) (Aq := Aq) (Ax := Ax) (Ay := Ay) (nq := nq) (cq := cq) (nx := nx) (cx := cx) (ny := ny) (cy := cy) hZ (i := (silent zs).length) (by omega) (idxO_put _ _ _) (T := 41) (C := x.size) (L := ttl2 x) (d := dataO os) (by rw [at_put]; rfl) hk.size (ttl2_le hk) (rest_put _ _ _) (optsP_data _ he) (by omega) hn
  rwa [ttlX_ttl2 hk] at this
theorem find_silent {w : World} {h : Hd} {Aq Ax Ay Az : Option Addr} {nq cq nx cx ny cy nz cz : Nat} {zs : List RecT} (hZ : Rd recR w w.heap.size Az nz cz (silent zs)) :
    Calls Tryd.prog 14 #[.agg (msgC h (.slice Aq nq cq) (.slice Ax nx cx) (.slice Ay ny cy) (.slice Az nz cz))] w fun e w' => e = .returned (.tuple #[.agg (optC opt0 (.slice none 0 0)), .bool false, .nilIface]) ∧ Below w.heap.size w w' :=
  find_none hZ silent_isOpt
/-- Drop with what it hands back as readings -/
theorem drop_rd {w : World} {h : Hd} {Aq Ax Ay Az : Option Addr} {nq cq nx cx ny cy nz cz : Nat} {qs : List QT} {xs ys zs ss : List RecT} (hQ : Rd qR w w.heap.size Aq nq cq qs) (hX : Rd recR w w.heap.size Ax nx cx xs) (hY : Rd recR w w.heap.size Ay ny cy ys) (hZ : Rd recR w w.heap.size Az nz cz zs) (hs : silent zs = ss) {k : Nat} (hk : ss.length = k) :
    Calls Tryd.prog 16 #[.agg (msgC h (.slice Aq nq cq) (.slice Ax nx cx) (.slice Ay ny cy) (.slice Az nz cz))] w fun e w' => ∃ Aq' cq' Ax' cx' Ay' cy' Az' cz', e = .returned (.agg (msgC h (.slice Aq' nq cq') (.slice Ax' nx cx') (.slice Ay' ny cy') (.slice Az' k cz'))) ∧ (Rd qR w' w'.heap.size Aq' nq cq' qs ∧ Rd recR w' w'.heap.size Ax' nx cx' xs ∧ Rd recR w' w'.heap.size Ay' ny cy' ys ∧ Rd recR w' w'.heap.size Az' k cz' ss) ∧ Below w.heap.size w w' := by
  have lz := hZ.len
  have limz := hZ.lim
  rw [show recR.bs = 72 from rfl] at limz
  have hzl := silent_len zs
  refine (drop_any (h := h) hQ hX hY hZ).mono ?_
  rintro e w' ⟨Aq', cq', Ax', cx', Ay', cy', Az', nz', cz', hd⟩
  obtain rfl : nz' = k := by rw [← hd.lz, hs, hk]
  have hb := hd.low.size
  obtain ⟨_, _, eq, r1⟩ := hd.q.rd hb (by rw [hd.lq.1, show qR.bs = 40 from rfl]; exact hd.lq.2) (by decide)
  obtain ⟨_, _, ex, r2⟩ := hd.x.rd hb (by rw [hd.lx.1, show recR.bs = 72 from rfl]; exact hd.lx.2) (by decide)
  obtain ⟨_, _, ey, r3⟩ := hd.y.rd hb (by rw [hd.ly.1, show recR.bs = 72 from rfl]; exact hd.ly.2) (by decide)
  obtain ⟨_, _, ez, r4⟩ := hd.z.rd hb (by rw [show recR.bs = 72 from rfl]; omega) (by decide)
  rw [hd.lq.1] at eq r1
  rw [hd.lx.1] at ex r2
  rw [hd.ly.1] at ey r3
  rw [hd.lz] at ez r4
  cases eq
  cases ex
  cases ey
  cases ez
  rw [hs] at r4
  exact ⟨_, _, _, _, _, _, _, _, hd.ret, ⟨r1, r2, r3, r4⟩, hd.low⟩

set_option maxRecDepth 100000 in
set_option maxHeartbeats 8000000 in
theorem opts_yes {w : World} {x : OptX} {A1 A2 : Option Addr} {n1 c1 n2 c2 : Nat} {os : List OT} (h1 : Rd oR w w.heap.size A1 n1 c1 os) (h2 : Rd oR w w.heap.size A2 n2 c2 os) :
    Calls Tryd.prog 15 #[.agg (optC x (.slice A1 n1 c1)), .agg (optC x (.slice A2 n2 c2))] w fun e w' => e = .returned (.bool true) ∧ Below w.heap.size w w' := by
  obtain ⟨size, code, ver, dob, z⟩ := x
  obtain rfl : n1 = n2 := h1.len.symm.trans h2.len
  have m1 := h1.max
  have k1 := h1.cap
  have m2 := h2.max
  have k2 := h2.cap
  unfold maxLen at m1 m2
  have H1 := hid h1
  have H2 := hid h2
  clear h1 h2
  go_enter Tryd.func15, Tryd.ntmps15
  go_wp2
  have hB1 : Blk ((w.alloc (.cells (optC ⟨size, code, ver, dob, z⟩ (.slice A1 n1 c1)) 46)).alloc (.cells (optC ⟨size, code, ver, dob, z⟩ (.slice A2 n1 c2)) 46)) w.heap.size 46 (optC ⟨size, code, ver, dob, z⟩ (.slice A1 n1 c1)) := (Blk.new _ _ _).alloc _
  have hB2 : Blk ((w.alloc (.cells (optC ⟨size, code, ver, dob, z⟩ (.slice A1 n1 c1)) 46)).alloc (.cells (optC ⟨size, code, ver, dob, z⟩ (.slice A2 n1 c2)) 46)) (w.heap.size + 1) 46 (optC ⟨size, code, ver, dob, z⟩ (.slice A2 n1 c2)) := Blk.new' _ _ (by simp)
  go_loopg [5] n1 (fun g v wi => ∃ k : Nat, k ≤ n1 ∧ g = n1 - k ∧ v = .int .i64 k ∧ Below w.heap.size w wi ∧ Blk wi w.heap.size 46 (optC ⟨size, code, ver, dob, z⟩ (.slice A1 n1 c1)) ∧ Blk wi (w.heap.size + 1) 46 (optC ⟨size, code, ver, dob, z⟩ (.slice A2 n1 c2)))
  case atStart => exact ⟨0, Nat.zero_le _, rfl, rfl, (by (repeat' (first | (with_reducible exact Below.refl _ _) | (with_reducible assumption) | (with_reducible refine below_ext0 ?_ _ _) | (with_reducible refine below_alloc0 ?_ _) | (with_reducible refine Below.ext ?_ ?_ _ _) | (with_reducible refine Below.alloc ?_ ?_ _) | (with_reducible refine Below.setCell ?_ ?_ _) | (with_reducible refine Below.drew ?_) | (with_reducible refine below_draws ?_ _) | go_size | (simp [size_ext]; done) | (simp [size_ext]; omega)))), hB1, hB2⟩
  case round =>
    obtain ⟨k, hk, rfl, rfl, hb, hk1, hk2⟩ := hrel
    clear hB1 hB2
    have HB := hid hb
    have zw := hk2.lt
    have c0 : wr.cell? ⟨w.heap.size, 5, none⟩ = some (.slice A1 n1 c1) := hk1.cell 5
    have c1' : wr.cell? ⟨w.heap.size + 1, 5, none⟩ = some (.slice A2 n1 c2) := hk2.cell 5
    have g0 : w.heap.size < wr.heap.size := by omega
    have HK1 := hid hk1
    have HK2 := hid hk2
    clear hb hk1 hk2
    have tk0 : True := trivial; have tk1 : True := trivial; have tk2 : True := trivial; have tk3 : True := trivial; have tk4 : True := trivial; have tk5 : True := trivial; have tk6 : True := trivial; have tk7 : True := trivial; have tk8 : True := trivial; have tk9 : True := trivial; have tk10 : True := trivial; have tk11 : True := trivial; have tk12 : True := trivial
    by_cases hlt : k < n1
    · obtain ⟨b1, o1, C, A3, n3, c3, d, rfl, hb1, e1, x0, x1, r1, _⟩ := (H1.out.later HB.out).opt k hlt
      obtain ⟨b2, o2, C', A4, n4, c4, d', rfl, hb2, e2, y0, y1, r2, _⟩ := (H2.out.later HB.out).opt k hlt
      rw [e1] at e2
      cases e2
      have CR := hid fun w' (hb : Below wr.heap.size wr w') => bytes_yes (r1.later hb) (r2.later hb)
      clear e1 r1 r2
      have t0 : (k : Int) < (n1 : Int) := by omega
      have t1 : decide ((k : Int) < (n1 : Int)) = true := decide_eq_true t0
      have t2 : (0 : Int) ≤ (k : Int) := by omega
      have v3 : IntKind.i64.wrap ((k : Int) + 1) = (k : Int) + 1 := IntWalk.i64_in _ (by omega)
      go_wp2_with fail
      go_region_held3 (fun w' => w'.cell? ⟨w.heap.size, 5, none⟩ = some (.slice (some ⟨b1, o1, none⟩) n1 c1) ∧ w'.cell? ⟨w.heap.size + 1, 5, none⟩ = some (.slice (some ⟨b2, o2, none⟩) n1 c2) ∧ w'.cell? ⟨b1, o1 + k * 2 + 1, none⟩ = some (.slice A3 n3 c3) ∧ w'.cell? ⟨b2, o2 + k * 2 + 1, none⟩ = some (.slice A4 n4 c4)) (((try dsimp only); (repeat' apply And.intro) <;> (first | assumption | (go_simp; done)))) (first | (go_at_call 11; have _t := tk1; (with_reducible refine (CR.out _ (by (repeat' (first | (with_reducible exact Below.refl _ _) | (with_reducible assumption) | (with_reducible refine below_ext0 ?_ _ _) | (with_reducible refine below_alloc0 ?_ _) | (with_reducible refine Below.ext ?_ ?_ _ _) | (with_reducible refine Below.alloc ?_ ?_ _) | (with_reducible refine Below.setCell ?_ ?_ _) | (with_reducible refine Below.drew ?_) | (with_reducible refine below_draws ?_ _) | go_size | (simp [size_ext]; done) | (simp [size_ext]; omega))))).mono ?_); rintro e w1 ⟨rfl, hb⟩; obtain ⟨otk1, dtk1, rfl⟩ := ext_of_below hb; clear hb tk1))
      all_goals
        go_wp2_with fail
        go_region_held3 (fun w' => w'.cell? ⟨w.heap.size, 5, none⟩ = some (.slice (some ⟨b1, o1, none⟩) n1 c1) ∧ w'.cell? ⟨w.heap.size + 1, 5, none⟩ = some (.slice (some ⟨b2, o2, none⟩) n1 c2) ∧ w'.cell? ⟨b1, o1 + k * 2, none⟩ = some (.int .i64 C) ∧ w'.cell? ⟨b2, o2 + k * 2, none⟩ = some (.int .i64 C)) (((try dsimp only); (repeat' apply And.intro) <;> (first | assumption | (go_simp; done)))) (fail)
        all_goals
          go_wp2
          go_roundg (n1 - (k + 1))
          case measure => omega
          case rel =>
            have hlw := HB.out
            exact ⟨k + 1, by omega, rfl, by go_num, (by (repeat' (first | (with_reducible exact Below.refl _ _) | (with_reducible assumption) | (with_reducible refine below_ext0 ?_ _ _) | (with_reducible refine below_alloc0 ?_ _) | (with_reducible refine Below.ext ?_ ?_ _ _) | (with_reducible refine Below.alloc ?_ ?_ _) | (with_reducible refine Below.setCell ?_ ?_ _) | (with_reducible refine Below.drew ?_) | (with_reducible refine below_draws ?_ _) | go_size | (simp [size_ext]; done) | (simp [size_ext]; omega)))), by have := HK1.out; (repeat' (first | (with_reducible exact Blk.new _ _ _) | (with_reducible assumption) | (with_reducible refine Blk.ext ?_ _ _) | (with_reducible refine Blk.drew ?_) | (with_reducible refine Blk.alloc ?_ _))), by have := HK2.out; (repeat' (first | (with_reducible exact Blk.new _ _ _) | (with_reducible assumption) | (with_reducible refine Blk.ext ?_ _ _) | (with_reducible refine Blk.drew ?_) | (with_reducible refine Blk.alloc ?_ _)))⟩
    · have t0 : ¬ (k : Int) < (n1 : Int) := by omega
      have t1 : decide ((k : Int) < (n1 : Int)) = false := decide_eq_false t0
      have hlw := HB.out
      go_wp2
      go_ret
      exact ⟨rfl, (by (repeat' (first | (with_reducible exact Below.refl _ _) | (with_reducible assumption) | (with_reducible refine below_ext0 ?_ _ _) | (with_reducible refine below_alloc0 ?_ _) | (with_reducible refine Below.ext ?_ ?_ _ _) | (with_reducible refine Below.alloc ?_ ?_ _) | (with_reducible refine Below.setCell ?_ ?_ _) | (with_reducible refine Below.drew ?_) | (with_reducible refine below_draws ?_ _) | go_size | (simp [size_ext]; done) | (simp [size_ext]; omega))))⟩
end Go.Proofs.YtfihedcobopbcaaDoor
