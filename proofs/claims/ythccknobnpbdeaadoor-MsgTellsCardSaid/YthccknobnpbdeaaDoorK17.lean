/- The document's answer: what a message is as bytes (MessageBytes). -/
import Derived.Test.YthccknobnpbdeaaDoorK9
import Derived.Test.YthccknobnpbdeaaDoorK11
import Derived.Test.YthccknobnpbdeaaDoorK13
import Derived.Test.YthccknobnpbdeaaDoorK16
import Derived.Test.YthccknobnpbdeaaDoorK12
namespace Go.Proofs.YthccknobnpbdeaaDoor
open Go.RowKit
set_option linter.unusedVariables false
set_option linter.unusedSimpArgs false

theorem own_blk {w : World} {base g n : Nat} {e : TypeId} {cs : Array Value} (h : Blk w g e cs) (hb : base ≤ g) (hs : cs.size = n) (hm : n ≤ maxLen) : w.ownsRow base e 1 (.slice (some ⟨g, 0, none⟩) n n) n cs.toList := by
  subst hs
  exact ⟨by simp, .inr ⟨g, cs.size, cs, rfl, hb, h, Nat.le_refl _, hm, by simp, List.take_of_length_le (by simp)⟩⟩
/-- what MessageBytes hands back -/
def MbO (w : World) (t : Int × List UInt8) (e : Ending) (w' : World) : Prop :=
  Below w.heap.size w w' ∧ if t.1 = 0 then ∃ A c, e = .returned (.tuple #[.slice A t.2.length c, .int .i64 0]) ∧ Rd u8R w' w'.heap.size A t.2.length c t.2
    else e = .returned (.tuple #[.slice none 0 0, .int .i64 t.1])
theorem mbO_bad {w w' : World} {k : Int} (hk : k ≠ 0) (hb : Below w.heap.size w w') : MbO w (k, []) (.returned (.tuple #[.slice none 0 0, .int .i64 k])) w' := ⟨hb, by rw [if_neg hk]⟩
theorem mwR_q {qs : List QT} {rs : List RecT} {b0 : List UInt8} {k : Int} (h : wrQ qs b0 [] = (k, [], [])) (hk : k ≠ 0) : mwR qs rs b0 = (k, []) := by unfold mwR; rw [h, if_neg hk]
theorem mwR_r {qs : List QT} {rs : List RecT} {b0 b1 : List UInt8} {s1 : List Int} {k : Int} (h : wrQ qs b0 [] = (0, b1, s1)) (h2 : wrR rs b1 s1 = (k, [], [])) (hk : k ≠ 0) : mwR qs rs b0 = (k, []) := by
  unfold mwR; simp only [h, if_true]; rw [h2, if_neg hk]
theorem mwR_full {qs : List QT} {rs : List RecT} {b0 b1 b2 : List UInt8} {s1 s2 : List Int} (h : wrQ qs b0 [] = (0, b1, s1)) (h2 : wrR rs b1 s1 = (0, b2, s2)) (hn : ¬ b2.length ≤ 65535) : mwR qs rs b0 = (7, []) := by
  unfold mwR; simp only [h, if_true]; rw [h2]; simp only [if_true]; rw [if_neg hn]
theorem mwR_ok {qs : List QT} {rs : List RecT} {b0 b1 b2 : List UInt8} {s1 s2 : List Int} (h : wrQ qs b0 [] = (0, b1, s1)) (h2 : wrR rs b1 s1 = (0, b2, s2)) (hn : b2.length ≤ 65535) : mwR qs rs b0 = (0, b2) := by
  unfold mwR; simp only [h, if_true]; rw [h2]; simp only [if_true]; rw [if_pos hn]
theorem wrQ_at {qs : List QT} {j : Nat} (hj : j < qs.length) {q : QT} (hq : qs[j] = q) (b : List UInt8) (ss : List Int) : wrQ (qs.drop j) b ss = if qErr q = 0 then wrQ (qs.drop (j + 1)) (qB b ss q) (stS b ss q.1) else (qErr q, [], []) := by
  rw [List.drop_eq_getElem_cons hj, hq, wrQ]
theorem wrR_at {rs : List RecT} {j : Nat} (hj : j < rs.length) {r : RecT} (hr : rs[j] = r) (b : List UInt8) (ss : List Int) : wrR (rs.drop j) b ss = if recErr r = 0 then wrR (rs.drop (j + 1)) (recB b ss r) (stS b ss r.1) else (recErr r, [], []) := by
  rw [List.drop_eq_getElem_cons hj, hr, wrR]
theorem wrQ_end {qs : List QT} {n : Nat} (h : qs.length ≤ n) (b : List UInt8) (ss : List Int) : wrQ (qs.drop n) b ss = (0, b, ss) := by rw [List.drop_eq_nil_of_le h, wrQ]
theorem wrR_end {rs : List RecT} {n : Nat} (h : rs.length ≤ n) (b : List UInt8) (ss : List Int) : wrR (rs.drop n) b ss = (0, b, ss) := by rw [List.drop_eq_nil_of_le h, wrR]
theorem cnt_eq (b : List UInt8) (q x y z : Nat) : bytesV b ++ bytesV (two2 (q : Int)) ++ bytesV (two2 (x : Int)) ++ bytesV (two2 (y : Int)) ++ bytesV (two2 (z : Int)) = bytesV (b ++ cntB q x y z 4) := by
  simp [cntB, bytesV]
theorem cnt_len (q x y z : Nat) : (cntB q x y z 4).length = 8 := by simp [cntB, two2_len]
theorem qB_eq (b : List UInt8) (ss : List Int) (l : List ByteArray) (T C : Int) : bytesV (b ++ packT b ss l) ++ bytesV (two2 T) ++ bytesV (two2 C) = bytesV (qB b ss (l, T, C, ())) := by
  simp only [qB, bytesV, List.map_append, List.append_assoc]
theorem qB_length (b : List UInt8) (ss : List Int) (l : List ByteArray) (T C : Int) : (qB b ss (l, T, C, ())).length = (b ++ packT b ss l).length + 2 + 2 := by
  simp only [qB, List.length_append, two2_len]
/-- a record behind bytes, as readings -/
theorem mb_rec {w : World} {A : Option Addr} {n c : Nat} {m : List UInt8} (hM : Rd u8R w w.heap.size A n c m) {A1 : Option Addr} {n1 c1 : Nat} {ss : List Int} (hS : Rd intR w w.heap.size A1 n1 c1 ss) {A3 : Option Addr} {n3 c3 : Nat} {l : List ByteArray} (hL : Rd strR w w.heap.size A3 n3 c3 l) {T C L : Int} {A4 : Option Addr} {n4 c4 : Nat} {d : List UInt8} (hD : Rd u8R w w.heap.size A4 n4 c4 d)
    (hlim : n ≤ 70368744177664) (hlim1 : n1 * 8 ≤ 70368744177664) (hf : recErr (l, T, C, L, d, ()) = 0) :
    Calls Tryd.prog 31 #[.slice A n c, .slice A1 n1 c1, .agg #[.slice A3 n3 c3, .int .i64 T, .int .i64 C, .int .i64 L, .slice A4 n4 c4]] w fun e w' => ∃ A' c' A2 c2, e = .returned (.tuple #[.slice A' (recB m ss (l, T, C, L, d, ())).length c', .slice A2 (stS m ss l).length c2]) ∧ (Rd u8R w' w'.heap.size A' (recB m ss (l, T, C, L, d, ())).length c' (recB m ss (l, T, C, L, d, ())) ∧ Rd intR w' w'.heap.size A2 (stS m ss l).length c2 (stS m ss l)) ∧ Below w.heap.size w w' := by
  have hm := hM.len
  have hs := hS.len
  refine (withRec_ok hM hS hL hD (by omega) (by omega) hf).mono ?_
  rintro e w' ⟨v, v', rfl, ho, hb⟩
  have h4 := ho.lenX
  have h5 := ho.lenY
  simp only at h5
  obtain ⟨A', c', rfl, hr⟩ := own_rd_u8 ho.out hb.size (by omega)
  obtain ⟨A2, c2, rfl, hr2⟩ := own_rd_int ho.all ho.ints hb.size (by simp only; omega)
  exact ⟨A', c', A2, c2, rfl, ⟨hr, hr2⟩, hb⟩

theorem messagebytes_head {w : World} {h : Hd} (hh : ¬ HOk h) {Aq Ax Ay Az : Option Addr} {nq cq nx cx ny cy nz cz : Nat} :
    Calls Tryd.prog 8 #[.agg (msgC h (.slice Aq nq cq) (.slice Ax nx cx) (.slice Ay ny cy) (.slice Az nz cz))] w (MbO w (6, [])) := by
  have CF := hid fun w' => hfault_bad h hh w'
  clear hh
  have tk0 : True := trivial; have tk1 : True := trivial; have tk2 : True := trivial; have tk3 : True := trivial; have tk4 : True := trivial; have tk5 : True := trivial; have tk6 : True := trivial; have tk7 : True := trivial; have tk8 : True := trivial; have tk9 : True := trivial; have tk10 : True := trivial; have tk11 : True := trivial; have tk12 : True := trivial
  go_enter Tryd.func8, Tryd.ntmps8
  go_wp2_with (go_at_call 23; have _t := tk1; (with_reducible refine (CF.out _).mono ?_); rintro e w1 ⟨rfl, hb⟩; obtain ⟨otk1, dtk1, rfl⟩ := ext_of_below hb; clear hb tk1)
  go_ret2
  exact mbO_bad (by decide) (by (repeat' (first | (with_reducible exact Below.refl _ _) | (with_reducible assumption) | (with_reducible refine below_ext0 ?_ _ _) | (with_reducible refine below_alloc0 ?_ _) | (with_reducible refine Below.ext ?_ ?_ _ _) | (with_reducible refine Below.alloc ?_ ?_ _) | (with_reducible refine Below.setCell ?_ ?_ _) | (with_reducible refine Below.drew ?_) | (with_reducible refine below_draws ?_ _) | go_size | (simp [size_ext]; done) | (simp [size_ext]; omega))))
theorem messagebytes_many {w : World} {h : Hd} (hh : HOk h) {Aq Ax Ay Az : Option Addr} {nq cq nx cx ny cy nz cz : Nat} (hn : ¬ (nq ≤ 65535 ∧ nx ≤ 65535 ∧ ny ≤ 65535 ∧ nz ≤ 65535)) :
    Calls Tryd.prog 8 #[.agg (msgC h (.slice Aq nq cq) (.slice Ax nx cx) (.slice Ay ny cy) (.slice Az nz cz))] w (MbO w (7, [])) := by
  have CF := hid fun w' => hfault_ok h hh w'
  have hw : 65535 < nq ∨ (¬ 65535 < nq ∧ 65535 < nx) ∨ (¬ 65535 < nq ∧ ¬ 65535 < nx ∧ 65535 < ny) ∨ (¬ 65535 < nq ∧ ¬ 65535 < nx ∧ ¬ 65535 < ny ∧ 65535 < nz) := by omega
  clear hh hn
  rcases hw with q0 | ⟨q0, q1⟩ | ⟨q0, q1, q2⟩ | ⟨q0, q1, q2, q3⟩
  all_goals
    try (have p0 : ¬ ((65535 : Int) < (nq : Int)) := by omega)
    try (have p0 : (65535 : Int) < (nq : Int) := by omega)
    try (have e0 : decide ((65535 : Int) < (nq : Int)) = false := decide_eq_false (by omega))
    try (have e0 : decide ((65535 : Int) < (nq : Int)) = true := decide_eq_true (by omega))
    try (have p1 : ¬ ((65535 : Int) < (nx : Int)) := by omega)
    try (have p1 : (65535 : Int) < (nx : Int) := by omega)
    try (have e1 : decide ((65535 : Int) < (nx : Int)) = false := decide_eq_false (by omega))
    try (have e1 : decide ((65535 : Int) < (nx : Int)) = true := decide_eq_true (by omega))
    try (have p2 : ¬ ((65535 : Int) < (ny : Int)) := by omega)
    try (have p2 : (65535 : Int) < (ny : Int) := by omega)
    try (have e2 : decide ((65535 : Int) < (ny : Int)) = false := decide_eq_false (by omega))
    try (have e2 : decide ((65535 : Int) < (ny : Int)) = true := decide_eq_true (by omega))
    try (have p3 : ¬ ((65535 : Int) < (nz : Int)) := by omega)
    try (have p3 : (65535 : Int) < (nz : Int) := by omega)
    try (have e3 : decide ((65535 : Int) < (nz : Int)) = false := decide_eq_false (by omega))
    try (have e3 : decide ((65535 : Int) < (nz : Int)) = true := decide_eq_true (by omega))
    clear q0
    try clear q1
    try clear q2
    try clear q3
    have tk0 : True := trivial; have tk1 : True := trivial; have tk2 : True := trivial; have tk3 : True := trivial; have tk4 : True := trivial; have tk5 : True := trivial; have tk6 : True := trivial; have tk7 : True := trivial; have tk8 : True := trivial; have tk9 : True := trivial; have tk10 : True := trivial; have tk11 : True := trivial; have tk12 : True := trivial
    go_enter Tryd.func8, Tryd.ntmps8
    go_wp2_with (go_at_call 23; have _t := tk1; (with_reducible refine (CF.out _).mono ?_); rintro e w1 ⟨rfl, hb⟩; obtain ⟨otk1, dtk1, rfl⟩ := ext_of_below hb; clear hb tk1)
    go_ret2
    exact mbO_bad (by decide) (by (repeat' (first | (with_reducible exact Below.refl _ _) | (with_reducible assumption) | (with_reducible refine below_ext0 ?_ _ _) | (with_reducible refine below_alloc0 ?_ _) | (with_reducible refine Below.ext ?_ ?_ _ _) | (with_reducible refine Below.alloc ?_ ?_ _) | (with_reducible refine Below.setCell ?_ ?_ _) | (with_reducible refine Below.drew ?_) | (with_reducible refine below_draws ?_ _) | go_size | (simp [size_ext]; done) | (simp [size_ext]; omega))))
set_option maxRecDepth 100000 in
set_option maxHeartbeats 20000000 in
theorem messagebytes_few {w : World} {h : Hd} (hh : HOk h) {Aq : Option Addr} {nq cq : Nat} {qs : List QT} (hQ : Rd qR w w.heap.size Aq nq cq qs) {Ax : Option Addr} {nx cx : Nat} {xs : List RecT} (hX : Rd recR w w.heap.size Ax nx cx xs) {Ay : Option Addr} {ny cy : Nat} {ys : List RecT} (hY : Rd recR w w.heap.size Ay ny cy ys) {Az : Option Addr} {nz cz : Nat} {zs : List RecT} (hZ : Rd recR w w.heap.size Az nz cz zs)
    (lq : nq ≤ 65535) (lx : nx ≤ 65535) (ly : ny ≤ 65535) (lz : nz ≤ 65535) :
    Calls Tryd.prog 8 #[.agg (msgC h (.slice Aq nq cq) (.slice Ax nx cx) (.slice Ay ny cy) (.slice Az nz cz))] w (MbO w (mwR qs (xs ++ ys ++ zs) (hdB h ++ cntB nq nx ny nz 4))) := by
  obtain ⟨_, wd0, wd1⟩ := back_head h hh
  have HDC := hid (hd_cells h hh wd0 wd1)
  have CF := hid fun w' => hfault_ok h hh w'
  have CB := hid fun w' => hbytes_ok h hh w'
  have P1 := hid fun w' => rpair_any (w := w') (nq : Int) (by omega) (by omega)
  have P2 := hid fun w' => rpair_any (w := w') (nx : Int) (by omega) (by omega)
  have P3 := hid fun w' => rpair_any (w := w') (ny : Int) (by omega) (by omega)
  have P4 := hid fun w' => rpair_any (w := w') (nz : Int) (by omega) (by omega)
  have lqs := hQ.len
  have HLQ := hid lqs
  have HQ := hid hQ
  have HX := hid hX
  have HY := hid hY
  have HZ := hid hZ
  have p0 : ¬ ((65535 : Int) < (nq : Int)) := by omega
  have p1 : ¬ ((65535 : Int) < (nx : Int)) := by omega
  have p2 : ¬ ((65535 : Int) < (ny : Int)) := by omega
  have p3 : ¬ ((65535 : Int) < (nz : Int)) := by omega
  have e0 : decide ((65535 : Int) < (nq : Int)) = false := decide_eq_false p0
  have e1 : decide ((65535 : Int) < (nx : Int)) = false := decide_eq_false p1
  have e2 : decide ((65535 : Int) < (ny : Int)) = false := decide_eq_false p2
  have e3 : decide ((65535 : Int) < (nz : Int)) = false := decide_eq_false p3
  obtain ⟨b0, hb0⟩ : ∃ b0, hdB h ++ cntB nq nx ny nz 4 = b0 := ⟨_, rfl⟩
  have hb0l : b0.length = 12 := by rw [← hb0, List.length_append, cnt_len]; rfl
  obtain ⟨RS, hRS⟩ : ∃ RS, xs ++ ys ++ zs = RS := ⟨_, rfl⟩
  rw [hb0, hRS]
  have HB0 := hid hb0
  have HB0L := hid hb0l
  have HRS := hid hRS
  clear hQ hX hY hZ hh wd0 wd1 hb0 hb0l hRS lqs
  have tkA : True := trivial
  have tkB : True := trivial
  have tkC : True := trivial
  have tkD : True := trivial
  have tk0 : True := trivial; have tk1 : True := trivial; have tk2 : True := trivial; have tk3 : True := trivial; have tk4 : True := trivial; have tk5 : True := trivial; have tk6 : True := trivial; have tk7 : True := trivial; have tk8 : True := trivial; have tk9 : True := trivial; have tk10 : True := trivial; have tk11 : True := trivial; have tk12 : True := trivial
  go_enter Tryd.func8, Tryd.ntmps8
  go_wp2_with (first
    | (go_at_call 23; have _t := tk1; (with_reducible refine (CF.out _).mono ?_); rintro e w1 ⟨rfl, hb⟩; obtain ⟨otk1, dtk1, rfl⟩ := ext_of_below hb; clear hb tk1)
    | (go_at_call 24; have _t := tk2; (with_reducible refine (CB.out _).mono ?_); rintro e w1 ⟨g1, rfl, hg, hk, hb⟩; have hg1 : w.heap.size + 1 ≤ g1 := Nat.le_trans (show w.heap.size + 1 ≤ _ from (by first | omega | (simp [size_ext]; done) | (simp [size_ext]; omega))) hg; have km : Blk w1 w.heap.size 28 (msgC h (.slice Aq nq cq) (.slice Ax nx cx) (.slice Ay ny cy) (.slice Az nz cz)) := Blk.below (by ((repeat' (first | (with_reducible assumption) | (with_reducible refine Blk.drew ?_) | exact Blk.new' _ _ (by first | rfl | (simp [size_ext]; done) | (simp [size_ext]; omega)) | (with_reducible refine Blk.ext ?_ _ _) | (with_reducible refine Blk.alloc ?_ _))); (all_goals fail))) hb (by first | omega | (simp [size_ext]; done) | (simp [size_ext]; omega)); have zm1 := km.lt; have c11 : w1.cell? ⟨w.heap.size, 11, none⟩ = some (.slice Aq nq cq) := km.cell 11; have HO1 := hid (show w1.ownsRow (w.heap.size + 1) 5 1 (.slice (some ⟨g1, 0, none⟩) 4 4) 4 (bytesV (hdB h)) from (by rw [← HDC.out]; exact own_blk hk hg1 rfl (by unfold maxLen; omega))); have KM1 := hid km; have LW1 := hid (Below.trans (by (repeat' (first | (with_reducible exact Below.refl _ _) | (with_reducible assumption) | (with_reducible refine below_ext0 ?_ _ _) | (with_reducible refine below_alloc0 ?_ _) | (with_reducible refine Below.ext ?_ ?_ _ _) | (with_reducible refine Below.alloc ?_ ?_ _) | (with_reducible refine Below.setCell ?_ ?_ _) | (with_reducible refine Below.drew ?_) | (with_reducible refine below_draws ?_ _) | go_size | (simp [size_ext]; done) | (simp [size_ext]; omega)))) (hb.mono (by first | omega | (simp [size_ext]; done) | (simp [size_ext]; omega))) : Below w.heap.size w w1); clear hg hk hb km hg1 tk2)
    | (go_at_call 25; have _t := tk3; (with_reducible refine (P1.out _).mono ?_); rintro e q1 ⟨B1, f1, rfl, hr, hb⟩; have HS1 := hid hr.src_u8; have HO1q := hid (own_low HO1.out hb (Nat.le_refl _)); have zq1 := hb.size; have KM1q := hid (KM1.out.below hb (by omega)); have LW1q := hid (LW1.out.trans (hb.mono (by omega))); clear hr hb tk3)
    | (at_builtin; have _t := tkA; refine wpList_appT rfl _ _ 22 rfl (w.heap.size + 1) 5 1 1 el_u8 _ (4) _ rfl HO1q.out _ 2 _ _ rfl HS1.out (by omega) (by unfold maxLen; omega) (by omega) ?_; intro v2 w2 ho ha; have hb := ha.below HO1q.out (by omega); have km := KM1q.out.below hb (by omega); have zm2 := km.lt; have c12 : w2.cell? ⟨w.heap.size, 12, none⟩ = some (.slice Ax nx cx) := km.cell 12; have HO2 := hid ho; have KM2 := hid km; have LW2 := hid (LW1q.out.trans (hb.mono (by omega))); clear ho ha hb km tkA)
    | (go_at_call 25; have _t := tk4; (with_reducible refine (P2.out _).mono ?_); rintro e q2 ⟨B2, f2, rfl, hr, hb⟩; have HS2 := hid hr.src_u8; have HO2q := hid (own_low HO2.out hb (Nat.le_refl _)); have zq2 := hb.size; have KM2q := hid (KM2.out.below hb (by omega)); have LW2q := hid (LW2.out.trans (hb.mono (by omega))); clear hr hb tk4)
    | (at_builtin; have _t := tkB; refine wpList_appT rfl _ _ 22 rfl (w.heap.size + 1) 5 1 1 el_u8 _ (4 + 2) _ rfl HO2q.out _ 2 _ _ rfl HS2.out (by omega) (by unfold maxLen; omega) (by omega) ?_; intro v3 w3 ho ha; have hb := ha.below HO2q.out (by omega); have km := KM2q.out.below hb (by omega); have zm3 := km.lt; have c13 : w3.cell? ⟨w.heap.size, 13, none⟩ = some (.slice Ay ny cy) := km.cell 13; have HO3 := hid ho; have KM3 := hid km; have LW3 := hid (LW2q.out.trans (hb.mono (by omega))); clear ho ha hb km tkB)
    | (go_at_call 25; have _t := tk5; (with_reducible refine (P3.out _).mono ?_); rintro e q3 ⟨B3, f3, rfl, hr, hb⟩; have HS3 := hid hr.src_u8; have HO3q := hid (own_low HO3.out hb (Nat.le_refl _)); have zq3 := hb.size; have KM3q := hid (KM3.out.below hb (by omega)); have LW3q := hid (LW3.out.trans (hb.mono (by omega))); clear hr hb tk5)
    | (at_builtin; have _t := tkC; refine wpList_appT rfl _ _ 22 rfl (w.heap.size + 1) 5 1 1 el_u8 _ (4 + 2 + 2) _ rfl HO3q.out _ 2 _ _ rfl HS3.out (by omega) (by unfold maxLen; omega) (by omega) ?_; intro v4 w4 ho ha; have hb := ha.below HO3q.out (by omega); have km := KM3q.out.below hb (by omega); have zm4 := km.lt; have c14 : w4.cell? ⟨w.heap.size, 14, none⟩ = some (.slice Az nz cz) := km.cell 14; have HO4 := hid ho; have KM4 := hid km; have LW4 := hid (LW3q.out.trans (hb.mono (by omega))); clear ho ha hb km tkC)
    | (go_at_call 25; have _t := tk6; (with_reducible refine (P4.out _).mono ?_); rintro e q4 ⟨B4, f4, rfl, hr, hb⟩; have HS4 := hid hr.src_u8; have HO4q := hid (own_low HO4.out hb (Nat.le_refl _)); have zq4 := hb.size; have KM4q := hid (KM4.out.below hb (by omega)); have LW4q := hid (LW4.out.trans (hb.mono (by omega))); clear hr hb tk6)
    | (at_builtin; have _t := tkD; refine wpList_appT rfl _ _ 22 rfl (w.heap.size + 1) 5 1 1 el_u8 _ (4 + 2 + 2 + 2) _ rfl HO4q.out _ 2 _ _ rfl HS4.out (by omega) (by unfold maxLen; omega) (by omega) ?_; intro v5 w5 ho ha; have hb := ha.below HO4q.out (by omega); have km := KM4q.out.below hb (by omega); have zm5 := km.lt; have HO5 := hid ho; have KM5 := hid km; have LW5 := hid (LW4q.out.trans (hb.mono (by omega))); clear ho ha hb km tkD))
  have HOB := hid (show w5.ownsRow (w.heap.size + 1) 5 1 v5 b0.length (bytesV b0) by rw [HB0L.out, ← HB0.out, ← cnt_eq]; exact HO5.out)
  go_loopg [5, 6, 7] nq (fun gk y5 y6 y7 wi => ∃ (j : Nat) (b : List UInt8) (ss : List Int) (V U : Value), j ≤ nq ∧ gk = nq - j ∧ y5 = V ∧ y6 = U ∧ y7 = .int .i64 (j : Int) ∧ wi.ownsRow (w.heap.size + 1) 5 1 V b.length (bytesV b) ∧ wi.ownsRow (w.heap.size + 1) 3 1 U ss.length (intsV ss) ∧ (∀ s ∈ ss, I64 s) ∧ b.length ≤ 12 + 300 * j ∧ ss.length ≤ 255 * j ∧ wrQ qs b0 [] = wrQ (qs.drop j) b ss ∧ Blk wi w.heap.size 28 (msgC h (.slice Aq nq cq) (.slice Ax nx cx) (.slice Ay ny cy) (.slice Az nz cz)) ∧ Below w.heap.size w wi)
  case atStart => exact ⟨0, b0, [], _, _, Nat.zero_le _, rfl, rfl, rfl, rfl, HOB.out, ⟨rfl, .inl ⟨rfl, rfl⟩⟩, fun s hs => absurd hs (by simp), (by have := HB0L.out; omega), Nat.zero_le _, rfl, KM5.out, LW5.out⟩
  case round =>
    clear c11 c12 c13 c14
    obtain ⟨j, b, ss, V, U, hj, rfl, rfl, rfl, rfl, hown, hall, hin, lb, ls, hwq, hkm, hlow⟩ := hrel
    have zm := hkm.lt
    have zw := hlow.size
    obtain ⟨A5, c5, rfl, r5⟩ := own_rd_u8 hown (by omega) (by omega)
    obtain ⟨A6, c6, rfl, r6⟩ := own_rd_int hall hin (by omega) (by omega)
    have R5 := hid r5
    have R6 := hid r6
    have HWQ := hid hwq
    have HKM := hid hkm
    have HLOW := hid hlow
    have y11 : wr.cell? ⟨w.heap.size, 11, none⟩ = some (.slice Aq nq cq) := hkm.cell 11
    clear hown hall hin hwq hkm r5 r6
    by_cases hlt : j < nq
    · obtain ⟨qb, qo, A3, n3, c3, l, T, C, rfl, hqb, he, x0, x1, x2, r3, hT, hC⟩ := (HQ.out.later hlow).quest j hlt
      have hj' : j < qs.length := by rw [HLQ.out]; exact hlt
      have he2 : qs[j]'hj' = (l, T, C, ()) := he
      clear he hlow
      have he := he2
      clear he2
      have t0 : (j : Int) < (nq : Int) := by omega
      have t2 : (0 : Int) ≤ (j : Int) := by omega
      have v3 : IntKind.i64.wrap ((j : Int) + 1) = (j : Int) + 1 := IntWalk.i64_in _ (by omega)
      have CN := fun w' (hb : Below wr.heap.size wr w') => nfault_any w' A3 n3 c3 l w'.heap.size (r3.later hb)
      have CWT := fun w' => rword_any w' T hT
      have CWC := fun w' => rword_any w' C hC
      by_cases hq : qErr (l, T, C, ()) = 0
      · as_aux_lemma =>
        obtain ⟨h0, ⟨t1, t2⟩, ⟨u1, u2⟩⟩ := qErr_zero hq
        simp only at h0 t1 t2 u1 u2
        obtain ⟨hl1, hl2⟩ := qB_len b ss (l, T, C, ()) hq
        simp only at hl2
        have HST := hid (show wrQ qs b0 [] = wrQ (qs.drop (j + 1)) (qB b ss (l, T, C, ())) (stS b ss l) by rw [HWQ.out, wrQ_at hj' he, if_pos hq])
        rw [h0] at CN
        replace CN := hid CN
        rw [show (decide (0 ≤ T) && decide (T ≤ 65535)) = true by simp; omega] at CWT
        rw [show (decide (0 ≤ C) && decide (C ≤ 65535)) = true by simp; omega] at CWC
        replace CWT := hid CWT
        replace CWC := hid CWC
        have CP := hid fun w' (hb : Below wr.heap.size wr w') => packed_own w' A5 b.length c5 b (R5.out.later hb) A6 ss.length c6 ss (R6.out.later hb) A3 n3 c3 l (r3.later hb) (by omega) (by omega) h0
        have PT := hid fun w' => rpair_any (w := w') T t1 t2
        have PC := hid fun w' => rpair_any (w := w') C u1 u2
        obtain ⟨N, hN⟩ : ∃ N, (b ++ packT b ss l).length = N := ⟨_, rfl⟩
        have HN := hid hN
        have hNb : N ≤ b.length + 300 := by have := qB_length b ss l T C; omega
        have HL1 := hid hl1
        have HL2 := hid hl2
        have tkA : True := trivial
        have tkB : True := trivial
        have tk1 : True := trivial
        have tk2 : True := trivial
        have tk3 : True := trivial
        have tk4 : True := trivial
        have tk5 : True := trivial
        have tk6 : True := trivial
        clear hq he hj' r3 hT hC h0 hN hl1 hl2
        go_wp2_with (first
          | (go_at_call 26; have _t := tk1; (with_reducible refine (CN.out _ (by (repeat' (first | (with_reducible exact Below.refl _ _) | (with_reducible assumption) | (with_reducible refine below_ext0 ?_ _ _) | (with_reducible refine below_alloc0 ?_ _) | (with_reducible refine Below.ext ?_ ?_ _ _) | (with_reducible refine Below.alloc ?_ ?_ _) | (with_reducible refine Below.setCell ?_ ?_ _) | (with_reducible refine Below.drew ?_) | (with_reducible refine below_draws ?_ _) | go_size | (simp [size_ext]; done) | (simp [size_ext]; omega))))).mono ?_); rintro e w1 ⟨rfl, hw⟩; subst w1; clear tk1)
          | (go_at_call 27; have _t := tk2; (with_reducible refine (CWT.out _).mono ?_); rintro e w1 ⟨rfl, hb⟩; obtain ⟨otk2, dtk2, rfl⟩ := ext_of_below hb; clear hb tk2)
          | (go_at_call 27; have _t := tk3; (with_reducible refine (CWC.out _).mono ?_); rintro e w1 ⟨rfl, hb⟩; obtain ⟨otk3, dtk3, rfl⟩ := ext_of_below hb; clear hb tk3)
          | (go_at_call 28; have _t := tk4; (with_reducible refine (CP.out _ (by (repeat' (first | (with_reducible exact Below.refl _ _) | (with_reducible assumption) | (with_reducible refine below_ext0 ?_ _ _) | (with_reducible refine below_alloc0 ?_ _) | (with_reducible refine Below.ext ?_ ?_ _ _) | (with_reducible refine Below.alloc ?_ ?_ _) | (with_reducible refine Below.setCell ?_ ?_ _) | (with_reducible refine Below.drew ?_) | (with_reducible refine below_draws ?_ _) | go_size | (simp [size_ext]; done) | (simp [size_ext]; omega))))).mono ?_); rintro e w6 ⟨v6, s6, rfl, ho, hb⟩; have HB6 := hid (Below.trans (show Below wr.heap.size wr _ from (by (repeat' (first | (with_reducible exact Below.refl _ _) | (with_reducible assumption) | (with_reducible refine below_ext0 ?_ _ _) | (with_reducible refine below_alloc0 ?_ _) | (with_reducible refine Below.ext ?_ ?_ _ _) | (with_reducible refine Below.alloc ?_ ?_ _) | (with_reducible refine Below.setCell ?_ ?_ _) | (with_reducible refine Below.drew ?_) | (with_reducible refine below_draws ?_ _) | go_size | (simp [size_ext]; done) | (simp [size_ext]; omega))))) (hb.mono (by first | omega | (simp [size_ext]; done) | (simp [size_ext]; omega)))); have z6 : wr.heap.size + 1 ≤ w6.heap.size := Nat.le_trans (show wr.heap.size + 1 ≤ _ from (by first | omega | (simp [size_ext]; done) | (simp [size_ext]; omega))) hb.size; have ho6 := own_less (base' := wr.heap.size + 1) ho.out (by first | omega | (simp [size_ext]; done) | (simp [size_ext]; omega)); rw [HN.out] at ho6; have HO6 := hid ho6; have HS6 := hid (own_less (base' := wr.heap.size + 1) ho.all (by first | omega | (simp [size_ext]; done) | (simp [size_ext]; omega))); have HAP := hid ho.apart; have HIN := hid ho.ints; have kq : Blk w6 wr.heap.size 51 #[.slice A3 n3 c3, .int .i64 T, .int .i64 C] := Blk.below (by ((repeat' (first | (with_reducible assumption) | (with_reducible refine Blk.drew ?_) | exact Blk.new' _ _ (by first | rfl | (simp [size_ext]; done) | (simp [size_ext]; omega)) | (with_reducible refine Blk.ext ?_ _ _) | (with_reducible refine Blk.alloc ?_ _))); (all_goals fail))) hb (by first | omega | (simp [size_ext]; done) | (simp [size_ext]; omega)); have d1 : w6.cell? ⟨wr.heap.size, 1, none⟩ = some (.int .i64 T) := kq.cell 1; have KQ6 := hid kq; have KM6 := hid (HKM.out.below HB6.out zm); clear ho hb ho6 kq tk4)
          | (go_at_call 25; have _t := tk5; (with_reducible refine (PT.out _).mono ?_); rintro e w7 ⟨B7, f7, rfl, hr, hb⟩; have HS7 := hid hr.src_u8; have HO7 := hid (own_low HO6.out hb (Nat.le_refl _)); have KQ7 := hid (KQ6.out.below hb (by omega)); have HB7 := hid hb; have KM7 := hid (KM6.out.below hb (by omega)); have LW7 := hid (HB6.out.trans (hb.mono (by omega))); have z7 := hb.size; clear hr hb tk5)
          | (at_builtin; have _t := tkA; refine wpList_appT rfl _ _ 22 rfl (wr.heap.size + 1) 5 1 1 el_u8 _ N _ rfl HO7.out _ 2 _ _ rfl HS7.out (by omega) (by unfold maxLen; omega) (by omega) ?_; intro v8 w8 ho ha; have hb := ha.below HO7.out (by omega); have kq := KQ7.out.below hb (by omega); have d2 : w8.cell? ⟨wr.heap.size, 2, none⟩ = some (.int .i64 C) := kq.cell 2; have z8 := hb.size; have HO8 := hid ho; have HA8 := hid ((AppTo.of_below HB7.out HO6.out (Nat.le_refl _)).trans ha); have KM8 := hid (KM7.out.below hb (by omega)); have LW8 := hid (LW7.out.trans (hb.mono (by omega))); clear ho ha hb kq tkA)
          | (go_at_call 25; have _t := tk6; (with_reducible refine (PC.out _).mono ?_); rintro e w9 ⟨B9, f9, rfl, hr, hb⟩; have HS9 := hid hr.src_u8; have HO9 := hid (own_low HO8.out hb (Nat.le_refl _)); have HB9 := hid hb; have KM9 := hid (KM8.out.below hb (by omega)); have LW9 := hid (LW8.out.trans (hb.mono (by omega))); have z9 := hb.size; clear hr hb tk6)
          | (at_builtin; have _t := tkB; refine wpList_appT rfl _ _ 22 rfl (wr.heap.size + 1) 5 1 1 el_u8 _ (N + 2) _ rfl HO9.out _ 2 _ _ rfl HS9.out (by omega) (by unfold maxLen; omega) (by omega) ?_; intro v10 w10 ho ha; have hb := ha.below HO9.out (by omega); have z10 := hb.size; have HO10 := hid ho; have HA10 := hid ((AppTo.of_below HB9.out HO8.out (Nat.le_refl _)).trans ha); have KM10 := hid (KM9.out.below hb (by omega)); have LW10 := hid (LW9.out.trans (hb.mono (by omega))); clear ho ha hb tkB))
        go_roundg (nq - (j + 1))
        case measure => omega
        case rel =>
          have h1 := HL1.out
          have h2 := HL2.out
          refine ⟨j + 1, qB b ss (l, T, C, ()), stS b ss l, v10, s6, by omega, rfl, rfl, rfl, (by first | rfl | (congr 1; push_cast; omega)), ?_, ?_, HIN.out, by omega, by omega, HST.out, KM10.out, HLOW.out.trans (LW10.out.mono zw)⟩
          · rw [qB_length, HN.out, ← qB_eq]
            exact own_less HO10.out (by omega)
          · obtain ⟨hal, _⟩ := (HA8.out.trans HA10.out).other HS6.out HAP.out.symm
            exact own_less hal (by omega)
      · as_aux_lemma =>
        have hbq : mwR qs RS b0 = (qErr (l, T, C, ()), []) := mwR_q (by rw [HWQ.out, wrQ_at hj' he, if_neg hq]) hq
        by_cases h0 : nameErr l = 0
        · have h6 : qErr (l, T, C, ()) = 6 := by
            unfold qErr at hq ⊢
            simp only at hq ⊢
            rw [if_pos h0] at hq ⊢
            by_cases hx : 0 ≤ T ∧ T ≤ 65535 ∧ 0 ≤ C ∧ C ≤ 65535
            · rw [if_pos hx] at hq; exact absurd rfl hq
            · rw [if_neg hx]
          have hways : ¬ (0 ≤ T ∧ T ≤ 65535) ∨ ((0 ≤ T ∧ T ≤ 65535) ∧ ¬ (0 ≤ C ∧ C ≤ 65535)) := by
            by_cases hx : 0 ≤ T ∧ T ≤ 65535
            · refine .inr ⟨hx, fun hy => hq ?_⟩
              unfold qErr
              simp only
              rw [if_pos h0, if_pos ⟨hx.1, hx.2, hy.1, hy.2⟩]
            · exact .inl hx
          rw [h6] at hbq
          have HBAD := hid hbq
          rw [h0] at CN
          replace CN := hid CN
          clear hbq h6 hq he hj' r3 h0
          rcases hways with g1 | ⟨g1, g2⟩
          · rw [show (decide (0 ≤ T) && decide (T ≤ 65535)) = false by simp; omega] at CWT
            replace CWT := hid CWT
            clear CWC hT hC g1
            have tk1 : True := trivial
            have tk2 : True := trivial
            go_wp2_with (first
              | (go_at_call 26; have _t := tk1; (with_reducible refine (CN.out _ (by (repeat' (first | (with_reducible exact Below.refl _ _) | (with_reducible assumption) | (with_reducible refine below_ext0 ?_ _ _) | (with_reducible refine below_alloc0 ?_ _) | (with_reducible refine Below.ext ?_ ?_ _ _) | (with_reducible refine Below.alloc ?_ ?_ _) | (with_reducible refine Below.setCell ?_ ?_ _) | (with_reducible refine Below.drew ?_) | (with_reducible refine below_draws ?_ _) | go_size | (simp [size_ext]; done) | (simp [size_ext]; omega))))).mono ?_); rintro e w1 ⟨rfl, hw⟩; subst w1; clear tk1)
              | (go_at_call 27; have _t := tk2; (with_reducible refine (CWT.out _).mono ?_); rintro e w1 ⟨rfl, hb⟩; obtain ⟨otk2, dtk2, rfl⟩ := ext_of_below hb; clear hb tk2))
            go_ret2
            rw [HBAD.out]
            exact mbO_bad (by decide) (by have hlw := HLOW.out; (repeat' (first | (with_reducible exact Below.refl _ _) | (with_reducible assumption) | (with_reducible refine below_ext0 ?_ _ _) | (with_reducible refine below_alloc0 ?_ _) | (with_reducible refine Below.ext ?_ ?_ _ _) | (with_reducible refine Below.alloc ?_ ?_ _) | (with_reducible refine Below.setCell ?_ ?_ _) | (with_reducible refine Below.drew ?_) | (with_reducible refine below_draws ?_ _) | go_size | (simp [size_ext]; done) | (simp [size_ext]; omega))))
          · rw [show (decide (0 ≤ T) && decide (T ≤ 65535)) = true by simp; omega] at CWT
            rw [show (decide (0 ≤ C) && decide (C ≤ 65535)) = false by simp; omega] at CWC
            replace CWT := hid CWT
            replace CWC := hid CWC
            clear hT hC g1 g2
            have tk1 : True := trivial
            have tk2 : True := trivial
            have tk3 : True := trivial
            go_wp2_with (first
              | (go_at_call 26; have _t := tk1; (with_reducible refine (CN.out _ (by (repeat' (first | (with_reducible exact Below.refl _ _) | (with_reducible assumption) | (with_reducible refine below_ext0 ?_ _ _) | (with_reducible refine below_alloc0 ?_ _) | (with_reducible refine Below.ext ?_ ?_ _ _) | (with_reducible refine Below.alloc ?_ ?_ _) | (with_reducible refine Below.setCell ?_ ?_ _) | (with_reducible refine Below.drew ?_) | (with_reducible refine below_draws ?_ _) | go_size | (simp [size_ext]; done) | (simp [size_ext]; omega))))).mono ?_); rintro e w1 ⟨rfl, hw⟩; subst w1; clear tk1)
              | (go_at_call 27; have _t := tk2; (with_reducible refine (CWT.out _).mono ?_); rintro e w1 ⟨rfl, hb⟩; obtain ⟨otk2, dtk2, rfl⟩ := ext_of_below hb; clear hb tk2)
              | (go_at_call 27; have _t := tk3; (with_reducible refine (CWC.out _).mono ?_); rintro e w1 ⟨rfl, hb⟩; obtain ⟨otk3, dtk3, rfl⟩ := ext_of_below hb; clear hb tk3))
            go_ret2
            rw [HBAD.out]
            exact mbO_bad (by decide) (by have hlw := HLOW.out; (repeat' (first | (with_reducible exact Below.refl _ _) | (with_reducible assumption) | (with_reducible refine below_ext0 ?_ _ _) | (with_reducible refine below_alloc0 ?_ _) | (with_reducible refine Below.ext ?_ ?_ _ _) | (with_reducible refine Below.alloc ?_ ?_ _) | (with_reducible refine Below.setCell ?_ ?_ _) | (with_reducible refine Below.drew ?_) | (with_reducible refine below_draws ?_ _) | go_size | (simp [size_ext]; done) | (simp [size_ext]; omega))))
        · have h6 : qErr (l, T, C, ()) = nameErr l := by unfold qErr; simp only; rw [if_neg h0]
          rw [h6] at hbq
          obtain ⟨E, hE⟩ : ∃ E, nameErr l = E := ⟨_, rfl⟩
          rw [hE] at hbq h0 CN
          have HBAD := hid hbq
          have HE0 := hid h0
          have k0 : (E == 0) = false := by rw [beq_eq_false_iff_ne]; exact h0
          replace CN := hid CN
          clear hbq h6 hq he hj' r3 h0 hE CWT CWC hT hC
          have tk1 : True := trivial
          go_wp2_with (go_at_call 26; have _t := tk1; (with_reducible refine (CN.out _ (by (repeat' (first | (with_reducible exact Below.refl _ _) | (with_reducible assumption) | (with_reducible refine below_ext0 ?_ _ _) | (with_reducible refine below_alloc0 ?_ _) | (with_reducible refine Below.ext ?_ ?_ _ _) | (with_reducible refine Below.alloc ?_ ?_ _) | (with_reducible refine Below.setCell ?_ ?_ _) | (with_reducible refine Below.drew ?_) | (with_reducible refine below_draws ?_ _) | go_size | (simp [size_ext]; done) | (simp [size_ext]; omega))))).mono ?_); rintro e w1 ⟨rfl, hw⟩; subst w1; clear tk1)
          go_ret2
          rw [HBAD.out]
          exact mbO_bad HE0.out (by have hlw := HLOW.out; (repeat' (first | (with_reducible exact Below.refl _ _) | (with_reducible assumption) | (with_reducible refine below_ext0 ?_ _ _) | (with_reducible refine below_alloc0 ?_ _) | (with_reducible refine Below.ext ?_ ?_ _ _) | (with_reducible refine Below.alloc ?_ ?_ _) | (with_reducible refine Below.setCell ?_ ?_ _) | (with_reducible refine Below.drew ?_) | (with_reducible refine below_draws ?_ _) | go_size | (simp [size_ext]; done) | (simp [size_ext]; omega))))
    · as_aux_lemma =>
      have t0 : ¬ (j : Int) < (nq : Int) := by omega
      have HW1 := hid (show wrQ qs b0 [] = (0, b, ss) by rw [HWQ.out]; exact wrQ_end (by rw [HLQ.out]; omega) b ss)
      obtain ⟨k, hk⟩ : ∃ k, nx + ny + nz = k := ⟨_, rfl⟩
      have CA := fun w' (hb : Below wr.heap.size wr w') => all_any (h := h) ⟨Aq, nq, cq, rfl⟩ (HX.out.later (hlow.trans (hb.mono zw))) (HY.out.later (hlow.trans (hb.mono zw))) (HZ.out.later (hlow.trans (hb.mono zw))) (by omega) hk
      simp only [HRS.out] at CA
      replace CA := hid CA
      have hkb : k ≤ 196605 := by omega
      have lb' : b.length ≤ 20000000 := by omega
      have ls' : ss.length ≤ 17000000 := by omega
      have k0 : (wr).cell? ⟨w.heap.size, 0, none⟩ = some (.int .i64 h.id) := (HKM.out).cell 0; have k1 : (wr).cell? ⟨w.heap.size, 1, none⟩ = some (.bool h.an) := (HKM.out).cell 1; have k2 : (wr).cell? ⟨w.heap.size, 2, none⟩ = some (.int .i64 h.op) := (HKM.out).cell 2; have k3 : (wr).cell? ⟨w.heap.size, 3, none⟩ = some (.bool h.aa) := (HKM.out).cell 3; have k4 : (wr).cell? ⟨w.heap.size, 4, none⟩ = some (.bool h.tc) := (HKM.out).cell 4; have k5 : (wr).cell? ⟨w.heap.size, 5, none⟩ = some (.bool h.rd) := (HKM.out).cell 5; have k6 : (wr).cell? ⟨w.heap.size, 6, none⟩ = some (.bool h.ra) := (HKM.out).cell 6; have k7 : (wr).cell? ⟨w.heap.size, 7, none⟩ = some (.bool h.z) := (HKM.out).cell 7; have k8 : (wr).cell? ⟨w.heap.size, 8, none⟩ = some (.bool h.ad) := (HKM.out).cell 8; have k9 : (wr).cell? ⟨w.heap.size, 9, none⟩ = some (.bool h.cd) := (HKM.out).cell 9; have k10 : (wr).cell? ⟨w.heap.size, 10, none⟩ = some (.int .i64 h.code) := (HKM.out).cell 10; have k11 : (wr).cell? ⟨w.heap.size, 11, none⟩ = some (.slice Aq nq cq) := (HKM.out).cell 11; have k12 : (wr).cell? ⟨w.heap.size, 12, none⟩ = some (.slice Ax nx cx) := (HKM.out).cell 12; have k13 : (wr).cell? ⟨w.heap.size, 13, none⟩ = some (.slice Ay ny cy) := (HKM.out).cell 13; have k14 : (wr).cell? ⟨w.heap.size, 14, none⟩ = some (.slice Az nz cz) := (HKM.out).cell 14
      clear hk hlow lb ls HWQ y11
      have tk7 : True := trivial
      go_wp2_with (go_at_call 29; have _t := tk7; (with_reducible refine (CA.out _ (by (repeat' (first | (with_reducible exact Below.refl _ _) | (with_reducible assumption) | (with_reducible refine below_ext0 ?_ _ _) | (with_reducible refine below_alloc0 ?_ _) | (with_reducible refine Below.ext ?_ ?_ _ _) | (with_reducible refine Below.alloc ?_ ?_ _) | (with_reducible refine Below.setCell ?_ ?_ _) | (with_reducible refine Below.drew ?_) | (with_reducible refine below_draws ?_ _) | go_size | (simp [size_ext]; done) | (simp [size_ext]; omega))))).mono ?_); rintro e wa ⟨Ar, cr, rfl, hr, hb⟩; have HRR := hid hr; have LWA := hid (HLOW.out.trans (hb.mono zw)); have R5a := hid (R5.out.later hb); have R6a := hid (R6.out.later hb); clear hr hb tk7)
      have hRk := HRR.out.len
      have HRK := hid hRk
      clear hRk
      clear k0 k1 k2 k3 k4 k5 k6 k7 k8 k9 k10 k11 k12 k13 k14
      go_loopg [5, 6, 10] k (fun gk y5 y6 y10 wi => ∃ (j : Nat) (b2 : List UInt8) (s2 : List Int) (A5 A6 : Option Addr) (c5 c6 : Nat), j ≤ k ∧ gk = k - j ∧ y5 = .slice A5 b2.length c5 ∧ y6 = .slice A6 s2.length c6 ∧ y10 = .int .i64 (j : Int) ∧ Rd u8R wi wi.heap.size A5 b2.length c5 b2 ∧ Rd intR wi wi.heap.size A6 s2.length c6 s2 ∧ b2.length ≤ 20000000 + 66000 * j ∧ s2.length ≤ 17000000 + 255 * j ∧ wrR RS b ss = wrR (RS.drop j) b2 s2 ∧ Below wa.heap.size wa wi)
      case atStart => exact ⟨0, b, ss, _, _, _, _, Nat.zero_le _, rfl, rfl, rfl, rfl, R5a.out, R6a.out, by omega, by omega, rfl, Below.refl _ _⟩
      case round =>
        obtain ⟨i, b2, s2, B5, B6, f5, f6, hi, rfl, rfl, rfl, rfl, r5, r6, lb2, ls2, hwr, hlow⟩ := hrel
        have zw2 := hlow.size
        have HWR := hid hwr
        have HLOW2 := hid (LWA.out.trans (hlow.mono LWA.out.size))
        have HLOWA := hid hlow
        have Q5 := hid r5
        have Q6 := hid r6
        clear hwr r5 r6
        by_cases hlt2 : i < k
        · obtain ⟨rb, ro, A3, n3, c3, A4, n4, c4, l, T, C, L, d, rfl, hrb, he, x0, x1, x2, x3, x4, r3, ⟨i1, i2, i3⟩, r4⟩ := (HRR.out.later hlow).recd i hlt2
          have hi' : i < RS.length := by rw [HRK.out]; exact hlt2
          have he2 : RS[i]'hi' = (l, T, C, L, d, ()) := he
          clear he hlow
          have he := he2
          clear he2
          have CRF := fun w' (hb : Below wr.heap.size wr w') => rfault_any (r3.later hb) (r4.later hb) i1 i2 i3
          have g0 : (i : Int) < (k : Int) := by omega
          have g2 : (0 : Int) ≤ (i : Int) := by omega
          have v3 : IntKind.i64.wrap ((i : Int) + 1) = (i : Int) + 1 := IntWalk.i64_in _ (by omega)
          have tk8 : True := trivial
          have tk9 : True := trivial
          by_cases hf : recErr (l, T, C, L, d, ()) = 0
          · as_aux_lemma =>
            obtain ⟨hl1, hl2⟩ := recB_len b2 s2 (l, T, C, L, d, ()) hf
            simp only at hl2
            have HST := hid (show wrR RS b ss = wrR (RS.drop (i + 1)) (recB b2 s2 (l, T, C, L, d, ())) (stS b2 s2 l) by rw [HWR.out, wrR_at hi' he, if_pos hf])
            have CW := fun w' (hb : Below wr.heap.size wr w') => mb_rec (Q5.out.later hb) (Q6.out.later hb) (r3.later hb) (r4.later hb) (by omega) (by omega) hf
            obtain ⟨X, hX⟩ : ∃ X, recB b2 s2 (l, T, C, L, d, ()) = X := ⟨_, rfl⟩
            obtain ⟨Y, hY⟩ : ∃ Y, stS b2 s2 l = Y := ⟨_, rfl⟩
            simp only [hX, hY] at CW
            rw [hX] at hl1
            rw [hY] at hl2
            have HST2 := HST.out
            rw [hX, hY] at HST2
            have HST3 := hid HST2
            rw [hf] at CRF
            replace CRF := hid CRF
            replace CW := hid CW
            have HL1 := hid hl1
            have HL2 := hid hl2
            clear HST HST2 hX hY hl1 hl2 hf he hi' r3 r4 i1 i2 i3
            go_wp2_with (first
              | (go_at_call 30; have _t := tk8; (with_reducible refine (CRF.out _ (by (repeat' (first | (with_reducible exact Below.refl _ _) | (with_reducible assumption) | (with_reducible refine below_ext0 ?_ _ _) | (with_reducible refine below_alloc0 ?_ _) | (with_reducible refine Below.ext ?_ ?_ _ _) | (with_reducible refine Below.alloc ?_ ?_ _) | (with_reducible refine Below.setCell ?_ ?_ _) | (with_reducible refine Below.drew ?_) | (with_reducible refine below_draws ?_ _) | go_size | (simp [size_ext]; done) | (simp [size_ext]; omega))))).mono ?_); rintro e w1 ⟨rfl, hb⟩; obtain ⟨otk8, dtk8, rfl⟩ := ext_of_below hb; clear hb tk8)
              | (go_at_call 31; have _t := tk9; (with_reducible refine (CW.out _ (by (repeat' (first | (with_reducible exact Below.refl _ _) | (with_reducible assumption) | (with_reducible refine below_ext0 ?_ _ _) | (with_reducible refine below_alloc0 ?_ _) | (with_reducible refine Below.ext ?_ ?_ _ _) | (with_reducible refine Below.alloc ?_ ?_ _) | (with_reducible refine Below.setCell ?_ ?_ _) | (with_reducible refine Below.drew ?_) | (with_reducible refine below_draws ?_ _) | go_size | (simp [size_ext]; done) | (simp [size_ext]; omega))))).mono ?_); rintro e wn ⟨An, cn, Am, cm, rfl, ⟨hr, hr2⟩, hb⟩; have RN := hid hr; have RM := hid hr2; have LWN := hid (Below.trans (show Below wr.heap.size wr _ from (by (repeat' (first | (with_reducible exact Below.refl _ _) | (with_reducible assumption) | (with_reducible refine below_ext0 ?_ _ _) | (with_reducible refine below_alloc0 ?_ _) | (with_reducible refine Below.ext ?_ ?_ _ _) | (with_reducible refine Below.alloc ?_ ?_ _) | (with_reducible refine Below.setCell ?_ ?_ _) | (with_reducible refine Below.drew ?_) | (with_reducible refine below_draws ?_ _) | go_size | (simp [size_ext]; done) | (simp [size_ext]; omega))))) (hb.mono (by first | omega | (simp [size_ext]; done) | (simp [size_ext]; omega)))); clear hr hr2 hb tk9))
            go_roundg (k - (i + 1))
            case measure => omega
            case rel =>
              have h1 := HL1.out
              have h2 := HL2.out
              exact ⟨i + 1, X, Y, _, _, _, _, by omega, rfl, rfl, rfl, (by first | rfl | (congr 1; push_cast; omega)), RN.out, RM.out, bd1 h1 lb2, bd2 h2 ls2, HST3.out, Below.trans HLOWA.out (Below.mono LWN.out zw2)⟩
          · as_aux_lemma =>
            have hbq : mwR qs RS b0 = (recErr (l, T, C, L, d, ()), []) := mwR_r HW1.out (by rw [HWR.out, wrR_at hi' he, if_neg hf]) hf
            obtain ⟨E, hE⟩ : ∃ E, recErr (l, T, C, L, d, ()) = E := ⟨_, rfl⟩
            rw [hE] at hbq hf CRF
            have HBAD := hid hbq
            have HE0 := hid hf
            have k0 : (E == 0) = false := by rw [beq_eq_false_iff_ne]; exact hf
            replace CRF := hid CRF
            clear hbq hE hf he hi' r3 r4 i1 i2 i3
            go_wp2_with (go_at_call 30; have _t := tk8; (with_reducible refine (CRF.out _ (by (repeat' (first | (with_reducible exact Below.refl _ _) | (with_reducible assumption) | (with_reducible refine below_ext0 ?_ _ _) | (with_reducible refine below_alloc0 ?_ _) | (with_reducible refine Below.ext ?_ ?_ _ _) | (with_reducible refine Below.alloc ?_ ?_ _) | (with_reducible refine Below.setCell ?_ ?_ _) | (with_reducible refine Below.drew ?_) | (with_reducible refine below_draws ?_ _) | go_size | (simp [size_ext]; done) | (simp [size_ext]; omega))))).mono ?_); rintro e w1 ⟨rfl, hb⟩; obtain ⟨otk8, dtk8, rfl⟩ := ext_of_below hb; clear hb tk8)
            go_ret2
            rw [HBAD.out]
            exact mbO_bad HE0.out (by have hlw := HLOW2.out; (repeat' (first | (with_reducible exact Below.refl _ _) | (with_reducible assumption) | (with_reducible refine below_ext0 ?_ _ _) | (with_reducible refine below_alloc0 ?_ _) | (with_reducible refine Below.ext ?_ ?_ _ _) | (with_reducible refine Below.alloc ?_ ?_ _) | (with_reducible refine Below.setCell ?_ ?_ _) | (with_reducible refine Below.drew ?_) | (with_reducible refine below_draws ?_ _) | go_size | (simp [size_ext]; done) | (simp [size_ext]; omega))))
        · as_aux_lemma =>
          have g0 : ¬ (i : Int) < (k : Int) := by omega
          have hw2 : wrR RS b ss = (0, b2, s2) := by rw [HWR.out]; exact wrR_end (by rw [HRK.out]; omega) b2 s2
          by_cases hm : b2.length ≤ 65535
          · have m0 : ¬ (65535 : Int) < (b2.length : Int) := by omega
            have HBAD := hid (mwR_ok HW1.out hw2 hm)
            clear hw2 hlow
            go_wp2
            go_ret2
            rw [HBAD.out]
            exact ⟨HLOW2.out, by rw [if_pos rfl]; exact ⟨_, _, rfl, Q5.out⟩⟩
          · have m0 : (65535 : Int) < (b2.length : Int) := by omega
            have HBAD := hid (mwR_full HW1.out hw2 hm)
            clear hw2 hlow
            go_wp2
            go_ret2
            rw [HBAD.out]
            exact mbO_bad (by decide) HLOW2.out
theorem messagebytes_any {w : World} {h : Hd} {Aq : Option Addr} {nq cq : Nat} {qs : List QT} (hQ : Rd qR w w.heap.size Aq nq cq qs) {Ax : Option Addr} {nx cx : Nat} {xs : List RecT} (hX : Rd recR w w.heap.size Ax nx cx xs) {Ay : Option Addr} {ny cy : Nat} {ys : List RecT} (hY : Rd recR w w.heap.size Ay ny cy ys) {Az : Option Addr} {nz cz : Nat} {zs : List RecT} (hZ : Rd recR w w.heap.size Az nz cz zs) :
    Calls Tryd.prog 8 #[.agg (msgC h (.slice Aq nq cq) (.slice Ax nx cx) (.slice Ay ny cy) (.slice Az nz cz))] w (MbO w (msgT h qs xs ys zs)) := by
  unfold msgT
  have e1 := hQ.len
  have e2 := hX.len
  have e3 := hY.len
  have e4 := hZ.len
  by_cases hh : 0 ≤ h.id ∧ h.id ≤ 65535 ∧ 0 ≤ h.op ∧ h.op ≤ 15 ∧ 0 ≤ h.code ∧ h.code ≤ 15
  · have hk : HOk h := ⟨hh.1, hh.2.1, hh.2.2.1, hh.2.2.2.1, hh.2.2.2.2.1, hh.2.2.2.2.2⟩
    rw [if_pos hh, e1, e2, e3, e4]
    by_cases hc : nq ≤ 65535 ∧ nx ≤ 65535 ∧ ny ≤ 65535 ∧ nz ≤ 65535
    · rw [if_pos hc, ← List.append_assoc]
      exact messagebytes_few hk hQ hX hY hZ hc.1 hc.2.1 hc.2.2.1 hc.2.2.2
    · rw [if_neg hc]
      exact messagebytes_many hk hc
  · rw [if_neg hh]
    exact messagebytes_head (fun k => hh ⟨k.i0, k.i1, k.o0, k.o1, k.c0, k.c1⟩)
end Go.Proofs.YthccknobnpbdeaaDoor
