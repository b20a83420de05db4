/- TopTTL is true of every input: each record of a message that was sent is found, one behind the other, and other TTLs laid over those of all of them make the message with these, and no other change. No condition. -/
import Derived.Test.YtkdfiedemhjjjaaK10
import Derived.Test.YtkdfiedemhjjjaaK12
import Derived.OpenShut
import Derived.JoinedCond
namespace Go.Proofs.Ytkdfiedemhjjjaa
open Go.ChangeShapes Go.WideShapes Go.ChangeAt Go.RowKit
set_option linter.unusedVariables false
set_option linter.unusedSimpArgs false
namespace topTTL

theorem sent_any (w : World) : Calls Try.prog 23 #[] w fun e w' => e = .returned (.bool true) ∧ Below w.heap.size w w' := by
  have tk0 : True := trivial; have tk1 : True := trivial; have tk2 : True := trivial; have tk3 : True := trivial; have tk4 : True := trivial; have tk5 : True := trivial; have tk6 : True := trivial; have tk7 : True := trivial; have tk8 : True := trivial; have tk9 : True := trivial; have tk10 : True := trivial; have tk11 : True := trivial; have tk12 : True := trivial
  go_enter Try.func23, Try.ntmps23
  go_wp2_with (go_at_call 12; have _t := tk0; (with_reducible refine (msgwrite_fact _).mono ?_); rintro e w1 ⟨Atk0, ctk0, rfl, hr, hb⟩; obtain ⟨otk0, dtk0, rfl⟩ := ext_of_below hb; (try simp only [ext_drew, ext_drewN] at hr); have RF := hid hr; clear hr; clear hb tk0)
  go_ret
  exact ⟨by first | rfl | (simp; done), (by (repeat' (first | (with_reducible exact Below.refl _ _) | (with_reducible assumption) | (with_reducible refine below_ext0 ?_ _ _) | (with_reducible refine below_alloc0 ?_ _) | (with_reducible refine Below.ext ?_ ?_ _ _) | (with_reducible refine Below.alloc ?_ ?_ _) | (with_reducible refine Below.setCell ?_ ?_ _) | (with_reducible refine Below.drew ?_) | (with_reducible refine below_draws ?_ _) | go_size | (simp [size_ext]; done) | (simp [size_ext]; omega))))⟩
section
variable {w : World} {h : Hd} {Aq Ax Ay Az : Option Addr} {nq cq nx cx ny cy nz cz : Nat} {qs : List QT} {xs ys zs : List RecT} {L : Int}
theorem plsR_len : ∀ (rs : List RecT) (b : List UInt8) (ss : List Int), (plsR rs b ss).length = rs.length
  | [], b, ss => rfl
  | r :: rs, b, ss => by rw [plsR, List.length_cons, List.length_cons, plsR_len rs]
set_option maxRecDepth 100000 in
set_option maxHeartbeats 8000000 in
theorem way_no (hQ : Rd qR w w.heap.size Aq nq cq qs) (hX : Rd recR w w.heap.size Ax nx cx xs) (hY : Rd recR w w.heap.size Ay ny cy ys) (hZ : Rd recR w w.heap.size Az nz cz zs) {E : Int} (hT : (msgT h qs xs ys zs).1 = E) (hE : E ≠ 0) :
    Calls Try.prog 6 #[.agg (msgC h (.slice Aq nq cq) (.slice Ax nx cx) (.slice Ay ny cy) (.slice Az nz cz)), .int .i64 L] w fun e w' => e = .returned (.bool true) ∧ Below w.heap.size w w' := by
  have CW := hid fun w' (hb : Below w.heap.size w w') => msgwrite_no (h := h) (hQ.later hb) (hX.later hb) (hY.later hb) (hZ.later hb) hT hE
  clear hQ hX hY hZ hT hE
  have tk0 : True := trivial; have tk1 : True := trivial; have tk2 : True := trivial; have tk3 : True := trivial; have tk4 : True := trivial; have tk5 : True := trivial; have tk6 : True := trivial; have tk7 : True := trivial; have tk8 : True := trivial; have tk9 : True := trivial; have tk10 : True := trivial; have tk11 : True := trivial; have tk12 : True := trivial
  go_enter Try.func6, Try.ntmps6
  go_wp2_with (first
    | (go_at_call 23; have _t := tk1; (with_reducible refine (sent_any _).mono ?_); rintro e w1 ⟨rfl, hb⟩; obtain ⟨otk1, dtk1, rfl⟩ := ext_of_below hb; clear hb tk1)
    | (go_at_call 12; have _t := tk2; (with_reducible refine (CW.out _ (by (repeat' (first | (with_reducible exact Below.refl _ _) | (with_reducible assumption) | (with_reducible refine below_ext0 ?_ _ _) | (with_reducible refine below_alloc0 ?_ _) | (with_reducible refine Below.ext ?_ ?_ _ _) | (with_reducible refine Below.alloc ?_ ?_ _) | (with_reducible refine Below.setCell ?_ ?_ _) | (with_reducible refine Below.drew ?_) | (with_reducible refine below_draws ?_ _) | go_size | (simp [size_ext]; done) | (simp [size_ext]; omega))))).mono ?_); rintro e w1 ⟨rfl, hb⟩; obtain ⟨otk2, dtk2, rfl⟩ := ext_of_below hb; clear hb tk2))
  go_ret
  exact ⟨rfl, (by (repeat' (first | (with_reducible exact Below.refl _ _) | (with_reducible assumption) | (with_reducible refine below_ext0 ?_ _ _) | (with_reducible refine below_alloc0 ?_ _) | (with_reducible refine Below.ext ?_ ?_ _ _) | (with_reducible refine Below.alloc ?_ ?_ _) | (with_reducible refine Below.setCell ?_ ?_ _) | (with_reducible refine Below.drew ?_) | (with_reducible refine below_draws ?_ _) | go_size | (simp [size_ext]; done) | (simp [size_ext]; omega))))⟩
set_option maxRecDepth 100000 in
set_option maxHeartbeats 8000000 in
theorem way_out (hQ : Rd qR w w.heap.size Aq nq cq qs) (hX : Rd recR w w.heap.size Ax nx cx xs) (hY : Rd recR w w.heap.size Ay ny cy ys) (hZ : Rd recR w w.heap.size Az nz cz zs) {b : List UInt8} (hT : msgT h qs xs ys zs = (0, b)) (hL : L < 0 ∨ (0 ≤ L ∧ 4294967295 < L)) :
    Calls Try.prog 6 #[.agg (msgC h (.slice Aq nq cq) (.slice Ax nx cx) (.slice Ay ny cy) (.slice Az nz cz)), .int .i64 L] w fun e w' => e = .returned (.bool true) ∧ Below w.heap.size w w' := by
  obtain ⟨k, hk⟩ : ∃ k, b.length = k := ⟨_, rfl⟩
  have CW := hid fun w' (hb : Below w.heap.size w w') => msgwrite_yes (h := h) (hQ.later hb) (hX.later hb) (hY.later hb) (hZ.later hb) hT hk
  clear hQ hX hY hZ hT
  rcases hL with hw | ⟨hw0, hw⟩
  case' inr => have q0 : ¬ L < 0 := by omega
  case' inr => have q1 : decide (L < 0) = false := decide_eq_false q0
  all_goals
    have tk0 : True := trivial; have tk1 : True := trivial; have tk2 : True := trivial; have tk3 : True := trivial; have tk4 : True := trivial; have tk5 : True := trivial; have tk6 : True := trivial; have tk7 : True := trivial; have tk8 : True := trivial; have tk9 : True := trivial; have tk10 : True := trivial; have tk11 : True := trivial; have tk12 : True := trivial
    go_enter Try.func6, Try.ntmps6
    go_wp2_with (first
      | (go_at_call 23; have _t := tk1; (with_reducible refine (sent_any _).mono ?_); rintro e w1 ⟨rfl, hb⟩; obtain ⟨otk1, dtk1, rfl⟩ := ext_of_below hb; clear hb tk1)
      | (go_at_call 12; have _t := tk2; (with_reducible refine (CW.out _ (by (repeat' (first | (with_reducible exact Below.refl _ _) | (with_reducible assumption) | (with_reducible refine below_ext0 ?_ _ _) | (with_reducible refine below_alloc0 ?_ _) | (with_reducible refine Below.ext ?_ ?_ _ _) | (with_reducible refine Below.alloc ?_ ?_ _) | (with_reducible refine Below.setCell ?_ ?_ _) | (with_reducible refine Below.drew ?_) | (with_reducible refine below_draws ?_ _) | go_size | (simp [size_ext]; done) | (simp [size_ext]; omega))))).mono ?_); rintro e w1 ⟨Atk2, ctk2, rfl, hr, hb⟩; obtain ⟨otk2, dtk2, rfl⟩ := ext_of_below hb; (try simp only [ext_drew, ext_drewN] at hr); have RB := hid hr; clear hr; clear hb tk2))
    go_ret
    exact ⟨rfl, (by (repeat' (first | (with_reducible exact Below.refl _ _) | (with_reducible assumption) | (with_reducible refine below_ext0 ?_ _ _) | (with_reducible refine below_alloc0 ?_ _) | (with_reducible refine Below.ext ?_ ?_ _ _) | (with_reducible refine Below.alloc ?_ ?_ _) | (with_reducible refine Below.setCell ?_ ?_ _) | (with_reducible refine Below.drew ?_) | (with_reducible refine below_draws ?_ _) | go_size | (simp [size_ext]; done) | (simp [size_ext]; omega))))⟩
set_option maxRecDepth 100000 in
set_option maxHeartbeats 8000000 in
theorem way_yes (hQ : Rd qR w w.heap.size Aq nq cq qs) (hX : Rd recR w w.heap.size Ax nx cx xs) (hY : Rd recR w w.heap.size Ay ny cy ys) (hZ : Rd recR w w.heap.size Az nz cz zs) {b : List UInt8} (hT : msgT h qs xs ys zs = (0, b)) (ht : 0 ≤ L ∧ L ≤ 4294967295) :
    Calls Try.prog 6 #[.agg (msgC h (.slice Aq nq cq) (.slice Ax nx cx) (.slice Ay ny cy) (.slice Az nz cz)), .int .i64 L] w fun e w' => e = .returned (.bool true) ∧ Below w.heap.size w w' := by
  obtain ⟨b1, s1, s2, g1, g2, g3, g4⟩ := msgT_ttl ht.1 ht.2 hT
  obtain ⟨_, hc, _⟩ := msgT_ok (by rw [hT] : (msgT h qs xs ys zs).1 = 0)
  obtain ⟨_, _, _, b12⟩ := msg_back hT
  obtain ⟨k, hk⟩ : ∃ k, b.length = k := ⟨_, rfl⟩
  obtain ⟨K, hK⟩ : ∃ K, nx + ny + nz = K := ⟨_, rfl⟩
  rw [hQ.len, hX.len, hY.len, hZ.len] at hc
  obtain ⟨RS, hRS⟩ : ∃ RS, xs ++ (ys ++ zs) = RS := ⟨_, rfl⟩
  have hRl : RS.length = K := by rw [← hRS]; simp only [List.length_append, hX.len, hY.len, hZ.len]; omega
  obtain ⟨M, hM⟩ : ∃ M, (plsR RS b1 s1).foldl (putL L) b = M := ⟨_, rfl⟩
  rw [hRS] at g2 g4
  rw [hM] at g4
  have hb1 : b1.length ≤ k := by
    obtain ⟨t, e⟩ := wrR_pre g2
    rw [← hk, e, List.length_append]; omega
  have CW := hid fun w' (hb : Below w.heap.size w w') => msgwrite_blk (h := h) (hQ.later hb) (hX.later hb) (hY.later hb) (hZ.later hb) hT hk (by omega) (by omega)
  have CA := hid fun w' (hb : Below w.heap.size w w') => all_own (h := h) (Q := .slice Aq nq cq) hb.size ⟨_, _, _, rfl⟩ (hX.below hb) (hY.below hb) (hZ.below hb) (by omega) hK
  simp only [hRS] at CA
  have q0 : ¬ L < 0 := by omega
  have q1 : decide (L < 0) = false := decide_eq_false q0
  have q2 : ¬ 4294967295 < L := by omega
  have q3 : decide (4294967295 < L) = false := decide_eq_false q2
  have hql := hQ.len
  have HG1 := hid g1
  have HG2 := hid g2
  have HG4 := hid g4
  have HM := hid hM
  have HKL := hid hRl
  obtain ⟨mb1, mb2, _, _⟩ := msg_back g4
  have HMB := hid (And.intro mb1 mb2)
  have HLX := hid (And.intro hQ.len (And.intro (show (xs.map (setL L)).length = nx by rw [List.length_map]; exact hX.len) (And.intro (show (ys.map (setL L)).length = ny by rw [List.length_map]; exact hY.len) (show (zs.map (setL L)).length = nz by rw [List.length_map]; exact hZ.len))))
  have HRM := hid (show xs.map (setL L) ++ ys.map (setL L) ++ zs.map (setL L) = RS.map (setL L) by rw [List.append_assoc, ← List.map_append, ← List.map_append, hRS])
  have CB := hid fun (w' : World) Aq cq Ax cx Ay cy Az cz (x : Rd recR w' w'.heap.size Ax nx cx (xs.map (setL L))) (y : Rd recR w' w'.heap.size Ay ny cy (ys.map (setL L))) (z : Rd recR w' w'.heap.size Az nz cz (zs.map (setL L))) => all_any (h := h) (Q := .slice Aq nq cq) ⟨_, _, _, rfl⟩ x y z (by omega) hK
  clear mb1 mb2
  have HPL := hid (plsR_len RS b1 s1)
  have HPB := hid (plsR_le RS b1 s1 b s2 g2)
  have HK := hid hk
  have hk1 : k ≤ 65535 := by omega
  have hnq : nq ≤ 65535 := hc.1
  have hK1 : K ≤ 196605 := by omega
  clear hQ hX hY hZ hT g1 g2 g4 hc b12 g3 hM hRl hRS hk hK
  have tk0 : True := trivial; have tk1 : True := trivial; have tk2 : True := trivial; have tk3 : True := trivial; have tk4 : True := trivial; have tk5 : True := trivial; have tk6 : True := trivial; have tk7 : True := trivial; have tk8 : True := trivial; have tk9 : True := trivial; have tk10 : True := trivial; have tk11 : True := trivial; have tk12 : True := trivial
  go_enter Try.func6, Try.ntmps6
  go_wp2_with (first
    | (go_at_call 23; have _t := tk1; (with_reducible refine (sent_any _).mono ?_); rintro e w1 ⟨rfl, hb⟩; obtain ⟨otk1, dtk1, rfl⟩ := ext_of_below hb; clear hb tk1)
    | (go_at_call 12; have _t := tk2; (with_reducible refine (CW.out _ (by (repeat' (first | (with_reducible exact Below.refl _ _) | (with_reducible assumption) | (with_reducible refine below_ext0 ?_ _ _) | (with_reducible refine below_alloc0 ?_ _) | (with_reducible refine Below.ext ?_ ?_ _ _) | (with_reducible refine Below.alloc ?_ ?_ _) | (with_reducible refine Below.setCell ?_ ?_ _) | (with_reducible refine Below.drew ?_) | (with_reducible refine below_draws ?_ _) | go_size | (simp [size_ext]; done) | (simp [size_ext]; omega))))).mono ?_); rintro e w1 ⟨g, cb, rfl, ⟨ho, hr, hg1, hg2⟩, hb⟩; have kx := (Blk.below (by ((repeat' (first | (with_reducible assumption) | (with_reducible refine Blk.drew ?_) | exact Blk.new' _ _ (by first | rfl | (simp [size_ext]; done) | (simp [size_ext]; omega)) | (with_reducible refine Blk.ext ?_ _ _) | (with_reducible refine Blk.alloc ?_ _))); (all_goals fail))) hb (by first | omega | (simp [size_ext]; done) | (simp [size_ext]; omega)) : Blk w1 w.heap.size 43 (msgC h (.slice Aq nq cq) (.slice Ax nx cx) (.slice Ay ny cy) (.slice Az nz cz))); have HB1 := hid (Below.trans (by (repeat' (first | (with_reducible exact Below.refl _ _) | (with_reducible assumption) | (with_reducible refine below_ext0 ?_ _ _) | (with_reducible refine below_alloc0 ?_ _) | (with_reducible refine Below.ext ?_ ?_ _ _) | (with_reducible refine Below.alloc ?_ ?_ _) | (with_reducible refine Below.setCell ?_ ?_ _) | (with_reducible refine Below.drew ?_) | (with_reducible refine below_draws ?_ _) | go_size | (simp [size_ext]; done) | (simp [size_ext]; omega)))) (hb.mono (by first | omega | (simp [size_ext]; done) | (simp [size_ext]; omega))) : Below w.heap.size w w1); have KX := hid kx; simp [size_ext] at hg1; have HO := hid (own_less ho (base' := w.heap.size + 1) (by first | (simp [size_ext]; done) | (simp [size_ext]; omega))); have R1 := hid hr; clear ho hr hb kx tk2))
  go_loopg [8, 9] nq (fun gk v8 v9 wi => ∃ (j : Nat) (bj : List UInt8) (sj : List Int), j ≤ nq ∧ gk = nq - j ∧ v8 = .int .i64 (bj.length : Int) ∧ v9 = .int .i64 (j : Int) ∧ wrQ (qs.drop j) bj sj = (0, b1, s1) ∧ Below w1.heap.size w1 wi)
  case atStart => exact ⟨0, _, _, Nat.zero_le _, rfl, rfl, rfl, by rw [List.drop_zero]; exact HG1.out, Below.refl _ _⟩
  case round =>
    obtain ⟨j, bj, sj, hj, rfl, rfl, rfl, hw, hb⟩ := hrel
    have HLOW := hid hb
    have kxr := KX.out.below HLOW.out (KX.out.lt)
    have e11 : wr.cell? ⟨w.heap.size, 11, none⟩ = some (.slice Aq nq cq) := kxr.cell 11
    have hzw := hb.size
    have hz0 := kxr.lt
    have KXR := hid kxr
    clear hb kxr
    by_cases hlt : j < nq
    · have hjq : j < qs.length := by rw [hql]; exact hlt
      rw [List.drop_eq_getElem_cons hjq] at hw
      obtain ⟨hw2, nn, hn1, hn2⟩ := quest_step hw
      obtain ⟨bj2, hbj2⟩ : ∃ bj2, qB bj sj qs[j] = bj2 := ⟨_, rfl⟩
      obtain ⟨t2, e2⟩ := wrR_pre HG2.out
      obtain ⟨t3, e3⟩ := wrQ_pre hw2
      rw [hbj2] at hn2 e3
      have hl2 : bj2.length ≤ b1.length := by rw [e3, List.length_append]; omega
      have hn3 : rdN b (bj.length : Int) = (0, qs[j].1, (nn : Int)) := by rw [e2]; exact rdN_app hn1 t2
      rw [hbj2] at hw2
      have HW2 := hid hw2
      have HN2 := hid hn2
      have hbl : bj.length ≤ 65535 := by
        obtain ⟨t4, e4⟩ := wrQ_pre hw
        have : bj.length ≤ b1.length := by rw [e4, List.length_append]; omega
        omega
      obtain ⟨kn, hkn⟩ : ∃ kn, qs[j].1.length = kn := ⟨_, rfl⟩
      have CN := hid fun w' (hb : Below wr.heap.size wr w') => (show Calls Try.prog 24 #[.slice (some ⟨g, 0, none⟩) k cb, .int .i64 (bj.length : Int)] w' fun e w2 => ∃ A' c', e = .returned (.agg #[.slice A' kn c', .int .i64 (nn : Int), .int .i64 0]) ∧ Rd strR w2 w2.heap.size A' kn c' qs[j].1 ∧ Below w'.heap.size w' w2 from by
        refine (nameAt_any w' _ k cb b ((R1.out.later HLOW.out).later hb) _ (by omega)).mono ?_
        rintro e w2 ⟨hb2, A', c', he, hrd⟩
        rw [hn3] at he hrd
        simp only [hkn] at he hrd
        exact ⟨A', c', he, hrd, hb2⟩)
      have hnn : nn ≤ 65535 := by omega
      have ww : IntKind.i64.wrap ((nn : Int) + 4) = (nn : Int) + 4 := IntWalk.i64_in _ (by omega)
      have d0 : (j : Int) < (nq : Int) := by omega
      have d1 : decide ((j : Int) < (nq : Int)) = true := decide_eq_true d0
      clear hw hw2 hn1 hn2 e2 e3 hn3
      go_wp2_with (go_at_call 24; have _t := tk3; (with_reducible refine (CN.out _ (by (repeat' (first | (with_reducible exact Below.refl _ _) | (with_reducible assumption) | (with_reducible refine below_ext0 ?_ _ _) | (with_reducible refine below_alloc0 ?_ _) | (with_reducible refine Below.ext ?_ ?_ _ _) | (with_reducible refine Below.alloc ?_ ?_ _) | (with_reducible refine Below.setCell ?_ ?_ _) | (with_reducible refine Below.drew ?_) | (with_reducible refine below_draws ?_ _) | go_size | (simp [size_ext]; done) | (simp [size_ext]; omega))))).mono ?_); rintro e w1 ⟨Atk3, ctk3, rfl, hr, hb⟩; obtain ⟨otk3, dtk3, rfl⟩ := ext_of_below hb; (try simp only [ext_drew, ext_drewN] at hr); have RN := hid hr; clear hr; clear hb tk3)
      go_roundg (nq - (j + 1))
      case measure => omega
      case rel => exact ⟨j + 1, bj2, _, by omega, rfl, (by rw [← HN2.out]; first | rfl | (simp; done) | (simp [ww]; done)), by go_num, HW2.out, (by have := HLOW.out; (repeat' (first | (with_reducible exact Below.refl _ _) | (with_reducible assumption) | (with_reducible refine below_ext0 ?_ _ _) | (with_reducible refine below_alloc0 ?_ _) | (with_reducible refine Below.ext ?_ ?_ _ _) | (with_reducible refine Below.alloc ?_ ?_ _) | (with_reducible refine Below.setCell ?_ ?_ _) | (with_reducible refine Below.drew ?_) | (with_reducible refine below_draws ?_ _) | go_size | (simp [size_ext]; done) | (simp [size_ext]; omega))))⟩
    · obtain rfl : j = nq := by omega
      have hd : qs.drop j = [] := List.drop_eq_nil_of_le (by rw [hql]; exact Nat.le_refl _)
      rw [hd, wrQ] at hw
      obtain ⟨rfl, rfl⟩ : b1 = bj ∧ s1 = sj := by cases hw; exact ⟨rfl, rfl⟩
      clear hw hd
      have d0 : ¬ (j : Int) < (j : Int) := by omega
      have d1 : decide ((j : Int) < (j : Int)) = false := decide_eq_false d0
      have m0 : (wr).cell? ⟨w.heap.size, 0, none⟩ = some (.int .i64 h.id) := (KXR.out).cell 0; have m1 : (wr).cell? ⟨w.heap.size, 1, none⟩ = some (.bool h.an) := (KXR.out).cell 1; have m2 : (wr).cell? ⟨w.heap.size, 2, none⟩ = some (.int .i64 h.op) := (KXR.out).cell 2; have m3 : (wr).cell? ⟨w.heap.size, 3, none⟩ = some (.bool h.aa) := (KXR.out).cell 3; have m4 : (wr).cell? ⟨w.heap.size, 4, none⟩ = some (.bool h.tc) := (KXR.out).cell 4; have m5 : (wr).cell? ⟨w.heap.size, 5, none⟩ = some (.bool h.rd) := (KXR.out).cell 5; have m6 : (wr).cell? ⟨w.heap.size, 6, none⟩ = some (.bool h.ra) := (KXR.out).cell 6; have m7 : (wr).cell? ⟨w.heap.size, 7, none⟩ = some (.bool h.z) := (KXR.out).cell 7; have m8 : (wr).cell? ⟨w.heap.size, 8, none⟩ = some (.bool h.ad) := (KXR.out).cell 8; have m9 : (wr).cell? ⟨w.heap.size, 9, none⟩ = some (.bool h.cd) := (KXR.out).cell 9; have m10 : (wr).cell? ⟨w.heap.size, 10, none⟩ = some (.int .i64 h.code) := (KXR.out).cell 10; have m11 : (wr).cell? ⟨w.heap.size, 11, none⟩ = some (.slice Aq j cq) := (KXR.out).cell 11; have m12 : (wr).cell? ⟨w.heap.size, 12, none⟩ = some (.slice Ax nx cx) := (KXR.out).cell 12; have m13 : (wr).cell? ⟨w.heap.size, 13, none⟩ = some (.slice Ay ny cy) := (KXR.out).cell 13; have m14 : (wr).cell? ⟨w.heap.size, 14, none⟩ = some (.slice Az nz cz) := (KXR.out).cell 14
      have hzb : Below w.heap.size w wr := HB1.out.trans (HLOW.out.mono HB1.out.size)
      have HBR := hid hzb
      clear hzb
      go_wp2_with (go_at_call 15; have _t := tk3; (with_reducible refine (CA.out _ HBR.out).mono ?_); rintro e w2 ⟨A2, c2, rfl, hr, hb⟩; have HRO := hid hr; have HB2 := hid hb; have z2 := hb.size; clear hr hb tk3)
      go_loopg [8, 12, 13] K (fun gk v8 v12 v13 wi => ∃ (j : Nat) (bj : List UInt8) (sj : List Int) (l : List Int), j ≤ K ∧ gk = K - j ∧ v8 = .int .i64 (bj.length : Int) ∧ v13 = .int .i64 (j : Int) ∧ wrR (RS.drop j) bj sj = (0, b, s2) ∧ (plsR RS b1 s1).map (fun p : Nat => (p : Int)) = l ++ (plsR (RS.drop j) bj sj).map (fun p : Nat => (p : Int)) ∧ l.length = j ∧ OwnR intR 3 0 w2.heap.size wi v12 l ∧ Below w2.heap.size w2 wi)
      case atStart => exact ⟨0, _, _, [], Nat.zero_le _, rfl, rfl, rfl, by rw [List.drop_zero]; exact HG2.out, by rw [List.drop_zero, List.nil_append], rfl, OwnR.nil (Nat.zero_le _) (Nat.le_refl _), Below.refl _ _⟩
      case round =>
        obtain ⟨i, bi, si, l, hi, rfl, rfl, rfl, hw, hP, hll, ho, hb⟩ := hrel
        obtain ⟨AV, cV, rfl⟩ := ho.slice
        rw [hll] at ho ⊢
        have HLO := hid hb
        have HOL := hid ho
        have zi := hb.size
        clear hb ho
        by_cases hlt : i < K
        · have hjq : i < RS.length := by rw [HKL.out]; exact hlt
          rw [List.drop_eq_getElem_cons hjq] at hw hP
          obtain ⟨hw2, hn1⟩ := skip_step hw
          obtain ⟨bj2, hbj2⟩ : ∃ bj2, recB bi si RS[i] = bj2 := ⟨_, rfl⟩
          obtain ⟨t3, e3⟩ := wrR_pre hw2
          obtain ⟨t4, e4⟩ := wrR_pre hw
          obtain ⟨p, hp⟩ : ∃ p, (bi ++ packT bi si RS[i].1).length = p := ⟨_, rfl⟩
          rw [hbj2] at hn1 e3 hw2
          have hl2 : bj2.length ≤ k := by rw [← HK.out, e3, List.length_append]; omega
          have hp2 : p + 4 ≤ k := plsR_le (RS[i] :: RS.drop (i + 1)) bi si b s2 hw (p + 4) (by rw [plsR, hp]; exact List.mem_cons_self) |> fun h => by rw [← HK.out]; omega
          rw [hp] at hn1
          have hP2 : (plsR RS b1 s1).map (fun p : Nat => (p : Int)) = (l ++ [((p + 4 : Nat) : Int)]) ++ (plsR (RS.drop (i + 1)) bj2 (stS bi si RS[i].1)).map (fun p : Nat => (p : Int)) := by
            rw [hP, plsR, hp, hbj2, List.map_cons, List.append_assoc]; rfl
          have HW2 := hid hw2
          have HP2 := hid hP2
          have CS := hid fun w' (hb : Below wr.heap.size wr w') => skip_ok ((R1.out.later HLOW.out).later (HB2.out.trans ((HLO.out.trans (hb.mono HLO.out.size)).mono HB2.out.size))) hn1
          have ab1 : (l.length + 1) * 8 ≤ 140737488355328 := by omega
          have ab2 : l.length + 1 ≤ maxLen := by simp [maxLen]; omega
          have d0 : (i : Int) < (K : Int) := by omega
          have d1 : decide ((i : Int) < (K : Int)) = true := decide_eq_true d0
          clear hw hw2 hn1 e3 e4 hP hP2
          go_wp2_with (first
            | (go_at_call 11; have _t := tk4; (with_reducible refine (CS.out _ (by (repeat' (first | (with_reducible exact Below.refl _ _) | (with_reducible assumption) | (with_reducible refine below_ext0 ?_ _ _) | (with_reducible refine below_alloc0 ?_ _) | (with_reducible refine Below.ext ?_ ?_ _ _) | (with_reducible refine Below.alloc ?_ ?_ _) | (with_reducible refine Below.setCell ?_ ?_ _) | (with_reducible refine Below.drew ?_) | (with_reducible refine below_draws ?_ _) | go_size | (simp [size_ext]; done) | (simp [size_ext]; omega))))).mono ?_); rintro e w1 ⟨rfl, hb⟩; obtain ⟨otk4, dtk4, rfl⟩ := ext_of_below hb; clear hb tk4)
            | (at_builtin; have _t := tk5; go_must (refine wpList_own (R := intR) (B := 0) (base := w2.heap.size) el_int rfl _ _ rfl rfl (HOL.out.below (by (repeat' (first | (with_reducible exact Below.refl _ _) | (with_reducible assumption) | (with_reducible refine below_ext0 ?_ _ _) | (with_reducible refine below_alloc0 ?_ _) | (with_reducible refine Below.ext ?_ ?_ _ _) | (with_reducible refine Below.alloc ?_ ?_ _) | (with_reducible refine Below.setCell ?_ ?_ _) | (with_reducible refine Below.drew ?_) | (with_reducible refine below_draws ?_ _) | go_size | (simp [size_ext]; done) | (simp [size_ext]; omega))))) rfl (SrcR.lit (a := ((p + 4 : Nat) : Int)) (Blk.new' _ _ (by first | rfl | (simp [size_ext]; done) | (simp [size_ext]; omega))) ⟨rfl, by unfold I64; omega⟩ (by simp [Value.oneCell'])) ab1 ab2 ?_); intro v3 w3 ho hb; have HOL3 := hid ho; have HB3 := hid (HLO.out.trans (Below.trans (by (repeat' (first | (with_reducible exact Below.refl _ _) | (with_reducible assumption) | (with_reducible refine below_ext0 ?_ _ _) | (with_reducible refine below_alloc0 ?_ _) | (with_reducible refine Below.ext ?_ ?_ _ _) | (with_reducible refine Below.alloc ?_ ?_ _) | (with_reducible refine Below.setCell ?_ ?_ _) | (with_reducible refine Below.drew ?_) | (with_reducible refine below_draws ?_ _) | go_size | (simp [size_ext]; done) | (simp [size_ext]; omega)))) (hb.mono (Nat.le_refl _)) : Below w2.heap.size wr w3)); clear ho hb tk5))
          go_roundg (K - (i + 1))
          case measure => omega
          case rel => exact ⟨i + 1, bj2, _, _, by omega, rfl, rfl, by go_num, HW2.out, HP2.out, by simp [hll], HOL3.out, HB3.out⟩
        · obtain rfl : i = K := by omega
          have hd : RS.drop i = [] := List.drop_eq_nil_of_le (by rw [HKL.out]; exact Nat.le_refl _)
          rw [hd, wrR] at hw
          obtain ⟨rfl, rfl⟩ : b = bi ∧ s2 = si := by cases hw; exact ⟨rfl, rfl⟩
          rw [hd, plsR, List.map_nil, List.append_nil] at hP
          clear hw hd
          have d0 : ¬ (i : Int) < (i : Int) := by omega
          have d1 : decide ((i : Int) < (i : Int)) = false := decide_eq_false d0
          have hkb : (b.length : Int) = (k : Int) := by rw [HK.out]
          obtain ⟨w4, hw4⟩ : ∃ w4, w4 = wr := ⟨_, rfl⟩
          subst hw4
          have HO4 := hid (own_low (own_low (own_low HO.out HLOW.out (Nat.le_refl _)) HB2.out (Nat.le_refl _)) HLO.out (by have := HB2.out.size; omega))
          have K4 := hid ((KXR.out.below HB2.out KXR.out.lt).below HLO.out (by have := KXR.out.lt; omega))
          have HR4 := hid (HRO.out.below HLO.out)
          have B4 := hid (HBR.out.trans ((HB2.out.trans (HLO.out.mono HB2.out.size)).mono HBR.out.size))
          have HPP := hid hP
          obtain ⟨P, hPd⟩ : ∃ P, plsR RS b1 s1 = P := ⟨_, rfl⟩
          have hPl : P.length = i := by rw [← hPd, HPL.out, HKL.out]
          have HPd := hid hPd
          have HPl := hid hPl
          have hgw2 : g < w2.heap.size := by have := HLOW.out.size; omega
          have hwg : w.heap.size < g := by omega
          have hgl : g < w4.heap.size := by omega
          clear hP hPd hPl
          rw [hkb]
          go_wp2
          go_loopg [17] i (fun gk v17 wi => ∃ (jj : Nat) (m' : List UInt8), jj ≤ i ∧ gk = i - jj ∧ v17 = .int .i64 (jj : Int) ∧ (P.take jj).foldl (putL L) b = m' ∧ m'.length = k ∧ wi.ownsRow (w.heap.size + 1) 5 1 (.slice (some ⟨g, 0, none⟩) k cb) k (bytesV m') ∧ OwnR intR 3 0 w2.heap.size wi (.slice AV i cV) l ∧ (∃ B2, B2 > g ∧ OwnR recR 26 w.heap.size B2 wi (.slice A2 i c2) RS) ∧ Blk wi w.heap.size 43 (msgC h (.slice Aq j cq) (.slice Ax nx cx) (.slice Ay ny cy) (.slice Az nz cz)) ∧ w4.heap.size ≤ wi.heap.size ∧ Below w.heap.size w wi)
          case atStart => exact ⟨0, b, Nat.zero_le _, rfl, rfl, rfl, HK.out, HO4.out, HOL.out, ⟨_, by omega, HR4.out⟩, K4.out, Nat.le_refl _, B4.out⟩
          case round =>
            obtain ⟨jj, m', hj, rfl, rfl, hm, hmk, ho, hl, ⟨B2, hB2, hr⟩, hk4, hz4, hb⟩ := hrel
            have HOB := hid ho
            have HOL5 := hid hl
            have HR5 := hid hr
            have K5 := hid hk4
            have B5 := hid hb
            have HM5 := hid hm
            have HMK := hid hmk
            by_cases hlt : jj < i
            · obtain ⟨gp, rfl, hp0, hp1, _, hpc⟩ := ownR_int hl jj (by rw [hll]; exact hlt)
              have hjP : jj < P.length := by rw [HPl.out]; exact hlt
              obtain ⟨a, ha⟩ : ∃ a, P[jj] = a := ⟨_, rfl⟩
              have hla : l[jj]'(by rw [hll]; exact hlt) = (a : Int) := by
                have e := HPP.out
                have : l = P.map (fun p : Nat => (p : Int)) := by rw [← e, HPd.out]
                subst this
                rw [List.getElem_map, ha]
              rw [hla] at hpc
              have hak : a + 4 ≤ k := by
                have := HPB.out a (by rw [HPd.out, ← ha]; exact List.getElem_mem hjP)
                have e := HK.out
                omega
              have hne : ¬ g = gp := by omega
              have hne' : ¬ gp = g := by omega
              obtain ⟨y0, gc0, gf0⟩ := own_cell ho a (by omega)
              obtain ⟨y1, gc1, gf1⟩ := own_cell ho (a + 1) (by omega)
              obtain ⟨y2, gc2, gf2⟩ := own_cell ho (a + 2) (by omega)
              obtain ⟨y3, gc3, gf3⟩ := own_cell ho (a + 3) (by omega)
              have i0 : (a : Int) < (k : Int) := by omega
              have i1 : (a : Int) + 1 < (k : Int) := by omega
              have i2 : (a : Int) + 2 < (k : Int) := by omega
              have i3 : (a : Int) + 3 < (k : Int) := by omega
              have i0' : a < k := by omega
              have i1' : a + 1 < k := by omega
              have i2' : a + 2 < k := by omega
              have i3' : a + 3 < k := by omega
              have yy1 : IntKind.i64.wrap ((a : Int) + 1) = (a : Int) + 1 := IntWalk.i64_in _ (by omega)
              have yy2 : IntKind.i64.wrap ((a : Int) + 2) = (a : Int) + 2 := IntWalk.i64_in _ (by omega)
              have yy3 : IntKind.i64.wrap ((a : Int) + 3) = (a : Int) + 3 := IntWalk.i64_in _ (by omega)
              have d0 : (jj : Int) < (i : Int) := by omega
              have d1 : decide ((jj : Int) < (i : Int)) = true := decide_eq_true d0
              have HA := hid ha
              have HLL := hid hll
              clear ho hl hr hk4 hb hm hmk ha hla hll
              go_wp2
              go_roundg (i - (jj + 1))
              case measure => omega
              case rel =>
                refine ⟨jj + 1, putL L m' a, by omega, rfl, by go_num, ?_, by rw [putL_len (by rw [HMK.out]; omega)]; exact HMK.out, own_ttl HOB.out (by rw [HMK.out]; omega) ht, ?_, ⟨B2, hB2, ?_⟩, ?_, by simpa using hz4, ?_⟩
                · rw [List.take_succ_eq_append_getElem (by rw [HPl.out]; exact hlt), List.foldl_append, HM5.out, List.foldl_cons, List.foldl_nil, HA.out]
                · exact (((HOL5.out.set (Nat.zero_le _) hgw2 _ _ _).set (Nat.zero_le _) hgw2 _ _ _).set (Nat.zero_le _) hgw2 _ _ _).set (Nat.zero_le _) hgw2 _ _ _
                · exact (((HR5.out.set (by omega) hB2 _ _ _).set (by omega) hB2 _ _ _).set (by omega) hB2 _ _ _).set (by omega) hB2 _ _ _
                · exact (((K5.out.far (by simp only; omega) _).far (by simp only; omega) _).far (by simp only; omega) _).far (by simp only; omega) _
                · exact Below.setCell (Below.setCell (Below.setCell (Below.setCell B5.out (by simp only; omega) _) (by simp only; omega) _) (by simp only; omega) _) (by simp only; omega) _
            · obtain rfl : jj = i := by omega
              have hMe : m' = M := by
                have e := HM.out
                rw [HPd.out] at e
                rw [← hm, List.take_of_length_le (by rw [HPl.out]; exact Nat.le_refl _), e]
              subst hMe
              obtain ⟨A9, c9, he9, hr9⟩ := own_rd_u8 ho (by have := hk4.lt; omega) (by omega)
              cases he9
              have HR9 := hid hr9
              clear hr9
              have HLL := hid hll
              have d0 : ¬ (jj : Int) < (jj : Int) := by omega
              have d1 : decide ((jj : Int) < (jj : Int)) = false := decide_eq_false d0
              have hzw5 := hk4.lt
              have CR := hid fun (w' : World) (hb : Below wr.heap.size wr w') => msgread_yes (HR9.out.later hb) HMB.out.1 HMB.out.2 HLX.out.1 HLX.out.2.1 HLX.out.2.2.1 HLX.out.2.2.2
              clear ho hl hr hk4 hb hm hmk hll
              go_wp2_with (first
                | (go_at_call 18; have _t := tk6; go_must (with_reducible refine (CR.out _ (by (repeat' (first | (with_reducible exact Below.refl _ _) | (with_reducible assumption) | (with_reducible refine below_ext0 ?_ _ _) | (with_reducible refine below_alloc0 ?_ _) | (with_reducible refine Below.ext ?_ ?_ _ _) | (with_reducible refine Below.alloc ?_ ?_ _) | (with_reducible refine Below.setCell ?_ ?_ _) | (with_reducible refine Below.drew ?_) | (with_reducible refine below_draws ?_ _) | go_size | (simp [size_ext]; done) | (simp [size_ext]; omega))))).mono ?_); rintro e w5 ⟨Aq5, cq5, Ax5, cx5, Ay5, cy5, Az5, cz5, rfl, ⟨hrq, hrx, hry, hrz⟩, hb⟩; have K6 := hid (Blk.below K5.out hb hzw5); have B6 := hid (B5.out.trans (hb.mono B5.out.size)); have HB5 := hid hb; have R5x := hid hrx; have R5y := hid hry; have R5z := hid hrz; have z5 := hb.size; clear hrq hrx hry hrz hb tk6)
                | (go_at_call 15; have _t := tk7; go_must (with_reducible refine (CB.out _ _ _ _ _ _ _ _ _ (R5x.out.later (by (repeat' (first | (with_reducible exact Below.refl _ _) | (with_reducible assumption) | (with_reducible refine below_ext0 ?_ _ _) | (with_reducible refine below_alloc0 ?_ _) | (with_reducible refine Below.ext ?_ ?_ _ _) | (with_reducible refine Below.alloc ?_ ?_ _) | (with_reducible refine Below.setCell ?_ ?_ _) | (with_reducible refine Below.drew ?_) | (with_reducible refine below_draws ?_ _) | go_size | (simp [size_ext]; done) | (simp [size_ext]; omega))))) (R5y.out.later (by (repeat' (first | (with_reducible exact Below.refl _ _) | (with_reducible assumption) | (with_reducible refine below_ext0 ?_ _ _) | (with_reducible refine below_alloc0 ?_ _) | (with_reducible refine Below.ext ?_ ?_ _ _) | (with_reducible refine Below.alloc ?_ ?_ _) | (with_reducible refine Below.setCell ?_ ?_ _) | (with_reducible refine Below.drew ?_) | (with_reducible refine below_draws ?_ _) | go_size | (simp [size_ext]; done) | (simp [size_ext]; omega))))) (R5z.out.later (by (repeat' (first | (with_reducible exact Below.refl _ _) | (with_reducible assumption) | (with_reducible refine below_ext0 ?_ _ _) | (with_reducible refine below_alloc0 ?_ _) | (with_reducible refine Below.ext ?_ ?_ _ _) | (with_reducible refine Below.alloc ?_ ?_ _) | (with_reducible refine Below.setCell ?_ ?_ _) | (with_reducible refine Below.drew ?_) | (with_reducible refine below_draws ?_ _) | go_size | (simp [size_ext]; done) | (simp [size_ext]; omega)))))).mono ?_); rintro e w6 ⟨A6, c6, rfl, hr, hb⟩; have kx := (Blk.below (Blk.alloc K6.out _) hb (by simp; omega) : Blk w6 w.heap.size 43 (msgC h (.slice Aq j cq) (.slice Ax nx cx) (.slice Ay ny cy) (.slice Az nz cz))); have ky := (Blk.below (Blk.new w5 _ _) hb (by simp) : Blk w6 w5.heap.size 43 (msgC h (.slice Aq5 j cq5) (.slice Ax5 nx cx5) (.slice Ay5 ny cy5) (.slice Az5 nz cz5))); have hbb := (Below.trans (by (repeat' (first | (with_reducible exact Below.refl _ _) | (with_reducible assumption) | (with_reducible refine below_ext0 ?_ _ _) | (with_reducible refine below_alloc0 ?_ _) | (with_reducible refine Below.ext ?_ ?_ _ _) | (with_reducible refine Below.alloc ?_ ?_ _) | (with_reducible refine Below.setCell ?_ ?_ _) | (with_reducible refine Below.drew ?_) | (with_reducible refine below_draws ?_ _) | go_size | (simp [size_ext]; done) | (simp [size_ext]; omega)))) (hb.mono (by simp)) : Below w5.heap.size w5 w6); have HB6 := hid hbb; have B7 := hid (B6.out.trans (hbb.mono B6.out.size)); have R6 := hid hr; have m0 : (w6).cell? ⟨w.heap.size, 0, none⟩ = some (.int .i64 h.id) := (kx).cell 0; have m1 : (w6).cell? ⟨w.heap.size, 1, none⟩ = some (.bool h.an) := (kx).cell 1; have m2 : (w6).cell? ⟨w.heap.size, 2, none⟩ = some (.int .i64 h.op) := (kx).cell 2; have m3 : (w6).cell? ⟨w.heap.size, 3, none⟩ = some (.bool h.aa) := (kx).cell 3; have m4 : (w6).cell? ⟨w.heap.size, 4, none⟩ = some (.bool h.tc) := (kx).cell 4; have m5 : (w6).cell? ⟨w.heap.size, 5, none⟩ = some (.bool h.rd) := (kx).cell 5; have m6 : (w6).cell? ⟨w.heap.size, 6, none⟩ = some (.bool h.ra) := (kx).cell 6; have m7 : (w6).cell? ⟨w.heap.size, 7, none⟩ = some (.bool h.z) := (kx).cell 7; have m8 : (w6).cell? ⟨w.heap.size, 8, none⟩ = some (.bool h.ad) := (kx).cell 8; have m9 : (w6).cell? ⟨w.heap.size, 9, none⟩ = some (.bool h.cd) := (kx).cell 9; have m10 : (w6).cell? ⟨w.heap.size, 10, none⟩ = some (.int .i64 h.code) := (kx).cell 10; have m11 : (w6).cell? ⟨w.heap.size, 11, none⟩ = some (.slice Aq j cq) := (kx).cell 11; have m12 : (w6).cell? ⟨w.heap.size, 12, none⟩ = some (.slice Ax nx cx) := (kx).cell 12; have m13 : (w6).cell? ⟨w.heap.size, 13, none⟩ = some (.slice Ay ny cy) := (kx).cell 13; have m14 : (w6).cell? ⟨w.heap.size, 14, none⟩ = some (.slice Az nz cz) := (kx).cell 14; have n0 : (w6).cell? ⟨w5.heap.size, 0, none⟩ = some (.int .i64 h.id) := (ky).cell 0; have n1 : (w6).cell? ⟨w5.heap.size, 1, none⟩ = some (.bool h.an) := (ky).cell 1; have n2 : (w6).cell? ⟨w5.heap.size, 2, none⟩ = some (.int .i64 h.op) := (ky).cell 2; have n3 : (w6).cell? ⟨w5.heap.size, 3, none⟩ = some (.bool h.aa) := (ky).cell 3; have n4 : (w6).cell? ⟨w5.heap.size, 4, none⟩ = some (.bool h.tc) := (ky).cell 4; have n5 : (w6).cell? ⟨w5.heap.size, 5, none⟩ = some (.bool h.rd) := (ky).cell 5; have n6 : (w6).cell? ⟨w5.heap.size, 6, none⟩ = some (.bool h.ra) := (ky).cell 6; have n7 : (w6).cell? ⟨w5.heap.size, 7, none⟩ = some (.bool h.z) := (ky).cell 7; have n8 : (w6).cell? ⟨w5.heap.size, 8, none⟩ = some (.bool h.ad) := (ky).cell 8; have n9 : (w6).cell? ⟨w5.heap.size, 9, none⟩ = some (.bool h.cd) := (ky).cell 9; have n10 : (w6).cell? ⟨w5.heap.size, 10, none⟩ = some (.int .i64 h.code) := (ky).cell 10; have n11 : (w6).cell? ⟨w5.heap.size, 11, none⟩ = some (.slice Aq5 j cq5) := (ky).cell 11; have n12 : (w6).cell? ⟨w5.heap.size, 12, none⟩ = some (.slice Ax5 nx cx5) := (ky).cell 12; have n13 : (w6).cell? ⟨w5.heap.size, 13, none⟩ = some (.slice Ay5 ny cy5) := (ky).cell 13; have n14 : (w6).cell? ⟨w5.heap.size, 14, none⟩ = some (.slice Az5 nz cz5) := (ky).cell 14; clear hr hb hbb kx ky tk7))
              have HRA := hid (((HR5.out.below HB5.out).below HB6.out).rd' HKL.out (by simp only [show recR.bs = 72 from rfl]; omega) (by decide))
              have HRB := hid (show Rd recR w6 w6.heap.size A6 jj c6 (RS.map (setL L)) by rw [← HRM.out]; exact R6.out)
              go_loopg [20] jj (fun gk v20 wi => ∃ q : Nat, q ≤ jj ∧ gk = jj - q ∧ v20 = .int .i64 (q : Int) ∧ Below w6.heap.size w6 wi)
              case atStart => exact ⟨0, Nat.zero_le _, rfl, rfl, Below.refl _ _⟩
              case round =>
                obtain ⟨q, hq, rfl, rfl, hb⟩ := hrel
                have HB := hid hb
                have z7 := hb.size
                clear hb
                by_cases hlt : q < jj
                · obtain ⟨bb1, o1, A3, n3, c3, A4, n4, c4, l1, T, C, LL, d, rfl, hb1, e1, x0, x1, x2, x3, x4, r1, _, t1⟩ := (HRA.out.later HB.out).recd q hlt
                  obtain ⟨bb2, o2, A5, n5, c5, A7, n7, c7, l2, T', C', L', d', rfl, hb2, e2, y0, y1, y2, y3, y4, r2, _, t2⟩ := (HRB.out.later HB.out).recd q hlt
                  rw [List.getElem_map, e1] at e2
                  simp only [setL] at e2
                  cases e2
                  have CR2 := hid fun w' (hb : Below wr.heap.size wr w') => record_yes (T := T) (C := C) (L := L) (r2.later hb) (t2.later hb) (r1.later hb) (t1.later hb) (Nat.le_refl _) (Nat.le_refl _) (Nat.le_refl _) (Nat.le_refl _)
                  clear e1 r1 t1 r2 t2
                  have t0 : (q : Int) < (jj : Int) := by omega
                  have t1 : decide ((q : Int) < (jj : Int)) = true := decide_eq_true t0
                  have t2 : (0 : Int) ≤ (q : Int) := by omega
                  go_wp2_with fail
                  go_region_held3 (fun w' => w'.cell? ⟨bb2, o2 + q * 5, none⟩ = some (.slice A5 n5 c5) ∧ w'.cell? ⟨bb2, o2 + q * 5 + 1, none⟩ = some (.int .i64 T) ∧ w'.cell? ⟨bb2, o2 + q * 5 + 2, none⟩ = some (.int .i64 C) ∧ w'.cell? ⟨bb2, o2 + q * 5 + 3, none⟩ = some (.int .i64 L) ∧ w'.cell? ⟨bb2, o2 + q * 5 + 4, none⟩ = some (.slice A7 n7 c7) ∧ w'.cell? ⟨wr.heap.size, 0, none⟩ = some (.slice A3 n3 c3) ∧ w'.cell? ⟨wr.heap.size, 1, none⟩ = some (.int .i64 T) ∧ w'.cell? ⟨wr.heap.size, 2, none⟩ = some (.int .i64 C) ∧ w'.cell? ⟨wr.heap.size, 3, none⟩ = some (.int .i64 L) ∧ w'.cell? ⟨wr.heap.size, 4, none⟩ = some (.slice A4 n4 c4)) (((try dsimp only); (repeat' apply And.intro) <;> (first | assumption | (go_simp; done)))) (first | (go_at_call 10; have _t := tk8; (with_reducible refine (CR2.out _ (by (repeat' (first | (with_reducible exact Below.refl _ _) | (with_reducible assumption) | (with_reducible refine below_ext0 ?_ _ _) | (with_reducible refine below_alloc0 ?_ _) | (with_reducible refine Below.ext ?_ ?_ _ _) | (with_reducible refine Below.alloc ?_ ?_ _) | (with_reducible refine Below.setCell ?_ ?_ _) | (with_reducible refine Below.drew ?_) | (with_reducible refine below_draws ?_ _) | go_size | (simp [size_ext]; done) | (simp [size_ext]; omega))))).mono ?_); rintro e w1 ⟨rfl, hb⟩; obtain ⟨otk8, dtk8, rfl⟩ := ext_of_below hb; clear hb tk8))
                  all_goals
                    go_wp2
                    go_roundg (jj - (q + 1))
                    case measure => omega
                    case rel =>
                      have hlw := HB.out
                      exact ⟨q + 1, by omega, rfl, by go_num, (by (repeat' (first | (with_reducible exact Below.refl _ _) | (with_reducible assumption) | (with_reducible refine below_ext0 ?_ _ _) | (with_reducible refine below_alloc0 ?_ _) | (with_reducible refine Below.ext ?_ ?_ _ _) | (with_reducible refine Below.alloc ?_ ?_ _) | (with_reducible refine Below.setCell ?_ ?_ _) | (with_reducible refine Below.drew ?_) | (with_reducible refine below_draws ?_ _) | go_size | (simp [size_ext]; done) | (simp [size_ext]; omega))))⟩
                · have t0 : ¬ (q : Int) < (jj : Int) := by omega
                  have t1 : decide ((q : Int) < (jj : Int)) = false := decide_eq_false t0
                  go_wp2
                  go_ret
                  exact ⟨rfl, B7.out.trans (HB.out.mono B7.out.size)⟩
end
theorem walk (w : World) (x : MsgX) (cs : Array Value) (hx : messageR.rel w w.heap.size x cs.toList) (L : Int) (hL : I64 L) :
    Calls Try.prog 6 #[.agg cs, .int .i64 L] w fun e w' => e = .returned (.bool true) ∧ Below w.heap.size w w' := by
  obtain ⟨g, Aq, Ax, Ay, Az, nq, cq, nx, cx, ny, cy, nz, cz, u, qs, xs, ys, zs, rfl, rfl, a1, a2, a3, a4⟩ := message_of hx
  obtain ⟨b, hb⟩ : ∃ b, msgT g qs xs ys zs = b := ⟨_, rfl⟩
  obtain ⟨E, b⟩ := b
  by_cases hE : E = 0
  · subst hE
    by_cases ht : 0 ≤ L ∧ L ≤ 4294967295
    · exact way_yes a1 a2 a3 a4 hb ht
    · exact way_out a1 a2 a3 a4 hb (by omega)
  · exact way_no a1 a2 a3 a4 (E := E) (by rw [hb]) hE
set_option maxRecDepth 100000 in
theorem contract (H : Type) (enc : TypeId × Value → H) (W : World) (base : Nat) (args : Array Value) (ds gs : List (DataW H)) (before : List MemPlace)
    (hval : ∀ (j : Nat) t v, Try.f6.params[j]? = some t → args[j]? = some v → Value.okWide Try.prog W .any base t v)
    (hW : DataW.Whole enc Try.prog Try.f6.params.toList Rows.topTTLSpec.vars false W args.toList ds gs before) (hsz : (DataW.weightsEach Try.prog (Try.f6.params.toList ++ Rows.topTTLSpec.plain.varTypes Try.prog) (ds ++ gs)).all (· ≤ reachBytes) = true) :
    Calls Try.prog 6 args W fun e W' => ∃ v, e = .returned v ∧ Rows.topTTLSpec.post enc Try.prog Try.f6 false true false false W args v W' := by
  have hW' := hW
  obtain ⟨p, q, hA0, hV, rfl, hfz, hnd⟩ := hW
  have hA : DataW.TrodAll enc Try.prog W 0 (fun _ => true) true Try.f6.params.toList args.toList ds p := hA0
  rw [Try.params6] at hA hval hsz
  obtain ⟨v0, vs0, d0, ds0, p0, q0, hargs, rfl, rfl, k0, r0⟩ := trodAll_cons hA
  obtain ⟨v1, vs1, d1, ds1, p1, q1, rfl, rfl, rfl, k1, r1⟩ := trodAll_cons r0
  obtain ⟨rfl, rfl, rfl⟩ := trodAll_nil r1
  obtain rfl : args = #[v0, v1] := by cases args; simp_all
  obtain ⟨rfl, rfl⟩ := trodVars_none hV
  have lt0 : ∀ x ∈ p0, x.block < W.heap.size := by obtain ⟨m, hm⟩ := k0; exact DataW.trod_lt m _ _ _ hm
  have lt1 : ∀ x ∈ p1, x.block < W.heap.size := by obtain ⟨m, hm⟩ := k1; exact DataW.trod_lt m _ _ _ hm
  have hsz' : ∀ k ∈ _, k ≤ reachBytes := fun k hk => of_decide_eq_true (List.all_eq_true.1 hsz k hk)
  have u0 : ∀ k ∈ d0.weights Try.prog 43, k ≤ reachBytes := fun k hk => hsz' k (by simp [DataW.weightsEach, hk])
  have u1 : ∀ k ∈ d1.weights Try.prog 3, k ≤ reachBytes := fun k hk => hsz' k (by simp [DataW.weightsEach, hk])
  obtain ⟨x0, cs0, rfl, w0, z0⟩ := arg_struct Try.underlying43 opens_message (hval 0 43 v0 rfl rfl) k0 u0
  obtain ⟨a1, rfl, w1, z1⟩ := arg_int Try.underlying3 (hval 1 3 v1 rfl rfl) k1 u1
  clear hA0 hA
  refine (walk W x0 cs0 w0 a1 w1).mono fun e W' ⟨he, bel⟩ => ?_
  subst he
  exact ⟨_, rfl, _, _, _, [], _, [], hW', trodAll_mk1 (shut_bool Try.underlying4 _), (trodAll_cons_mk (Below.trod laidOut (by kernel_rfl) (of_decide_eq_true (by kernel_rfl)) k0 bel lt0) (trodAll_cons_mk (Below.trod laidOut (by kernel_rfl) (of_decide_eq_true (by kernel_rfl)) k1 bel lt1) trodAll_mk0)), rfl, bel.frame _, fun h => by cases h⟩

set_option maxRecDepth 100000 in
theorem lifted (os : Os) (started : os.Started) (H : Type) (enc : TypeId × Value → H) :
    ReturnsInHanded {} Try.checked os 6 .any (Rows.topTTLSpec.pre6 enc Try.prog Try.f6 Rows.topTTLRow.domain false) (Rows.topTTLSpec.post enc Try.prog Try.f6 false true false false) := by
  refine returnsInHanded_of_change_sized (C := Try.checked) own started (by kernel_rfl) Try.func6
    (ChangeSpec.witness6 (enc := enc) (C := Try.checked) false ⟨#[], #[.agg #[.int .i64 0, .bool false, .int .i64 0, .bool false, .bool false, .bool false, .bool false, .bool false, .bool false, .bool false, .int .i64 0, .slice none 0 0, .slice none 0 0, .slice none 0 0, .slice none 0 0], .int .i64 0], []⟩ 8 (by kernel_rfl) (by kernel_rfl) (by kernel_rfl) (by kernel_rfl)) ?_
  intro W base args ds gs before hval hW _ hsz _
  exact contract H enc W base args ds gs before hval hW hsz

/-- the statement -/
theorem proved : Rows.TopTTLSaid :=
  OpenClaim.holds_of_wide 6 Try.f6 rfl rfl rfl rfl rfl rfl rfl ⟨rfl, rfl, rfl, rfl, rfl⟩ rfl rfl rfl rfl rfl (by kernel_rfl) Try.func6 (by kernel_rfl)
    (of_decide_eq_true (by kernel_rfl)) (by unfold Func.isWrapper; first | (rw [if_pos (by decide +kernel)]; kernel_rfl) | (rw [if_neg (by decide +kernel)]; exact ⟨rfl, rfl⟩))
    (fun os started H enc _ => lifted os started H enc)

end topTTL
end Go.Proofs.Ytkdfiedemhjjjaa
