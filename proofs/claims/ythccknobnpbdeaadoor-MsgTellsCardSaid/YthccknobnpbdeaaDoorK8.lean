/- msg.Read, of any bytes. -/
import Derived.Test.YthccknobnpbdeaaDoorK7
import Derived.Test.YthccknobnpbdeaaDoorK5
namespace Go.Proofs.YthccknobnpbdeaaDoor
open Go.RowKit
set_option linter.unusedVariables false
set_option linter.unusedSimpArgs false

/-- what msg.Read hands back -/
def MrO (w : World) (m : List UInt8) (e : Ending) (w' : World) : Prop :=
  ∃ (Aq Ax Ay Az : Option Addr) (nq cq nx cx ny cy nz cz : Nat), e = .returned (.tuple #[.agg (msgC (if (rdM m).1 = 0 then hdOf m else hd0) (.slice Aq nq cq) (.slice Ax nx cx) (.slice Ay ny cy) (.slice Az nz cz)), errV (rdM m).1]) ∧
    Rd qR w' w'.heap.size Aq nq cq (rdM m).2.1 ∧ Rd recR w' w'.heap.size Ax nx cx (rdM m).2.2.1 ∧ Rd recR w' w'.heap.size Ay ny cy (rdM m).2.2.2.1 ∧ Rd recR w' w'.heap.size Az nz cz (rdM m).2.2.2.2 ∧ Below w.heap.size w w'
theorem mrO_bad {w w' : World} {m : List UInt8} {k : Int} (h : rdM m = (k, [], [], [], [])) (hk : k ≠ 0) (hb : Below w.heap.size w w') : MrO w m (.returned (.tuple #[.agg (msgC hd0 (.slice none 0 0) (.slice none 0 0) (.slice none 0 0) (.slice none 0 0)), .iface 29 (.int .i64 k)])) w' := by
  refine ⟨none, none, none, none, 0, 0, 0, 0, 0, 0, 0, 0, ?_, ?_, ?_, ?_, ?_, hb⟩
  · rw [h, if_neg hk, errV_ne hk]
  all_goals (rw [h]; exact rd_nil _ _)
theorem mrO_ok {w w2 w' : World} {m : List UInt8} {hh : Hd} {qs : List QT} {xs ys zs : List RecT} {AV A0 A1 A2 : Option Addr} {cV n0 c0 n1 c1 n2 c2 : Nat} {T tq tr : TypeId} (h : rdM m = (0, qs, xs, ys, zs)) (hhe : hdOf m = hh) (hg : w2.grownBy w' (some w.heap.size)) (hk : Blk w2 w.heap.size T (msgC hd0 (.slice none 0 0) (.slice none 0 0) (.slice none 0 0) (.slice none 0 0)))
    (hq : Row qR tq w2 (w.heap.size + 2) (.slice AV qs.length cV) qs) (hx : Row recR tr w2 (w.heap.size + 2) (.slice A0 n0 c0) xs) (e0 : xs.length = n0) (hy : Row recR tr w2 (w.heap.size + 2) (.slice A1 n1 c1) ys) (e1 : ys.length = n1) (hz : Row recR tr w2 (w.heap.size + 2) (.slice A2 n2 c2) zs) (e2 : zs.length = n2)
    (lq : qs.length ≤ 65535) (l0 : n0 ≤ 65535) (l1 : n1 ≤ 65535) (l2 : n2 ≤ 65535) (hlow : Below w.heap.size w w2) (hb : w.heap.size + 2 ≤ w2.heap.size) :
    MrO w m (.returned (.tuple #[.agg (msgC hh (.slice AV qs.length cV) (.slice A0 n0 c0) (.slice A1 n1 c1) (.slice A2 n2 c2)), .nilIface])) w' := by
  subst e0 e1 e2 hhe
  have hf : FreeB IsD w2 w.heap.size := FreeB.grown_msg hk (not_d_slice _ _ _) (not_d_slice _ _ _) (not_d_slice _ _ _) (not_d_slice _ _ _)
  have hb' : w.heap.size + 2 ≤ w'.heap.size := Nat.le_trans hb hg.size
  obtain ⟨_, _, eq, rq⟩ := (hq.grown near_q hg hf (by omega)).rd hb' (by simp only [show qR.bs = 40 from rfl]; omega) (by decide)
  obtain ⟨_, _, ex, rx⟩ := (hx.grown near_rec hg hf (by omega)).rd hb' (by simp only [show recR.bs = 72 from rfl]; omega) (by decide)
  obtain ⟨_, _, ey, ry⟩ := (hy.grown near_rec hg hf (by omega)).rd hb' (by simp only [show recR.bs = 72 from rfl]; omega) (by decide)
  obtain ⟨_, _, ez, rz⟩ := (hz.grown near_rec hg hf (by omega)).rd hb' (by simp only [show recR.bs = 72 from rfl]; omega) (by decide)
  cases eq
  cases ex
  cases ey
  cases ez
  refine ⟨AV, A0, A1, A2, qs.length, cV, xs.length, c0, ys.length, c1, zs.length, c2, ?_, ?_, ?_, ?_, ?_, hlow.trans ((grown_belowB hg (by omega)).mono (Nat.le_refl _))⟩
  · rw [h, if_pos rfl, errV_zero]
  all_goals (rw [h]; assumption)
theorem msgread_short {w : World} {A : Option Addr} {n c : Nat} {m : List UInt8} (hM : Rd u8R w w.heap.size A n c m) (hn : n < 12) :
    Calls Tryd.prog 5 #[.slice A n c] w (MrO w m) := by
  have h0 : (n : Int) < 12 := by omega
  have h1 : decide ((n : Int) < 12) = true := decide_eq_true h0
  have hr := rdM_short (b := m) (by rw [hM.len]; exact hn)
  clear hM
  go_enter Tryd.func5, Tryd.ntmps5
  go_wp2
  refine bodyPost_ret (v := .tuple #[.agg (msgC hd0 (.slice none 0 0) (.slice none 0 0) (.slice none 0 0) (.slice none 0 0)), .iface 29 (.int .i64 2)]) (by simp [results, Tryd.results5, go_sem, hd0]) rfl (mrO_bad hr (by decide) ?_)
  (repeat' (first | (with_reducible exact Below.refl _ _) | (with_reducible assumption) | (with_reducible refine below_ext0 ?_ _ _) | (with_reducible refine below_alloc0 ?_ _) | (with_reducible refine Below.ext ?_ ?_ _ _) | (with_reducible refine Below.alloc ?_ ?_ _) | (with_reducible refine Below.setCell ?_ ?_ _) | (with_reducible refine Below.drew ?_) | (with_reducible refine below_draws ?_ _) | go_size | (simp [size_ext]; done) | (simp [size_ext]; omega)))

set_option maxRecDepth 100000 in
set_option maxHeartbeats 6000000 in
theorem msgread_long {w : World} {A : Option Addr} {n c : Nat} {m : List UInt8} (hM : Rd u8R w w.heap.size A n c m) (hn : ¬ n < 12) :
    Calls Tryd.prog 5 #[.slice A n c] w (MrO w m) := by
  obtain ⟨b, o, rfl, lb⟩ := hM.addr (by omega)
  have hcap := hM.cap
  have hlim := hM.lim
  simp only [u8R, Nat.mul_one] at hlim
  have hlen := hM.len
  have h0 : ¬ (n : Int) < 12 := by omega
  have h1 : decide ((n : Int) < 12) = false := decide_eq_false h0
  obtain ⟨K, hK⟩ : ∃ K, at2 m 4 = K := ⟨_, rfl⟩
  have hK5 : K ≤ 65535 := by rw [← hK]; exact at2_le _ _
  have CH := fun w' (hb : Below w.heap.size w w') => hread_rd (hM.later hb) (by omega)
  obtain ⟨hh, hhe⟩ : ∃ hh, hdOf m = hh := ⟨_, rfl⟩
  simp only [hhe] at CH
  replace CH := hid CH
  have HHE := hid hhe
  clear hhe
  have CT := hid fun w' (hb : Below w.heap.size w w') => two_at_msg (p := 4) hM (by omega) hb hK
  have CS := hid sections_any
  have HM := hid hM
  have q4 : (4 : Int) ≤ (n : Int) := by omega
  have q5 : 4 ≤ n := by omega
  have q6 : ¬ c = 4 := by omega
  clear hM
  have tk0 : True := trivial; have tk1 : True := trivial; have tk2 : True := trivial; have tk3 : True := trivial; have tk4 : True := trivial; have tk5 : True := trivial; have tk6 : True := trivial; have tk7 : True := trivial; have tk8 : True := trivial; have tk9 : True := trivial; have tk10 : True := trivial; have tk11 : True := trivial; have tk12 : True := trivial
  go_enter Tryd.func5, Tryd.ntmps5
  go_wp2_with (first
    | (go_at_call 15; have _t := tk1; (with_reducible refine (CH.out _ (by (repeat' (first | (with_reducible exact Below.refl _ _) | (with_reducible assumption) | (with_reducible refine below_ext0 ?_ _ _) | (with_reducible refine below_alloc0 ?_ _) | (with_reducible refine Below.ext ?_ ?_ _ _) | (with_reducible refine Below.alloc ?_ ?_ _) | (with_reducible refine Below.setCell ?_ ?_ _) | (with_reducible refine Below.drew ?_) | (with_reducible refine below_draws ?_ _) | go_size | (simp [size_ext]; done) | (simp [size_ext]; omega))))).mono ?_); rintro e w1 ⟨rfl, hb⟩; obtain ⟨otk1, dtk1, rfl⟩ := ext_of_below hb; clear hb tk1)
    | (go_at_call 16; have _t := tk2; (with_reducible refine (CT.out _ (by (repeat' (first | (with_reducible exact Below.refl _ _) | (with_reducible assumption) | (with_reducible refine below_ext0 ?_ _ _) | (with_reducible refine below_alloc0 ?_ _) | (with_reducible refine Below.ext ?_ ?_ _ _) | (with_reducible refine Below.alloc ?_ ?_ _) | (with_reducible refine Below.setCell ?_ ?_ _) | (with_reducible refine Below.drew ?_) | (with_reducible refine below_draws ?_ _) | go_size | (simp [size_ext]; done) | (simp [size_ext]; omega))))).mono ?_); rintro e w1 ⟨rfl, hb⟩; obtain ⟨otk2, dtk2, rfl⟩ := ext_of_below hb; clear hb tk2))
  go_loopg [5, 28] K (fun gk v5 v28 wi => ∃ (j p : Nat) (qs : List QT) (V : Value), j ≤ K ∧ gk = K - j ∧ v5 = .int .i64 (p : Int) ∧ v28 = .int .i64 (j : Int) ∧ p ≤ n ∧ qs.length = j ∧ rdQ m K 12 [] = rdQ m (K - j) p qs ∧ Row qR 51 wi (w.heap.size + 2) V qs ∧ Blk wi w.heap.size 28 (msgC hd0 (.slice none 0 0) (.slice none 0 0) (.slice none 0 0) (.slice none 0 0)) ∧ Blk wi (w.heap.size + 1) 28 (msgC hh V (.slice none 0 0) (.slice none 0 0) (.slice none 0 0)) ∧ Below w.heap.size w wi)
  case atStart =>
    exact ⟨0, 12, [], _, Nat.zero_le _, rfl, rfl, rfl, by omega, rfl, rfl, Row.nil _ _ _ _, (by (repeat' (first | (with_reducible assumption) | (with_reducible exact Blk.new _ _ _) | (with_reducible refine Blk.ext ?_ _ _) | (with_reducible refine Blk.drew ?_) | (with_reducible refine Blk.alloc ?_ _)))), (by (repeat' (first | (with_reducible assumption) | ((with_reducible refine Blk.new' _ _ ?_); (first | (simp [size_ext]; done) | (simp [size_ext]; omega))) | (with_reducible refine Blk.ext ?_ _ _) | (with_reducible refine Blk.drew ?_) | (with_reducible refine Blk.alloc ?_ _)))), (by (repeat' (first | (with_reducible exact Below.refl _ _) | (with_reducible assumption) | (with_reducible refine below_ext0 ?_ _ _) | (with_reducible refine below_alloc0 ?_ _) | (with_reducible refine Below.ext ?_ ?_ _ _) | (with_reducible refine Below.alloc ?_ ?_ _) | (with_reducible refine Below.setCell ?_ ?_ _) | (with_reducible refine Below.drew ?_) | (with_reducible refine below_draws ?_ _) | go_size | (simp [size_ext]; done) | (simp [size_ext]; omega))))⟩
  case round =>
    obtain ⟨j, p, qs, V, hj, rfl, rfl, rfl, hp, hql, hrd, hrow, hkr, hkg, hlow⟩ := hrel
    obtain ⟨AV, cV, rfl⟩ := hrow.slice
    obtain ⟨cs, hrowo, hrowr, hrowf⟩ := hrow
    have HKR := hid hkr
    have HKG := hid hkg
    have HLOW := hid hlow
    have HRD := hid hrd
    have HRO := hid hrowo
    have HRR := hid hrowr
    have HRF := hid hrowf
    have zw := hkg.lt
    have e11 : wr.cell? ⟨w.heap.size + 1, 11, none⟩ = some (.slice AV qs.length cV) := hkg.cell 11
    clear hrowo hrowr hrowf hkr hkg hlow hrd
    subst hql
    by_cases hjK : qs.length < K
    · have d0 : (qs.length : Int) < (K : Int) := by omega
      have d1 : decide ((qs.length : Int) < (K : Int)) = true := decide_eq_true d0
      have HM2 := hid (HM.out.later HLOW.out)
      by_cases hN : (rdN m p).1 = 0
      · obtain ⟨l, q, hrn, hne, hqn, hpq⟩ := rdN_nat hN
        obtain ⟨k, hk⟩ : ∃ k, l.length = k := ⟨_, rfl⟩
        have CR := hid (read_ok HM2.out hrn hk)
        have HRN := hid hrn
        rw [hlen] at hqn
        clear hN hrn hne
        have w1 : IntKind.i64.wrap ((n : Int) - (q : Int)) = (n : Int) - (q : Int) := IntWalk.i64_in _ (by omega)
        by_cases hq4 : q + 4 ≤ n
        · obtain ⟨T, hT⟩ : ∃ T, at2 m q = T := ⟨_, rfl⟩
          obtain ⟨C, hC⟩ : ∃ C, at2 m (q + 2) = C := ⟨_, rfl⟩
          have CT1 := hid fun w' (hb : Below wr.heap.size wr w') => two_at_msg (p := q) HM2.out (by omega) hb hT
          have CT2 := hid fun w' (hb : Below wr.heap.size wr w') => two_at_msg (p := q + 2) HM2.out (by omega) hb hC
          have hT5 : T ≤ 65535 := by rw [← hT]; exact at2_le _ _
          have hC5 : C ≤ 65535 := by rw [← hC]; exact at2_le _ _
          have HTC := hid (And.intro hT hC)
          clear hT hC
          have d2 : ¬ (n : Int) - (q : Int) < 4 := by omega
          have d3 : decide ((n : Int) - (q : Int) < 4) = false := decide_eq_false d2
          have w2 : IntKind.i64.wrap ((q : Int) + 2) = (q : Int) + 2 := IntWalk.i64_in _ (by omega)
          have w3 : IntKind.i64.wrap ((q : Int) + 4) = (q : Int) + 4 := IntWalk.i64_in _ (by omega)
          have w4 : IntKind.i64.wrap ((qs.length : Int) + 1) = (qs.length : Int) + 1 := IntWalk.i64_in _ (by omega)
          have i1 : (q : Int) ≤ (n : Int) := by omega
          have i2 : (0 : Int) ≤ (q : Int) + 2 := by omega
          have i3 : (q : Int) + 2 ≤ (n : Int) := by omega
          have i4 : q ≤ n := by omega
          have i5 : q + 2 ≤ n := by omega
          have i6 : ¬ c = q := by omega
          have i7 : ¬ c = q + 2 := by omega
          have i8 : ((q : Int) + 2).toNat = q + 2 := by omega
          go_wp2_with (go_at_call 17; have _t := tk3; (with_reducible refine (CR.out).mono ?_); rintro e w1 ⟨Atk3, ctk3, rfl, hr, hb⟩; obtain ⟨otk3, dtk3, rfl⟩ := ext_of_below hb; (try simp only [ext_drew, ext_drewN] at hr); have R3 := hid hr; clear hr; clear hb tk3)
          have R4 := hid (R3.out.keep (w' := ext wr otk3 (dtk3 + 1)) (B' := (ext wr otk3 (dtk3 + 1)).heap.size) (Nat.le_refl _) (fun _ _ => rfl))
          have HST := hid (show rdQ m K 12 [] = rdQ m (K - (qs.length + 1)) (q + 4) (qs ++ [((l, (T : Int), (C : Int), ()) : QT)]) by rw [HRD.out, show K - qs.length = (K - (qs.length + 1)) + 1 by omega, rdQ_step HRN.out (by omega), HTC.out.1, HTC.out.2])
          have ab1 : (qs.length + 1) * 40 ≤ 140737488355328 := by omega
          have ab2 : qs.length + 1 ≤ maxLen := by unfold maxLen; omega
          go_region_law (first
            | (go_simp; (first
              | (go_at_call 16; have _t := tk4; (with_reducible refine (CT1.out _ (by (repeat' (first | (with_reducible exact Below.refl _ _) | (with_reducible assumption) | (with_reducible refine below_ext0 ?_ _ _) | (with_reducible refine below_alloc0 ?_ _) | (with_reducible refine Below.ext ?_ ?_ _ _) | (with_reducible refine Below.alloc ?_ ?_ _) | (with_reducible refine Below.setCell ?_ ?_ _) | (with_reducible refine Below.drew ?_) | (with_reducible refine below_draws ?_ _) | go_size | (simp [size_ext]; done) | (simp [size_ext]; omega))))).mono ?_); rintro e w1 ⟨rfl, hb⟩; obtain ⟨otk4, dtk4, rfl⟩ := ext_of_below hb; clear hb tk4)
              | (go_at_call 16; have _t := tk5; (with_reducible refine (CT2.out _ (by (repeat' (first | (with_reducible exact Below.refl _ _) | (with_reducible assumption) | (with_reducible refine below_ext0 ?_ _ _) | (with_reducible refine below_alloc0 ?_ _) | (with_reducible refine Below.ext ?_ ?_ _ _) | (with_reducible refine Below.alloc ?_ ?_ _) | (with_reducible refine Below.setCell ?_ ?_ _) | (with_reducible refine Below.drew ?_) | (with_reducible refine below_draws ?_ _) | go_size | (simp [size_ext]; done) | (simp [size_ext]; omega))))).mono ?_); rintro e w1 ⟨rfl, hb⟩; obtain ⟨otk5, dtk5, rfl⟩ := ext_of_below hb; clear hb tk5)))
            | (refine step_row near_q el_q zq_d HRO.out HRR.out HRF.out (l, (T : Int), (C : Int), ()) [.slice Atk3 k ctk3, .int .i64 (T : Int), .int .i64 (C : Int)] rfl (.tmp 49) (.tmp 61) rfl rfl rfl ?_ ?_ ?_ ?_ ab1 ab2 ?_ ?_; (focus (repeat' (first | (with_reducible exact Below.refl _ _) | (with_reducible assumption) | (with_reducible refine below_ext0 ?_ _ _) | (with_reducible refine below_alloc0 ?_ _) | (with_reducible refine Below.ext ?_ ?_ _ _) | (with_reducible refine Below.alloc ?_ ?_ _) | (with_reducible refine Below.setCell ?_ ?_ _) | (with_reducible refine Below.drew ?_) | (with_reducible refine below_draws ?_ _) | go_size | (simp [size_ext]; done) | (simp [size_ext]; omega)))); (exact (src_lit #[.slice Atk3 k ctk3, .int .i64 (T : Int), .int .i64 (C : Int)] rfl (by simp [Value.oneCell']) (by first | rfl | (simp [size_ext]; done) | (simp [size_ext]; omega)))); (exact rel_q (T := (T : Int)) (C := (C : Int)) (R4.out.later (by (repeat' (first | (with_reducible exact Below.refl _ _) | (with_reducible assumption) | (with_reducible refine below_ext0 ?_ _ _) | (with_reducible refine below_alloc0 ?_ _) | (with_reducible refine Below.ext ?_ ?_ _ _) | (with_reducible refine Below.alloc ?_ ?_ _) | (with_reducible refine Below.setCell ?_ ?_ _) | (with_reducible refine Below.drew ?_) | (with_reducible refine below_draws ?_ _) | go_size | (simp [size_ext]; done) | (simp [size_ext]; omega))))) (by unfold I64; omega) (by unfold I64; omega)); (simp [not_d_slice, not_d_int]); (omega); intro v9 w9 row9 ha9; have KG9 := hid (app_blk HRO.out HKG.out ha9 (by (repeat' (first | (with_reducible exact Below.refl _ _) | (with_reducible assumption) | (with_reducible refine below_ext0 ?_ _ _) | (with_reducible refine below_alloc0 ?_ _) | (with_reducible refine Below.ext ?_ ?_ _ _) | (with_reducible refine Below.alloc ?_ ?_ _) | (with_reducible refine Below.setCell ?_ ?_ _) | (with_reducible refine Below.drew ?_) | (with_reducible refine below_draws ?_ _) | go_size | (simp [size_ext]; done) | (simp [size_ext]; omega)))) (by omega)); have KR9 := hid (app_blk HRO.out HKR.out ha9 (by (repeat' (first | (with_reducible exact Below.refl _ _) | (with_reducible assumption) | (with_reducible refine below_ext0 ?_ _ _) | (with_reducible refine below_alloc0 ?_ _) | (with_reducible refine Below.ext ?_ ?_ _ _) | (with_reducible refine Below.alloc ?_ ?_ _) | (with_reducible refine Below.setCell ?_ ?_ _) | (with_reducible refine Below.drew ?_) | (with_reducible refine below_draws ?_ _) | go_size | (simp [size_ext]; done) | (simp [size_ext]; omega)))) (by omega)); have LOW9 := hid (app_low HRO.out ha9 (by (repeat' (first | (with_reducible exact Below.refl _ _) | (with_reducible assumption) | (with_reducible refine below_ext0 ?_ _ _) | (with_reducible refine below_alloc0 ?_ _) | (with_reducible refine Below.ext ?_ ?_ _ _) | (with_reducible refine Below.alloc ?_ ?_ _) | (with_reducible refine Below.setCell ?_ ?_ _) | (with_reducible refine Below.drew ?_) | (with_reducible refine below_draws ?_ _) | go_size | (simp [size_ext]; done) | (simp [size_ext]; omega)))) HLOW.out (by omega) (by omega)); have hsl := row9.slice; rw [List.length_append, List.length_singleton] at hsl; obtain ⟨A9, c9, rfl⟩ := hsl; have ROW9 := hid row9; have y11 : w9.cell? ⟨w.heap.size + 1, 11, none⟩ = some (.slice AV qs.length cV) := KG9.out.cell 11; have g11 : w9.frozen? ⟨w.heap.size + 1, 11, none⟩ = false := KG9.out.frozen 11; clear ha9 row9))
          all_goals
            go_wp2
            go_roundg (K - (qs.length + 1))
            case measure => omega
            case rel => exact ⟨qs.length + 1, q + 4, qs ++ [((l, (T : Int), (C : Int), ()) : QT)], _, by omega, rfl, (by first | rfl | (congr 1; push_cast; omega)), (by first | rfl | (congr 1; push_cast; omega)), by omega, by simp, HST.out, Row.grown near_q ROW9.out (grown_set 11 _) (FreeB.grown_msg KG9.out (not_d_slice _ _ _) (not_d_slice _ _ _) (not_d_slice _ _ _) (not_d_slice _ _ _)) (by omega), KR9.out.far (by simp) _, KG9.out.set 11 _, Below.setCell LOW9.out (by simp) _⟩
        · have d2 : (n : Int) - (q : Int) < 4 := by omega
          have d3 : decide ((n : Int) - (q : Int) < 4) = true := decide_eq_true d2
          have hbad : rdM m = (2, [], [], [], []) := rdM_q (by omega) (by rw [hK, HRD.out, show K - qs.length = (K - (qs.length + 1)) + 1 by omega, rdQ_short HRN.out (by omega)]) (by decide)
          have HBAD := hid hbad
          clear hbad
          go_wp2_with ((go_at_call 17; have _t := tk3; (with_reducible refine (CR.out).mono ?_); rintro e w1 ⟨Atk3, ctk3, rfl, hr, hb⟩; obtain ⟨otk3, dtk3, rfl⟩ := ext_of_below hb; (try simp only [ext_drew, ext_drewN] at hr); have R3 := hid hr; clear hr; clear hb tk3); have zq0 : (ext wr otk3 dtk3).cell? ⟨w.heap.size, 0, none⟩ = some (.int .i64 0) := (HKR.out.ext otk3 dtk3).cell 0; have zq1 : (ext wr otk3 dtk3).cell? ⟨w.heap.size, 1, none⟩ = some (.bool false) := (HKR.out.ext otk3 dtk3).cell 1; have zq2 : (ext wr otk3 dtk3).cell? ⟨w.heap.size, 2, none⟩ = some (.int .i64 0) := (HKR.out.ext otk3 dtk3).cell 2; have zq3 : (ext wr otk3 dtk3).cell? ⟨w.heap.size, 3, none⟩ = some (.bool false) := (HKR.out.ext otk3 dtk3).cell 3; have zq4 : (ext wr otk3 dtk3).cell? ⟨w.heap.size, 4, none⟩ = some (.bool false) := (HKR.out.ext otk3 dtk3).cell 4; have zq5 : (ext wr otk3 dtk3).cell? ⟨w.heap.size, 5, none⟩ = some (.bool false) := (HKR.out.ext otk3 dtk3).cell 5; have zq6 : (ext wr otk3 dtk3).cell? ⟨w.heap.size, 6, none⟩ = some (.bool false) := (HKR.out.ext otk3 dtk3).cell 6; have zq7 : (ext wr otk3 dtk3).cell? ⟨w.heap.size, 7, none⟩ = some (.bool false) := (HKR.out.ext otk3 dtk3).cell 7; have zq8 : (ext wr otk3 dtk3).cell? ⟨w.heap.size, 8, none⟩ = some (.bool false) := (HKR.out.ext otk3 dtk3).cell 8; have zq9 : (ext wr otk3 dtk3).cell? ⟨w.heap.size, 9, none⟩ = some (.bool false) := (HKR.out.ext otk3 dtk3).cell 9; have zq10 : (ext wr otk3 dtk3).cell? ⟨w.heap.size, 10, none⟩ = some (.int .i64 0) := (HKR.out.ext otk3 dtk3).cell 10; have zq11 : (ext wr otk3 dtk3).cell? ⟨w.heap.size, 11, none⟩ = some (.slice none 0 0) := (HKR.out.ext otk3 dtk3).cell 11; have zq12 : (ext wr otk3 dtk3).cell? ⟨w.heap.size, 12, none⟩ = some (.slice none 0 0) := (HKR.out.ext otk3 dtk3).cell 12; have zq13 : (ext wr otk3 dtk3).cell? ⟨w.heap.size, 13, none⟩ = some (.slice none 0 0) := (HKR.out.ext otk3 dtk3).cell 13; have zq14 : (ext wr otk3 dtk3).cell? ⟨w.heap.size, 14, none⟩ = some (.slice none 0 0) := (HKR.out.ext otk3 dtk3).cell 14; have zf0 : (ext wr otk3 dtk3).frozen? ⟨w.heap.size, 0, none⟩ = false := (HKR.out.ext otk3 dtk3).frozen 0; have zf1 : (ext wr otk3 dtk3).frozen? ⟨w.heap.size, 1, none⟩ = false := (HKR.out.ext otk3 dtk3).frozen 1; have zf2 : (ext wr otk3 dtk3).frozen? ⟨w.heap.size, 2, none⟩ = false := (HKR.out.ext otk3 dtk3).frozen 2; have zf3 : (ext wr otk3 dtk3).frozen? ⟨w.heap.size, 3, none⟩ = false := (HKR.out.ext otk3 dtk3).frozen 3; have zf4 : (ext wr otk3 dtk3).frozen? ⟨w.heap.size, 4, none⟩ = false := (HKR.out.ext otk3 dtk3).frozen 4; have zf5 : (ext wr otk3 dtk3).frozen? ⟨w.heap.size, 5, none⟩ = false := (HKR.out.ext otk3 dtk3).frozen 5; have zf6 : (ext wr otk3 dtk3).frozen? ⟨w.heap.size, 6, none⟩ = false := (HKR.out.ext otk3 dtk3).frozen 6; have zf7 : (ext wr otk3 dtk3).frozen? ⟨w.heap.size, 7, none⟩ = false := (HKR.out.ext otk3 dtk3).frozen 7; have zf8 : (ext wr otk3 dtk3).frozen? ⟨w.heap.size, 8, none⟩ = false := (HKR.out.ext otk3 dtk3).frozen 8; have zf9 : (ext wr otk3 dtk3).frozen? ⟨w.heap.size, 9, none⟩ = false := (HKR.out.ext otk3 dtk3).frozen 9; have zf10 : (ext wr otk3 dtk3).frozen? ⟨w.heap.size, 10, none⟩ = false := (HKR.out.ext otk3 dtk3).frozen 10; have zf11 : (ext wr otk3 dtk3).frozen? ⟨w.heap.size, 11, none⟩ = false := (HKR.out.ext otk3 dtk3).frozen 11; have zf12 : (ext wr otk3 dtk3).frozen? ⟨w.heap.size, 12, none⟩ = false := (HKR.out.ext otk3 dtk3).frozen 12; have zf13 : (ext wr otk3 dtk3).frozen? ⟨w.heap.size, 13, none⟩ = false := (HKR.out.ext otk3 dtk3).frozen 13; have zf14 : (ext wr otk3 dtk3).frozen? ⟨w.heap.size, 14, none⟩ = false := (HKR.out.ext otk3 dtk3).frozen 14)
          refine bodyPost_ret (res_msg rfl rfl (msg_over hd0 _ _ _ _ (HKR.out.ext otk3 dtk3))) rfl (mrO_bad HBAD.out (by decide) ?_)
          have hlw := HLOW.out
          (repeat' (first | (with_reducible exact Below.refl _ _) | (with_reducible assumption) | (with_reducible refine below_ext0 ?_ _ _) | (with_reducible refine below_alloc0 ?_ _) | (with_reducible refine Below.ext ?_ ?_ _ _) | (with_reducible refine Below.alloc ?_ ?_ _) | (with_reducible refine Below.setCell ?_ ?_ _) | (with_reducible refine Below.drew ?_) | (with_reducible refine below_draws ?_ _) | go_size | (simp [size_ext]; done) | (simp [size_ext]; omega)))
      · obtain ⟨ee, hee⟩ : ∃ ee, (rdN m p).1 = ee := ⟨_, rfl⟩
        rw [hee] at hN
        have CR := hid (read_bad HM2.out hee hN)
        have hbad : rdM m = (ee, [], [], [], []) := rdM_q (by omega) (by rw [hK, HRD.out, show K - qs.length = (K - (qs.length + 1)) + 1 by omega, rdQ_bad hee hN]) hN
        have HBAD := hid (And.intro hbad hN)
        clear hbad hN hee
        go_wp2_with ((go_at_call 17; have _t := tk3; (with_reducible refine (CR.out).mono ?_); rintro e w1 ⟨rfl, hb⟩; obtain ⟨otk3, dtk3, rfl⟩ := ext_of_below hb; clear hb tk3); have zq0 : (ext wr otk3 dtk3).cell? ⟨w.heap.size, 0, none⟩ = some (.int .i64 0) := (HKR.out.ext otk3 dtk3).cell 0; have zq1 : (ext wr otk3 dtk3).cell? ⟨w.heap.size, 1, none⟩ = some (.bool false) := (HKR.out.ext otk3 dtk3).cell 1; have zq2 : (ext wr otk3 dtk3).cell? ⟨w.heap.size, 2, none⟩ = some (.int .i64 0) := (HKR.out.ext otk3 dtk3).cell 2; have zq3 : (ext wr otk3 dtk3).cell? ⟨w.heap.size, 3, none⟩ = some (.bool false) := (HKR.out.ext otk3 dtk3).cell 3; have zq4 : (ext wr otk3 dtk3).cell? ⟨w.heap.size, 4, none⟩ = some (.bool false) := (HKR.out.ext otk3 dtk3).cell 4; have zq5 : (ext wr otk3 dtk3).cell? ⟨w.heap.size, 5, none⟩ = some (.bool false) := (HKR.out.ext otk3 dtk3).cell 5; have zq6 : (ext wr otk3 dtk3).cell? ⟨w.heap.size, 6, none⟩ = some (.bool false) := (HKR.out.ext otk3 dtk3).cell 6; have zq7 : (ext wr otk3 dtk3).cell? ⟨w.heap.size, 7, none⟩ = some (.bool false) := (HKR.out.ext otk3 dtk3).cell 7; have zq8 : (ext wr otk3 dtk3).cell? ⟨w.heap.size, 8, none⟩ = some (.bool false) := (HKR.out.ext otk3 dtk3).cell 8; have zq9 : (ext wr otk3 dtk3).cell? ⟨w.heap.size, 9, none⟩ = some (.bool false) := (HKR.out.ext otk3 dtk3).cell 9; have zq10 : (ext wr otk3 dtk3).cell? ⟨w.heap.size, 10, none⟩ = some (.int .i64 0) := (HKR.out.ext otk3 dtk3).cell 10; have zq11 : (ext wr otk3 dtk3).cell? ⟨w.heap.size, 11, none⟩ = some (.slice none 0 0) := (HKR.out.ext otk3 dtk3).cell 11; have zq12 : (ext wr otk3 dtk3).cell? ⟨w.heap.size, 12, none⟩ = some (.slice none 0 0) := (HKR.out.ext otk3 dtk3).cell 12; have zq13 : (ext wr otk3 dtk3).cell? ⟨w.heap.size, 13, none⟩ = some (.slice none 0 0) := (HKR.out.ext otk3 dtk3).cell 13; have zq14 : (ext wr otk3 dtk3).cell? ⟨w.heap.size, 14, none⟩ = some (.slice none 0 0) := (HKR.out.ext otk3 dtk3).cell 14; have zf0 : (ext wr otk3 dtk3).frozen? ⟨w.heap.size, 0, none⟩ = false := (HKR.out.ext otk3 dtk3).frozen 0; have zf1 : (ext wr otk3 dtk3).frozen? ⟨w.heap.size, 1, none⟩ = false := (HKR.out.ext otk3 dtk3).frozen 1; have zf2 : (ext wr otk3 dtk3).frozen? ⟨w.heap.size, 2, none⟩ = false := (HKR.out.ext otk3 dtk3).frozen 2; have zf3 : (ext wr otk3 dtk3).frozen? ⟨w.heap.size, 3, none⟩ = false := (HKR.out.ext otk3 dtk3).frozen 3; have zf4 : (ext wr otk3 dtk3).frozen? ⟨w.heap.size, 4, none⟩ = false := (HKR.out.ext otk3 dtk3).frozen 4; have zf5 : (ext wr otk3 dtk3).frozen? ⟨w.heap.size, 5, none⟩ = false := (HKR.out.ext otk3 dtk3).frozen 5; have zf6 : (ext wr otk3 dtk3).frozen? ⟨w.heap.size, 6, none⟩ = false := (HKR.out.ext otk3 dtk3).frozen 6; have zf7 : (ext wr otk3 dtk3).frozen? ⟨w.heap.size, 7, none⟩ = false := (HKR.out.ext otk3 dtk3).frozen 7; have zf8 : (ext wr otk3 dtk3).frozen? ⟨w.heap.size, 8, none⟩ = false := (HKR.out.ext otk3 dtk3).frozen 8; have zf9 : (ext wr otk3 dtk3).frozen? ⟨w.heap.size, 9, none⟩ = false := (HKR.out.ext otk3 dtk3).frozen 9; have zf10 : (ext wr otk3 dtk3).frozen? ⟨w.heap.size, 10, none⟩ = false := (HKR.out.ext otk3 dtk3).frozen 10; have zf11 : (ext wr otk3 dtk3).frozen? ⟨w.heap.size, 11, none⟩ = false := (HKR.out.ext otk3 dtk3).frozen 11; have zf12 : (ext wr otk3 dtk3).frozen? ⟨w.heap.size, 12, none⟩ = false := (HKR.out.ext otk3 dtk3).frozen 12; have zf13 : (ext wr otk3 dtk3).frozen? ⟨w.heap.size, 13, none⟩ = false := (HKR.out.ext otk3 dtk3).frozen 13; have zf14 : (ext wr otk3 dtk3).frozen? ⟨w.heap.size, 14, none⟩ = false := (HKR.out.ext otk3 dtk3).frozen 14)
        refine bodyPost_ret (res_msg rfl rfl (msg_over hd0 _ _ _ _ (HKR.out.ext otk3 dtk3))) rfl (mrO_bad HBAD.out.1 HBAD.out.2 ?_)
        have hlw := HLOW.out
        (repeat' (first | (with_reducible exact Below.refl _ _) | (with_reducible assumption) | (with_reducible refine below_ext0 ?_ _ _) | (with_reducible refine below_alloc0 ?_ _) | (with_reducible refine Below.ext ?_ ?_ _ _) | (with_reducible refine Below.alloc ?_ ?_ _) | (with_reducible refine Below.setCell ?_ ?_ _) | (with_reducible refine Below.drew ?_) | (with_reducible refine below_draws ?_ _) | go_size | (simp [size_ext]; done) | (simp [size_ext]; omega)))
    · have d0 : ¬ (qs.length : Int) < (K : Int) := by omega
      have d1 : decide ((qs.length : Int) < (K : Int)) = false := decide_eq_false d0
      have hq0 : rdQ m (at2 m 4) 12 [] = (0, qs, p) := by rw [hK, HRD.out, show K - qs.length = 0 by omega]; rfl
      have HQ0 := hid hq0
      have hqK : qs.length ≤ 65535 := by omega
      clear hq0 e11
      obtain ⟨w1, hw1⟩ : ∃ x, x = wr := ⟨_, rfl⟩
      subst hw1
      go_wp2_with (go_at_call 18; have _t := tk6; (with_reducible refine (CS.out _ _).mono ?_); rintro e w1 ⟨rfl, hb⟩; obtain ⟨otk6, dtk6, rfl⟩ := ext_of_below hb; clear hb tk6)
      go_loopg [5, 68] 3 (fun gk v5 v68 wi => ∃ (i : Nat) (V : Nat → Value) (L : Nat → List RecT) (P : Nat → Nat), i ≤ 3 ∧ gk = 3 - i ∧ v5 = .int .i64 (P i : Int) ∧ v68 = .int .i64 (i : Int) ∧ P i ≤ n ∧ P 0 = p ∧ SecOk m i L P ∧ (∀ j, i ≤ j → V j = .slice none 0 0 ∧ L j = []) ∧ (∀ j, Row recR 53 wi (w.heap.size + 2) (V j) (L j)) ∧ (∀ j, (L j).length ≤ 65535) ∧ Row qR 51 wi (w.heap.size + 2) (.slice AV qs.length cV) qs ∧ Blk wi w.heap.size 28 (msgC hd0 (.slice none 0 0) (.slice none 0 0) (.slice none 0 0) (.slice none 0 0)) ∧ Blk wi (w.heap.size + 1) 28 (msgC hh (.slice AV qs.length cV) (V 0) (V 1) (V 2)) ∧ Below w.heap.size w wi)
      case atStart =>
        refine ⟨0, fun _ => .slice none 0 0, fun _ => [], fun _ => p, by omega, rfl, rfl, rfl, hp, rfl, fun j hj => absurd hj (by omega), fun _ _ => ⟨rfl, rfl⟩, fun _ => Row.nil _ _ _ _, fun _ => Nat.zero_le _, Row.below near_q ⟨cs, HRO.out, HRR.out, HRF.out⟩ (below_ext _ _ _), HKR.out.ext _ _, HKG.out.ext _ _, ?_⟩
        have hlw := HLOW.out
        (repeat' (first | (with_reducible exact Below.refl _ _) | (with_reducible assumption) | (with_reducible refine below_ext0 ?_ _ _) | (with_reducible refine below_alloc0 ?_ _) | (with_reducible refine Below.ext ?_ ?_ _ _) | (with_reducible refine Below.alloc ?_ ?_ _) | (with_reducible refine Below.setCell ?_ ?_ _) | (with_reducible refine Below.drew ?_) | (with_reducible refine below_draws ?_ _) | go_size | (simp [size_ext]; done) | (simp [size_ext]; omega)))
      case round =>
        obtain ⟨i, V, L, P, hi, rfl, rfl, rfl, hpn, hP0, hsec, hvn, hrows, hlens, hrq, hkr, hkg, hlow⟩ := hrel
        obtain ⟨w2, hw2⟩ : ∃ x, x = wr := ⟨_, rfl⟩
        subst hw2
        have HSEC := hid hsec
        have HVN := hid hvn
        have HROWS := hid hrows
        have HLENS := hid hlens
        have HRQ2 := hid hrq
        have HKR2 := hid hkr
        have HKG2 := hid hkg
        have HLOW2 := hid hlow
        have HP0 := hid hP0
        have zw2 := hkg.lt
        clear hsec hvn hrows hlens hrq hkr hkg hlow hP0
        have HFREE := hid (FreeB.grown_msg HKG2.out (not_d_slice _ _ _) (by obtain ⟨A', c', e⟩ := (HROWS.out 0).slice; rw [e]; exact not_d_slice _ _ _) (by obtain ⟨A', c', e⟩ := (HROWS.out 1).slice; rw [e]; exact not_d_slice _ _ _) (by obtain ⟨A', c', e⟩ := (HROWS.out 2).slice; rw [e]; exact not_d_slice _ _ _))
        by_cases hi3 : i < 3
        · have s0 : (i : Int) < 3 := by omega
          have s1 : decide ((i : Int) < 3) = true := decide_eq_true s0
          obtain ⟨N, hN⟩ : ∃ N, at2 m (6 + 2 * i) = N := ⟨_, rfl⟩
          have hN5 : N ≤ 65535 := by rw [← hN]; exact at2_le _ _
          have HM3 := hid (HM.out.later HLOW2.out)
          have CT3 := hid fun w' (hb : Below w2.heap.size w2 w') => two_at_msg (p := 6 + 2 * i) HM3.out (by omega) hb hN
          have HNN := hid hN
          clear hN
          have v1 : IntKind.i64.wrap (2 * (i : Int)) = 2 * (i : Int) := IntWalk.i64_in _ (by omega)
          have v2 : IntKind.i64.wrap (6 + 2 * (i : Int)) = 6 + 2 * (i : Int) := IntWalk.i64_in _ (by omega)
          have v3 : IntKind.i64.wrap ((i : Int) + 1) = (i : Int) + 1 := IntWalk.i64_in _ (by omega)
          have i1 : (0 : Int) ≤ 6 + 2 * (i : Int) := by omega
          have i2 : 6 + 2 * (i : Int) ≤ (n : Int) := by omega
          have i3 : (6 + 2 * (i : Int)).toNat = 6 + 2 * i := by omega
          have i4 : 6 + 2 * i ≤ n := by omega
          have i5 : ¬ c = 6 + 2 * i := by omega
          have ix : ∀ w', (Instr.index 63 (.agg #[.pointer (some ⟨w.heap.size + 1, 12, none⟩), .pointer (some ⟨w.heap.size + 1, 13, none⟩), .pointer (some ⟨w.heap.size + 1, 14, none⟩)]) (.int .i64 (i : Int))).run Tryd.prog w' = .ok (.pointer (some ⟨w.heap.size + 1, 12 + i, none⟩)) w' := by
            intro w'
            obtain rfl | rfl | rfl : i = 0 ∨ i = 1 ∨ i = 2 := by omega
            all_goals first | kernel_rfl | (simp [Instr.index, go_sem]; done)
          go_wp2_with (go_at_call 16; have _t := tk7; (with_reducible refine (CT3.out _ (by (repeat' (first | (with_reducible exact Below.refl _ _) | (with_reducible assumption) | (with_reducible refine below_ext0 ?_ _ _) | (with_reducible refine below_alloc0 ?_ _) | (with_reducible refine Below.ext ?_ ?_ _ _) | (with_reducible refine Below.alloc ?_ ?_ _) | (with_reducible refine Below.setCell ?_ ?_ _) | (with_reducible refine Below.drew ?_) | (with_reducible refine below_draws ?_ _) | go_size | (simp [size_ext]; done) | (simp [size_ext]; omega))))).mono ?_); rintro e w1 ⟨rfl, hb⟩; obtain ⟨otk7, dtk7, rfl⟩ := ext_of_below hb; clear hb tk7)
          go_loopg [5, 78] N (fun gk v5 v78 wi => ∃ (j p' : Nat) (U : Value) (rs : List RecT), j ≤ N ∧ gk = N - j ∧ v5 = .int .i64 (p' : Int) ∧ v78 = .int .i64 (j : Int) ∧ p' ≤ n ∧ rs.length = j ∧ rdR m N (P i) [] = rdR m (N - j) p' rs ∧ Row recR 53 wi w2.heap.size U rs ∧ w2.grownBy wi (some (w.heap.size + 1)) ∧ Blk wi (w.heap.size + 1) 28 (msgC hh (.slice AV qs.length cV) (upd V i U 0) (upd V i U 1) (upd V i U 2)))
          case atStart =>
            refine ⟨0, P i, .slice none 0 0, [], Nat.zero_le _, rfl, rfl, rfl, hpn, rfl, rfl, Row.nil _ _ _ _, below_grown (below_ext _ _ _) _, ?_⟩
            have hk := HKG2.out.ext otk7 dtk7
            rw [msgC_own (V := V) hi3, (HVN.out i (Nat.le_refl _)).1] at hk
            exact hk
          case round =>
            obtain ⟨j, p', U, rs, hj, rfl, rfl, rfl, hp', hrl, hrd, hrow, hgr, hkg⟩ := hrel
            obtain ⟨AU, cU, rfl⟩ := hrow.slice
            obtain ⟨us, hrowo, hrowr, hrowf⟩ := hrow
            have HRD3 := hid hrd
            have HRO3 := hid hrowo
            have HRR3 := hid hrowr
            have HRF3 := hid hrowf
            have HGR := hid hgr
            have HKG3 := hid hkg
            have HLOW3 := hid (low_grown HLOW2.out hgr (by omega) (by omega))
            have HKR3 := hid (blk_grown HKR2.out hgr (by omega))
            have zw3 := hgr.size
            have e12 : wr.cell? ⟨w.heap.size + 1, 12 + i, none⟩ = some (.slice AU rs.length cU) := by
              rw [hkg.cell, msgC_at (V := upd V i (.slice AU rs.length cU)) hi3, upd_self]
            clear hrowo hrowr hrowf hgr hkg hrd
            subst hrl
            by_cases hjN : rs.length < N
            · have t0 : (rs.length : Int) < (N : Int) := by omega
              have t1 : decide ((rs.length : Int) < (N : Int)) = true := decide_eq_true t0
              have HM4 := hid (HM.out.later HLOW3.out)
              have hstep : N - rs.length = (N - (rs.length + 1)) + 1 := by omega
              by_cases hR : (rrF m p').1 = 0
              · obtain ⟨l, q, en, hrr, hne, h1, h2, h3⟩ := rrF_nat hR
                obtain ⟨l', T, C, LL, D, _, hrec⟩ : ∃ l' T C LL D u, recOf m l q en = (l', T, C, LL, D, u) := ⟨_, _, _, _, _, _, rfl⟩
                obtain rfl : l' = l := by have := congrArg (·.1) hrec; exact this.symm
                obtain ⟨k, hk⟩ : ∃ k, l'.length = k := ⟨_, rfl⟩
                obtain ⟨nd, hd⟩ : ∃ nd, D.length = nd := ⟨_, rfl⟩
                have CR := hid (rread_ok HM4.out hrr hk hrec hd)
                have HST := hid (show rdR m N (P i) [] = rdR m (N - (rs.length + 1)) en (rs ++ [((l', T, C, LL, D, ()) : RecT)]) by rw [HRD3.out, hstep, rdR_step hrr, hrec])
                have hi64 : I64 T ∧ I64 C ∧ I64 LL := by
                  have z1 := at2_le m q
                  have z2 := at2_le m (q + 2)
                  have z3 := at2_le m (q + 4)
                  have z4 := at2_le m (q + 6)
                  unfold recOf at hrec
                  simp only [Prod.mk.injEq] at hrec
                  obtain ⟨_, e1, e2, e3, _⟩ := hrec
                  unfold I64
                  omega
                have HI := hid hi64
                have hen : en ≤ n := by omega
                clear hR hrr hne hrec hi64 h1 h2 h3 hstep
                have w4 : IntKind.i64.wrap ((rs.length : Int) + 1) = (rs.length : Int) + 1 := IntWalk.i64_in _ (by omega)
                go_wp2_with (go_at_call 19; have _t := tk8; (with_reducible refine (CR.out).mono ?_); rintro e w1 ⟨Atk8, ctk8, Btk8, ftk8, rfl, ⟨hr, hr2⟩, hb⟩; obtain ⟨otk8, dtk8, rfl⟩ := ext_of_below hb; (try simp only [ext_drew, ext_drewN] at hr); have R5 := hid hr; clear hr; (try simp only [ext_drew, ext_drewN] at hr2); have R6 := hid hr2; clear hr2; clear hb tk8)
                have e13 : (((ext wr otk8 dtk8).alloc (.cells #[.slice Atk8 k ctk8, .int .i64 T, .int .i64 C, .int .i64 LL, .slice Btk8 nd ftk8] 53)).drew).cell? ⟨w.heap.size + 1, 12 + i, none⟩ = some (.slice AU rs.length cU) := by
                  have hk := ((HKG3.out.ext otk8 dtk8).alloc (.cells #[.slice Atk8 k ctk8, .int .i64 T, .int .i64 C, .int .i64 LL, .slice Btk8 nd ftk8] 53)).drew
                  rw [hk.cell, msgC_at (V := upd V i (.slice AU rs.length cU)) hi3, upd_self]
                have e14 : ((((ext wr otk8 dtk8).alloc (.cells #[.slice Atk8 k ctk8, .int .i64 T, .int .i64 C, .int .i64 LL, .slice Btk8 nd ftk8] 53)).alloc (.cells #[.slice Atk8 k ctk8, .int .i64 T, .int .i64 C, .int .i64 LL, .slice Btk8 nd ftk8] 53)).drew).cell? ⟨w.heap.size + 1, 12 + i, none⟩ = some (.slice AU rs.length cU) := by
                  have hk := (((HKG3.out.ext otk8 dtk8).alloc (.cells #[.slice Atk8 k ctk8, .int .i64 T, .int .i64 C, .int .i64 LL, .slice Btk8 nd ftk8] 53)).alloc (.cells #[.slice Atk8 k ctk8, .int .i64 T, .int .i64 C, .int .i64 LL, .slice Btk8 nd ftk8] 53)).drew
                  rw [hk.cell, msgC_at (V := upd V i (.slice AU rs.length cU)) hi3, upd_self]
                have ab3 : (rs.length + 1) * 72 ≤ 140737488355328 := by omega
                have ab4 : rs.length + 1 ≤ maxLen := by unfold maxLen; omega
                go_region_law (refine step_row near_rec el_r zr_d HRO3.out HRR3.out HRF3.out ((l', T, C, LL, D, ()) : RecT) [.slice Atk8 k ctk8, .int .i64 T, .int .i64 C, .int .i64 LL, .slice Btk8 nd ftk8] rfl (.tmp 94) (.tmp 96) rfl rfl rfl ?_ ?_ ?_ ?_ ab3 ab4 ?_ ?_; (focus (repeat' (first | (with_reducible exact Below.refl _ _) | (with_reducible assumption) | (with_reducible refine below_ext0 ?_ _ _) | (with_reducible refine below_alloc0 ?_ _) | (with_reducible refine Below.ext ?_ ?_ _ _) | (with_reducible refine Below.alloc ?_ ?_ _) | (with_reducible refine Below.setCell ?_ ?_ _) | (with_reducible refine Below.drew ?_) | (with_reducible refine below_draws ?_ _) | go_size | (simp [size_ext]; done) | (simp [size_ext]; omega)))); (exact (src_blk (m := 1) (size := 5) (t := 53) (cs := #[.slice Atk8 k ctk8, .int .i64 T, .int .i64 C, .int .i64 LL, .slice Btk8 nd ftk8]) (Blk.drew (Blk.new' _ _ (by first | rfl | (simp [size_ext]; done) | (simp [size_ext]; omega)))) rfl (by simp [Value.oneCell']))); (exact rel_r (R5.out.later (by (repeat' (first | (with_reducible exact Below.refl _ _) | (with_reducible assumption) | (with_reducible refine below_ext0 ?_ _ _) | (with_reducible refine below_alloc0 ?_ _) | (with_reducible refine Below.ext ?_ ?_ _ _) | (with_reducible refine Below.alloc ?_ ?_ _) | (with_reducible refine Below.setCell ?_ ?_ _) | (with_reducible refine Below.drew ?_) | (with_reducible refine below_draws ?_ _) | go_size | (simp [size_ext]; done) | (simp [size_ext]; omega))))) HI.out.1 HI.out.2.1 HI.out.2.2 (R6.out.later (by (repeat' (first | (with_reducible exact Below.refl _ _) | (with_reducible assumption) | (with_reducible refine below_ext0 ?_ _ _) | (with_reducible refine below_alloc0 ?_ _) | (with_reducible refine Below.ext ?_ ?_ _ _) | (with_reducible refine Below.alloc ?_ ?_ _) | (with_reducible refine Below.setCell ?_ ?_ _) | (with_reducible refine Below.drew ?_) | (with_reducible refine below_draws ?_ _) | go_size | (simp [size_ext]; done) | (simp [size_ext]; omega)))))); (simp [not_d_slice, not_d_int]); (omega); intro v9 w9 row9 ha9; have KG9 := hid (app_blk HRO3.out HKG3.out ha9 (by (repeat' (first | (with_reducible exact Below.refl _ _) | (with_reducible assumption) | (with_reducible refine below_ext0 ?_ _ _) | (with_reducible refine below_alloc0 ?_ _) | (with_reducible refine Below.ext ?_ ?_ _ _) | (with_reducible refine Below.alloc ?_ ?_ _) | (with_reducible refine Below.setCell ?_ ?_ _) | (with_reducible refine Below.drew ?_) | (with_reducible refine below_draws ?_ _) | go_size | (simp [size_ext]; done) | (simp [size_ext]; omega)))) (by omega)); have GR9 := hid (grow_step HGR.out HRO3.out ha9 (by (repeat' (first | (with_reducible exact Below.refl _ _) | (with_reducible assumption) | (with_reducible refine below_ext0 ?_ _ _) | (with_reducible refine below_alloc0 ?_ _) | (with_reducible refine Below.ext ?_ ?_ _ _) | (with_reducible refine Below.alloc ?_ ?_ _) | (with_reducible refine Below.setCell ?_ ?_ _) | (with_reducible refine Below.drew ?_) | (with_reducible refine below_draws ?_ _) | go_size | (simp [size_ext]; done) | (simp [size_ext]; omega))))); have hsl := row9.slice; rw [List.length_append, List.length_singleton] at hsl; obtain ⟨A9, c9, rfl⟩ := hsl; have ROW9 := hid row9; have y12 : w9.cell? ⟨w.heap.size + 1, 12 + i, none⟩ = some (.slice AU rs.length cU) := (by rw [KG9.out.cell, msgC_at (V := upd V i (.slice AU rs.length cU)) hi3, upd_self]); have g12 : w9.frozen? ⟨w.heap.size + 1, 12 + i, none⟩ = false := KG9.out.frozen (12 + i); clear ha9 row9)
                all_goals
                  go_wp2
                  go_roundg (N - (rs.length + 1))
                  case measure => omega
                  case rel =>
                    refine ⟨rs.length + 1, en, Value.slice A9 (rs.length + 1) c9, rs ++ [((l', T, C, LL, D, ()) : RecT)], by omega, rfl, rfl, (by first | rfl | (congr 1; push_cast; omega)), hen, by simp, HST.out, Row.grown near_rec ROW9.out (grown_set (12 + i) _) (FreeB.grown_msg KG9.out (not_d_slice _ _ _) ?_ ?_ ?_) (by omega), GR9.out.trans (grown_set (12 + i) _), ?_⟩
                    · exact upd_slice HROWS.out i _ _ _ 0
                    · exact upd_slice HROWS.out i _ _ _ 1
                    · exact upd_slice HROWS.out i _ _ _ 2
                    · have := KG9.out.set (12 + i) (.slice A9 (rs.length + 1) c9)
                      rw [msgC_set hi3] at this
                      exact this
              · obtain ⟨ee, hee⟩ : ∃ ee, (rrF m p').1 = ee := ⟨_, rfl⟩
                rw [hee] at hR
                have CR := hid (rread_no HM4.out hee hR)
                have hbad : rdM m = (ee, [], [], [], []) := rdM_sec (by omega) (by rw [HP0.out]; exact HQ0.out) HSEC.out hi3 (by rw [HNN.out, HRD3.out, hstep, rdR_bad hee hR]) hR
                have HBAD := hid (And.intro hbad hR)
                clear hbad hR hee
                go_wp2_with ((go_at_call 19; have _t := tk8; (with_reducible refine (CR.out).mono ?_); rintro e w1 ⟨rfl, hb⟩; obtain ⟨otk8, dtk8, rfl⟩ := ext_of_below hb; clear hb tk8); have zq0 : ((ext wr otk8 dtk8).alloc (.cells #[.slice none 0 0, .int .i64 0, .int .i64 0, .int .i64 0, .slice none 0 0] 53)).cell? ⟨w.heap.size, 0, none⟩ = some (.int .i64 0) := ((HKR3.out.ext otk8 dtk8).alloc (.cells #[.slice none 0 0, .int .i64 0, .int .i64 0, .int .i64 0, .slice none 0 0] 53)).cell 0; have zq1 : ((ext wr otk8 dtk8).alloc (.cells #[.slice none 0 0, .int .i64 0, .int .i64 0, .int .i64 0, .slice none 0 0] 53)).cell? ⟨w.heap.size, 1, none⟩ = some (.bool false) := ((HKR3.out.ext otk8 dtk8).alloc (.cells #[.slice none 0 0, .int .i64 0, .int .i64 0, .int .i64 0, .slice none 0 0] 53)).cell 1; have zq2 : ((ext wr otk8 dtk8).alloc (.cells #[.slice none 0 0, .int .i64 0, .int .i64 0, .int .i64 0, .slice none 0 0] 53)).cell? ⟨w.heap.size, 2, none⟩ = some (.int .i64 0) := ((HKR3.out.ext otk8 dtk8).alloc (.cells #[.slice none 0 0, .int .i64 0, .int .i64 0, .int .i64 0, .slice none 0 0] 53)).cell 2; have zq3 : ((ext wr otk8 dtk8).alloc (.cells #[.slice none 0 0, .int .i64 0, .int .i64 0, .int .i64 0, .slice none 0 0] 53)).cell? ⟨w.heap.size, 3, none⟩ = some (.bool false) := ((HKR3.out.ext otk8 dtk8).alloc (.cells #[.slice none 0 0, .int .i64 0, .int .i64 0, .int .i64 0, .slice none 0 0] 53)).cell 3; have zq4 : ((ext wr otk8 dtk8).alloc (.cells #[.slice none 0 0, .int .i64 0, .int .i64 0, .int .i64 0, .slice none 0 0] 53)).cell? ⟨w.heap.size, 4, none⟩ = some (.bool false) := ((HKR3.out.ext otk8 dtk8).alloc (.cells #[.slice none 0 0, .int .i64 0, .int .i64 0, .int .i64 0, .slice none 0 0] 53)).cell 4; have zq5 : ((ext wr otk8 dtk8).alloc (.cells #[.slice none 0 0, .int .i64 0, .int .i64 0, .int .i64 0, .slice none 0 0] 53)).cell? ⟨w.heap.size, 5, none⟩ = some (.bool false) := ((HKR3.out.ext otk8 dtk8).alloc (.cells #[.slice none 0 0, .int .i64 0, .int .i64 0, .int .i64 0, .slice none 0 0] 53)).cell 5; have zq6 : ((ext wr otk8 dtk8).alloc (.cells #[.slice none 0 0, .int .i64 0, .int .i64 0, .int .i64 0, .slice none 0 0] 53)).cell? ⟨w.heap.size, 6, none⟩ = some (.bool false) := ((HKR3.out.ext otk8 dtk8).alloc (.cells #[.slice none 0 0, .int .i64 0, .int .i64 0, .int .i64 0, .slice none 0 0] 53)).cell 6; have zq7 : ((ext wr otk8 dtk8).alloc (.cells #[.slice none 0 0, .int .i64 0, .int .i64 0, .int .i64 0, .slice none 0 0] 53)).cell? ⟨w.heap.size, 7, none⟩ = some (.bool false) := ((HKR3.out.ext otk8 dtk8).alloc (.cells #[.slice none 0 0, .int .i64 0, .int .i64 0, .int .i64 0, .slice none 0 0] 53)).cell 7; have zq8 : ((ext wr otk8 dtk8).alloc (.cells #[.slice none 0 0, .int .i64 0, .int .i64 0, .int .i64 0, .slice none 0 0] 53)).cell? ⟨w.heap.size, 8, none⟩ = some (.bool false) := ((HKR3.out.ext otk8 dtk8).alloc (.cells #[.slice none 0 0, .int .i64 0, .int .i64 0, .int .i64 0, .slice none 0 0] 53)).cell 8; have zq9 : ((ext wr otk8 dtk8).alloc (.cells #[.slice none 0 0, .int .i64 0, .int .i64 0, .int .i64 0, .slice none 0 0] 53)).cell? ⟨w.heap.size, 9, none⟩ = some (.bool false) := ((HKR3.out.ext otk8 dtk8).alloc (.cells #[.slice none 0 0, .int .i64 0, .int .i64 0, .int .i64 0, .slice none 0 0] 53)).cell 9; have zq10 : ((ext wr otk8 dtk8).alloc (.cells #[.slice none 0 0, .int .i64 0, .int .i64 0, .int .i64 0, .slice none 0 0] 53)).cell? ⟨w.heap.size, 10, none⟩ = some (.int .i64 0) := ((HKR3.out.ext otk8 dtk8).alloc (.cells #[.slice none 0 0, .int .i64 0, .int .i64 0, .int .i64 0, .slice none 0 0] 53)).cell 10; have zq11 : ((ext wr otk8 dtk8).alloc (.cells #[.slice none 0 0, .int .i64 0, .int .i64 0, .int .i64 0, .slice none 0 0] 53)).cell? ⟨w.heap.size, 11, none⟩ = some (.slice none 0 0) := ((HKR3.out.ext otk8 dtk8).alloc (.cells #[.slice none 0 0, .int .i64 0, .int .i64 0, .int .i64 0, .slice none 0 0] 53)).cell 11; have zq12 : ((ext wr otk8 dtk8).alloc (.cells #[.slice none 0 0, .int .i64 0, .int .i64 0, .int .i64 0, .slice none 0 0] 53)).cell? ⟨w.heap.size, 12, none⟩ = some (.slice none 0 0) := ((HKR3.out.ext otk8 dtk8).alloc (.cells #[.slice none 0 0, .int .i64 0, .int .i64 0, .int .i64 0, .slice none 0 0] 53)).cell 12; have zq13 : ((ext wr otk8 dtk8).alloc (.cells #[.slice none 0 0, .int .i64 0, .int .i64 0, .int .i64 0, .slice none 0 0] 53)).cell? ⟨w.heap.size, 13, none⟩ = some (.slice none 0 0) := ((HKR3.out.ext otk8 dtk8).alloc (.cells #[.slice none 0 0, .int .i64 0, .int .i64 0, .int .i64 0, .slice none 0 0] 53)).cell 13; have zq14 : ((ext wr otk8 dtk8).alloc (.cells #[.slice none 0 0, .int .i64 0, .int .i64 0, .int .i64 0, .slice none 0 0] 53)).cell? ⟨w.heap.size, 14, none⟩ = some (.slice none 0 0) := ((HKR3.out.ext otk8 dtk8).alloc (.cells #[.slice none 0 0, .int .i64 0, .int .i64 0, .int .i64 0, .slice none 0 0] 53)).cell 14; have zf0 : ((ext wr otk8 dtk8).alloc (.cells #[.slice none 0 0, .int .i64 0, .int .i64 0, .int .i64 0, .slice none 0 0] 53)).frozen? ⟨w.heap.size, 0, none⟩ = false := ((HKR3.out.ext otk8 dtk8).alloc (.cells #[.slice none 0 0, .int .i64 0, .int .i64 0, .int .i64 0, .slice none 0 0] 53)).frozen 0; have zf1 : ((ext wr otk8 dtk8).alloc (.cells #[.slice none 0 0, .int .i64 0, .int .i64 0, .int .i64 0, .slice none 0 0] 53)).frozen? ⟨w.heap.size, 1, none⟩ = false := ((HKR3.out.ext otk8 dtk8).alloc (.cells #[.slice none 0 0, .int .i64 0, .int .i64 0, .int .i64 0, .slice none 0 0] 53)).frozen 1; have zf2 : ((ext wr otk8 dtk8).alloc (.cells #[.slice none 0 0, .int .i64 0, .int .i64 0, .int .i64 0, .slice none 0 0] 53)).frozen? ⟨w.heap.size, 2, none⟩ = false := ((HKR3.out.ext otk8 dtk8).alloc (.cells #[.slice none 0 0, .int .i64 0, .int .i64 0, .int .i64 0, .slice none 0 0] 53)).frozen 2; have zf3 : ((ext wr otk8 dtk8).alloc (.cells #[.slice none 0 0, .int .i64 0, .int .i64 0, .int .i64 0, .slice none 0 0] 53)).frozen? ⟨w.heap.size, 3, none⟩ = false := ((HKR3.out.ext otk8 dtk8).alloc (.cells #[.slice none 0 0, .int .i64 0, .int .i64 0, .int .i64 0, .slice none 0 0] 53)).frozen 3; have zf4 : ((ext wr otk8 dtk8).alloc (.cells #[.slice none 0 0, .int .i64 0, .int .i64 0, .int .i64 0, .slice none 0 0] 53)).frozen? ⟨w.heap.size, 4, none⟩ = false := ((HKR3.out.ext otk8 dtk8).alloc (.cells #[.slice none 0 0, .int .i64 0, .int .i64 0, .int .i64 0, .slice none 0 0] 53)).frozen 4; have zf5 : ((ext wr otk8 dtk8).alloc (.cells #[.slice none 0 0, .int .i64 0, .int .i64 0, .int .i64 0, .slice none 0 0] 53)).frozen? ⟨w.heap.size, 5, none⟩ = false := ((HKR3.out.ext otk8 dtk8).alloc (.cells #[.slice none 0 0, .int .i64 0, .int .i64 0, .int .i64 0, .slice none 0 0] 53)).frozen 5; have zf6 : ((ext wr otk8 dtk8).alloc (.cells #[.slice none 0 0, .int .i64 0, .int .i64 0, .int .i64 0, .slice none 0 0] 53)).frozen? ⟨w.heap.size, 6, none⟩ = false := ((HKR3.out.ext otk8 dtk8).alloc (.cells #[.slice none 0 0, .int .i64 0, .int .i64 0, .int .i64 0, .slice none 0 0] 53)).frozen 6; have zf7 : ((ext wr otk8 dtk8).alloc (.cells #[.slice none 0 0, .int .i64 0, .int .i64 0, .int .i64 0, .slice none 0 0] 53)).frozen? ⟨w.heap.size, 7, none⟩ = false := ((HKR3.out.ext otk8 dtk8).alloc (.cells #[.slice none 0 0, .int .i64 0, .int .i64 0, .int .i64 0, .slice none 0 0] 53)).frozen 7; have zf8 : ((ext wr otk8 dtk8).alloc (.cells #[.slice none 0 0, .int .i64 0, .int .i64 0, .int .i64 0, .slice none 0 0] 53)).frozen? ⟨w.heap.size, 8, none⟩ = false := ((HKR3.out.ext otk8 dtk8).alloc (.cells #[.slice none 0 0, .int .i64 0, .int .i64 0, .int .i64 0, .slice none 0 0] 53)).frozen 8; have zf9 : ((ext wr otk8 dtk8).alloc (.cells #[.slice none 0 0, .int .i64 0, .int .i64 0, .int .i64 0, .slice none 0 0] 53)).frozen? ⟨w.heap.size, 9, none⟩ = false := ((HKR3.out.ext otk8 dtk8).alloc (.cells #[.slice none 0 0, .int .i64 0, .int .i64 0, .int .i64 0, .slice none 0 0] 53)).frozen 9; have zf10 : ((ext wr otk8 dtk8).alloc (.cells #[.slice none 0 0, .int .i64 0, .int .i64 0, .int .i64 0, .slice none 0 0] 53)).frozen? ⟨w.heap.size, 10, none⟩ = false := ((HKR3.out.ext otk8 dtk8).alloc (.cells #[.slice none 0 0, .int .i64 0, .int .i64 0, .int .i64 0, .slice none 0 0] 53)).frozen 10; have zf11 : ((ext wr otk8 dtk8).alloc (.cells #[.slice none 0 0, .int .i64 0, .int .i64 0, .int .i64 0, .slice none 0 0] 53)).frozen? ⟨w.heap.size, 11, none⟩ = false := ((HKR3.out.ext otk8 dtk8).alloc (.cells #[.slice none 0 0, .int .i64 0, .int .i64 0, .int .i64 0, .slice none 0 0] 53)).frozen 11; have zf12 : ((ext wr otk8 dtk8).alloc (.cells #[.slice none 0 0, .int .i64 0, .int .i64 0, .int .i64 0, .slice none 0 0] 53)).frozen? ⟨w.heap.size, 12, none⟩ = false := ((HKR3.out.ext otk8 dtk8).alloc (.cells #[.slice none 0 0, .int .i64 0, .int .i64 0, .int .i64 0, .slice none 0 0] 53)).frozen 12; have zf13 : ((ext wr otk8 dtk8).alloc (.cells #[.slice none 0 0, .int .i64 0, .int .i64 0, .int .i64 0, .slice none 0 0] 53)).frozen? ⟨w.heap.size, 13, none⟩ = false := ((HKR3.out.ext otk8 dtk8).alloc (.cells #[.slice none 0 0, .int .i64 0, .int .i64 0, .int .i64 0, .slice none 0 0] 53)).frozen 13; have zf14 : ((ext wr otk8 dtk8).alloc (.cells #[.slice none 0 0, .int .i64 0, .int .i64 0, .int .i64 0, .slice none 0 0] 53)).frozen? ⟨w.heap.size, 14, none⟩ = false := ((HKR3.out.ext otk8 dtk8).alloc (.cells #[.slice none 0 0, .int .i64 0, .int .i64 0, .int .i64 0, .slice none 0 0] 53)).frozen 14)
                refine bodyPost_ret (res_msg rfl rfl (msg_over hd0 _ _ _ _ ((HKR3.out.ext otk8 dtk8).alloc (.cells #[.slice none 0 0, .int .i64 0, .int .i64 0, .int .i64 0, .slice none 0 0] 53)))) rfl (mrO_bad HBAD.out.1 HBAD.out.2 ?_)
                have hlw := HLOW3.out
                (repeat' (first | (with_reducible exact Below.refl _ _) | (with_reducible assumption) | (with_reducible refine below_ext0 ?_ _ _) | (with_reducible refine below_alloc0 ?_ _) | (with_reducible refine Below.ext ?_ ?_ _ _) | (with_reducible refine Below.alloc ?_ ?_ _) | (with_reducible refine Below.setCell ?_ ?_ _) | (with_reducible refine Below.drew ?_) | (with_reducible refine below_draws ?_ _) | go_size | (simp [size_ext]; done) | (simp [size_ext]; omega)))
            · have t0 : ¬ (rs.length : Int) < (N : Int) := by omega
              have t1 : decide ((rs.length : Int) < (N : Int)) = false := decide_eq_false t0
              have hq3 : rdR m (at2 m (6 + 2 * i)) (P i) [] = (0, rs, p') := by rw [HNN.out, HRD3.out, show N - rs.length = 0 by omega]; rfl
              have HQ3 := hid hq3
              clear hq3
              go_wp2
              go_roundg (3 - (i + 1))
              case measure => omega
              case rel =>
                refine ⟨i + 1, upd V i (.slice AU rs.length cU), upd L i rs, upd P (i + 1) p', by omega, rfl, by rw [upd_self], (by first | rfl | (congr 1; push_cast; omega)), by rw [upd_self]; exact hp', by rw [upd_ne P p' (by omega)]; exact HP0.out, SecOk.next HSEC.out HQ3.out, fun j hj => ?_, fun j => ?_, fun j => ?_, HRQ2.out.grown near_q HGR.out HFREE.out (by omega), HKR3.out, HKG3.out, HLOW3.out⟩
                · rw [upd_ne V _ (by omega), upd_ne L rs (by omega)]
                  exact HVN.out j (by omega)
                · by_cases e : j = i
                  · subst e
                    rw [upd_self, upd_self]
                    exact Row.less ⟨us, HRO3.out, HRR3.out, HRF3.out⟩ (by omega)
                  · rw [upd_ne V _ e, upd_ne L rs e]
                    exact (HROWS.out j).grown near_rec HGR.out HFREE.out (by omega)
                · by_cases e : j = i
                  · subst e
                    rw [upd_self]; omega
                  · rw [upd_ne L rs e]; exact HLENS.out j
        · have s0 : ¬ (i : Int) < 3 := by omega
          have s1 : decide ((i : Int) < 3) = false := decide_eq_false s0
          obtain rfl : i = 3 := by omega
          have hfin := rdM_fin (m := m) (L := L) (P := P) (qs := qs) (by omega) (by rw [HP0.out]; exact HQ0.out) HSEC.out
          by_cases he : P 3 < n
          · have t0 : (P 3 : Int) < (n : Int) := by omega
            have t1 : decide ((P 3 : Int) < (n : Int)) = true := decide_eq_true t0
            rw [if_pos (by omega)] at hfin
            have HFIN := hid hfin
            clear hfin
            have zq0 : (w2).cell? ⟨w.heap.size, 0, none⟩ = some (.int .i64 0) := (HKR2.out).cell 0; have zq1 : (w2).cell? ⟨w.heap.size, 1, none⟩ = some (.bool false) := (HKR2.out).cell 1; have zq2 : (w2).cell? ⟨w.heap.size, 2, none⟩ = some (.int .i64 0) := (HKR2.out).cell 2; have zq3 : (w2).cell? ⟨w.heap.size, 3, none⟩ = some (.bool false) := (HKR2.out).cell 3; have zq4 : (w2).cell? ⟨w.heap.size, 4, none⟩ = some (.bool false) := (HKR2.out).cell 4; have zq5 : (w2).cell? ⟨w.heap.size, 5, none⟩ = some (.bool false) := (HKR2.out).cell 5; have zq6 : (w2).cell? ⟨w.heap.size, 6, none⟩ = some (.bool false) := (HKR2.out).cell 6; have zq7 : (w2).cell? ⟨w.heap.size, 7, none⟩ = some (.bool false) := (HKR2.out).cell 7; have zq8 : (w2).cell? ⟨w.heap.size, 8, none⟩ = some (.bool false) := (HKR2.out).cell 8; have zq9 : (w2).cell? ⟨w.heap.size, 9, none⟩ = some (.bool false) := (HKR2.out).cell 9; have zq10 : (w2).cell? ⟨w.heap.size, 10, none⟩ = some (.int .i64 0) := (HKR2.out).cell 10; have zq11 : (w2).cell? ⟨w.heap.size, 11, none⟩ = some (.slice none 0 0) := (HKR2.out).cell 11; have zq12 : (w2).cell? ⟨w.heap.size, 12, none⟩ = some (.slice none 0 0) := (HKR2.out).cell 12; have zq13 : (w2).cell? ⟨w.heap.size, 13, none⟩ = some (.slice none 0 0) := (HKR2.out).cell 13; have zq14 : (w2).cell? ⟨w.heap.size, 14, none⟩ = some (.slice none 0 0) := (HKR2.out).cell 14; have zf0 : (w2).frozen? ⟨w.heap.size, 0, none⟩ = false := (HKR2.out).frozen 0; have zf1 : (w2).frozen? ⟨w.heap.size, 1, none⟩ = false := (HKR2.out).frozen 1; have zf2 : (w2).frozen? ⟨w.heap.size, 2, none⟩ = false := (HKR2.out).frozen 2; have zf3 : (w2).frozen? ⟨w.heap.size, 3, none⟩ = false := (HKR2.out).frozen 3; have zf4 : (w2).frozen? ⟨w.heap.size, 4, none⟩ = false := (HKR2.out).frozen 4; have zf5 : (w2).frozen? ⟨w.heap.size, 5, none⟩ = false := (HKR2.out).frozen 5; have zf6 : (w2).frozen? ⟨w.heap.size, 6, none⟩ = false := (HKR2.out).frozen 6; have zf7 : (w2).frozen? ⟨w.heap.size, 7, none⟩ = false := (HKR2.out).frozen 7; have zf8 : (w2).frozen? ⟨w.heap.size, 8, none⟩ = false := (HKR2.out).frozen 8; have zf9 : (w2).frozen? ⟨w.heap.size, 9, none⟩ = false := (HKR2.out).frozen 9; have zf10 : (w2).frozen? ⟨w.heap.size, 10, none⟩ = false := (HKR2.out).frozen 10; have zf11 : (w2).frozen? ⟨w.heap.size, 11, none⟩ = false := (HKR2.out).frozen 11; have zf12 : (w2).frozen? ⟨w.heap.size, 12, none⟩ = false := (HKR2.out).frozen 12; have zf13 : (w2).frozen? ⟨w.heap.size, 13, none⟩ = false := (HKR2.out).frozen 13; have zf14 : (w2).frozen? ⟨w.heap.size, 14, none⟩ = false := (HKR2.out).frozen 14
            go_wp2
            refine bodyPost_ret (res_msg rfl rfl (msg_over hd0 _ _ _ _ (HKR2.out))) rfl (mrO_bad HFIN.out (by decide) ?_)
            have hlw := HLOW2.out
            (repeat' (first | (with_reducible exact Below.refl _ _) | (with_reducible assumption) | (with_reducible refine below_ext0 ?_ _ _) | (with_reducible refine below_alloc0 ?_ _) | (with_reducible refine Below.ext ?_ ?_ _ _) | (with_reducible refine Below.alloc ?_ ?_ _) | (with_reducible refine Below.setCell ?_ ?_ _) | (with_reducible refine Below.drew ?_) | (with_reducible refine below_draws ?_ _) | go_size | (simp [size_ext]; done) | (simp [size_ext]; omega)))
          · have t0 : ¬ (P 3 : Int) < (n : Int) := by omega
            have t1 : decide ((P 3 : Int) < (n : Int)) = false := decide_eq_false t0
            rw [if_neg (by omega)] at hfin
            have HFIN := hid hfin
            clear hfin
            obtain ⟨A0, c0, hV0⟩ := (HROWS.out 0).slice
            obtain ⟨A1, c1, hV1⟩ := (HROWS.out 1).slice
            obtain ⟨A2, c2, hV2⟩ := (HROWS.out 2).slice
            obtain ⟨n0, hn0⟩ : ∃ n0, (L 0).length = n0 := ⟨_, rfl⟩
            obtain ⟨n1, hn1⟩ : ∃ n1, (L 1).length = n1 := ⟨_, rfl⟩
            obtain ⟨n2, hn2⟩ : ∃ n2, (L 2).length = n2 := ⟨_, rfl⟩
            have r0 := HROWS.out 0
            have r1 := HROWS.out 1
            have r2 := HROWS.out 2
            have l0 := HLENS.out 0
            have l1 := HLENS.out 1
            have l2 := HLENS.out 2
            have kg2 := HKG2.out
            rw [hV0, hn0, hV1, hn1, hV2, hn2] at kg2
            rw [hV0, hn0] at r0
            rw [hV1, hn1] at r1
            rw [hV2, hn2] at r2
            rw [hn0] at l0
            rw [hn1] at l1
            rw [hn2] at l2
            have HK := hid kg2
            have HR0 := hid r0
            have HR1 := hid r1
            have HR2 := hid r2
            have HN := hid (And.intro hn0 (And.intro hn1 hn2))
            clear kg2 r0 r1 r2 hV0 hV1 hV2 hn0 hn1 hn2
            have zq0 : (w2).cell? ⟨w.heap.size, 0, none⟩ = some (.int .i64 0) := (HKR2.out).cell 0; have zq1 : (w2).cell? ⟨w.heap.size, 1, none⟩ = some (.bool false) := (HKR2.out).cell 1; have zq2 : (w2).cell? ⟨w.heap.size, 2, none⟩ = some (.int .i64 0) := (HKR2.out).cell 2; have zq3 : (w2).cell? ⟨w.heap.size, 3, none⟩ = some (.bool false) := (HKR2.out).cell 3; have zq4 : (w2).cell? ⟨w.heap.size, 4, none⟩ = some (.bool false) := (HKR2.out).cell 4; have zq5 : (w2).cell? ⟨w.heap.size, 5, none⟩ = some (.bool false) := (HKR2.out).cell 5; have zq6 : (w2).cell? ⟨w.heap.size, 6, none⟩ = some (.bool false) := (HKR2.out).cell 6; have zq7 : (w2).cell? ⟨w.heap.size, 7, none⟩ = some (.bool false) := (HKR2.out).cell 7; have zq8 : (w2).cell? ⟨w.heap.size, 8, none⟩ = some (.bool false) := (HKR2.out).cell 8; have zq9 : (w2).cell? ⟨w.heap.size, 9, none⟩ = some (.bool false) := (HKR2.out).cell 9; have zq10 : (w2).cell? ⟨w.heap.size, 10, none⟩ = some (.int .i64 0) := (HKR2.out).cell 10; have zq11 : (w2).cell? ⟨w.heap.size, 11, none⟩ = some (.slice none 0 0) := (HKR2.out).cell 11; have zq12 : (w2).cell? ⟨w.heap.size, 12, none⟩ = some (.slice none 0 0) := (HKR2.out).cell 12; have zq13 : (w2).cell? ⟨w.heap.size, 13, none⟩ = some (.slice none 0 0) := (HKR2.out).cell 13; have zq14 : (w2).cell? ⟨w.heap.size, 14, none⟩ = some (.slice none 0 0) := (HKR2.out).cell 14; have zf0 : (w2).frozen? ⟨w.heap.size, 0, none⟩ = false := (HKR2.out).frozen 0; have zf1 : (w2).frozen? ⟨w.heap.size, 1, none⟩ = false := (HKR2.out).frozen 1; have zf2 : (w2).frozen? ⟨w.heap.size, 2, none⟩ = false := (HKR2.out).frozen 2; have zf3 : (w2).frozen? ⟨w.heap.size, 3, none⟩ = false := (HKR2.out).frozen 3; have zf4 : (w2).frozen? ⟨w.heap.size, 4, none⟩ = false := (HKR2.out).frozen 4; have zf5 : (w2).frozen? ⟨w.heap.size, 5, none⟩ = false := (HKR2.out).frozen 5; have zf6 : (w2).frozen? ⟨w.heap.size, 6, none⟩ = false := (HKR2.out).frozen 6; have zf7 : (w2).frozen? ⟨w.heap.size, 7, none⟩ = false := (HKR2.out).frozen 7; have zf8 : (w2).frozen? ⟨w.heap.size, 8, none⟩ = false := (HKR2.out).frozen 8; have zf9 : (w2).frozen? ⟨w.heap.size, 9, none⟩ = false := (HKR2.out).frozen 9; have zf10 : (w2).frozen? ⟨w.heap.size, 10, none⟩ = false := (HKR2.out).frozen 10; have zf11 : (w2).frozen? ⟨w.heap.size, 11, none⟩ = false := (HKR2.out).frozen 11; have zf12 : (w2).frozen? ⟨w.heap.size, 12, none⟩ = false := (HKR2.out).frozen 12; have zf13 : (w2).frozen? ⟨w.heap.size, 13, none⟩ = false := (HKR2.out).frozen 13; have zf14 : (w2).frozen? ⟨w.heap.size, 14, none⟩ = false := (HKR2.out).frozen 14
            have mq0 : (w2).cell? ⟨w.heap.size + 1, 0, none⟩ = some (.int .i64 hh.id) := (HK.out).cell 0; have mq1 : (w2).cell? ⟨w.heap.size + 1, 1, none⟩ = some (.bool hh.an) := (HK.out).cell 1; have mq2 : (w2).cell? ⟨w.heap.size + 1, 2, none⟩ = some (.int .i64 hh.op) := (HK.out).cell 2; have mq3 : (w2).cell? ⟨w.heap.size + 1, 3, none⟩ = some (.bool hh.aa) := (HK.out).cell 3; have mq4 : (w2).cell? ⟨w.heap.size + 1, 4, none⟩ = some (.bool hh.tc) := (HK.out).cell 4; have mq5 : (w2).cell? ⟨w.heap.size + 1, 5, none⟩ = some (.bool hh.rd) := (HK.out).cell 5; have mq6 : (w2).cell? ⟨w.heap.size + 1, 6, none⟩ = some (.bool hh.ra) := (HK.out).cell 6; have mq7 : (w2).cell? ⟨w.heap.size + 1, 7, none⟩ = some (.bool hh.z) := (HK.out).cell 7; have mq8 : (w2).cell? ⟨w.heap.size + 1, 8, none⟩ = some (.bool hh.ad) := (HK.out).cell 8; have mq9 : (w2).cell? ⟨w.heap.size + 1, 9, none⟩ = some (.bool hh.cd) := (HK.out).cell 9; have mq10 : (w2).cell? ⟨w.heap.size + 1, 10, none⟩ = some (.int .i64 hh.code) := (HK.out).cell 10; have mq11 : (w2).cell? ⟨w.heap.size + 1, 11, none⟩ = some (.slice AV qs.length cV) := (HK.out).cell 11; have mq12 : (w2).cell? ⟨w.heap.size + 1, 12, none⟩ = some (.slice A0 n0 c0) := (HK.out).cell 12; have mq13 : (w2).cell? ⟨w.heap.size + 1, 13, none⟩ = some (.slice A1 n1 c1) := (HK.out).cell 13; have mq14 : (w2).cell? ⟨w.heap.size + 1, 14, none⟩ = some (.slice A2 n2 c2) := (HK.out).cell 14
            go_wp2
            refine bodyPost_ret (res_msg rfl rfl (msg_over hh _ _ _ _ (HKR2.out))) rfl (mrO_ok HFIN.out HHE.out (by repeat (first | (with_reducible exact grown_refl _ _) | (with_reducible refine World.grownBy.trans ?_ (grown_set _ _)))) HKR2.out HRQ2.out HR0.out HN.out.1 HR1.out HN.out.2.1 HR2.out HN.out.2.2 hqK l0 l1 l2 HLOW2.out (by omega))
end Go.Proofs.YthccknobnpbdeaaDoor
