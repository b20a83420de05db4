/- The document's answer: what bytes are as a message (MessageOf): the walk. -/
import Derived.Test.YthccknobnpbdeaaDoorK14
import Derived.Deep.RegionHeld3
import Derived.Deep.DeepCutAuto
import Derived.Great.Walk
namespace Go.Proofs.YthccknobnpbdeaaDoor
open Go.RowKit
set_option linter.unusedVariables false
set_option linter.unusedSimpArgs false

theorem blk_app2 {W w9 : World} {V v9 : Value} {g : Nat} {T : TypeId} {cs : Array Value} (ha : AppTo W w9 V v9) (hB : Blk W g T cs) (hV : V.ownBlock ≠ some g) : Blk w9 g T cs :=
  (ha.grown.block g hB.lt (fun e => hV e.symm)).trans hB
set_option maxRecDepth 100000 in
theorem run_buildRec (w : World) (c0 c1 c2 c3 c4 : Value) : (Instr.buildSlice 26 1 #[(0, .agg #[c0, c1, c2, c3, c4])]).run Tryd.prog w = .ok (.slice (some ⟨w.heap.size, 0, none⟩) 1 1) (w.alloc (.cells #[c0, c1, c2, c3, c4] 53)) := by
  simp [Instr.buildSlice, Tryd.underlying26, go_sem]
theorem wpList_buildRec {ops : Array Oper} {rest : List Oper} {o : Oper} {a : Act} {w : World} {Q : Exit → Act → World → Prop} (hg : o.guard = none) (x : Operand) (ho : o.op = .buildSlice 26 1 #[(0, x)]) (c0 c1 c2 c3 c4 : Value) (hx : a.eval x = .agg #[c0, c1, c2, c3, c4])
    (h : wpList Tryd.prog ops Q rest (a.put o.dst (.slice (some ⟨w.heap.size, 0, none⟩) 1 1)) (w.alloc (.cells #[c0, c1, c2, c3, c4] 53))) : wpList Tryd.prog ops Q (o :: rest) a w := by
  refine wpList_plain hg fun _ hK => ?_
  have e : (#[((0 : Nat), x)].map fun (i, x) => (i, a.eval x)) = #[(0, .agg #[c0, c1, c2, c3, c4])] := by simp [hx]
  unfold Oper.wp execOp
  simp only [ho, Sem.run_bind, e, run_buildRec, Result.andThen_ok]
  exact hK _ _ h
theorem sec_next {w w5 : World} {m : List UInt8} {g1 n p p' cV : Nat} {hh : Hd} {AV : Option Addr} {qs : List QT} {T Tr tq tr : TypeId} {Z : Array Value} {i : Nat} {V : Nat → Value} {L : Nat → List RecT} {P : Nat → Nat} {U : Value} {rs : List RecT} (hi3 : i < 3) (hp' : p' ≤ n) (hP0 : P 0 = p) (hsec : SecOk m i L P) (hr : rdR m (at2 m (6 + 2 * i)) (P i) [] = (0, rs, p'))
    (hvn : ∀ j, i ≤ j → V j = .slice none 0 0 ∧ L j = []) (hrows : ∀ j, Row recR tr w5 (g1 + 1) (V j) (L j)) (hlens : ∀ j, (L j).length ≤ 65535) (hq : Row qR tq w5 (g1 + 1) (.slice AV qs.length cV) qs) (hkr : Blk w5 w.heap.size Tr Z) (hlt : w.heap.size < g1) (hkg : Blk w5 g1 T (msgC hh (.slice AV qs.length cV) (V 0) (V 1) (V 2))) (hlow : Below w.heap.size w w5) (hU : Row recR tr w5 (g1 + 1) U rs) (hrl : rs.length ≤ 65535) :
    ∃ (i' : Nat) (V : Nat → Value) (L : Nat → List RecT) (P : Nat → Nat), i' ≤ 3 ∧ 3 - (i + 1) = 3 - i' ∧ Value.int .i64 (p' : Int) = .int .i64 (P i' : Int) ∧ Value.int .i64 ((i : Int) + 1) = .int .i64 (i' : Int) ∧ P i' ≤ n ∧ P 0 = p ∧ SecOk m i' L P ∧ (∀ j, i' ≤ j → V j = .slice none 0 0 ∧ L j = []) ∧ (∀ j, Row recR tr (w5.setCell ⟨g1, 12 + i, none⟩ U) (g1 + 1) (V j) (L j)) ∧ (∀ j, (L j).length ≤ 65535) ∧ Row qR tq (w5.setCell ⟨g1, 12 + i, none⟩ U) (g1 + 1) (.slice AV qs.length cV) qs ∧ Blk (w5.setCell ⟨g1, 12 + i, none⟩ U) w.heap.size Tr Z ∧ Blk (w5.setCell ⟨g1, 12 + i, none⟩ U) g1 T (msgC hh (.slice AV qs.length cV) (V 0) (V 1) (V 2)) ∧ Below w.heap.size w (w5.setCell ⟨g1, 12 + i, none⟩ U) := by
  have hfree : FreeB IsD w5 g1 := FreeB.grown_msg hkg (not_d_slice _ _ _) (by obtain ⟨A', c', e⟩ := (hrows 0).slice; rw [e]; exact not_d_slice _ _ _) (by obtain ⟨A', c', e⟩ := (hrows 1).slice; rw [e]; exact not_d_slice _ _ _) (by obtain ⟨A', c', e⟩ := (hrows 2).slice; rw [e]; exact not_d_slice _ _ _)
  refine ⟨i + 1, upd V i U, upd L i rs, upd P (i + 1) p', by omega, rfl, by rw [upd_self], (by push_cast; rfl), by rw [upd_self]; exact hp', by rw [upd_ne P p' (by omega)]; exact hP0, SecOk.next hsec hr, fun j hj => ?_, fun j => ?_, fun j => ?_, hq.grown near_q (grown_set _ _) hfree (by omega), hkr.far (by simp only; omega) _, ?_, Below.setCell hlow (by simp only; omega) _⟩
  · rw [upd_ne V _ (by omega), upd_ne L rs (by omega)]
    exact hvn j (by omega)
  · by_cases e : j = i
    · subst e
      rw [upd_self, upd_self]
      exact hU.grown near_rec (grown_set _ _) hfree (by omega)
    · rw [upd_ne V _ e, upd_ne L rs e]
      exact (hrows j).grown near_rec (grown_set _ _) hfree (by omega)
  · by_cases e : j = i
    · subst e
      rw [upd_self]; exact hrl
    · rw [upd_ne L rs e]; exact hlens j
  · obtain rfl | rfl | rfl : i = 0 ∨ i = 1 ∨ i = 2 := by omega
    · exact hkg.set 12 U
    · exact hkg.set 13 U
    · exact hkg.set 14 U
theorem messageof_short {w : World} {A : Option Addr} {n c : Nat} {m : List UInt8} (hM : Rd u8R w w.heap.size A n c m) (hn : n < 12) :
    Calls Tryd.prog 4 #[.slice A n c] w (MoO w m) := by
  have h0 : (n : Int) < 12 := by omega
  have hr := rdM_short (b := m) (by rw [hM.len]; exact hn)
  clear hM
  go_enter Tryd.func4, Tryd.ntmps4
  go_wp2
  refine bodyPost_ret (v := .tuple #[.agg (msgC hd0 (.slice none 0 0) (.slice none 0 0) (.slice none 0 0) (.slice none 0 0)), .int .i64 2]) (by simp [results, Tryd.results4, go_sem, hd0]) rfl (moO_bad hr (by decide) ?_)
  (repeat' (first | (with_reducible exact Below.refl _ _) | (with_reducible assumption) | (with_reducible refine below_ext0 ?_ _ _) | (with_reducible refine below_alloc0 ?_ _) | (with_reducible refine Below.ext ?_ ?_ _ _) | (with_reducible refine Below.alloc ?_ ?_ _) | (with_reducible refine Below.setCell ?_ ?_ _) | (with_reducible refine Below.drew ?_) | (with_reducible refine below_draws ?_ _) | go_size | (simp [size_ext]; done) | (simp [size_ext]; omega)))

set_option maxRecDepth 100000 in
set_option maxHeartbeats 40000000 in
theorem messageof_long {w : World} {A : Option Addr} {n c : Nat} {m : List UInt8} (hM : Rd u8R w w.heap.size A n c m) (hn : ¬ n < 12) :
    Calls Tryd.prog 4 #[.slice A n c] w (MoO w m) := by
  obtain ⟨b, o, rfl, lb⟩ := hM.addr (by omega)
  have hcap := hM.cap
  have hlim := hM.lim
  simp only [u8R, Nat.mul_one] at hlim
  have hlen := hM.len
  have h0 : ¬ (n : Int) < 12 := by omega
  obtain ⟨K, hK⟩ : ∃ K, at2 m 4 = K := ⟨_, rfl⟩
  have hK5 : K ≤ 65535 := by rw [← hK]; exact at2_le _ _
  have CH := fun w' (hb : Below w.heap.size w w') => rheadof_rd (hM.later hb) (by omega)
  obtain ⟨hh, hhe⟩ : ∃ hh, hdOf m = hh := ⟨_, rfl⟩
  simp only [hhe] at CH
  replace CH := hid CH
  have HHE := hid hhe
  have CT := hid fun w' (hb : Below w.heap.size w w') => rpair_at (hM.later hb) 4 (x := 4) rfl (by omega) hK
  have HM := hid hM
  have HKK := hid hK
  clear hhe hM hK
  have tk0 : True := trivial; have tk1 : True := trivial; have tk2 : True := trivial; have tk3 : True := trivial; have tk4 : True := trivial; have tk5 : True := trivial; have tk6 : True := trivial; have tk7 : True := trivial; have tk8 : True := trivial; have tk9 : True := trivial; have tk10 : True := trivial; have tk11 : True := trivial; have tk12 : True := trivial
  go_enter Tryd.func4, Tryd.ntmps4
  go_wp2_with (go_at_call 11; have _t := tk1; (with_reducible refine (CH.out _ (by (repeat' (first | (with_reducible exact Below.refl _ _) | (with_reducible assumption) | (with_reducible refine below_ext0 ?_ _ _) | (with_reducible refine below_alloc0 ?_ _) | (with_reducible refine Below.ext ?_ ?_ _ _) | (with_reducible refine Below.alloc ?_ ?_ _) | (with_reducible refine Below.setCell ?_ ?_ _) | (with_reducible refine Below.drew ?_) | (with_reducible refine below_draws ?_ _) | go_size | (simp [size_ext]; done) | (simp [size_ext]; omega))))).mono ?_); rintro e w1 ⟨rfl, hb⟩; have kr : Blk w1 w.heap.size 28 (msgC hd0 (.slice none 0 0) (.slice none 0 0) (.slice none 0 0) (.slice none 0 0)) := Blk.below (Blk.new _ _ _) hb (by first | omega | (simp [size_ext]; done) | (simp [size_ext]; omega)); have zw1 := kr.lt; have HB1 := hid (Below.trans (by (repeat' (first | (with_reducible exact Below.refl _ _) | (with_reducible assumption) | (with_reducible refine below_ext0 ?_ _ _) | (with_reducible refine below_alloc0 ?_ _) | (with_reducible refine Below.ext ?_ ?_ _ _) | (with_reducible refine Below.alloc ?_ ?_ _) | (with_reducible refine Below.setCell ?_ ?_ _) | (with_reducible refine Below.drew ?_) | (with_reducible refine below_draws ?_ _) | go_size | (simp [size_ext]; done) | (simp [size_ext]; omega)))) (hb.mono (by first | omega | (simp [size_ext]; done) | (simp [size_ext]; omega))) : Below w.heap.size w w1); have KR1 := hid kr; clear hb kr tk1)
  go_loopg [5, 6] K (fun gk v5 v6 wi => ∃ (j p : Nat) (qs : List QT) (V : Value), j ≤ K ∧ gk = K - j ∧ v5 = .int .i64 (p : Int) ∧ v6 = .int .i64 (j : Int) ∧ p ≤ n ∧ qs.length = j ∧ rdQ m K 12 [] = rdQ m (K - j) p qs ∧ Row qR 51 wi (w1.heap.size + 1) V qs ∧ Blk wi w.heap.size 28 (msgC hd0 (.slice none 0 0) (.slice none 0 0) (.slice none 0 0) (.slice none 0 0)) ∧ Blk wi w1.heap.size 28 (msgC hh V (.slice none 0 0) (.slice none 0 0) (.slice none 0 0)) ∧ Below w.heap.size w wi)
  case atStart =>
    exact ⟨0, 12, [], _, Nat.zero_le _, rfl, rfl, rfl, by omega, rfl, rfl, Row.nil _ _ _ _, KR1.out.alloc _, Blk.new _ _ _, by have := HB1.out; have := HB1.out.size; (repeat' (first | (with_reducible exact Below.refl _ _) | (with_reducible assumption) | (with_reducible refine below_ext0 ?_ _ _) | (with_reducible refine below_alloc0 ?_ _) | (with_reducible refine Below.ext ?_ ?_ _ _) | (with_reducible refine Below.alloc ?_ ?_ _) | (with_reducible refine Below.setCell ?_ ?_ _) | (with_reducible refine Below.drew ?_) | (with_reducible refine below_draws ?_ _) | go_size | (simp [size_ext]; done) | (simp [size_ext]; omega)))⟩
  case round =>
    obtain ⟨j, p, qs, V, hj, rfl, rfl, rfl, hp, hql, hrd, hrow, hkr, hkg, hlow⟩ := hrel
    obtain ⟨AV, cV, rfl⟩ := hrow.slice
    obtain ⟨cs, hrowo, hrowr, hrowf⟩ := hrow
    have HKR := hid hkr
    have HKG := hid hkg
    have HLOW := hid hlow
    have HRD := hid hrd
    have HRO := hid hrowo
    have HRR := hid hrowr
    have HRF := hid hrowf
    have zg := hkg.lt
    have zr := hkr.lt
    have zw := hlow.size
    clear hrowo hrowr hrowf hkr hkg hlow hrd
    subst hql
    have CT0 := hid fun w' (hb : Below wr.heap.size wr w') => CT.out w' (HLOW.out.trans (hb.mono zw))
    by_cases hjK : qs.length < K
    · have d0 : (qs.length : Int) < (K : Int) := by omega
      have HM2 := hid (HM.out.later HLOW.out)
      by_cases hN : (rdN m p).1 = 0
      · obtain ⟨l, q, hrn, hne, hqn, hpq⟩ := rdN_nat hN
        obtain ⟨k, hk⟩ : ∃ k, l.length = k := ⟨_, rfl⟩
        have CR := hid fun w' (hb : Below wr.heap.size wr w') => rnameAt_ok (HM2.out.later hb) (by omega) hrn hk (P := (p : Int)) rfl
        have HRN := hid hrn
        rw [hlen] at hqn
        clear hN hrn hne
        go_upto_region 9 with (first
          | (go_at_call 12; have _t := tk2; (with_reducible refine (CT0.out _ (by (repeat' (first | (with_reducible exact Below.refl _ _) | (with_reducible assumption) | (with_reducible refine below_ext0 ?_ _ _) | (with_reducible refine below_alloc0 ?_ _) | (with_reducible refine Below.ext ?_ ?_ _ _) | (with_reducible refine Below.alloc ?_ ?_ _) | (with_reducible refine Below.setCell ?_ ?_ _) | (with_reducible refine Below.drew ?_) | (with_reducible refine below_draws ?_ _) | go_size | (simp [size_ext]; done) | (simp [size_ext]; omega))))).mono ?_); rintro e w1 ⟨rfl, hb⟩; obtain ⟨otk2, dtk2, rfl⟩ := ext_of_below hb; clear hb tk2)
          | (go_at_call 13; have _t := tk3; (with_reducible refine (CR.out _ (by (repeat' (first | (with_reducible exact Below.refl _ _) | (with_reducible assumption) | (with_reducible refine below_ext0 ?_ _ _) | (with_reducible refine below_alloc0 ?_ _) | (with_reducible refine Below.ext ?_ ?_ _ _) | (with_reducible refine Below.alloc ?_ ?_ _) | (with_reducible refine Below.setCell ?_ ?_ _) | (with_reducible refine Below.drew ?_) | (with_reducible refine below_draws ?_ _) | go_size | (simp [size_ext]; done) | (simp [size_ext]; omega))))).mono ?_); rintro e w3 ⟨A3, c3, rfl, hr, hb⟩; have LW3 := hid ((show Below wr.heap.size wr _ from (by (repeat' (first | (with_reducible exact Below.refl _ _) | (with_reducible assumption) | (with_reducible refine below_ext0 ?_ _ _) | (with_reducible refine below_alloc0 ?_ _) | (with_reducible refine Below.ext ?_ ?_ _ _) | (with_reducible refine Below.alloc ?_ ?_ _) | (with_reducible refine Below.setCell ?_ ?_ _) | (with_reducible refine Below.drew ?_) | (with_reducible refine below_draws ?_ _) | go_size | (simp [size_ext]; done) | (simp [size_ext]; omega))))).trans (hb.mono (by first | omega | (simp [size_ext]; done) | (simp [size_ext]; omega)))); have R3 := hid hr; clear hb hr tk3))
        obtain ⟨w4, hw4⟩ : ∃ w4, w3.alloc (.cells #[.slice A3 k c3, .int .i64 (q : Int), .int .i64 0] 48) = w4 := ⟨_, rfl⟩
        obtain ⟨g4, hg4⟩ : ∃ g4, w3.heap.size = g4 := ⟨_, rfl⟩
        have kt : Blk w4 g4 48 #[.slice A3 k c3, .int .i64 (q : Int), .int .i64 0] := by rw [← hw4, ← hg4]; exact Blk.new _ _ _
        have lw4 : Below wr.heap.size wr w4 := by rw [← hw4]; exact LW3.out.alloc LW3.out.size _
        have hz34 : wr.heap.size ≤ g4 := by rw [← hg4]; exact LW3.out.size
        have R4 := hid (show Rd strR w4 w4.heap.size A3 k c3 l by rw [← hw4]; exact R3.out.later ((Below.refl _ _).alloc (Nat.le_refl _) _))
        rw [hw4]
        try rw [hg4]
        have kr4 := HKR.out.below lw4 zr
        have kg4 := HKG.out.below lw4 zg
        have zr4 := kr4.lt
        have zg4 := kg4.lt
        have zt4 := kt.lt
        have T0 : w4.cell? ⟨g4, 0, none⟩ = some (.slice A3 k c3) := kt.cell 0
        have T1 : w4.cell? ⟨g4, 1, none⟩ = some (.int .i64 (q : Int)) := kt.cell 1
        have T2 : w4.cell? ⟨g4, 2, none⟩ = some (.int .i64 0) := kt.cell 2
        have LW4 := hid lw4
        have KR4 := hid kr4
        have KG4 := hid kg4
        have KT4 := hid kt
        clear hw4 hg4 lw4 kr4 kg4 kt
        have v4 : IntKind.i64.wrap ((q : Int) + 4) = (q : Int) + 4 := IntWalk.i64_in _ (by omega)
        by_cases hq4 : q + 4 ≤ n
        · obtain ⟨T, hT⟩ : ∃ T, at2 m q = T := ⟨_, rfl⟩
          obtain ⟨C, hC⟩ : ∃ C, at2 m (q + 2) = C := ⟨_, rfl⟩
          have HM4 := hid (HM2.out.later LW4.out)
          have CT1 := hid fun w' (hb : Below w4.heap.size w4 w') => rpair_at (HM4.out.later hb) q (x := (q : Int)) rfl (by omega) hT
          have CT2 := hid fun w' (hb : Below w4.heap.size w4 w') => rpair_at (HM4.out.later hb) (q + 2) (x := (q : Int) + 2) (by omega) (by omega) hC
          have hT5 : T ≤ 65535 := by rw [← hT]; exact at2_le _ _
          have hC5 : C ≤ 65535 := by rw [← hC]; exact at2_le _ _
          have HST := hid (show rdQ m K 12 [] = rdQ m (K - (qs.length + 1)) (q + 4) (qs ++ [((l, (T : Int), (C : Int), ()) : QT)]) by rw [HRD.out, show K - qs.length = (K - (qs.length + 1)) + 1 by omega, rdQ_step HRN.out (by omega), hT, hC])
          clear hT hC
          have d2 : ¬ (n : Int) < (q : Int) + 4 := by omega
          have w2' : IntKind.i64.wrap ((q : Int) + 2) = (q : Int) + 2 := IntWalk.i64_in _ (by omega)
          have w4' : IntKind.i64.wrap ((qs.length : Int) + 1) = (qs.length : Int) + 1 := IntWalk.i64_in _ (by omega)
          have x11 : w4.cell? ⟨w1.heap.size, 11, none⟩ = some (.slice AV qs.length cV) := KG4.out.cell 11
          have ab1 : (qs.length + 1) * 40 ≤ 140737488355328 := by omega
          have ab2 : qs.length + 1 ≤ maxLen := by unfold maxLen; omega
          have hVo := hid (fun g (hg : (Value.slice AV qs.length cV).ownBlock = some g) => HRO.out.lt g hg)
          go_upto_region 14 with fail
          go_cut [5] (fun s5 wx => s5 = .int .i64 (p : Int) ∧ ∃ A9 c9, Row qR 51 wx (w1.heap.size + 1) (.slice A9 (qs.length + 1) c9) (qs ++ [((l, (T : Int), (C : Int), ()) : QT)]) ∧ Blk wx w.heap.size 28 (msgC hd0 (.slice none 0 0) (.slice none 0 0) (.slice none 0 0) (.slice none 0 0)) ∧ Blk wx w1.heap.size 28 (msgC hh (.slice A9 (qs.length + 1) c9) (.slice none 0 0) (.slice none 0 0) (.slice none 0 0)) ∧ wx.cell? ⟨g4, 1, none⟩ = some (.int .i64 (q : Int)) ∧ g4 < wx.heap.size ∧ Below w.heap.size w wx)
          case first =>
            go_wp2_with fail
            refine wp_region_noPanic ?_
            refine wp_region_held_drew (S := fun w' => w'.cell? ⟨g4, 0, none⟩ = some (.slice A3 k c3) ∧ w'.cell? ⟨g4, 1, none⟩ = some (.int .i64 (q : Int))) (by kernel_rfl) (by (((try dsimp only); (repeat' apply And.intro) <;> (first | assumption | (go_simp; done))))) (fun hHeld => ?_)
            refine wpAnyH_take (i := 0) (oi := _) (v := ?_) rfl (by kernel_rfl) (by kernel_rfl) (by kernel_rfl) (fun _ _ _ h => h) (Or.inl ⟨by rfl, ?_⟩) (by assumption) ?_
            rotate_left
            · (intro w hSw; (try dsimp only at hSw); go_simp; all_goals (with_reducible rfl))
            try simp only [Act.put, List.setIfInBounds_toArray, List.set_cons_zero, List.set_cons_succ, List.getElem_toArray, List.getElem_cons_zero, List.getElem_cons_succ]
            refine wpAnyH_take (i := 2) (oi := _) (v := ?_) rfl (by kernel_rfl) (by kernel_rfl) (by kernel_rfl) (fun _ _ _ h => h) (Or.inl ⟨by rfl, ?_⟩) (by assumption) ?_
            rotate_left
            · (intro w hSw; (try dsimp only at hSw); go_simp; all_goals (with_reducible rfl))
            try simp only [Act.put, List.setIfInBounds_toArray, List.set_cons_zero, List.set_cons_succ, List.getElem_toArray, List.getElem_cons_zero, List.getElem_cons_succ]
            refine wpAnyH_take (i := 3) (oi := _) (v := ?_) rfl (by kernel_rfl) (by kernel_rfl) (by kernel_rfl) (fun _ _ _ h => h) (Or.inl ⟨by rfl, ?_⟩) (by assumption) ?_
            rotate_left
            · (intro w hSw; (try dsimp only at hSw); go_simp; all_goals (with_reducible rfl))
            try simp only [Act.put, List.setIfInBounds_toArray, List.set_cons_zero, List.set_cons_succ, List.getElem_toArray, List.getElem_cons_zero, List.getElem_cons_succ]
            refine wpAnyH_take (i := 4) (oi := _) (v := ?_) rfl (by kernel_rfl) (by kernel_rfl) (by kernel_rfl) (fun _ _ _ h => h) (Or.inl ⟨by rfl, ?_⟩) (by assumption) ?_
            rotate_left
            · (intro w hSw; (try dsimp only at hSw); go_simp; all_goals (with_reducible rfl))
            try simp only [Act.put, List.setIfInBounds_toArray, List.set_cons_zero, List.set_cons_succ, List.getElem_toArray, List.getElem_cons_zero, List.getElem_cons_succ]
            refine wpAnyH_take (i := 5) (oi := _) (v := ?_) rfl (by kernel_rfl) (by kernel_rfl) (by kernel_rfl) (fun _ _ _ h => h) (Or.inl ⟨by rfl, ?_⟩) (by assumption) ?_
            rotate_left
            · (intro w hSw; (try dsimp only at hSw); go_simp; all_goals (with_reducible rfl))
            try simp only [Act.put, List.setIfInBounds_toArray, List.set_cons_zero, List.set_cons_succ, List.getElem_toArray, List.getElem_cons_zero, List.getElem_cons_succ]
            refine wpAnyH_take (i := 6) (oi := _) (v := ?_) rfl (by kernel_rfl) (by kernel_rfl) (by kernel_rfl) (fun _ _ _ h => h) (Or.inl ⟨by rfl, ?_⟩) (by assumption) ?_
            rotate_left
            · (intro w hSw; (try dsimp only at hSw); go_simp; all_goals (with_reducible rfl))
            try simp only [Act.put, List.setIfInBounds_toArray, List.set_cons_zero, List.set_cons_succ, List.getElem_toArray, List.getElem_cons_zero, List.getElem_cons_succ]
            refine wpAnyH_take (i := 8) (oi := _) (v := ?_) rfl (by kernel_rfl) (by kernel_rfl) (by kernel_rfl) (fun _ _ _ h => h) (Or.inl ⟨by rfl, ?_⟩) (by assumption) ?_
            rotate_left
            · (intro w hSw; (try dsimp only at hSw); go_simp; all_goals (with_reducible rfl))
            try simp only [Act.put, List.setIfInBounds_toArray, List.set_cons_zero, List.set_cons_succ, List.getElem_toArray, List.getElem_cons_zero, List.getElem_cons_succ]
            refine wpAnyH_take (i := 9) (oi := _) (v := ?_) rfl (by kernel_rfl) (by kernel_rfl) (by kernel_rfl) (fun _ _ _ h => h) (Or.inl ⟨by rfl, ?_⟩) (by assumption) ?_
            rotate_left
            · (intro w hSw; (try dsimp only at hSw); go_simp; all_goals (with_reducible rfl))
            try simp only [Act.put, List.setIfInBounds_toArray, List.set_cons_zero, List.set_cons_succ, List.getElem_toArray, List.getElem_cons_zero, List.getElem_cons_succ]
            refine wpAnyH_take (i := 10) (oi := _) (v := ?_) rfl (by kernel_rfl) (by kernel_rfl) (by kernel_rfl) (fun _ _ _ h => h) (Or.inl ⟨by rfl, ?_⟩) (by assumption) ?_
            rotate_left
            · (intro w hSw; (try dsimp only at hSw); go_simp; all_goals (with_reducible rfl))
            try simp only [Act.put, List.setIfInBounds_toArray, List.set_cons_zero, List.set_cons_succ, List.getElem_toArray, List.getElem_cons_zero, List.getElem_cons_succ]
            refine wpAnyH_take (i := 11) (oi := _) (v := ?_) rfl (by kernel_rfl) (by kernel_rfl) (by kernel_rfl) (fun _ _ _ h => h) (Or.inl ⟨by rfl, ?_⟩) (by assumption) ?_
            rotate_left
            · (intro w hSw; (try dsimp only at hSw); go_simp; all_goals (with_reducible rfl))
            try simp only [Act.put, List.setIfInBounds_toArray, List.set_cons_zero, List.set_cons_succ, List.getElem_toArray, List.getElem_cons_zero, List.getElem_cons_succ]
            refine wpAnyH_ready (rs := [1, 7]) (by kernel_rfl) (by simp) ?_
            refine AllReadyH.cons (o := _) rfl (fun K hK => ?_) ?_
            · go_simp
              refine hK.out _ _ (by (((try dsimp only); (repeat' apply And.intro) <;> (first | assumption | (go_simp; done))))) (fun hHeld => ?_)
              clear hK K
              try simp only [Act.put, List.setIfInBounds_toArray, List.set_cons_zero, List.set_cons_succ, List.getElem_toArray, List.getElem_cons_zero, List.getElem_cons_succ]
              refine wpAnyH_ready (rs := [7]) (by kernel_rfl) (by simp) ?_
              refine AllReadyH.cons (o := _) rfl (fun K hK => ?_) ?_
              · go_simp
                (go_at_call 12; have _t := tk4; (with_reducible refine (CT1.out _ (by (repeat' (first | (with_reducible exact Below.refl _ _) | (with_reducible assumption) | (with_reducible refine below_ext0 ?_ _ _) | (with_reducible refine below_alloc0 ?_ _) | (with_reducible refine Below.ext ?_ ?_ _ _) | (with_reducible refine Below.alloc ?_ ?_ _) | (with_reducible refine Below.setCell ?_ ?_ _) | (with_reducible refine Below.drew ?_) | (with_reducible refine below_draws ?_ _) | go_size | (simp [size_ext]; done) | (simp [size_ext]; omega))))).mono ?_); rintro e w1 ⟨rfl, hb⟩; obtain ⟨otk4, dtk4, rfl⟩ := ext_of_below hb; clear hb tk4)
                go_wp2_with fail
                refine hK.out _ _ (by (((try dsimp only); (repeat' apply And.intro) <;> (first | assumption | (go_simp; done))))) (fun hHeld => ?_)
                clear hK K
                try simp only [Act.put, List.setIfInBounds_toArray, List.set_cons_zero, List.set_cons_succ, List.getElem_toArray, List.getElem_cons_zero, List.getElem_cons_succ]
                refine wpAnyH_ready (rs := [12]) (by kernel_rfl) (by simp) ?_
                refine AllReadyH.cons (o := _) rfl (fun K hK => ?_) ?_
                · go_simp
                  (go_at_call 12; have _t := tk5; (with_reducible refine (CT2.out _ (by (repeat' (first | (with_reducible exact Below.refl _ _) | (with_reducible assumption) | (with_reducible refine below_ext0 ?_ _ _) | (with_reducible refine below_alloc0 ?_ _) | (with_reducible refine Below.ext ?_ ?_ _ _) | (with_reducible refine Below.alloc ?_ ?_ _) | (with_reducible refine Below.setCell ?_ ?_ _) | (with_reducible refine Below.drew ?_) | (with_reducible refine below_draws ?_ _) | go_size | (simp [size_ext]; done) | (simp [size_ext]; omega))))).mono ?_); rintro e w1 ⟨rfl, hb⟩; obtain ⟨otk5, dtk5, rfl⟩ := ext_of_below hb; clear hb tk5)
                  go_wp2_with fail
                  refine hK.out _ _ (by (((try dsimp only); (repeat' apply And.intro) <;> (first | assumption | (go_simp; done))))) (fun hHeld => ?_)
                  clear hK K
                  try simp only [Act.put, List.setIfInBounds_toArray, List.set_cons_zero, List.set_cons_succ, List.getElem_toArray, List.getElem_cons_zero, List.getElem_cons_succ]
                  refine wpAnyH_take (i := 13) (oi := _) (v := ?_) rfl (by kernel_rfl) (by kernel_rfl) (by kernel_rfl) (fun _ _ _ h => h) (Or.inl ⟨by rfl, ?_⟩) (by assumption) ?_
                  rotate_left
                  · (intro w hSw; (try dsimp only at hSw); go_simp; all_goals (with_reducible rfl))
                  try simp only [Act.put, List.setIfInBounds_toArray, List.set_cons_zero, List.set_cons_succ, List.getElem_toArray, List.getElem_cons_zero, List.getElem_cons_succ]
                  refine wpAnyH_ready (rs := [14]) (by kernel_rfl) (by simp) ?_
                  refine AllReadyH.cons (o := _) rfl (fun K hK => ?_) ?_
                  · go_simp
                    refine hK.out _ _ (by (((try dsimp only); (repeat' apply And.intro) <;> (first | assumption | (go_simp; done))))) (fun hHeld => ?_)
                    clear hK K
                    try simp only [Act.put, List.setIfInBounds_toArray, List.set_cons_zero, List.set_cons_succ, List.getElem_toArray, List.getElem_cons_zero, List.getElem_cons_succ]
                    refine wpAnyH_ready (rs := [15]) (by kernel_rfl) (by simp) ?_
                    refine AllReadyH.cons (o := _) rfl (fun K hK => ?_) ?_
                    · (refine step_row near_q el_q zq_d HRO.out HRR.out HRF.out (l, (T : Int), (C : Int), ()) [.slice A3 k c3, .int .i64 (T : Int), .int .i64 (C : Int)] rfl (.tmp 42) (.tmp 55) rfl rfl rfl ?_ ?_ ?_ ?_ ab1 ab2 ?_ ?_; (focus (have lw4 := LW4.out; have lz4 := LW4.out.size; (repeat' (first | (with_reducible exact Below.refl _ _) | (with_reducible assumption) | (with_reducible refine below_ext0 ?_ _ _) | (with_reducible refine below_alloc0 ?_ _) | (with_reducible refine Below.ext ?_ ?_ _ _) | (with_reducible refine Below.alloc ?_ ?_ _) | (with_reducible refine Below.setCell ?_ ?_ _) | (with_reducible refine Below.drew ?_) | (with_reducible refine below_draws ?_ _) | go_size | (simp [size_ext]; done) | (simp [size_ext]; omega))))); (exact (src_lit #[.slice A3 k c3, .int .i64 (T : Int), .int .i64 (C : Int)] rfl (by simp [Value.oneCell']) (by first | rfl | (simp [size_ext]; done) | (simp [size_ext]; omega)))); (exact rel_q (T := (T : Int)) (C := (C : Int)) (R4.out.later (by (repeat' (first | (with_reducible exact Below.refl _ _) | (with_reducible assumption) | (with_reducible refine below_ext0 ?_ _ _) | (with_reducible refine below_alloc0 ?_ _) | (with_reducible refine Below.ext ?_ ?_ _ _) | (with_reducible refine Below.alloc ?_ ?_ _) | (with_reducible refine Below.setCell ?_ ?_ _) | (with_reducible refine Below.drew ?_) | (with_reducible refine below_draws ?_ _) | go_size | (simp [size_ext]; done) | (simp [size_ext]; omega))))) (by unfold I64; omega) (by unfold I64; omega)); (simp [not_d_slice, not_d_int]); (omega); intro v9 w9 row9 ha9; have KG9 := hid (app_blk HRO.out HKG.out ha9 (by have lw4 := LW4.out; have lz4 := LW4.out.size; (repeat' (first | (with_reducible exact Below.refl _ _) | (with_reducible assumption) | (with_reducible refine below_ext0 ?_ _ _) | (with_reducible refine below_alloc0 ?_ _) | (with_reducible refine Below.ext ?_ ?_ _ _) | (with_reducible refine Below.alloc ?_ ?_ _) | (with_reducible refine Below.setCell ?_ ?_ _) | (with_reducible refine Below.drew ?_) | (with_reducible refine below_draws ?_ _) | go_size | (simp [size_ext]; done) | (simp [size_ext]; omega)))) (by omega)); have KR9 := hid (app_blk HRO.out HKR.out ha9 (by have lw4 := LW4.out; have lz4 := LW4.out.size; (repeat' (first | (with_reducible exact Below.refl _ _) | (with_reducible assumption) | (with_reducible refine below_ext0 ?_ _ _) | (with_reducible refine below_alloc0 ?_ _) | (with_reducible refine Below.ext ?_ ?_ _ _) | (with_reducible refine Below.alloc ?_ ?_ _) | (with_reducible refine Below.setCell ?_ ?_ _) | (with_reducible refine Below.drew ?_) | (with_reducible refine below_draws ?_ _) | go_size | (simp [size_ext]; done) | (simp [size_ext]; omega)))) (by omega)); have kt9 : Blk w9 g4 48 #[.slice A3 k c3, .int .i64 (q : Int), .int .i64 0] := blk_app2 ha9 (by have := KT4.out; ((repeat' (first | (with_reducible assumption) | (with_reducible refine Blk.drew ?_) | exact Blk.new' _ _ (by first | rfl | (simp [size_ext]; done) | (simp [size_ext]; omega)) | (with_reducible refine Blk.ext ?_ _ _) | (with_reducible refine Blk.alloc ?_ _))); (all_goals fail))) (fun e => by have := (hVo.out _ e).2; omega); have y0 : w9.cell? ⟨g4, 0, none⟩ = some (.slice A3 k c3) := kt9.cell 0; have y1 : w9.cell? ⟨g4, 1, none⟩ = some (.int .i64 (q : Int)) := kt9.cell 1; have yl := kt9.lt; have LOW9 := hid (app_low HRO.out ha9 (by have lw4 := LW4.out; have lz4 := LW4.out.size; (repeat' (first | (with_reducible exact Below.refl _ _) | (with_reducible assumption) | (with_reducible refine below_ext0 ?_ _ _) | (with_reducible refine below_alloc0 ?_ _) | (with_reducible refine Below.ext ?_ ?_ _ _) | (with_reducible refine Below.alloc ?_ ?_ _) | (with_reducible refine Below.setCell ?_ ?_ _) | (with_reducible refine Below.drew ?_) | (with_reducible refine below_draws ?_ _) | go_size | (simp [size_ext]; done) | (simp [size_ext]; omega)))) HLOW.out (by omega) (by omega)); have hsl := row9.slice; rw [List.length_append, List.length_singleton] at hsl; obtain ⟨A9, c9, rfl⟩ := hsl; have ROWS9 := hid (fun (u : Value) => Row.grown near_q row9 (grown_set 11 u) (FreeB.grown_msg KG9.out (not_d_slice _ _ _) (not_d_slice _ _ _) (not_d_slice _ _ _) (not_d_slice _ _ _)) (by omega)); have KT9 := hid kt9; have y11 : w9.cell? ⟨w1.heap.size, 11, none⟩ = some (.slice AV qs.length cV) := KG9.out.cell 11; have g11 : w9.frozen? ⟨w1.heap.size, 11, none⟩ = false := KG9.out.frozen 11; have yg := KG9.out.lt; have ygn : ¬ g4 = w1.heap.size := (by omega); have ygn2 : ¬ w1.heap.size = g4 := (by omega); clear ha9 row9 kt9)
                      refine hK.out _ _ (by (((try dsimp only); (repeat' apply And.intro) <;> (first | assumption | (go_simp; done))))) (fun hHeld => ?_)
                      clear hK K
                      try simp only [Act.put, List.setIfInBounds_toArray, List.set_cons_zero, List.set_cons_succ, List.getElem_toArray, List.getElem_cons_zero, List.getElem_cons_succ]
                      refine wpAnyH_take (i := 16) (oi := _) (v := ?_) rfl (by kernel_rfl) (by kernel_rfl) (by kernel_rfl) (fun _ _ _ h => h) (Or.inl ⟨by rfl, ?_⟩) (by assumption) ?_
                      rotate_left
                      · (intro w hSw; (try dsimp only at hSw); go_simp; all_goals (with_reducible rfl))
                      try simp only [Act.put, List.setIfInBounds_toArray, List.set_cons_zero, List.set_cons_succ, List.getElem_toArray, List.getElem_cons_zero, List.getElem_cons_succ]
                      refine wpAnyH_ready (rs := [17]) (by kernel_rfl) (by simp) ?_
                      refine AllReadyH.cons (o := _) rfl (fun K hK => ?_) ?_
                      · go_simp
                        refine hK.out _ _ (by (((try dsimp only); (repeat' apply And.intro) <;> (first | assumption | (go_simp; done))))) (fun hHeld => ?_)
                        clear hK K
                        try simp only [Act.put, List.setIfInBounds_toArray, List.set_cons_zero, List.set_cons_succ, List.getElem_toArray, List.getElem_cons_zero, List.getElem_cons_succ]
                        refine wpAnyH_done (by kernel_rfl) ?_ _
                        refine NoPanic.normal ?_
                        go_wp2_with fail
                        go_meet
                        exact ⟨rfl, A9, c9, ROWS9.out _, KR9.out.far (by simp only; omega) _, KG9.out.set 11 _, (KT9.out.far (by simp only; omega) _).cell 1, by simpa using yl, Below.setCell LOW9.out (by simp only; omega) _⟩
                      exact AllReadyH.nil
                    exact AllReadyH.nil
                  exact AllReadyH.nil
                exact AllReadyH.nil
              exact AllReadyH.nil
            refine AllReadyH.cons (o := _) rfl (fun K hK => ?_) ?_
            · go_simp
              (go_at_call 12; have _t := tk4; (with_reducible refine (CT1.out _ (by (repeat' (first | (with_reducible exact Below.refl _ _) | (with_reducible assumption) | (with_reducible refine below_ext0 ?_ _ _) | (with_reducible refine below_alloc0 ?_ _) | (with_reducible refine Below.ext ?_ ?_ _ _) | (with_reducible refine Below.alloc ?_ ?_ _) | (with_reducible refine Below.setCell ?_ ?_ _) | (with_reducible refine Below.drew ?_) | (with_reducible refine below_draws ?_ _) | go_size | (simp [size_ext]; done) | (simp [size_ext]; omega))))).mono ?_); rintro e w1 ⟨rfl, hb⟩; obtain ⟨otk4, dtk4, rfl⟩ := ext_of_below hb; clear hb tk4)
              go_wp2_with fail
              refine hK.out _ _ (by (((try dsimp only); (repeat' apply And.intro) <;> (first | assumption | (go_simp; done))))) (fun hHeld => ?_)
              clear hK K
              try simp only [Act.put, List.setIfInBounds_toArray, List.set_cons_zero, List.set_cons_succ, List.getElem_toArray, List.getElem_cons_zero, List.getElem_cons_succ]
              refine wpAnyH_ready (rs := [1, 12]) (by kernel_rfl) (by simp) ?_
              refine AllReadyH.cons (o := _) rfl (fun K hK => ?_) ?_
              · go_simp
                refine hK.out _ _ (by (((try dsimp only); (repeat' apply And.intro) <;> (first | assumption | (go_simp; done))))) (fun hHeld => ?_)
                clear hK K
                try simp only [Act.put, List.setIfInBounds_toArray, List.set_cons_zero, List.set_cons_succ, List.getElem_toArray, List.getElem_cons_zero, List.getElem_cons_succ]
                refine wpAnyH_ready (rs := [12]) (by kernel_rfl) (by simp) ?_
                refine AllReadyH.cons (o := _) rfl (fun K hK => ?_) ?_
                · go_simp
                  (go_at_call 12; have _t := tk5; (with_reducible refine (CT2.out _ (by (repeat' (first | (with_reducible exact Below.refl _ _) | (with_reducible assumption) | (with_reducible refine below_ext0 ?_ _ _) | (with_reducible refine below_alloc0 ?_ _) | (with_reducible refine Below.ext ?_ ?_ _ _) | (with_reducible refine Below.alloc ?_ ?_ _) | (with_reducible refine Below.setCell ?_ ?_ _) | (with_reducible refine Below.drew ?_) | (with_reducible refine below_draws ?_ _) | go_size | (simp [size_ext]; done) | (simp [size_ext]; omega))))).mono ?_); rintro e w1 ⟨rfl, hb⟩; obtain ⟨otk5, dtk5, rfl⟩ := ext_of_below hb; clear hb tk5)
                  go_wp2_with fail
                  refine hK.out _ _ (by (((try dsimp only); (repeat' apply And.intro) <;> (first | assumption | (go_simp; done))))) (fun hHeld => ?_)
                  clear hK K
                  try simp only [Act.put, List.setIfInBounds_toArray, List.set_cons_zero, List.set_cons_succ, List.getElem_toArray, List.getElem_cons_zero, List.getElem_cons_succ]
                  refine wpAnyH_take (i := 13) (oi := _) (v := ?_) rfl (by kernel_rfl) (by kernel_rfl) (by kernel_rfl) (fun _ _ _ h => h) (Or.inl ⟨by rfl, ?_⟩) (by assumption) ?_
                  rotate_left
                  · (intro w hSw; (try dsimp only at hSw); go_simp; all_goals (with_reducible rfl))
                  try simp only [Act.put, List.setIfInBounds_toArray, List.set_cons_zero, List.set_cons_succ, List.getElem_toArray, List.getElem_cons_zero, List.getElem_cons_succ]
                  refine wpAnyH_ready (rs := [14]) (by kernel_rfl) (by simp) ?_
                  refine AllReadyH.cons (o := _) rfl (fun K hK => ?_) ?_
                  · go_simp
                    refine hK.out _ _ (by (((try dsimp only); (repeat' apply And.intro) <;> (first | assumption | (go_simp; done))))) (fun hHeld => ?_)
                    clear hK K
                    try simp only [Act.put, List.setIfInBounds_toArray, List.set_cons_zero, List.set_cons_succ, List.getElem_toArray, List.getElem_cons_zero, List.getElem_cons_succ]
                    refine wpAnyH_ready (rs := [15]) (by kernel_rfl) (by simp) ?_
                    refine AllReadyH.cons (o := _) rfl (fun K hK => ?_) ?_
                    · (refine step_row near_q el_q zq_d HRO.out HRR.out HRF.out (l, (T : Int), (C : Int), ()) [.slice A3 k c3, .int .i64 (T : Int), .int .i64 (C : Int)] rfl (.tmp 42) (.tmp 55) rfl rfl rfl ?_ ?_ ?_ ?_ ab1 ab2 ?_ ?_; (focus (have lw4 := LW4.out; have lz4 := LW4.out.size; (repeat' (first | (with_reducible exact Below.refl _ _) | (with_reducible assumption) | (with_reducible refine below_ext0 ?_ _ _) | (with_reducible refine below_alloc0 ?_ _) | (with_reducible refine Below.ext ?_ ?_ _ _) | (with_reducible refine Below.alloc ?_ ?_ _) | (with_reducible refine Below.setCell ?_ ?_ _) | (with_reducible refine Below.drew ?_) | (with_reducible refine below_draws ?_ _) | go_size | (simp [size_ext]; done) | (simp [size_ext]; omega))))); (exact (src_lit #[.slice A3 k c3, .int .i64 (T : Int), .int .i64 (C : Int)] rfl (by simp [Value.oneCell']) (by first | rfl | (simp [size_ext]; done) | (simp [size_ext]; omega)))); (exact rel_q (T := (T : Int)) (C := (C : Int)) (R4.out.later (by (repeat' (first | (with_reducible exact Below.refl _ _) | (with_reducible assumption) | (with_reducible refine below_ext0 ?_ _ _) | (with_reducible refine below_alloc0 ?_ _) | (with_reducible refine Below.ext ?_ ?_ _ _) | (with_reducible refine Below.alloc ?_ ?_ _) | (with_reducible refine Below.setCell ?_ ?_ _) | (with_reducible refine Below.drew ?_) | (with_reducible refine below_draws ?_ _) | go_size | (simp [size_ext]; done) | (simp [size_ext]; omega))))) (by unfold I64; omega) (by unfold I64; omega)); (simp [not_d_slice, not_d_int]); (omega); intro v9 w9 row9 ha9; have KG9 := hid (app_blk HRO.out HKG.out ha9 (by have lw4 := LW4.out; have lz4 := LW4.out.size; (repeat' (first | (with_reducible exact Below.refl _ _) | (with_reducible assumption) | (with_reducible refine below_ext0 ?_ _ _) | (with_reducible refine below_alloc0 ?_ _) | (with_reducible refine Below.ext ?_ ?_ _ _) | (with_reducible refine Below.alloc ?_ ?_ _) | (with_reducible refine Below.setCell ?_ ?_ _) | (with_reducible refine Below.drew ?_) | (with_reducible refine below_draws ?_ _) | go_size | (simp [size_ext]; done) | (simp [size_ext]; omega)))) (by omega)); have KR9 := hid (app_blk HRO.out HKR.out ha9 (by have lw4 := LW4.out; have lz4 := LW4.out.size; (repeat' (first | (with_reducible exact Below.refl _ _) | (with_reducible assumption) | (with_reducible refine below_ext0 ?_ _ _) | (with_reducible refine below_alloc0 ?_ _) | (with_reducible refine Below.ext ?_ ?_ _ _) | (with_reducible refine Below.alloc ?_ ?_ _) | (with_reducible refine Below.setCell ?_ ?_ _) | (with_reducible refine Below.drew ?_) | (with_reducible refine below_draws ?_ _) | go_size | (simp [size_ext]; done) | (simp [size_ext]; omega)))) (by omega)); have kt9 : Blk w9 g4 48 #[.slice A3 k c3, .int .i64 (q : Int), .int .i64 0] := blk_app2 ha9 (by have := KT4.out; ((repeat' (first | (with_reducible assumption) | (with_reducible refine Blk.drew ?_) | exact Blk.new' _ _ (by first | rfl | (simp [size_ext]; done) | (simp [size_ext]; omega)) | (with_reducible refine Blk.ext ?_ _ _) | (with_reducible refine Blk.alloc ?_ _))); (all_goals fail))) (fun e => by have := (hVo.out _ e).2; omega); have y0 : w9.cell? ⟨g4, 0, none⟩ = some (.slice A3 k c3) := kt9.cell 0; have y1 : w9.cell? ⟨g4, 1, none⟩ = some (.int .i64 (q : Int)) := kt9.cell 1; have yl := kt9.lt; have LOW9 := hid (app_low HRO.out ha9 (by have lw4 := LW4.out; have lz4 := LW4.out.size; (repeat' (first | (with_reducible exact Below.refl _ _) | (with_reducible assumption) | (with_reducible refine below_ext0 ?_ _ _) | (with_reducible refine below_alloc0 ?_ _) | (with_reducible refine Below.ext ?_ ?_ _ _) | (with_reducible refine Below.alloc ?_ ?_ _) | (with_reducible refine Below.setCell ?_ ?_ _) | (with_reducible refine Below.drew ?_) | (with_reducible refine below_draws ?_ _) | go_size | (simp [size_ext]; done) | (simp [size_ext]; omega)))) HLOW.out (by omega) (by omega)); have hsl := row9.slice; rw [List.length_append, List.length_singleton] at hsl; obtain ⟨A9, c9, rfl⟩ := hsl; have ROWS9 := hid (fun (u : Value) => Row.grown near_q row9 (grown_set 11 u) (FreeB.grown_msg KG9.out (not_d_slice _ _ _) (not_d_slice _ _ _) (not_d_slice _ _ _) (not_d_slice _ _ _)) (by omega)); have KT9 := hid kt9; have y11 : w9.cell? ⟨w1.heap.size, 11, none⟩ = some (.slice AV qs.length cV) := KG9.out.cell 11; have g11 : w9.frozen? ⟨w1.heap.size, 11, none⟩ = false := KG9.out.frozen 11; have yg := KG9.out.lt; have ygn : ¬ g4 = w1.heap.size := (by omega); have ygn2 : ¬ w1.heap.size = g4 := (by omega); clear ha9 row9 kt9)
                      refine hK.out _ _ (by (((try dsimp only); (repeat' apply And.intro) <;> (first | assumption | (go_simp; done))))) (fun hHeld => ?_)
                      clear hK K
                      try simp only [Act.put, List.setIfInBounds_toArray, List.set_cons_zero, List.set_cons_succ, List.getElem_toArray, List.getElem_cons_zero, List.getElem_cons_succ]
                      refine wpAnyH_take (i := 16) (oi := _) (v := ?_) rfl (by kernel_rfl) (by kernel_rfl) (by kernel_rfl) (fun _ _ _ h => h) (Or.inl ⟨by rfl, ?_⟩) (by assumption) ?_
                      rotate_left
                      · (intro w hSw; (try dsimp only at hSw); go_simp; all_goals (with_reducible rfl))
                      try simp only [Act.put, List.setIfInBounds_toArray, List.set_cons_zero, List.set_cons_succ, List.getElem_toArray, List.getElem_cons_zero, List.getElem_cons_succ]
                      refine wpAnyH_ready (rs := [17]) (by kernel_rfl) (by simp) ?_
                      refine AllReadyH.cons (o := _) rfl (fun K hK => ?_) ?_
                      · go_simp
                        refine hK.out _ _ (by (((try dsimp only); (repeat' apply And.intro) <;> (first | assumption | (go_simp; done))))) (fun hHeld => ?_)
                        clear hK K
                        try simp only [Act.put, List.setIfInBounds_toArray, List.set_cons_zero, List.set_cons_succ, List.getElem_toArray, List.getElem_cons_zero, List.getElem_cons_succ]
                        refine wpAnyH_done (by kernel_rfl) ?_ _
                        refine NoPanic.normal ?_
                        go_wp2_with fail
                        go_meet
                        exact ⟨rfl, A9, c9, ROWS9.out _, KR9.out.far (by simp only; omega) _, KG9.out.set 11 _, (KT9.out.far (by simp only; omega) _).cell 1, by simpa using yl, Below.setCell LOW9.out (by simp only; omega) _⟩
                      exact AllReadyH.nil
                    exact AllReadyH.nil
                  exact AllReadyH.nil
                exact AllReadyH.nil
              refine AllReadyH.cons (o := _) rfl (fun K hK => ?_) ?_
              · go_simp
                (go_at_call 12; have _t := tk5; (with_reducible refine (CT2.out _ (by (repeat' (first | (with_reducible exact Below.refl _ _) | (with_reducible assumption) | (with_reducible refine below_ext0 ?_ _ _) | (with_reducible refine below_alloc0 ?_ _) | (with_reducible refine Below.ext ?_ ?_ _ _) | (with_reducible refine Below.alloc ?_ ?_ _) | (with_reducible refine Below.setCell ?_ ?_ _) | (with_reducible refine Below.drew ?_) | (with_reducible refine below_draws ?_ _) | go_size | (simp [size_ext]; done) | (simp [size_ext]; omega))))).mono ?_); rintro e w1 ⟨rfl, hb⟩; obtain ⟨otk5, dtk5, rfl⟩ := ext_of_below hb; clear hb tk5)
                go_wp2_with fail
                refine hK.out _ _ (by (((try dsimp only); (repeat' apply And.intro) <;> (first | assumption | (go_simp; done))))) (fun hHeld => ?_)
                clear hK K
                try simp only [Act.put, List.setIfInBounds_toArray, List.set_cons_zero, List.set_cons_succ, List.getElem_toArray, List.getElem_cons_zero, List.getElem_cons_succ]
                refine wpAnyH_take (i := 13) (oi := _) (v := ?_) rfl (by kernel_rfl) (by kernel_rfl) (by kernel_rfl) (fun _ _ _ h => h) (Or.inl ⟨by rfl, ?_⟩) (by assumption) ?_
                rotate_left
                · (intro w hSw; (try dsimp only at hSw); go_simp; all_goals (with_reducible rfl))
                try simp only [Act.put, List.setIfInBounds_toArray, List.set_cons_zero, List.set_cons_succ, List.getElem_toArray, List.getElem_cons_zero, List.getElem_cons_succ]
                refine wpAnyH_ready (rs := [1, 14]) (by kernel_rfl) (by simp) ?_
                refine AllReadyH.cons (o := _) rfl (fun K hK => ?_) ?_
                · go_simp
                  refine hK.out _ _ (by (((try dsimp only); (repeat' apply And.intro) <;> (first | assumption | (go_simp; done))))) (fun hHeld => ?_)
                  clear hK K
                  try simp only [Act.put, List.setIfInBounds_toArray, List.set_cons_zero, List.set_cons_succ, List.getElem_toArray, List.getElem_cons_zero, List.getElem_cons_succ]
                  refine wpAnyH_ready (rs := [14]) (by kernel_rfl) (by simp) ?_
                  refine AllReadyH.cons (o := _) rfl (fun K hK => ?_) ?_
                  · go_simp
                    refine hK.out _ _ (by (((try dsimp only); (repeat' apply And.intro) <;> (first | assumption | (go_simp; done))))) (fun hHeld => ?_)
                    clear hK K
                    try simp only [Act.put, List.setIfInBounds_toArray, List.set_cons_zero, List.set_cons_succ, List.getElem_toArray, List.getElem_cons_zero, List.getElem_cons_succ]
                    refine wpAnyH_ready (rs := [15]) (by kernel_rfl) (by simp) ?_
                    refine AllReadyH.cons (o := _) rfl (fun K hK => ?_) ?_
                    · (refine step_row near_q el_q zq_d HRO.out HRR.out HRF.out (l, (T : Int), (C : Int), ()) [.slice A3 k c3, .int .i64 (T : Int), .int .i64 (C : Int)] rfl (.tmp 42) (.tmp 55) rfl rfl rfl ?_ ?_ ?_ ?_ ab1 ab2 ?_ ?_; (focus (have lw4 := LW4.out; have lz4 := LW4.out.size; (repeat' (first | (with_reducible exact Below.refl _ _) | (with_reducible assumption) | (with_reducible refine below_ext0 ?_ _ _) | (with_reducible refine below_alloc0 ?_ _) | (with_reducible refine Below.ext ?_ ?_ _ _) | (with_reducible refine Below.alloc ?_ ?_ _) | (with_reducible refine Below.setCell ?_ ?_ _) | (with_reducible refine Below.drew ?_) | (with_reducible refine below_draws ?_ _) | go_size | (simp [size_ext]; done) | (simp [size_ext]; omega))))); (exact (src_lit #[.slice A3 k c3, .int .i64 (T : Int), .int .i64 (C : Int)] rfl (by simp [Value.oneCell']) (by first | rfl | (simp [size_ext]; done) | (simp [size_ext]; omega)))); (exact rel_q (T := (T : Int)) (C := (C : Int)) (R4.out.later (by (repeat' (first | (with_reducible exact Below.refl _ _) | (with_reducible assumption) | (with_reducible refine below_ext0 ?_ _ _) | (with_reducible refine below_alloc0 ?_ _) | (with_reducible refine Below.ext ?_ ?_ _ _) | (with_reducible refine Below.alloc ?_ ?_ _) | (with_reducible refine Below.setCell ?_ ?_ _) | (with_reducible refine Below.drew ?_) | (with_reducible refine below_draws ?_ _) | go_size | (simp [size_ext]; done) | (simp [size_ext]; omega))))) (by unfold I64; omega) (by unfold I64; omega)); (simp [not_d_slice, not_d_int]); (omega); intro v9 w9 row9 ha9; have KG9 := hid (app_blk HRO.out HKG.out ha9 (by have lw4 := LW4.out; have lz4 := LW4.out.size; (repeat' (first | (with_reducible exact Below.refl _ _) | (with_reducible assumption) | (with_reducible refine below_ext0 ?_ _ _) | (with_reducible refine below_alloc0 ?_ _) | (with_reducible refine Below.ext ?_ ?_ _ _) | (with_reducible refine Below.alloc ?_ ?_ _) | (with_reducible refine Below.setCell ?_ ?_ _) | (with_reducible refine Below.drew ?_) | (with_reducible refine below_draws ?_ _) | go_size | (simp [size_ext]; done) | (simp [size_ext]; omega)))) (by omega)); have KR9 := hid (app_blk HRO.out HKR.out ha9 (by have lw4 := LW4.out; have lz4 := LW4.out.size; (repeat' (first | (with_reducible exact Below.refl _ _) | (with_reducible assumption) | (with_reducible refine below_ext0 ?_ _ _) | (with_reducible refine below_alloc0 ?_ _) | (with_reducible refine Below.ext ?_ ?_ _ _) | (with_reducible refine Below.alloc ?_ ?_ _) | (with_reducible refine Below.setCell ?_ ?_ _) | (with_reducible refine Below.drew ?_) | (with_reducible refine below_draws ?_ _) | go_size | (simp [size_ext]; done) | (simp [size_ext]; omega)))) (by omega)); have kt9 : Blk w9 g4 48 #[.slice A3 k c3, .int .i64 (q : Int), .int .i64 0] := blk_app2 ha9 (by have := KT4.out; ((repeat' (first | (with_reducible assumption) | (with_reducible refine Blk.drew ?_) | exact Blk.new' _ _ (by first | rfl | (simp [size_ext]; done) | (simp [size_ext]; omega)) | (with_reducible refine Blk.ext ?_ _ _) | (with_reducible refine Blk.alloc ?_ _))); (all_goals fail))) (fun e => by have := (hVo.out _ e).2; omega); have y0 : w9.cell? ⟨g4, 0, none⟩ = some (.slice A3 k c3) := kt9.cell 0; have y1 : w9.cell? ⟨g4, 1, none⟩ = some (.int .i64 (q : Int)) := kt9.cell 1; have yl := kt9.lt; have LOW9 := hid (app_low HRO.out ha9 (by have lw4 := LW4.out; have lz4 := LW4.out.size; (repeat' (first | (with_reducible exact Below.refl _ _) | (with_reducible assumption) | (with_reducible refine below_ext0 ?_ _ _) | (with_reducible refine below_alloc0 ?_ _) | (with_reducible refine Below.ext ?_ ?_ _ _) | (with_reducible refine Below.alloc ?_ ?_ _) | (with_reducible refine Below.setCell ?_ ?_ _) | (with_reducible refine Below.drew ?_) | (with_reducible refine below_draws ?_ _) | go_size | (simp [size_ext]; done) | (simp [size_ext]; omega)))) HLOW.out (by omega) (by omega)); have hsl := row9.slice; rw [List.length_append, List.length_singleton] at hsl; obtain ⟨A9, c9, rfl⟩ := hsl; have ROWS9 := hid (fun (u : Value) => Row.grown near_q row9 (grown_set 11 u) (FreeB.grown_msg KG9.out (not_d_slice _ _ _) (not_d_slice _ _ _) (not_d_slice _ _ _) (not_d_slice _ _ _)) (by omega)); have KT9 := hid kt9; have y11 : w9.cell? ⟨w1.heap.size, 11, none⟩ = some (.slice AV qs.length cV) := KG9.out.cell 11; have g11 : w9.frozen? ⟨w1.heap.size, 11, none⟩ = false := KG9.out.frozen 11; have yg := KG9.out.lt; have ygn : ¬ g4 = w1.heap.size := (by omega); have ygn2 : ¬ w1.heap.size = g4 := (by omega); clear ha9 row9 kt9)
                      refine hK.out _ _ (by (((try dsimp only); (repeat' apply And.intro) <;> (first | assumption | (go_simp; done))))) (fun hHeld => ?_)
                      clear hK K
                      try simp only [Act.put, List.setIfInBounds_toArray, List.set_cons_zero, List.set_cons_succ, List.getElem_toArray, List.getElem_cons_zero, List.getElem_cons_succ]
                      refine wpAnyH_take (i := 16) (oi := _) (v := ?_) rfl (by kernel_rfl) (by kernel_rfl) (by kernel_rfl) (fun _ _ _ h => h) (Or.inl ⟨by rfl, ?_⟩) (by assumption) ?_
                      rotate_left
                      · (intro w hSw; (try dsimp only at hSw); go_simp; all_goals (with_reducible rfl))
                      try simp only [Act.put, List.setIfInBounds_toArray, List.set_cons_zero, List.set_cons_succ, List.getElem_toArray, List.getElem_cons_zero, List.getElem_cons_succ]
                      refine wpAnyH_ready (rs := [17]) (by kernel_rfl) (by simp) ?_
                      refine AllReadyH.cons (o := _) rfl (fun K hK => ?_) ?_
                      · go_simp
                        refine hK.out _ _ (by (((try dsimp only); (repeat' apply And.intro) <;> (first | assumption | (go_simp; done))))) (fun hHeld => ?_)
                        clear hK K
                        try simp only [Act.put, List.setIfInBounds_toArray, List.set_cons_zero, List.set_cons_succ, List.getElem_toArray, List.getElem_cons_zero, List.getElem_cons_succ]
                        refine wpAnyH_done (by kernel_rfl) ?_ _
                        refine NoPanic.normal ?_
                        go_wp2_with fail
                        go_meet
                        exact ⟨rfl, A9, c9, ROWS9.out _, KR9.out.far (by simp only; omega) _, KG9.out.set 11 _, (KT9.out.far (by simp only; omega) _).cell 1, by simpa using yl, Below.setCell LOW9.out (by simp only; omega) _⟩
                      exact AllReadyH.nil
                    exact AllReadyH.nil
                  exact AllReadyH.nil
                refine AllReadyH.cons (o := _) rfl (fun K hK => ?_) ?_
                · go_simp
                  refine hK.out _ _ (by (((try dsimp only); (repeat' apply And.intro) <;> (first | assumption | (go_simp; done))))) (fun hHeld => ?_)
                  clear hK K
                  try simp only [Act.put, List.setIfInBounds_toArray, List.set_cons_zero, List.set_cons_succ, List.getElem_toArray, List.getElem_cons_zero, List.getElem_cons_succ]
                  refine wpAnyH_ready (rs := [1]) (by kernel_rfl) (by simp) ?_
                  refine AllReadyH.cons (o := _) rfl (fun K hK => ?_) ?_
                  · go_simp
                    refine hK.out _ _ (by (((try dsimp only); (repeat' apply And.intro) <;> (first | assumption | (go_simp; done))))) (fun hHeld => ?_)
                    clear hK K
                    try simp only [Act.put, List.setIfInBounds_toArray, List.set_cons_zero, List.set_cons_succ, List.getElem_toArray, List.getElem_cons_zero, List.getElem_cons_succ]
                    refine wpAnyH_ready (rs := [15]) (by kernel_rfl) (by simp) ?_
                    refine AllReadyH.cons (o := _) rfl (fun K hK => ?_) ?_
                    · (refine step_row near_q el_q zq_d HRO.out HRR.out HRF.out (l, (T : Int), (C : Int), ()) [.slice A3 k c3, .int .i64 (T : Int), .int .i64 (C : Int)] rfl (.tmp 42) (.tmp 55) rfl rfl rfl ?_ ?_ ?_ ?_ ab1 ab2 ?_ ?_; (focus (have lw4 := LW4.out; have lz4 := LW4.out.size; (repeat' (first | (with_reducible exact Below.refl _ _) | (with_reducible assumption) | (with_reducible refine below_ext0 ?_ _ _) | (with_reducible refine below_alloc0 ?_ _) | (with_reducible refine Below.ext ?_ ?_ _ _) | (with_reducible refine Below.alloc ?_ ?_ _) | (with_reducible refine Below.setCell ?_ ?_ _) | (with_reducible refine Below.drew ?_) | (with_reducible refine below_draws ?_ _) | go_size | (simp [size_ext]; done) | (simp [size_ext]; omega))))); (exact (src_lit #[.slice A3 k c3, .int .i64 (T : Int), .int .i64 (C : Int)] rfl (by simp [Value.oneCell']) (by first | rfl | (simp [size_ext]; done) | (simp [size_ext]; omega)))); (exact rel_q (T := (T : Int)) (C := (C : Int)) (R4.out.later (by (repeat' (first | (with_reducible exact Below.refl _ _) | (with_reducible assumption) | (with_reducible refine below_ext0 ?_ _ _) | (with_reducible refine below_alloc0 ?_ _) | (with_reducible refine Below.ext ?_ ?_ _ _) | (with_reducible refine Below.alloc ?_ ?_ _) | (with_reducible refine Below.setCell ?_ ?_ _) | (with_reducible refine Below.drew ?_) | (with_reducible refine below_draws ?_ _) | go_size | (simp [size_ext]; done) | (simp [size_ext]; omega))))) (by unfold I64; omega) (by unfold I64; omega)); (simp [not_d_slice, not_d_int]); (omega); intro v9 w9 row9 ha9; have KG9 := hid (app_blk HRO.out HKG.out ha9 (by have lw4 := LW4.out; have lz4 := LW4.out.size; (repeat' (first | (with_reducible exact Below.refl _ _) | (with_reducible assumption) | (with_reducible refine below_ext0 ?_ _ _) | (with_reducible refine below_alloc0 ?_ _) | (with_reducible refine Below.ext ?_ ?_ _ _) | (with_reducible refine Below.alloc ?_ ?_ _) | (with_reducible refine Below.setCell ?_ ?_ _) | (with_reducible refine Below.drew ?_) | (with_reducible refine below_draws ?_ _) | go_size | (simp [size_ext]; done) | (simp [size_ext]; omega)))) (by omega)); have KR9 := hid (app_blk HRO.out HKR.out ha9 (by have lw4 := LW4.out; have lz4 := LW4.out.size; (repeat' (first | (with_reducible exact Below.refl _ _) | (with_reducible assumption) | (with_reducible refine below_ext0 ?_ _ _) | (with_reducible refine below_alloc0 ?_ _) | (with_reducible refine Below.ext ?_ ?_ _ _) | (with_reducible refine Below.alloc ?_ ?_ _) | (with_reducible refine Below.setCell ?_ ?_ _) | (with_reducible refine Below.drew ?_) | (with_reducible refine below_draws ?_ _) | go_size | (simp [size_ext]; done) | (simp [size_ext]; omega)))) (by omega)); have kt9 : Blk w9 g4 48 #[.slice A3 k c3, .int .i64 (q : Int), .int .i64 0] := blk_app2 ha9 (by have := KT4.out; ((repeat' (first | (with_reducible assumption) | (with_reducible refine Blk.drew ?_) | exact Blk.new' _ _ (by first | rfl | (simp [size_ext]; done) | (simp [size_ext]; omega)) | (with_reducible refine Blk.ext ?_ _ _) | (with_reducible refine Blk.alloc ?_ _))); (all_goals fail))) (fun e => by have := (hVo.out _ e).2; omega); have y0 : w9.cell? ⟨g4, 0, none⟩ = some (.slice A3 k c3) := kt9.cell 0; have y1 : w9.cell? ⟨g4, 1, none⟩ = some (.int .i64 (q : Int)) := kt9.cell 1; have yl := kt9.lt; have LOW9 := hid (app_low HRO.out ha9 (by have lw4 := LW4.out; have lz4 := LW4.out.size; (repeat' (first | (with_reducible exact Below.refl _ _) | (with_reducible assumption) | (with_reducible refine below_ext0 ?_ _ _) | (with_reducible refine below_alloc0 ?_ _) | (with_reducible refine Below.ext ?_ ?_ _ _) | (with_reducible refine Below.alloc ?_ ?_ _) | (with_reducible refine Below.setCell ?_ ?_ _) | (with_reducible refine Below.drew ?_) | (with_reducible refine below_draws ?_ _) | go_size | (simp [size_ext]; done) | (simp [size_ext]; omega)))) HLOW.out (by omega) (by omega)); have hsl := row9.slice; rw [List.length_append, List.length_singleton] at hsl; obtain ⟨A9, c9, rfl⟩ := hsl; have ROWS9 := hid (fun (u : Value) => Row.grown near_q row9 (grown_set 11 u) (FreeB.grown_msg KG9.out (not_d_slice _ _ _) (not_d_slice _ _ _) (not_d_slice _ _ _) (not_d_slice _ _ _)) (by omega)); have KT9 := hid kt9; have y11 : w9.cell? ⟨w1.heap.size, 11, none⟩ = some (.slice AV qs.length cV) := KG9.out.cell 11; have g11 : w9.frozen? ⟨w1.heap.size, 11, none⟩ = false := KG9.out.frozen 11; have yg := KG9.out.lt; have ygn : ¬ g4 = w1.heap.size := (by omega); have ygn2 : ¬ w1.heap.size = g4 := (by omega); clear ha9 row9 kt9)
                      refine hK.out _ _ (by (((try dsimp only); (repeat' apply And.intro) <;> (first | assumption | (go_simp; done))))) (fun hHeld => ?_)
                      clear hK K
                      try simp only [Act.put, List.setIfInBounds_toArray, List.set_cons_zero, List.set_cons_succ, List.getElem_toArray, List.getElem_cons_zero, List.getElem_cons_succ]
                      refine wpAnyH_take (i := 16) (oi := _) (v := ?_) rfl (by kernel_rfl) (by kernel_rfl) (by kernel_rfl) (fun _ _ _ h => h) (Or.inl ⟨by rfl, ?_⟩) (by assumption) ?_
                      rotate_left
                      · (intro w hSw; (try dsimp only at hSw); go_simp; all_goals (with_reducible rfl))
                      try simp only [Act.put, List.setIfInBounds_toArray, List.set_cons_zero, List.set_cons_succ, List.getElem_toArray, List.getElem_cons_zero, List.getElem_cons_succ]
                      refine wpAnyH_ready (rs := [17]) (by kernel_rfl) (by simp) ?_
                      refine AllReadyH.cons (o := _) rfl (fun K hK => ?_) ?_
                      · go_simp
                        refine hK.out _ _ (by (((try dsimp only); (repeat' apply And.intro) <;> (first | assumption | (go_simp; done))))) (fun hHeld => ?_)
                        clear hK K
                        try simp only [Act.put, List.setIfInBounds_toArray, List.set_cons_zero, List.set_cons_succ, List.getElem_toArray, List.getElem_cons_zero, List.getElem_cons_succ]
                        refine wpAnyH_done (by kernel_rfl) ?_ _
                        refine NoPanic.normal ?_
                        go_wp2_with fail
                        go_meet
                        exact ⟨rfl, A9, c9, ROWS9.out _, KR9.out.far (by simp only; omega) _, KG9.out.set 11 _, (KT9.out.far (by simp only; omega) _).cell 1, by simpa using yl, Below.setCell LOW9.out (by simp only; omega) _⟩
                      exact AllReadyH.nil
                    exact AllReadyH.nil
                  exact AllReadyH.nil
                exact AllReadyH.nil
              exact AllReadyH.nil
            exact AllReadyH.nil
          case rest =>
            obtain ⟨rfl, A9, c9, hrow, hkr, hkg, t1, tl, hlow⟩ := hcut
            have HROW2 := hid hrow
            have HKR2 := hid hkr
            have HKG2 := hid hkg
            have HLW2 := hid hlow
            clear hrow hkr hkg hlow
            go_wp2
            go_roundg (K - (qs.length + 1))
            case measure => omega
            case rel => exact ⟨qs.length + 1, q + 4, qs ++ [((l, (T : Int), (C : Int), ()) : QT)], _, by omega, rfl, (by first | rfl | (congr 1; push_cast; omega)), (by first | rfl | (congr 1; push_cast; omega)), by omega, by simp, HST.out, HROW2.out, HKR2.out, HKG2.out, HLW2.out⟩
        · have hbad : rdM m = (2, [], [], [], []) := rdM_q (by rw [hlen]; exact hn) (by rw [HKK.out, HRD.out, show K - qs.length = (K - (qs.length + 1)) + 1 by omega, rdQ_short HRN.out (by rw [hlen]; exact hq4)]) (by decide)
          have HBAD := hid hbad
          have d2 : (n : Int) < (q : Int) + 4 := by omega
          have tkS : True := trivial
          clear hbad
          go_wp2_with (have _t := tkS; refine wpList_store_blk rfl 28 _ _ rfl w.heap.size (msgC hd0 (.slice none 0 0) (.slice none 0 0) (.slice none 0 0) (.slice none 0 0)) rfl rfl KR4.out info_message rfl (by simp [msgC, hd0, Value.oneCell']) ?_; intro w5 kz hg; have KZ5 := hid kz; have LB5 := hid (show Below w.heap.size w w5 from (HLOW.out.trans (LW4.out.mono zw)).grown hg (by have := LW4.out.size; omega) (by intro k hk; cases hk; omega)); clear kz hg tkS)
          (try simp only [Exit.inBlock, Exit.then])
          refine bodyPost_ret (res_mo rfl rfl KZ5.out) rfl (moO_bad HBAD.out (by decide) LB5.out)
      · obtain ⟨E, hE⟩ : ∃ E, (rdN m p).1 = E := ⟨_, rfl⟩
        have hE0 : E ≠ 0 := by rw [← hE]; exact hN
        have HBAD := hid (show rdM m = (E, [], [], [], []) from rdM_q (by rw [hlen]; exact hn) (by rw [HKK.out, HRD.out, show K - qs.length = (K - (qs.length + 1)) + 1 by omega, rdQ_bad hE hE0]) hE0)
        have HE0 := hid hE0
        have CR := hid fun w' (hb : Below wr.heap.size wr w') => rnameAt_bad (HM2.out.later hb) (by omega) hE (P := (p : Int)) rfl
        have hne : (E == 0) = false := beq_eq_false_iff_ne.2 hE0
        clear hE hN hE0
        go_upto_region 10 with (first
          | (go_at_call 12; have _t := tk2; (with_reducible refine (CT0.out _ (by (repeat' (first | (with_reducible exact Below.refl _ _) | (with_reducible assumption) | (with_reducible refine below_ext0 ?_ _ _) | (with_reducible refine below_alloc0 ?_ _) | (with_reducible refine Below.ext ?_ ?_ _ _) | (with_reducible refine Below.alloc ?_ ?_ _) | (with_reducible refine Below.setCell ?_ ?_ _) | (with_reducible refine Below.drew ?_) | (with_reducible refine below_draws ?_ _) | go_size | (simp [size_ext]; done) | (simp [size_ext]; omega))))).mono ?_); rintro e w1 ⟨rfl, hb⟩; obtain ⟨otk2, dtk2, rfl⟩ := ext_of_below hb; clear hb tk2)
          | (go_at_call 13; have _t := tk3; (with_reducible refine (CR.out _ (by (repeat' (first | (with_reducible exact Below.refl _ _) | (with_reducible assumption) | (with_reducible refine below_ext0 ?_ _ _) | (with_reducible refine below_alloc0 ?_ _) | (with_reducible refine Below.ext ?_ ?_ _ _) | (with_reducible refine Below.alloc ?_ ?_ _) | (with_reducible refine Below.setCell ?_ ?_ _) | (with_reducible refine Below.drew ?_) | (with_reducible refine below_draws ?_ _) | go_size | (simp [size_ext]; done) | (simp [size_ext]; omega))))).mono ?_); rintro e w3 ⟨A3, n3, c3, x3, rfl, hb⟩; have LW3 := hid ((show Below wr.heap.size wr _ from (by (repeat' (first | (with_reducible exact Below.refl _ _) | (with_reducible assumption) | (with_reducible refine below_ext0 ?_ _ _) | (with_reducible refine below_alloc0 ?_ _) | (with_reducible refine Below.ext ?_ ?_ _ _) | (with_reducible refine Below.alloc ?_ ?_ _) | (with_reducible refine Below.setCell ?_ ?_ _) | (with_reducible refine Below.drew ?_) | (with_reducible refine below_draws ?_ _) | go_size | (simp [size_ext]; done) | (simp [size_ext]; omega))))).trans (hb.mono (by first | omega | (simp [size_ext]; done) | (simp [size_ext]; omega)))); clear hb tk3))
        obtain ⟨w4, hw4⟩ : ∃ w4, w3.alloc (.cells #[.slice A3 n3 c3, .int .i64 x3, .int .i64 E] 48) = w4 := ⟨_, rfl⟩
        obtain ⟨g4, hg4⟩ : ∃ g4, w3.heap.size = g4 := ⟨_, rfl⟩
        have kt : Blk w4 g4 48 #[.slice A3 n3 c3, .int .i64 x3, .int .i64 E] := by rw [← hw4, ← hg4]; exact Blk.new _ _ _
        have lw4 : Below wr.heap.size wr w4 := by rw [← hw4]; exact LW3.out.alloc LW3.out.size _
        have hz34 : wr.heap.size ≤ g4 := by rw [← hg4]; exact LW3.out.size
        rw [hw4]
        try rw [hg4]
        have kr4 := HKR.out.below lw4 zr
        have zr4 := kr4.lt
        have zt4 := kt.lt
        have T2 : w4.cell? ⟨g4, 2, none⟩ = some (.int .i64 E) := kt.cell 2
        have LW4 := hid lw4
        have KR4 := hid kr4
        have KT4 := hid kt
        clear hw4 hg4 lw4 kr4 kt
        refine wp_region_noPanic ?_
        refine wp_region_held_drew (S := fun w' => w'.cell? ⟨g4, 2, none⟩ = some (.int .i64 E)) (by kernel_rfl) (by (((try dsimp only); (repeat' apply And.intro) <;> (first | assumption | (go_simp; done))))) (fun hHeld => ?_)
        refine wpAnyH_take (i := 0) (oi := _) (v := ?_) rfl (by kernel_rfl) (by kernel_rfl) (by kernel_rfl) (fun _ _ _ h => h) (Or.inl ⟨by rfl, ?_⟩) (by assumption) ?_
        rotate_left
        · (intro w hSw; (try dsimp only at hSw); go_simp; all_goals (with_reducible rfl))
        try simp only [Act.put, List.setIfInBounds_toArray, List.set_cons_zero, List.set_cons_succ, List.getElem_toArray, List.getElem_cons_zero, List.getElem_cons_succ]
        refine wpAnyH_take (i := 1) (oi := _) (v := ?_) rfl (by kernel_rfl) (by kernel_rfl) (by kernel_rfl) (fun _ _ _ h => h) (Or.inl ⟨by rfl, ?_⟩) (by assumption) ?_
        rotate_left
        · (intro w hSw; (try dsimp only at hSw); go_simp; all_goals (with_reducible rfl))
        try simp only [Act.put, List.setIfInBounds_toArray, List.set_cons_zero, List.set_cons_succ, List.getElem_toArray, List.getElem_cons_zero, List.getElem_cons_succ]
        refine wpAnyH_take (i := 2) (oi := _) (v := ?_) rfl (by kernel_rfl) (by kernel_rfl) (by kernel_rfl) (fun _ _ _ h => h) (Or.inl ⟨by rfl, ?_⟩) (by assumption) ?_
        rotate_left
        · (intro w hSw; (try dsimp only at hSw); go_simp; all_goals (with_reducible rfl))
        try simp only [Act.put, List.setIfInBounds_toArray, List.set_cons_zero, List.set_cons_succ, List.getElem_toArray, List.getElem_cons_zero, List.getElem_cons_succ]
        refine wpAnyH_ready (rs := [3]) (by kernel_rfl) (by simp) ?_
        refine AllReadyH.cons (o := _) rfl (fun K hK => ?_) ?_
        · refine step_store_blk rfl 28 _ _ rfl w.heap.size (msgC hd0 (.slice none 0 0) (.slice none 0 0) (.slice none 0 0) (.slice none 0 0)) rfl rfl (by first | exact KR4.out | exact KR4.out.drew) info_message rfl (by simp [msgC, hd0, Value.oneCell']) ?_; intro w5 kz hg1; have hg : w4.grownBy w5 (some w.heap.size) := ⟨hg1.os, hg1.tape, hg1.output, hg1.size, hg1.block⟩; have KZ5 := hid kz; have LB5 := hid (show Below w.heap.size w w5 from (HLOW.out.trans (LW4.out.mono zw)).grown hg (by have := LW4.out.size; omega) (by intro k hk; cases hk; omega)); have y25 : w5.cell? ⟨g4, 2, none⟩ = some (.int .i64 E) := (KT4.out.other hg (by omega)).cell 2; clear kz hg hg1
          refine hK.out _ _ (by (((try dsimp only); (repeat' apply And.intro) <;> (first | assumption | (go_simp; done))))) (fun hHeld => ?_)
          clear hK K
          try simp only [Act.put, List.setIfInBounds_toArray, List.set_cons_zero, List.set_cons_succ, List.getElem_toArray, List.getElem_cons_zero, List.getElem_cons_succ]
          refine wpAnyH_take (i := 4) (oi := _) (v := ?_) rfl (by kernel_rfl) (by kernel_rfl) (by kernel_rfl) (fun _ _ _ h => h) (Or.inl ⟨by rfl, ?_⟩) (by assumption) ?_
          rotate_left
          · (intro w hSw; (try dsimp only at hSw); go_simp; all_goals (with_reducible rfl))
          try simp only [Act.put, List.setIfInBounds_toArray, List.set_cons_zero, List.set_cons_succ, List.getElem_toArray, List.getElem_cons_zero, List.getElem_cons_succ]
          refine wpAnyH_done (by kernel_rfl) ?_ _
          refine NoPanic.normal ?_
          go_wp2_with fail
          (try simp only [Exit.inBlock, Exit.then])
          refine bodyPost_ret (res_mo rfl rfl KZ5.out) rfl (moO_bad HBAD.out HE0.out LB5.out)
        exact AllReadyH.nil
    · as_aux_lemma =>
      have d0 : ¬ (qs.length : Int) < (K : Int) := by omega
      have hq0 : rdQ m (at2 m 4) 12 [] = (0, qs, p) := by rw [HKK.out, HRD.out, show K - qs.length = 0 by omega]; rfl
      have HQ0 := hid hq0
      have hqK : qs.length ≤ 65535 := by omega
      have HRQ := hid (⟨cs, HRO.out, HRR.out, HRF.out⟩ : Row qR 51 wr (w1.heap.size + 1) (.slice AV qs.length cV) qs)
      clear hq0 HRD HRO HRR HRF
      obtain ⟨wq, hwq⟩ : ∃ x, x = wr := ⟨_, rfl⟩
      subst hwq
      go_wp2_with (go_at_call 12; have _t := tk2; (with_reducible refine (CT0.out _ (by (repeat' (first | (with_reducible exact Below.refl _ _) | (with_reducible assumption) | (with_reducible refine below_ext0 ?_ _ _) | (with_reducible refine below_alloc0 ?_ _) | (with_reducible refine Below.ext ?_ ?_ _ _) | (with_reducible refine Below.alloc ?_ ?_ _) | (with_reducible refine Below.setCell ?_ ?_ _) | (with_reducible refine Below.drew ?_) | (with_reducible refine below_draws ?_ _) | go_size | (simp [size_ext]; done) | (simp [size_ext]; omega))))).mono ?_); rintro e w1 ⟨rfl, hb⟩; obtain ⟨otk2, dtk2, rfl⟩ := ext_of_below hb; clear hb tk2)
      go_loopg [5, 8] 3 (fun gk v5 v8 wi => ∃ (i : Nat) (V : Nat → Value) (L : Nat → List RecT) (P : Nat → Nat), i ≤ 3 ∧ gk = 3 - i ∧ v5 = .int .i64 (P i : Int) ∧ v8 = .int .i64 (i : Int) ∧ P i ≤ n ∧ P 0 = p ∧ SecOk m i L P ∧ (∀ j, i ≤ j → V j = .slice none 0 0 ∧ L j = []) ∧ (∀ j, Row recR 53 wi (w1.heap.size + 1) (V j) (L j)) ∧ (∀ j, (L j).length ≤ 65535) ∧ Row qR 51 wi (w1.heap.size + 1) (.slice AV qs.length cV) qs ∧ Blk wi w.heap.size 28 (msgC hd0 (.slice none 0 0) (.slice none 0 0) (.slice none 0 0) (.slice none 0 0)) ∧ Blk wi w1.heap.size 28 (msgC hh (.slice AV qs.length cV) (V 0) (V 1) (V 2)) ∧ Below w.heap.size w wi)
      case atStart =>
        refine ⟨0, fun _ => .slice none 0 0, fun _ => [], fun _ => p, by omega, rfl, rfl, rfl, hp, rfl, fun j hj => absurd hj (by omega), fun _ _ => ⟨rfl, rfl⟩, fun _ => Row.nil _ _ _ _, fun _ => Nat.zero_le _, Row.below near_q HRQ.out (below_ext _ _ _), HKR.out.ext _ _, HKG.out.ext _ _, ?_⟩
        have hlw := HLOW.out
        (repeat' (first | (with_reducible exact Below.refl _ _) | (with_reducible assumption) | (with_reducible refine below_ext0 ?_ _ _) | (with_reducible refine below_alloc0 ?_ _) | (with_reducible refine Below.ext ?_ ?_ _ _) | (with_reducible refine Below.alloc ?_ ?_ _) | (with_reducible refine Below.setCell ?_ ?_ _) | (with_reducible refine Below.drew ?_) | (with_reducible refine below_draws ?_ _) | go_size | (simp [size_ext]; done) | (simp [size_ext]; omega)))
      case round =>
        obtain ⟨i, V, L, P, hi, rfl, rfl, rfl, hpn, hP0, hsec, hvn, hrows, hlens, hrq, hkr, hkg, hlow⟩ := hrel
        obtain ⟨w2, hw2⟩ : ∃ x, x = wr := ⟨_, rfl⟩
        subst hw2
        have HSEC := hid hsec
        have HVN := hid hvn
        have HROWS := hid hrows
        have HLENS := hid hlens
        have HRQ2 := hid hrq
        have HKR2 := hid hkr
        have HKG2 := hid hkg
        have HLOW2 := hid hlow
        have HP0 := hid hP0
        have zg2 := hkg.lt
        have zr2 := hkr.lt
        have zw2 := hlow.size
        clear hsec hvn hrows hlens hrq hkr hkg hlow hP0
        by_cases hi3 : i < 3
        · as_aux_lemma =>
          have s0 : (i : Int) < 3 := by omega
          obtain ⟨N, hN⟩ : ∃ N, at2 m (6 + 2 * i) = N := ⟨_, rfl⟩
          have hN5 : N ≤ 65535 := by rw [← hN]; exact at2_le _ _
          have HM3 := hid (HM.out.later HLOW2.out)
          have CT3 := hid fun w' (hb : Below w2.heap.size w2 w') => rpair_at (HM3.out.later hb) (6 + 2 * i) (x := 6 + 2 * (i : Int)) (by omega) (by omega) hN
          have HNN := hid hN
          clear hN
          have v1 : IntKind.i64.wrap (2 * (i : Int)) = 2 * (i : Int) := IntWalk.i64_in _ (by omega)
          have v2 : IntKind.i64.wrap (6 + 2 * (i : Int)) = 6 + 2 * (i : Int) := IntWalk.i64_in _ (by omega)
          have v3 : IntKind.i64.wrap ((i : Int) + 1) = (i : Int) + 1 := IntWalk.i64_in _ (by omega)
          go_wp2
          go_loopg [5, 9, 10] N (fun gk v5 v9 v10 wi => ∃ (j p' : Nat) (U : Value) (rs : List RecT), j ≤ N ∧ gk = N - j ∧ v5 = .int .i64 (p' : Int) ∧ v9 = U ∧ v10 = .int .i64 (j : Int) ∧ p' ≤ n ∧ rs.length = j ∧ rdR m N (P i) [] = rdR m (N - j) p' rs ∧ Row recR 53 wi w2.heap.size U rs ∧ Below w2.heap.size w2 wi)
          case atStart => exact ⟨0, P i, .slice none 0 0, [], Nat.zero_le _, rfl, rfl, rfl, rfl, hpn, rfl, rfl, Row.nil _ _ _ _, Below.refl _ _⟩
          case round =>
            obtain ⟨j, p', U, rs, hj, rfl, rfl, rfl, rfl, hp', hrl, hrd, hrow, hb3⟩ := hrel
            obtain ⟨AU, cU, rfl⟩ := hrow.slice
            obtain ⟨us, hrowo, hrowr, hrowf⟩ := hrow
            have HRD3 := hid hrd
            have HRO3 := hid hrowo
            have HRR3 := hid hrowr
            have HRF3 := hid hrowf
            have HB3 := hid hb3
            have HLOW3 := hid (HLOW2.out.trans (hb3.mono zw2))
            have HKR3 := hid (HKR2.out.below hb3 zr2)
            have zb3 := hb3.size
            have zw3 : w.heap.size ≤ wr.heap.size := by omega
            have zr3 : w.heap.size < wr.heap.size := by omega
            have CT4 := hid fun w' (hb : Below wr.heap.size wr w') => CT3.out w' (HB3.out.trans (hb.mono HB3.out.size))
            clear hrowo hrowr hrowf hb3 hrd
            subst hrl
            by_cases hjN : rs.length < N
            · as_aux_lemma =>
              have t0 : (rs.length : Int) < (N : Int) := by omega
              have HM4 := hid (HM.out.later HLOW3.out)
              have hstep : N - rs.length = (N - (rs.length + 1)) + 1 := by omega
              by_cases hR : (rrF m p').1 = 0
              · obtain ⟨l, q, en, hrr, hne, h1, h2, h3⟩ := rrF_nat hR
                obtain ⟨l', T, C, LL, D, _, hrec⟩ : ∃ l' T C LL D u, recOf m l q en = (l', T, C, LL, D, u) := ⟨_, _, _, _, _, _, rfl⟩
                obtain rfl : l' = l := by have := congrArg (·.1) hrec; exact this.symm
                obtain ⟨k, hk⟩ : ∃ k, l'.length = k := ⟨_, rfl⟩
                obtain ⟨nd, hd⟩ : ∃ nd, D.length = nd := ⟨_, rfl⟩
                have CR := hid fun w' (hb : Below wr.heap.size wr w') => recAt_ok (HM4.out.later hb) (at_ := (p' : Int)) (by omega) hrr hk hrec hd
                have HST := hid (show rdR m N (P i) [] = rdR m (N - (rs.length + 1)) en (rs ++ [((l', T, C, LL, D, ()) : RecT)]) by rw [HRD3.out, hstep, rdR_step hrr, hrec])
                have hi64 : I64 T ∧ I64 C ∧ I64 LL := by
                  have z1 := at2_le m q
                  have z2 := at2_le m (q + 2)
                  have z3 := at2_le m (q + 4)
                  have z4 := at2_le m (q + 6)
                  unfold recOf at hrec
                  simp only [Prod.mk.injEq] at hrec
                  obtain ⟨_, e1, e2, e3, _⟩ := hrec
                  unfold I64
                  omega
                have HI := hid hi64
                have hen : en ≤ n := by omega
                clear hR hrr hne hrec hi64 h1 h2 h3 hstep hk hd
                have w4' : IntKind.i64.wrap ((rs.length : Int) + 1) = (rs.length : Int) + 1 := IntWalk.i64_in _ (by omega)
                go_upto_region 23 with (first
                  | (go_at_call 12; have _t := tk7; (with_reducible refine (CT4.out _ (by (repeat' (first | (with_reducible exact Below.refl _ _) | (with_reducible assumption) | (with_reducible refine below_ext0 ?_ _ _) | (with_reducible refine below_alloc0 ?_ _) | (with_reducible refine Below.ext ?_ ?_ _ _) | (with_reducible refine Below.alloc ?_ ?_ _) | (with_reducible refine Below.setCell ?_ ?_ _) | (with_reducible refine Below.drew ?_) | (with_reducible refine below_draws ?_ _) | go_size | (simp [size_ext]; done) | (simp [size_ext]; omega))))).mono ?_); rintro e w1 ⟨rfl, hb⟩; obtain ⟨otk7, dtk7, rfl⟩ := ext_of_below hb; clear hb tk7)
                  | (go_at_call 14; have _t := tk8; (with_reducible refine (CR.out _ (by (repeat' (first | (with_reducible exact Below.refl _ _) | (with_reducible assumption) | (with_reducible refine below_ext0 ?_ _ _) | (with_reducible refine below_alloc0 ?_ _) | (with_reducible refine Below.ext ?_ ?_ _ _) | (with_reducible refine Below.alloc ?_ ?_ _) | (with_reducible refine Below.setCell ?_ ?_ _) | (with_reducible refine Below.drew ?_) | (with_reducible refine below_draws ?_ _) | go_size | (simp [size_ext]; done) | (simp [size_ext]; omega))))).mono ?_); rintro e w3 ⟨A3, c3, A4, c4, rfl, ⟨hr, hs⟩, hb⟩; have LW3 := hid ((show Below wr.heap.size wr _ from (by (repeat' (first | (with_reducible exact Below.refl _ _) | (with_reducible assumption) | (with_reducible refine below_ext0 ?_ _ _) | (with_reducible refine below_alloc0 ?_ _) | (with_reducible refine Below.ext ?_ ?_ _ _) | (with_reducible refine Below.alloc ?_ ?_ _) | (with_reducible refine Below.setCell ?_ ?_ _) | (with_reducible refine Below.drew ?_) | (with_reducible refine below_draws ?_ _) | go_size | (simp [size_ext]; done) | (simp [size_ext]; omega))))).trans (hb.mono (by first | omega | (simp [size_ext]; done) | (simp [size_ext]; omega)))); have R3 := hid hr; have S3 := hid hs; clear hb hr hs tk8))
                obtain ⟨w4, hw4⟩ : ∃ w4, w3.alloc (.cells #[.slice A3 k c3, .int .i64 T, .int .i64 C, .int .i64 LL, .slice A4 nd c4, .int .i64 ((q : Int) + 4), .int .i64 (en : Int), .int .i64 0] 55) = w4 := ⟨_, rfl⟩
                obtain ⟨g4, hg4⟩ : ∃ g4, w3.heap.size = g4 := ⟨_, rfl⟩
                have kt : Blk w4 g4 55 #[.slice A3 k c3, .int .i64 T, .int .i64 C, .int .i64 LL, .slice A4 nd c4, .int .i64 ((q : Int) + 4), .int .i64 (en : Int), .int .i64 0] := by rw [← hw4, ← hg4]; exact Blk.new _ _ _
                have lw4 : Below wr.heap.size wr w4 := by rw [← hw4]; exact LW3.out.alloc LW3.out.size _
                have hz34 : wr.heap.size ≤ g4 := by rw [← hg4]; exact LW3.out.size
                have R4 := hid (show Rd strR w4 w4.heap.size A3 k c3 l' by rw [← hw4]; exact R3.out.later ((Below.refl _ _).alloc (Nat.le_refl _) _))
                have S4 := hid (show Rd u8R w4 w4.heap.size A4 nd c4 D by rw [← hw4]; exact S3.out.later ((Below.refl _ _).alloc (Nat.le_refl _) _))
                rw [hw4]
                try rw [hg4]
                have zt4 := kt.lt
                have T0 : w4.cell? ⟨g4, 0, none⟩ = some (.slice A3 k c3) := kt.cell 0
                have T1 : w4.cell? ⟨g4, 1, none⟩ = some (.int .i64 T) := kt.cell 1
                have T2 : w4.cell? ⟨g4, 2, none⟩ = some (.int .i64 C) := kt.cell 2
                have T3 : w4.cell? ⟨g4, 3, none⟩ = some (.int .i64 LL) := kt.cell 3
                have T4 : w4.cell? ⟨g4, 4, none⟩ = some (.slice A4 nd c4) := kt.cell 4
                have T6 : w4.cell? ⟨g4, 6, none⟩ = some (.int .i64 (en : Int)) := kt.cell 6
                have T7 : w4.cell? ⟨g4, 7, none⟩ = some (.int .i64 0) := kt.cell 7
                have LW4 := hid lw4
                have KT4 := hid kt
                clear hw4 hg4 lw4 kt
                have ab3 : (rs.length + 1) * 72 ≤ 140737488355328 := by omega
                have ab4 : rs.length + 1 ≤ maxLen := by unfold maxLen; omega
                have hVo := hid (fun g (hg : (Value.slice AU rs.length cU).ownBlock = some g) => HRO3.out.lt g hg)
                have tkR : True := trivial
                go_wp2_with (first | (have _t := tkR; refine wpList_buildRec rfl (.tmp 85) rfl (.slice A3 k c3) (.int .i64 T) (.int .i64 C) (.int .i64 LL) (.slice A4 nd c4) rfl ?_; clear tkR) | (at_builtin; go_must (refine wpList_row near_rec el_r zr_d HRO3.out HRR3.out HRF3.out ((l', T, C, LL, D, ()) : RecT) [.slice A3 k c3, .int .i64 T, .int .i64 C, .int .i64 LL, .slice A4 nd c4] rfl _ _ rfl rfl rfl (by have lw4 := LW4.out; have lz4 := LW4.out.size; (repeat' (first | (with_reducible exact Below.refl _ _) | (with_reducible assumption) | (with_reducible refine below_ext0 ?_ _ _) | (with_reducible refine below_alloc0 ?_ _) | (with_reducible refine Below.ext ?_ ?_ _ _) | (with_reducible refine Below.alloc ?_ ?_ _) | (with_reducible refine Below.setCell ?_ ?_ _) | (with_reducible refine Below.drew ?_) | (with_reducible refine below_draws ?_ _) | go_size | (simp [size_ext]; done) | (simp [size_ext]; omega)))) (src_blk (m := 1) (size := 5) (t := 53) (cs := #[.slice A3 k c3, .int .i64 T, .int .i64 C, .int .i64 LL, .slice A4 nd c4]) (Blk.new' _ _ (by first | rfl | (simp [size_ext]; done) | (simp [size_ext]; omega))) rfl (by simp [Value.oneCell'])) (rel_r (R4.out.later (by (repeat' (first | (with_reducible exact Below.refl _ _) | (with_reducible assumption) | (with_reducible refine below_ext0 ?_ _ _) | (with_reducible refine below_alloc0 ?_ _) | (with_reducible refine Below.ext ?_ ?_ _ _) | (with_reducible refine Below.alloc ?_ ?_ _) | (with_reducible refine Below.setCell ?_ ?_ _) | (with_reducible refine Below.drew ?_) | (with_reducible refine below_draws ?_ _) | go_size | (simp [size_ext]; done) | (simp [size_ext]; omega))))) HI.out.1 HI.out.2.1 HI.out.2.2 (S4.out.later (by (repeat' (first | (with_reducible exact Below.refl _ _) | (with_reducible assumption) | (with_reducible refine below_ext0 ?_ _ _) | (with_reducible refine below_alloc0 ?_ _) | (with_reducible refine Below.ext ?_ ?_ _ _) | (with_reducible refine Below.alloc ?_ ?_ _) | (with_reducible refine Below.setCell ?_ ?_ _) | (with_reducible refine Below.drew ?_) | (with_reducible refine below_draws ?_ _) | go_size | (simp [size_ext]; done) | (simp [size_ext]; omega)))))) (by simp [not_d_slice, not_d_int]) ab3 ab4 (by omega) ?_; intro v9 w9 row9 ha9; have kt9 : Blk w9 g4 55 #[.slice A3 k c3, .int .i64 T, .int .i64 C, .int .i64 LL, .slice A4 nd c4, .int .i64 ((q : Int) + 4), .int .i64 (en : Int), .int .i64 0] := blk_app2 ha9 (by have := KT4.out; ((repeat' (first | (with_reducible assumption) | (with_reducible refine Blk.drew ?_) | exact Blk.new' _ _ (by first | rfl | (simp [size_ext]; done) | (simp [size_ext]; omega)) | (with_reducible refine Blk.ext ?_ _ _) | (with_reducible refine Blk.alloc ?_ _))); (all_goals fail))) (fun e => by have := (hVo.out _ e).2; omega); have y6 : w9.cell? ⟨g4, 6, none⟩ = some (.int .i64 (en : Int)) := kt9.cell 6; have LOW9 := hid (app_low HRO3.out ha9 (by have lw4 := LW4.out; have lz4 := LW4.out.size; (repeat' (first | (with_reducible exact Below.refl _ _) | (with_reducible assumption) | (with_reducible refine below_ext0 ?_ _ _) | (with_reducible refine below_alloc0 ?_ _) | (with_reducible refine Below.ext ?_ ?_ _ _) | (with_reducible refine Below.alloc ?_ ?_ _) | (with_reducible refine Below.setCell ?_ ?_ _) | (with_reducible refine Below.drew ?_) | (with_reducible refine below_draws ?_ _) | go_size | (simp [size_ext]; done) | (simp [size_ext]; omega)))) HB3.out (Nat.le_refl _) zb3); have ROW9 := hid row9; clear ha9 row9 kt9)))
                go_roundg (N - (rs.length + 1))
                case measure => omega
                case rel => exact ⟨rs.length + 1, en, v9, rs ++ [((l', T, C, LL, D, ()) : RecT)], by omega, rfl, rfl, rfl, (by first | rfl | (congr 1; push_cast; omega)), hen, by simp, HST.out, ROW9.out, LOW9.out⟩
              · as_aux_lemma =>
                  obtain ⟨E, hE⟩ : ∃ E, (rrF m p').1 = E := ⟨_, rfl⟩
                  have hE0 : E ≠ 0 := by rw [← hE]; exact hR
                  have HBAD := hid (show rdM m = (E, [], [], [], []) from rdM_sec (by rw [hlen]; exact hn) (by rw [HP0.out]; exact HQ0.out) HSEC.out hi3 (by rw [HNN.out, HRD3.out, hstep, rdR_bad hE hE0]) hE0)
                  have HE0 := hid hE0
                  have CR := hid fun w' (hb : Below wr.heap.size wr w') => recAt_bad (HM4.out.later hb) (at_ := (p' : Int)) (by omega) hE hE0
                  have hne : (E == 0) = false := beq_eq_false_iff_ne.2 hE0
                  clear hE hR hE0
                  go_upto_region 24 with (first
                    | (go_at_call 12; have _t := tk7; (with_reducible refine (CT4.out _ (by (repeat' (first | (with_reducible exact Below.refl _ _) | (with_reducible assumption) | (with_reducible refine below_ext0 ?_ _ _) | (with_reducible refine below_alloc0 ?_ _) | (with_reducible refine Below.ext ?_ ?_ _ _) | (with_reducible refine Below.alloc ?_ ?_ _) | (with_reducible refine Below.setCell ?_ ?_ _) | (with_reducible refine Below.drew ?_) | (with_reducible refine below_draws ?_ _) | go_size | (simp [size_ext]; done) | (simp [size_ext]; omega))))).mono ?_); rintro e w1 ⟨rfl, hb⟩; obtain ⟨otk7, dtk7, rfl⟩ := ext_of_below hb; clear hb tk7)
                    | (go_at_call 14; have _t := tk8; (with_reducible refine (CR.out _ (by (repeat' (first | (with_reducible exact Below.refl _ _) | (with_reducible assumption) | (with_reducible refine below_ext0 ?_ _ _) | (with_reducible refine below_alloc0 ?_ _) | (with_reducible refine Below.ext ?_ ?_ _ _) | (with_reducible refine Below.alloc ?_ ?_ _) | (with_reducible refine Below.setCell ?_ ?_ _) | (with_reducible refine Below.drew ?_) | (with_reducible refine below_draws ?_ _) | go_size | (simp [size_ext]; done) | (simp [size_ext]; omega))))).mono ?_); rintro e w3 ⟨rfl, hb⟩; have LW3 := hid ((show Below wr.heap.size wr _ from (by (repeat' (first | (with_reducible exact Below.refl _ _) | (with_reducible assumption) | (with_reducible refine below_ext0 ?_ _ _) | (with_reducible refine below_alloc0 ?_ _) | (with_reducible refine Below.ext ?_ ?_ _ _) | (with_reducible refine Below.alloc ?_ ?_ _) | (with_reducible refine Below.setCell ?_ ?_ _) | (with_reducible refine Below.drew ?_) | (with_reducible refine below_draws ?_ _) | go_size | (simp [size_ext]; done) | (simp [size_ext]; omega))))).trans (hb.mono (by first | omega | (simp [size_ext]; done) | (simp [size_ext]; omega)))); clear hb tk8))
                  obtain ⟨w4, hw4⟩ : ∃ w4, w3.alloc (.cells #[.slice none 0 0, .int .i64 0, .int .i64 0, .int .i64 0, .slice none 0 0, .int .i64 0, .int .i64 0, .int .i64 E] 55) = w4 := ⟨_, rfl⟩
                  obtain ⟨g4, hg4⟩ : ∃ g4, w3.heap.size = g4 := ⟨_, rfl⟩
                  have kt : Blk w4 g4 55 #[.slice none 0 0, .int .i64 0, .int .i64 0, .int .i64 0, .slice none 0 0, .int .i64 0, .int .i64 0, .int .i64 E] := by rw [← hw4, ← hg4]; exact Blk.new _ _ _
                  have lw4 : Below wr.heap.size wr w4 := by rw [← hw4]; exact LW3.out.alloc LW3.out.size _
                  have hz34 : wr.heap.size ≤ g4 := by rw [← hg4]; exact LW3.out.size
                  rw [hw4]
                  try rw [hg4]
                  have kr4 := HKR3.out.below lw4 zr3
                  have zr4 := kr4.lt
                  have zt4 := kt.lt
                  have T7 : w4.cell? ⟨g4, 7, none⟩ = some (.int .i64 E) := kt.cell 7
                  have LW4 := hid lw4
                  have KR4 := hid kr4
                  have KT4 := hid kt
                  clear hw4 hg4 lw4 kr4 kt
                  refine wp_region_noPanic ?_
                  refine wp_region_held_drew (S := fun w' => w'.cell? ⟨g4, 7, none⟩ = some (.int .i64 E)) (by kernel_rfl) (by (((try dsimp only); (repeat' apply And.intro) <;> (first | assumption | (go_simp; done))))) (fun hHeld => ?_)
                  refine wpAnyH_take (i := 0) (oi := _) (v := ?_) rfl (by kernel_rfl) (by kernel_rfl) (by kernel_rfl) (fun _ _ _ h => h) (Or.inl ⟨by rfl, ?_⟩) (by assumption) ?_
                  rotate_left
                  · (intro w hSw; (try dsimp only at hSw); go_simp; all_goals (with_reducible rfl))
                  try simp only [Act.put, List.setIfInBounds_toArray, List.set_cons_zero, List.set_cons_succ, List.getElem_toArray, List.getElem_cons_zero, List.getElem_cons_succ]
                  refine wpAnyH_take (i := 1) (oi := _) (v := ?_) rfl (by kernel_rfl) (by kernel_rfl) (by kernel_rfl) (fun _ _ _ h => h) (Or.inl ⟨by rfl, ?_⟩) (by assumption) ?_
                  rotate_left
                  · (intro w hSw; (try dsimp only at hSw); go_simp; all_goals (with_reducible rfl))
                  try simp only [Act.put, List.setIfInBounds_toArray, List.set_cons_zero, List.set_cons_succ, List.getElem_toArray, List.getElem_cons_zero, List.getElem_cons_succ]
                  refine wpAnyH_take (i := 2) (oi := _) (v := ?_) rfl (by kernel_rfl) (by kernel_rfl) (by kernel_rfl) (fun _ _ _ h => h) (Or.inl ⟨by rfl, ?_⟩) (by assumption) ?_
                  rotate_left
                  · (intro w hSw; (try dsimp only at hSw); go_simp; all_goals (with_reducible rfl))
                  try simp only [Act.put, List.setIfInBounds_toArray, List.set_cons_zero, List.set_cons_succ, List.getElem_toArray, List.getElem_cons_zero, List.getElem_cons_succ]
                  refine wpAnyH_ready (rs := [3]) (by kernel_rfl) (by simp) ?_
                  refine AllReadyH.cons (o := _) rfl (fun K hK => ?_) ?_
                  · refine step_store_blk rfl 28 _ _ rfl w.heap.size (msgC hd0 (.slice none 0 0) (.slice none 0 0) (.slice none 0 0) (.slice none 0 0)) rfl rfl (by first | exact KR4.out | exact KR4.out.drew) info_message rfl (by simp [msgC, hd0, Value.oneCell']) ?_; intro w5 kz hg1; have hg : w4.grownBy w5 (some w.heap.size) := ⟨hg1.os, hg1.tape, hg1.output, hg1.size, hg1.block⟩; have KZ5 := hid kz; have LB5 := hid (show Below w.heap.size w w5 from (HLOW3.out.trans (LW4.out.mono zw3)).grown hg (by have := LW4.out.size; omega) (by intro k hk; cases hk; omega)); have y25 : w5.cell? ⟨g4, 7, none⟩ = some (.int .i64 E) := (KT4.out.other hg (by omega)).cell 7; clear kz hg hg1
                    refine hK.out _ _ (by (((try dsimp only); (repeat' apply And.intro) <;> (first | assumption | (go_simp; done))))) (fun hHeld => ?_)
                    clear hK K
                    try simp only [Act.put, List.setIfInBounds_toArray, List.set_cons_zero, List.set_cons_succ, List.getElem_toArray, List.getElem_cons_zero, List.getElem_cons_succ]
                    refine wpAnyH_take (i := 4) (oi := _) (v := ?_) rfl (by kernel_rfl) (by kernel_rfl) (by kernel_rfl) (fun _ _ _ h => h) (Or.inl ⟨by rfl, ?_⟩) (by assumption) ?_
                    rotate_left
                    · (intro w hSw; (try dsimp only at hSw); go_simp; all_goals (with_reducible rfl))
                    try simp only [Act.put, List.setIfInBounds_toArray, List.set_cons_zero, List.set_cons_succ, List.getElem_toArray, List.getElem_cons_zero, List.getElem_cons_succ]
                    refine wpAnyH_done (by kernel_rfl) ?_ _
                    refine NoPanic.normal ?_
                    go_wp2_with fail
                    (try simp only [Exit.inBlock, Exit.then])
                    refine bodyPost_ret (res_mo rfl rfl KZ5.out) rfl (moO_bad HBAD.out HE0.out LB5.out)
                  exact AllReadyH.nil
            · as_aux_lemma =>
              have t0 : ¬ (rs.length : Int) < (N : Int) := by omega
              have hq3 : rdR m (at2 m (6 + 2 * i)) (P i) [] = (0, rs, p') := by rw [HNN.out, HRD3.out, show N - rs.length = 0 by omega]; rfl
              have HQ3 := hid hq3
              have HROW3 := hid (Row.less ⟨us, HRO3.out, HRR3.out, HRF3.out⟩ (show w1.heap.size + 1 ≤ w2.heap.size by omega) : Row recR 53 wr (w1.heap.size + 1) (.slice AU rs.length cU) rs)
              clear hq3 HRO3 HRR3 HRF3
              go_upto_region 27 with (go_at_call 12; have _t := tk7; (with_reducible refine (CT4.out _ (by (repeat' (first | (with_reducible exact Below.refl _ _) | (with_reducible assumption) | (with_reducible refine below_ext0 ?_ _ _) | (with_reducible refine below_alloc0 ?_ _) | (with_reducible refine Below.ext ?_ ?_ _ _) | (with_reducible refine Below.alloc ?_ ?_ _) | (with_reducible refine Below.setCell ?_ ?_ _) | (with_reducible refine Below.drew ?_) | (with_reducible refine below_draws ?_ _) | go_size | (simp [size_ext]; done) | (simp [size_ext]; omega))))).mono ?_); rintro e w1 ⟨rfl, hb⟩; obtain ⟨otk7, dtk7, rfl⟩ := ext_of_below hb; clear hb tk7)
              obtain ⟨w5, hw5⟩ : ∃ w5, ext wr otk7 dtk7 = w5 := ⟨_, rfl⟩
              have lw5 : Below wr.heap.size wr w5 := by rw [← hw5]; exact below_ext _ _ _
              rw [hw5]
              have lb5 : Below w2.heap.size w2 w5 := HB3.out.trans (lw5.mono zb3)
              have kg5 := HKG2.out.below lb5 zg2
              have HKR5 := hid (HKR2.out.below lb5 zr2)
              have HLOW5 := hid (HLOW2.out.trans (lb5.mono zw2))
              have HROW5 := hid (Row.below near_rec HROW3.out lw5)
              have HRQ5 := hid (Row.below near_q HRQ2.out lb5)
              have HROWS5 := hid (fun j => Row.below near_rec (HROWS.out j) lb5)
              have HFREE := hid (FreeB.grown_msg kg5 (not_d_slice _ _ _) (by obtain ⟨A', c', e⟩ := (HROWS.out 0).slice; rw [e]; exact not_d_slice _ _ _) (by obtain ⟨A', c', e⟩ := (HROWS.out 1).slice; rw [e]; exact not_d_slice _ _ _) (by obtain ⟨A', c', e⟩ := (HROWS.out 2).slice; rw [e]; exact not_d_slice _ _ _))
              have HKG5 := hid kg5
              have zg5 := kg5.lt
              have zr5 : w.heap.size < w1.heap.size := KR1.out.lt
              have y12 : w5.cell? ⟨w1.heap.size, 12, none⟩ = some (V 0) := kg5.cell 12
              have y13 : w5.cell? ⟨w1.heap.size, 13, none⟩ = some (V 1) := kg5.cell 13
              have y14 : w5.cell? ⟨w1.heap.size, 14, none⟩ = some (V 2) := kg5.cell 14
              have f12 : w5.frozen? ⟨w1.heap.size, 12, none⟩ = false := kg5.frozen 12
              have f13 : w5.frozen? ⟨w1.heap.size, 13, none⟩ = false := kg5.frozen 13
              have f14 : w5.frozen? ⟨w1.heap.size, 14, none⟩ = false := kg5.frozen 14
              have hway : (i = 0 ∧ ((i : Int) == 0) = true) ∨ (i = 1 ∧ ((i : Int) == 0) = false ∧ ((i : Int) == 1) = true) ∨ (i = 2 ∧ ((i : Int) == 0) = false ∧ ((i : Int) == 1) = false) := by
                obtain rfl | rfl | rfl : i = 0 ∨ i = 1 ∨ i = 2 := by omega
                · exact .inl ⟨rfl, rfl⟩
                · exact .inr (.inl ⟨rfl, rfl, rfl⟩)
                · exact .inr (.inr ⟨rfl, rfl, rfl⟩)
              clear hw5 lw5 lb5 kg5
              rcases hway with ⟨hi0, e0⟩ | ⟨hi0, e0, e1⟩ | ⟨hi0, e0, e1⟩
              all_goals
                have HI0 := hid hi0
                clear hi0
                go_wp2_with fail
                go_roundg (3 - (i + 1))
                case measure => omega
                case rel =>
                  obtain rfl := HI0.out
                  exact sec_next hi3 hp' HP0.out HSEC.out HQ3.out HVN.out HROWS5.out HLENS.out HRQ5.out HKR5.out zr5 HKG5.out HLOW5.out HROW5.out (by omega)
        · as_aux_lemma =>
          have s0 : ¬ (i : Int) < 3 := by omega
          obtain rfl : i = 3 := by omega
          have hfin := rdM_fin (m := m) (L := L) (P := P) (qs := qs) (by rw [hlen]; exact hn) (by rw [HP0.out]; exact HQ0.out) HSEC.out
          rw [hlen] at hfin
          have tkS : True := trivial
          by_cases he : P 3 < n
          · have t0 : (P 3 : Int) < (n : Int) := by omega
            rw [if_pos he] at hfin
            have HFIN := hid hfin
            clear hfin
            go_wp2_with (have _t := tkS; refine wpList_store_blk rfl 28 _ _ rfl w.heap.size (msgC hd0 (.slice none 0 0) (.slice none 0 0) (.slice none 0 0) (.slice none 0 0)) rfl rfl HKR2.out info_message rfl (by simp [msgC, hd0, Value.oneCell']) ?_; intro w5 kz hg; have KZ5 := hid kz; have LB5 := hid (show Below w.heap.size w w5 from HLOW2.out.grown hg (by omega) (by intro k hk; cases hk; omega)); clear kz hg tkS)
            (try simp only [Exit.inBlock, Exit.then])
            refine bodyPost_ret (res_mo rfl rfl KZ5.out) rfl (moO_bad HFIN.out (by decide) LB5.out)
          · have t0 : ¬ (P 3 : Int) < (n : Int) := by omega
            rw [if_neg he] at hfin
            have HFIN := hid hfin
            clear hfin
            obtain ⟨A0, c0, hV0⟩ := (HROWS.out 0).slice
            obtain ⟨A1, c1, hV1⟩ := (HROWS.out 1).slice
            obtain ⟨A2, c2, hV2⟩ := (HROWS.out 2).slice
            obtain ⟨n0, hn0⟩ : ∃ n0, (L 0).length = n0 := ⟨_, rfl⟩
            obtain ⟨n1, hn1⟩ : ∃ n1, (L 1).length = n1 := ⟨_, rfl⟩
            obtain ⟨n2, hn2⟩ : ∃ n2, (L 2).length = n2 := ⟨_, rfl⟩
            have r0 := HROWS.out 0
            have r1 := HROWS.out 1
            have r2 := HROWS.out 2
            have l0 := HLENS.out 0
            have l1 := HLENS.out 1
            have l2 := HLENS.out 2
            have kg2 := HKG2.out
            rw [hV0, hn0, hV1, hn1, hV2, hn2] at kg2
            rw [hV0, hn0] at r0
            rw [hV1, hn1] at r1
            rw [hV2, hn2] at r2
            rw [hn0] at l0
            rw [hn1] at l1
            rw [hn2] at l2
            have HK := hid kg2
            have HR0 := hid r0
            have HR1 := hid r1
            have HR2 := hid r2
            have HN := hid (And.intro hn0 (And.intro hn1 hn2))
            have zr5 : w.heap.size < w1.heap.size := KR1.out.lt
            clear kg2 r0 r1 r2 hV0 hV1 hV2 hn0 hn1 hn2
            have k0 : (w2).cell? ⟨w1.heap.size, 0, none⟩ = some (.int .i64 hh.id) := (HK.out).cell 0; have k1 : (w2).cell? ⟨w1.heap.size, 1, none⟩ = some (.bool hh.an) := (HK.out).cell 1; have k2 : (w2).cell? ⟨w1.heap.size, 2, none⟩ = some (.int .i64 hh.op) := (HK.out).cell 2; have k3 : (w2).cell? ⟨w1.heap.size, 3, none⟩ = some (.bool hh.aa) := (HK.out).cell 3; have k4 : (w2).cell? ⟨w1.heap.size, 4, none⟩ = some (.bool hh.tc) := (HK.out).cell 4; have k5 : (w2).cell? ⟨w1.heap.size, 5, none⟩ = some (.bool hh.rd) := (HK.out).cell 5; have k6 : (w2).cell? ⟨w1.heap.size, 6, none⟩ = some (.bool hh.ra) := (HK.out).cell 6; have k7 : (w2).cell? ⟨w1.heap.size, 7, none⟩ = some (.bool hh.z) := (HK.out).cell 7; have k8 : (w2).cell? ⟨w1.heap.size, 8, none⟩ = some (.bool hh.ad) := (HK.out).cell 8; have k9 : (w2).cell? ⟨w1.heap.size, 9, none⟩ = some (.bool hh.cd) := (HK.out).cell 9; have k10 : (w2).cell? ⟨w1.heap.size, 10, none⟩ = some (.int .i64 hh.code) := (HK.out).cell 10; have k11 : (w2).cell? ⟨w1.heap.size, 11, none⟩ = some (.slice AV qs.length cV) := (HK.out).cell 11; have k12 : (w2).cell? ⟨w1.heap.size, 12, none⟩ = some (.slice A0 n0 c0) := (HK.out).cell 12; have k13 : (w2).cell? ⟨w1.heap.size, 13, none⟩ = some (.slice A1 n1 c1) := (HK.out).cell 13; have k14 : (w2).cell? ⟨w1.heap.size, 14, none⟩ = some (.slice A2 n2 c2) := (HK.out).cell 14
            go_wp2_with (have _t := tkS; refine wpList_store_blk rfl 28 _ _ rfl w.heap.size (msgC hh (.slice AV qs.length cV) (.slice A0 n0 c0) (.slice A1 n1 c1) (.slice A2 n2 c2)) rfl rfl HKR2.out info_message rfl (by simp [msgC, Value.oneCell']) ?_; intro w5 kz hg; have KZ5 := hid kz; have HG5 := hid hg; clear kz hg tkS)
            (try simp only [Exit.inBlock, Exit.then])
            refine bodyPost_ret (res_mo rfl rfl KZ5.out) rfl (moO_ok HFIN.out HHE.out HG5.out HKR2.out HRQ2.out HR0.out HN.out.1 HR1.out HN.out.2.1 HR2.out HN.out.2.2 hqK l0 l1 l2 HLOW2.out (show w.heap.size < w1.heap.size + 1 by omega) (by omega))
end Go.Proofs.YthccknobnpbdeaaDoor
