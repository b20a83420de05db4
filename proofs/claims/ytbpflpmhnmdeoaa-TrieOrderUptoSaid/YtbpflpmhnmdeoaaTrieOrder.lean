/- TrieOrder is true of every input of at most 1048576 values in all: values for unlike bits, put in two orders, are told alike; what is told is for bits that the address begins with, and none of those that were put for more of its bits. Condition: the bound on what comes in. -/
import Derived.Test.YtbpflpmhnmdeoaaTrieOrderA
import Derived.OpenShut
import Derived.JoinedCond
namespace Go.Proofs.Ytbpflpmhnmdeoaa
open Go.ChangeShapes Go.WideShapes Go.ChangeAt Go.RowKit
set_option linter.unusedVariables false
namespace trieOrder

set_option maxRecDepth 100000 in
set_option maxHeartbeats 8000000 in
theorem walkUpto (w : World) (A1 : Option Addr) (n1 c1 : Nat) (ads : List (List UInt8)) (h1 : Rd (sliceR u8R) w w.heap.size A1 n1 c1 ads) (A2 : Option Addr) (n2 c2 : Nat) (ns : List Int) (h2 : Rd intR w w.heap.size A2 n2 c2 ns)
    (A3 : Option Addr) (n3 c3 : Nat) (os : List Int) (h3 : Rd intR w w.heap.size A3 n3 c3 os) (A4 : Option Addr) (n4 c4 : Nat) (qs : List (List UInt8)) (h4 : Rd (sliceR u8R) w w.heap.size A4 n4 c4 qs)
    (hz : (sliceR (sliceR u8R)).sz ads + (sliceR intR).sz ns + (sliceR intR).sz os + (sliceR (sliceR u8R)).sz qs ≤ 1048576) :
    Calls Try.prog 7 #[.slice A1 n1 c1, .slice A2 n2 c2, .slice A3 n3 c3, .slice A4 n4 c4] w fun e w' => e = .returned (.bool true) ∧ Below w.heap.size w w' := by
  have WOUT := hid (walk_out w A1 n1 c1 ads h1 A2 n2 c2 ns h2 A3 n3 c3 os h3 A4 n4 c4 qs h4 hz)
  have z1 := triePuts.sz_ge (R := sliceR u8R) (fun a => Nat.le_add_left _ _) ads
  have z3 := triePuts.sz_ge (R := intR) (fun a => Nat.le_refl _) os
  have z4 := triePuts.sz_ge (R := sliceR u8R) (fun a => Nat.le_add_left _ _) qs
  rw [h1.len] at z1
  rw [h3.len] at z3
  rw [h4.len] at z4
  obtain ⟨k, hk⟩ : ∃ k, k = min n1 n2 := ⟨_, rfl⟩
  have hk2 : k ≤ 1048576 := by omega
  have hn3 : n3 ≤ 1048576 := by omega
  have hn4 : n4 ≤ 1048576 := by omega
  have CB := hid fun w' (hb : Below w.heap.size w w') => begins_any hb.size (h1.below hb) (h2.below hb) k hk hk2
  have CT := hid (tried_true)
  have H3 := hid h3
  have H4 := hid h4
  have ll := hid (begL_len ads ns k)
  have lv : Hid (∀ i, i < (begL ads ns k).length → (bAt (begL ads ns k) i).2.2.1 = (i : Int)) := fun i hi => by
    rw [begL_len] at hi
    unfold bAt
    rw [begL_get hi]
  have HK := hid hk
  generalize hbs : begL ads ns k = bs at *
  have HBS := hid hbs
  clear h1 h2 h3 h4 hz z1 z3 z4 hk hbs
  have CU := hid fun w' (A : Option Addr) (c : Nat) (hR : Rd beginR w' w'.heap.size A k c bs) => unlike_any (Nat.le_refl _) hR
  have tk0 : True := trivial; have tk1 : True := trivial; have tk2 : True := trivial; have tk3 : True := trivial; have tk4 : True := trivial; have tk5 : True := trivial; have tk6 : True := trivial; have tk7 : True := trivial; have tk8 : True := trivial; have tk9 : True := trivial; have tk10 : True := trivial; have tk11 : True := trivial; have tk12 : True := trivial
  by_cases hk60 : 60 < k
  · exact WOUT.out (.inl (by rw [← HK.out]; exact hk60))
  have q1 : ¬ (60 : Int) < (k : Int) := by omega
  by_cases hn60 : 60 < n4
  · exact WOUT.out (.inr (.inl hn60))
  have q2 : ¬ (60 : Int) < (n4 : Int) := by omega
  by_cases hne : n3 = k
  case neg => exact WOUT.out (.inr (.inr (.inl (by rw [← HK.out]; exact hne))))
  subst hne
  obtain ⟨Z, hZ, hmk⟩ := make_bools n3 hn3
  have HZ := hid hZ
  clear hZ
  cases hu : unlB bs with
  | false => exact WOUT.out (.inr (.inr (.inr (by rw [← HK.out, HBS.out]; exact fun h => by rw [unlB_true h] at hu; cases hu))))
  | true =>
    rw [hu] at CU
    have HU := hid ((unlB_iff bs).1 hu)
    clear hu
    go_enter Try.func7, Try.ntmps7
    go_wp2_with (first
      | (go_at_call 15; have _t := tk1; refine (CT.out _).mono ?_; rintro e w1 ⟨rfl, hb⟩; obtain ⟨otk1, dtk1, rfl⟩ := ext_of_below hb; clear hb tk1)
      | (go_at_call 17; have _t := tk3; (with_reducible refine (CB.out _ (by (repeat' (first | (with_reducible exact Below.refl _ _) | (with_reducible assumption) | (with_reducible refine below_ext0 ?_ _ _) | (with_reducible refine below_alloc0 ?_ _) | (with_reducible refine Below.ext ?_ ?_ _ _) | (with_reducible refine Below.alloc ?_ ?_ _) | (with_reducible refine Below.setCell ?_ ?_ _) | (with_reducible refine Below.drew ?_) | (with_reducible refine below_draws ?_ _) | go_size | (simp [size_ext]; done) | (simp [size_ext]; omega))))).mono ?_); rintro e w1 ⟨A, c, rfl, hown, hb⟩; have RB := hid (hown.rd' ll.out (by show n3 * 40 ≤ _; omega) (by decide)); have HO := hid hown; have BB := hid (Below.trans (by (repeat' (first | (with_reducible exact Below.refl _ _) | (with_reducible assumption) | (with_reducible refine below_ext0 ?_ _ _) | (with_reducible refine below_alloc0 ?_ _) | (with_reducible refine Below.ext ?_ ?_ _ _) | (with_reducible refine Below.alloc ?_ ?_ _) | (with_reducible refine Below.setCell ?_ ?_ _) | (with_reducible refine Below.drew ?_) | (with_reducible refine below_draws ?_ _) | go_size | (simp [size_ext]; done) | (simp [size_ext]; omega)))) (hb.mono (by simp [size_ext])) : Below w.heap.size w w1); clear hb hown tk3)
      | (go_at_call 21; have _t := tk4; (with_reducible refine (CU.out _ _ _ RB.out).mono ?_); rintro e w2 ⟨rfl, hb⟩; have BU := hid hb; clear hb tk4)
      | (go_at_call 16; have _t := tk5; refine (new_any _).mono ?_; rintro e w3 ⟨rfl, rfl⟩; clear tk5)
      | (go_at_call 16; have _t := tk6; refine (new_any _).mono ?_; rintro e w3 ⟨rfl, rfl⟩; clear tk6))
    have O2 := hid (HO.out.below BU.out)
    have B2 := hid (BB.out.trans (BU.out.mono BB.out.size))
    have T0 := hid (Two.start w2 Z n3 HZ.out 72)
    obtain ⟨wl, hwl⟩ : ∃ wl, (((w2.alloc (.cells #[.bool false, .int .i64 0, .pointer none, .pointer none, .int .i64 0] 72)).alloc (.cells #[.bool false, .int .i64 0, .pointer none, .pointer none, .int .i64 0] 72)).alloc (.cells Z 4)) = wl := ⟨_, rfl⟩
    rw [hwl] at T0 ⊢
    have HWL := hid hwl
    obtain ⟨h, hh⟩ : ∃ h, w2.heap.size = h := ⟨_, rfl⟩
    have b2s := B2.out.size
    have HH := hid hh
    rw [hh] at T0 b2s ⊢
    rw [show h + 1 + 1 = h + 2 from rfl]
    clear hwl hh hmk CB CT CU RB
    have hov := hid (fun wi (hl : Below h w2 wi) => HO.out.below (BU.out.trans (by have := HH.out; rw [← this] at hl; exact hl.mono BU.out.size)))
    go_loopg [14] n3 (fun gk v14 wi => ∃ (i : Nat) (N1 N2 : Nodes) (ks : List Nat) (ms : List Bool), i ≤ n3 ∧ gk = n3 - i ∧ v14 = .int .i64 (i : Int) ∧ ks.length = i ∧ ks.Nodup ∧ (∀ x ∈ ks, x < n3) ∧ ms.length = n3 ∧ (∀ x, x < n3 → (ms.getD x false = true ↔ x ∈ ks)) ∧ Two w2 h N1 N2 (valsI bs (List.range i)) (valsI bs ks) (i : Int) (i : Int) ms wi)
    case atStart => exact ⟨0, _, _, [], List.replicate n3 false, Nat.zero_le _, rfl, rfl, rfl, by simp, by simp, by simp, by
      intro x hx
      simp [List.getD_eq_getElem?_getD, List.getElem?_replicate, hx], T0.out⟩
    case round =>
      obtain ⟨i, N1, N2, ks, ms, hi, rfl, rfl, kl, kd, kx, ml, mm, hT⟩ := hrel
      have HT := hid hT
      have KL := hid kl
      have KD := hid kd
      have KX := hid kx
      have ML := hid ml
      have MM := hid mm
      have lt2 := hT.lt
      have low := hT.low
      have OI := hid (hov.out wr low)
      have BWI := hid (B2.out.trans (low.mono b2s))
      clear hT kl kd kx ml mm low
      by_cases hlt : i < n3
      · have g3 : (i : Int) < (n3 : Int) := by omega
        obtain ⟨b3, o3, rfl, lb3, cc3, I3⟩ := (H3.out.below BWI.out).intD i hlt
        obtain ⟨y, hy⟩ : ∃ y, os.getD i 0 = y := ⟨_, rfl⟩
        rw [hy] at cc3 I3
        obtain ⟨I31, I32⟩ := I3
        clear hy
        by_cases y0 : y < 0
        · go_wp2
          go_ret
          exact ⟨rfl, BWI.out⟩
        by_cases y1 : (n3 : Int) ≤ y
        · go_wp2
          go_ret
          exact ⟨rfl, BWI.out⟩
        obtain ⟨j, rfl⟩ : ∃ j : Nat, y = (j : Int) := ⟨y.toNat, by omega⟩
        have hj : j < n3 := by omega
        have g4 : (j : Int) < (n3 : Int) := by omega
        have cm := HT.out.cell j (by rw [ML.out]; exact hj)
        cases hmj : ms.getD j false with
        | true =>
          rw [hmj] at cm
          clear hmj
          go_wp2
          go_ret
          exact ⟨rfl, BWI.out⟩
        | false =>
          rw [hmj] at cm
          have HMJ := hid (show j ∉ ks from fun hjk => by have := (MM.out j hj).2 hjk; rw [hmj] at this; cases this)
          have fm := HT.out.met.frozen j
          clear hmj
          go_upto_region 19 with fail
          have HM := hid (HT.out.mark j)
          obtain ⟨ws, hws⟩ : ∃ ws, wr.setCell ⟨h + 2, j, none⟩ (.bool true) = ws := ⟨_, rfl⟩
          rw [hws] at HM ⊢
          clear hws cm fm cc3
          obtain ⟨g, vs, rfl, hg1, hg2, hr, hc⟩ := (hov.out ws HM.out.low).at_ i (by rw [ll.out]; exact hlt) (by decide)
          obtain ⟨g', vs', hA, _, _, hr', hc'⟩ := (hov.out ws HM.out.low).at_ j (by rw [ll.out]; exact hj) (by decide)
          cases hA
          have il : i < bs.length := by rw [ll.out]; exact hlt
          have jl : j < bs.length := by rw [ll.out]; exact hj
          have hb1 : bs[i]'il = bAt bs i := by unfold bAt; rw [List.getD_eq_getElem?_getD, List.getElem?_eq_getElem il]; rfl
          have hb2 : bs[j]'jl = bAt bs j := by unfold bAt; rw [List.getD_eq_getElem?_getD, List.getElem?_eq_getElem jl]; rfl
          rw [hb1] at hr
          rw [hb2] at hr'
          have glt : g < h := by
            obtain ⟨g2, vs2, hA2, _, hlt2, _⟩ := O2.out.at_ i il (by decide)
            cases hA2
            rw [HH.out] at hlt2
            exact hlt2
          have e1 := err_ok HU.out il
          have e2 := err_ok HU.out jl
          have v1 := step_v (k := i) HU.out (ks := List.range i)
          have v2 := step_v (k := j) HU.out (ks := ks)
          have k1 := step_c HU.out (ks := List.range i) (fun x hx => by have := List.mem_range.1 hx; omega) il (fun hx => by have := List.mem_range.1 hx; omega) (i : Int)
          have k2 := step_c HU.out (ks := ks) (fun x hx => by rw [ll.out]; exact KX.out x hx) jl HMJ.out (i : Int)
          rw [← List.range_succ] at v1
          obtain ⟨x, hx⟩ : ∃ x, bAt bs i = x := ⟨_, rfl⟩
          obtain ⟨y, hy⟩ : ∃ y, bAt bs j = y := ⟨_, rfl⟩
          rw [hx] at hr e1 v1 k1
          rw [hy] at hr' e2 v2 k2
          obtain ⟨a, m, v, _⟩ := x
          obtain ⟨a2, m2, v2', _⟩ := y
          obtain ⟨_, _, rfl, ⟨A', n', c', rfl, ra⟩, _, _, rfl, ⟨rfl, hm⟩, _, _, rfl, ⟨rfl, hv⟩, rfl⟩ := hr
          obtain ⟨_, _, rfl, ⟨A'', n'', c'', rfl, ra2⟩, _, _, rfl, ⟨rfl, hm2⟩, _, _, rfl, ⟨rfl, hv2⟩, rfl⟩ := hr'
          dsimp only at ra ra2 hm hm2 hv hv2 e1 e2 v1 v2 k1 k2
          have c0 : ws.cell? ⟨g, i * 3, none⟩ = some (.slice A' n' c') := hc 0 _ rfl
          have c1' : ws.cell? ⟨g, i * 3 + 1, none⟩ = some (.int .i64 m) := hc 1 _ rfl
          have c2' : ws.cell? ⟨g, i * 3 + 2, none⟩ = some (.int .i64 v) := hc 2 _ rfl
          have d0 : ws.cell? ⟨g, j * 3, none⟩ = some (.slice A'' n'' c'') := hc' 0 _ rfl
          have d1 : ws.cell? ⟨g, j * 3 + 1, none⟩ = some (.int .i64 m2) := hc' 1 _ rfl
          have d2 : ws.cell? ⟨g, j * 3 + 2, none⟩ = some (.int .i64 v2') := hc' 2 _ rfl
          have CP1 := HM.out.call1 (by omega) (by omega) (fun w' hb => ra.below (hb.mono b2s)) m hm v
          have CP2 := fun N' wx (hx : Two w2 h N' N2 (valsI bs (List.range (i + 1))) (valsI bs ks) ((i : Int) + 1) (i : Int) (ms.set j true) wx) => hx.call2 (by omega) (by omega) (fun w' hb => kept_both b2s HM.out.low (hx.low.trans hb) ra2) m2 hm2 v2'
          rw [e1, v1, k1] at CP1
          simp only [e2, v2, k2] at CP2
          have D1 := hid CP1
          have D2 := hid CP2
          have lws := HM.out.lt
          have kp := hid (fun (wx : World) (hx : Below h w2 wx) (o : Nat) => ((hx.cell (p := ⟨g, o, none⟩) glt).trans (HM.out.low.cell (p := ⟨g, o, none⟩) glt).symm))
          have HL2 := hid HM.out.low
          clear CP1 CP2 hc hc' hx hy ra ra2 hm hm2 hv hv2 hb1 hb2 e1 e2 v1 v2 k1 k2 il jl
          go_region_held3 (fun w' => w'.cell? ⟨g, i * 3, none⟩ = some (.slice A' n' c') ∧ w'.cell? ⟨g, i * 3 + 1, none⟩ = some (.int .i64 m) ∧ w'.cell? ⟨g, i * 3 + 2, none⟩ = some (.int .i64 v) ∧ w'.cell? ⟨g, j * 3, none⟩ = some (.slice A'' n'' c'') ∧ w'.cell? ⟨g, j * 3 + 1, none⟩ = some (.int .i64 m2) ∧ w'.cell? ⟨g, j * 3 + 2, none⟩ = some (.int .i64 v2')) (((try dsimp only); (repeat' apply And.intro) <;> (first | assumption | (go_simp; done))))
            (first
              | (go_at_call 18; have _t := tk7; (with_reducible refine (D1.out _ (by (repeat' (first | (with_reducible exact Below.refl _ _) | (with_reducible assumption) | (with_reducible refine below_ext0 ?_ _ _) | (with_reducible refine below_alloc0 ?_ _) | (with_reducible refine Below.ext ?_ ?_ _ _) | (with_reducible refine Below.alloc ?_ ?_ _) | (with_reducible refine Below.setCell ?_ ?_ _) | (with_reducible refine Below.drew ?_) | (with_reducible refine below_draws ?_ _) | go_size | (simp [size_ext]; done) | (simp [size_ext]; omega))))).mono ?_); rintro e wx ⟨rfl, N3, hT3⟩; have kk := kp.out wx hT3.low; have y0 := (kk _).trans c0; have y1 := (kk _).trans c1'; have y2 := (kk _).trans c2'; have z0 := (kk _).trans d0; have z1 := (kk _).trans d1; have z2 := (kk _).trans d2; have HT3 := hid hT3; clear hT3 kk tk7)
              | (go_at_call 18; have _t := tk8; (with_reducible refine (D2.out _ _ HT3.out _ (by (repeat' (first | (with_reducible exact Below.refl _ _) | (with_reducible assumption) | (with_reducible refine below_ext0 ?_ _ _) | (with_reducible refine below_alloc0 ?_ _) | (with_reducible refine Below.ext ?_ ?_ _ _) | (with_reducible refine Below.alloc ?_ ?_ _) | (with_reducible refine Below.setCell ?_ ?_ _) | (with_reducible refine Below.drew ?_) | (with_reducible refine below_draws ?_ _) | go_size | (simp [size_ext]; done) | (simp [size_ext]; omega))))).mono ?_); rintro e wy ⟨rfl, N4, hT4⟩; have kk := kp.out wy hT4.low; have y0 := (kk _).trans c0; have y1 := (kk _).trans c1'; have y2 := (kk _).trans c2'; have z0 := (kk _).trans d0; have z1 := (kk _).trans d1; have z2 := (kk _).trans d2; have HT4 := hid hT4; clear hT4 kk tk8)
              | fail)
          all_goals
            go_wp2
            go_roundg (n3 - (i + 1))
            case measure => omega
            case rel => exact ⟨i + 1, N3, N4, ks ++ [j], ms.set j true, by omega, rfl, by go_num, by simp [KL.out], by
              rw [List.nodup_append]
              exact ⟨KD.out, by simp, fun x hx y hy e => by simp at hy; subst hy; subst e; exact HMJ.out hx⟩, by
              intro x hx
              rcases List.mem_append.1 hx with h5 | h5
              · exact KX.out x h5
              · simp at h5; subst h5; exact hj, by simp [ML.out], by
              intro x hx
              rw [List.mem_append, ← MM.out x hx]
              by_cases e : x = j
              · subst e
                simp [List.getD_eq_getElem?_getD, ML.out, hj]
              · simp [List.getD_eq_getElem?_getD, Ne.symm e, e], HT4.out⟩
      · obtain rfl : i = n3 := by omega
        have hsame := valsI_same HU.out (ks := ks) (js := List.range bs.length) (fun x hx => by rw [ll.out]; exact KX.out x hx) (fun x hx => List.mem_range.1 hx) (fun x => by
          rw [List.mem_range, ll.out]
          exact ⟨fun hx => KX.out x hx, fun hx => all_there KD.out KL.out KX.out x hx⟩)
        have T2 := hid (show Two w2 h N1 N2 (valsI bs (List.range bs.length)) (valsI bs (List.range bs.length)) (i : Int) (i : Int) ms wr by
          have := HT.out
          rw [hsame] at this
          rw [show List.range i = List.range bs.length by rw [ll.out]] at this
          exact this)
        have TA := hid (fun (q : List UInt8) (k m : Nat) (hk : k < i) (hm : (bAt bs k).2.1 = (m : Int)) => told_all HU.out lv.out (a := q) (k := k) (by rw [ll.out]; exact hk) hm)
        generalize valsI bs (List.range bs.length) = V at *
        obtain ⟨wp, hwp⟩ : ∃ wp, wr = wp := ⟨_, rfl⟩
        rw [hwp] at T2 lt2 OI BWI ⊢
        clear hwp hsame HT KL KD KX ML MM
        have lwp := T2.out.low
        have LWP := hid lwp
        clear lwp
        go_wp2
        go_loopg [16] n4 (fun gk v16 wi => ∃ a : Nat, a ≤ n4 ∧ gk = n4 - a ∧ v16 = .int .i64 (a : Int) ∧ Below wp.heap.size wp wi)
        case atStart => exact ⟨0, Nat.zero_le _, rfl, rfl, Below.refl _ _⟩
        case round =>
          obtain ⟨a, ha, rfl, rfl, hlow⟩ := hrel
          have HLOW := hid hlow
          have zw := hlow.size
          have T3 := hid (T2.out.later hlow)
          have BW3 := hid (BWI.out.trans (hlow.mono BWI.out.size))
          clear hlow
          by_cases halt : a < n4
          · have g5 : (a : Int) < (n4 : Int) := by omega
            obtain ⟨b4, o4, Aq, nq, cq, rfl, lb4, cc4, rq⟩ := (H4.out.below BW3.out).row a halt
            obtain ⟨q, hq⟩ : ∃ q, qs.getD a [] = q := ⟨_, rfl⟩
            rw [hq] at rq
            have limq := rq.lim
            simp only [u8R, Nat.mul_one] at limq
            have RQ := hid rq
            have ws := BW3.out.size
            have LQ := hid rq.len
            have lb4' : b4 < wr.heap.size := by omega
            obtain ⟨g1, g2, g3, hG⟩ : ∃ a1 a2 a3, getV V (bitsL q) = (a1, a2, a3) := ⟨_, _, _, rfl⟩
            have hg2 : g2 ≤ 8 * nq := by have := getV_le V (bitsL q); rw [hG, bitsL_len, rq.len] at this; exact this
            have CG1 := fun w' (hb : Below wr.heap.size wr w') => get_ok (T3.out.t1.later hb) (B := w.heap.size) (by have := hb.size; omega) (rq.below (hb.mono ws))
            have CG2 := fun w' (hb : Below wr.heap.size wr w') => get_ok (T3.out.t2.later hb) (B := w.heap.size) (by have := hb.size; omega) (rq.below (hb.mono ws))
            rw [hG] at CG1 CG2
            have D3 := hid CG1
            have D4 := hid CG2
            have HG := hid hG
            have HQ := hid hq
            clear CG1 CG2 hG hq rq
            go_wp2_with (first
              | (go_at_call 19; have _t := tk9; (with_reducible refine (D3.out _ (by (repeat' (first | (with_reducible exact Below.refl _ _) | (with_reducible assumption) | (with_reducible refine below_ext0 ?_ _ _) | (with_reducible refine below_alloc0 ?_ _) | (with_reducible refine Below.ext ?_ ?_ _ _) | (with_reducible refine Below.alloc ?_ ?_ _) | (with_reducible refine Below.setCell ?_ ?_ _) | (with_reducible refine Below.drew ?_) | (with_reducible refine below_draws ?_ _) | go_size | (simp [size_ext]; done) | (simp [size_ext]; omega))))).mono ?_); rintro e wx ⟨rfl, hb⟩; obtain ⟨o9, d9, rfl⟩ := ext_of_below hb; clear hb tk9)
              | (go_at_call 19; have _t := tk10; (with_reducible refine (D4.out _ (by (repeat' (first | (with_reducible exact Below.refl _ _) | (with_reducible assumption) | (with_reducible refine below_ext0 ?_ _ _) | (with_reducible refine below_alloc0 ?_ _) | (with_reducible refine Below.ext ?_ ?_ _ _) | (with_reducible refine Below.alloc ?_ ?_ _) | (with_reducible refine Below.setCell ?_ ?_ _) | (with_reducible refine Below.drew ?_) | (with_reducible refine below_draws ?_ _) | go_size | (simp [size_ext]; done) | (simp [size_ext]; omega))))).mono ?_); rintro e wx ⟨rfl, hb⟩; obtain ⟨o10, d10, rfl⟩ := ext_of_below hb; clear hb tk10))
            obtain ⟨wm, hwm⟩ : ∃ wm, ext (ext wr o9 d9) o10 d10 = wm := ⟨_, rfl⟩
            have BM := hid (show Below wr.heap.size wr wm by rw [← hwm]; (repeat' (first | (with_reducible exact Below.refl _ _) | (with_reducible assumption) | (with_reducible refine below_ext0 ?_ _ _) | (with_reducible refine below_alloc0 ?_ _) | (with_reducible refine Below.ext ?_ ?_ _ _) | (with_reducible refine Below.alloc ?_ ?_ _) | (with_reducible refine Below.setCell ?_ ?_ _) | (with_reducible refine Below.drew ?_) | (with_reducible refine below_draws ?_ _) | go_size | (simp [size_ext]; done) | (simp [size_ext]; omega))))
            rw [hwm]
            clear hwm cc4 lb4' T3 BW3 D3 D4
            go_loopg [23] i (fun gk v23 wi => ∃ b : Nat, b ≤ i ∧ gk = i - b ∧ v23 = .int .i64 (b : Int) ∧ Below wr.heap.size wr wi)
            case atStart => exact ⟨0, Nat.zero_le _, rfl, rfl, BM.out⟩
            case round =>
              obtain ⟨b, hbi, rfl, rfl, hlow⟩ := hrel
              have BX := hid (HLOW.out.trans (hlow.mono zw))
              have BR := hid hlow
              have T5 := hid (T2.out.later BX.out)
              have BW5 := hid (BWI.out.trans (BX.out.mono BWI.out.size))
              have zx := BX.out.size
              clear hlow
              by_cases hblt : b < i
              · have g6 : (b : Int) < (i : Int) := by omega
                obtain ⟨b5, o5, Aq', nq', cq', hA5, lb5, cc5, rq5⟩ := (H4.out.below BW5.out).row a halt
                cases hA5
                rw [HQ.out] at rq5
                obtain ⟨g, vs, rfl, hg1, hg2', hr, hc⟩ := (hov.out wr T5.out.low).at_ b (by rw [ll.out]; exact hblt) (by decide)
                have il : b < bs.length := by rw [ll.out]; exact hblt
                have hb1 : bs[b]'il = bAt bs b := by unfold bAt; rw [List.getD_eq_getElem?_getD, List.getElem?_eq_getElem il]; rfl
                have hright : rightAt bs b = true := HU.out.1 b il
                unfold rightAt at hright
                have ta := TA.out q b
                rw [hb1] at hr
                obtain ⟨x, hx⟩ : ∃ x, bAt bs b = x := ⟨_, rfl⟩
                rw [hx] at hr hright ta
                obtain ⟨a', m', v, _⟩ := x
                obtain ⟨_, _, rfl, ⟨A', n', c', rfl, ra⟩, _, _, rfl, ⟨rfl, hm⟩, _, _, rfl, ⟨rfl, hv⟩, rfl⟩ := hr
                dsimp only at ra hm hv hright ta
                obtain ⟨_, r2, r3⟩ := of_decide_eq_true hright
                obtain ⟨m, rfl⟩ : ∃ m : Nat, m' = (m : Int) := ⟨m'.toNat, by omega⟩
                have ta2 := ta m hblt rfl
                rw [HG.out] at ta2
                dsimp only at ta2
                have c0 : wr.cell? ⟨g, b * 3, none⟩ = some (.slice A' n' c') := hc 0 _ rfl
                have c1' : wr.cell? ⟨g, b * 3 + 1, none⟩ = some (.int .i64 (m : Int)) := hc 1 _ rfl
                obtain ⟨al, hal⟩ : ∃ al, decide (∀ i, i < m → bitL a' i = bitL q i) = al := ⟨_, rfl⟩
                have CA := fun (hmq : m ≤ 8 * nq') w' (hb : Below wr.heap.size wr w') => alike_below (ra.below (hb.mono (by omega))) (rq5.below (hb.mono (by have := BW5.out.size; omega))) m rfl (by rw [← ra.len]; omega) hmq
                obtain rfl : nq = nq' := by rw [← rq5.len, LQ.out]
                rw [LQ.out] at ta2
                rw [hal] at CA
                have ways : (m ≤ 8 * nq ∧ al = true ∧ g3 = true ∧ m ≤ g2 ∧ g1 ≠ (b : Int)) ∨ (m ≤ 8 * nq ∧ al = true ∧ g3 = true ∧ g1 = (b : Int) ∧ m = g2) ∨ (m ≤ 8 * nq ∧ al = false ∧ g3 = false) ∨ (m ≤ 8 * nq ∧ al = false ∧ g3 = true ∧ g1 ≠ (b : Int)) ∨ (8 * nq < m ∧ g3 = false) ∨ (8 * nq < m ∧ g3 = true ∧ g1 ≠ (b : Int)) := by
                  by_cases y1 : m ≤ 8 * nq
                  · cases al with
                    | true =>
                      obtain ⟨s1, s2, s3⟩ := ta2.1 ⟨y1, of_decide_eq_true hal⟩
                      by_cases y2 : g1 = (b : Int)
                      · exact .inr (.inl ⟨y1, rfl, s1, y2, (s3 y2).symm⟩)
                      · exact .inl ⟨y1, rfl, s1, s2, y2⟩
                    | false =>
                      have s := ta2.2 fun h => (of_decide_eq_false hal) h.2
                      cases g3 with
                      | false => exact .inr (.inr (.inl ⟨y1, rfl, rfl⟩))
                      | true => exact .inr (.inr (.inr (.inl ⟨y1, rfl, rfl, s.resolve_left (by simp)⟩)))
                  · have s := ta2.2 fun h => y1 h.1
                    cases g3 with
                    | false => exact .inr (.inr (.inr (.inr (.inl ⟨by omega, rfl⟩))))
                    | true => exact .inr (.inr (.inr (.inr (.inr ⟨by omega, rfl, s.resolve_left (by simp)⟩))))
                have HCA := hid CA
                have br := BR.out
                have brs := BR.out.size
                have lb5' : b4 < wr.heap.size := by have := BW5.out.size; omega
                clear CA ta ta2 hal ra rq5 hx hb1 hright hm hv r2 r3 hc il
                rcases ways with ⟨y1, rfl, rfl, y2, y3⟩ | ⟨y1, rfl, rfl, rfl, rfl⟩ | ⟨y1, rfl, rfl⟩ | ⟨y1, rfl, rfl, y3⟩ | ⟨y1, rfl⟩ | ⟨y1, rfl, y3⟩
                · have f1 : ((m : Int) ≤ 8 * (nq : Int)) := by omega
                  have f1d : decide ((m : Int) ≤ 8 * (nq : Int)) = true := decide_eq_true f1
                  have f2 : decide ((g2 : Int) < (m : Int)) = false := decide_eq_false (by omega)
                  have f2n : decide (g2 < m) = false := decide_eq_false (by omega)
                  have f3 : (g1 == (b : Int)) = false := by rw [beq_eq_false_iff_ne]; exact y3
                  clear y3
                  have HC := hid (HCA.out y1)
                  go_wp2_with fail
                  refine wp_region_ext (by kernel_rfl) (by kernel_rfl) ?_
                  repeat (go_big_quiet_step ((go_at_call 20; with_reducible exact Calls.quiet_ext (HC.out _ (by ((first | (with_reducible refine exts_below ?_ ?_ _) | skip); (repeat' (first | (with_reducible exact Below.refl _ _) | (with_reducible assumption) | (with_reducible refine below_ext0 ?_ _ _) | (with_reducible refine below_alloc0 ?_ _) | (with_reducible refine Below.ext ?_ ?_ _ _) | (with_reducible refine Below.alloc ?_ ?_ _) | (with_reducible refine Below.setCell ?_ ?_ _) | (with_reducible refine Below.drew ?_) | (with_reducible refine below_draws ?_ _) | go_size | (simp [size_ext]; done) | (simp [size_ext]; omega)))))))))
                  refine wpQuiet_nil ?_
                  rintro _ ⟨⟨os, d⟩, rfl⟩
                  simp only [exts]
                  go_wp2
                  go_roundg (i - (b + 1))
                  case measure => omega
                  case rel => exact ⟨b + 1, by omega, rfl, by go_num, by (repeat' (first | (with_reducible exact Below.refl _ _) | (with_reducible assumption) | (with_reducible refine below_ext0 ?_ _ _) | (with_reducible refine below_alloc0 ?_ _) | (with_reducible refine Below.ext ?_ ?_ _ _) | (with_reducible refine Below.alloc ?_ ?_ _) | (with_reducible refine Below.setCell ?_ ?_ _) | (with_reducible refine Below.drew ?_) | (with_reducible refine below_draws ?_ _) | go_size | (simp [size_ext]; done) | (simp [size_ext]; omega)))⟩
                · have f1 : ((m : Int) ≤ 8 * (nq : Int)) := by omega
                  have f1d : decide ((m : Int) ≤ 8 * (nq : Int)) = true := decide_eq_true f1
                  have HC := hid (HCA.out y1)
                  go_wp2_with fail
                  refine wp_region_ext (by kernel_rfl) (by kernel_rfl) ?_
                  repeat (go_big_quiet_step ((go_at_call 20; with_reducible exact Calls.quiet_ext (HC.out _ (by ((first | (with_reducible refine exts_below ?_ ?_ _) | skip); (repeat' (first | (with_reducible exact Below.refl _ _) | (with_reducible assumption) | (with_reducible refine below_ext0 ?_ _ _) | (with_reducible refine below_alloc0 ?_ _) | (with_reducible refine Below.ext ?_ ?_ _ _) | (with_reducible refine Below.alloc ?_ ?_ _) | (with_reducible refine Below.setCell ?_ ?_ _) | (with_reducible refine Below.drew ?_) | (with_reducible refine below_draws ?_ _) | go_size | (simp [size_ext]; done) | (simp [size_ext]; omega)))))))))
                  refine wpQuiet_nil ?_
                  rintro _ ⟨⟨os, d⟩, rfl⟩
                  simp only [exts]
                  go_wp2
                  go_roundg (i - (b + 1))
                  case measure => omega
                  case rel => exact ⟨b + 1, by omega, rfl, by go_num, by (repeat' (first | (with_reducible exact Below.refl _ _) | (with_reducible assumption) | (with_reducible refine below_ext0 ?_ _ _) | (with_reducible refine below_alloc0 ?_ _) | (with_reducible refine Below.ext ?_ ?_ _ _) | (with_reducible refine Below.alloc ?_ ?_ _) | (with_reducible refine Below.setCell ?_ ?_ _) | (with_reducible refine Below.drew ?_) | (with_reducible refine below_draws ?_ _) | go_size | (simp [size_ext]; done) | (simp [size_ext]; omega)))⟩
                · have f1 : ((m : Int) ≤ 8 * (nq : Int)) := by omega
                  have f1d : decide ((m : Int) ≤ 8 * (nq : Int)) = true := decide_eq_true f1
                  have HC := hid (HCA.out y1)
                  go_wp2_with fail
                  refine wp_region_ext (by kernel_rfl) (by kernel_rfl) ?_
                  repeat (go_big_quiet_step ((go_at_call 20; with_reducible exact Calls.quiet_ext (HC.out _ (by ((first | (with_reducible refine exts_below ?_ ?_ _) | skip); (repeat' (first | (with_reducible exact Below.refl _ _) | (with_reducible assumption) | (with_reducible refine below_ext0 ?_ _ _) | (with_reducible refine below_alloc0 ?_ _) | (with_reducible refine Below.ext ?_ ?_ _ _) | (with_reducible refine Below.alloc ?_ ?_ _) | (with_reducible refine Below.setCell ?_ ?_ _) | (with_reducible refine Below.drew ?_) | (with_reducible refine below_draws ?_ _) | go_size | (simp [size_ext]; done) | (simp [size_ext]; omega)))))))))
                  refine wpQuiet_nil ?_
                  rintro _ ⟨⟨os, d⟩, rfl⟩
                  simp only [exts]
                  go_wp2
                  go_roundg (i - (b + 1))
                  case measure => omega
                  case rel => exact ⟨b + 1, by omega, rfl, by go_num, by (repeat' (first | (with_reducible exact Below.refl _ _) | (with_reducible assumption) | (with_reducible refine below_ext0 ?_ _ _) | (with_reducible refine below_alloc0 ?_ _) | (with_reducible refine Below.ext ?_ ?_ _ _) | (with_reducible refine Below.alloc ?_ ?_ _) | (with_reducible refine Below.setCell ?_ ?_ _) | (with_reducible refine Below.drew ?_) | (with_reducible refine below_draws ?_ _) | go_size | (simp [size_ext]; done) | (simp [size_ext]; omega)))⟩
                · have f1 : ((m : Int) ≤ 8 * (nq : Int)) := by omega
                  have f1d : decide ((m : Int) ≤ 8 * (nq : Int)) = true := decide_eq_true f1
                  have f3 : (g1 == (b : Int)) = false := by rw [beq_eq_false_iff_ne]; exact y3
                  clear y3
                  have HC := hid (HCA.out y1)
                  go_wp2_with fail
                  refine wp_region_ext (by kernel_rfl) (by kernel_rfl) ?_
                  repeat (go_big_quiet_step ((go_at_call 20; with_reducible exact Calls.quiet_ext (HC.out _ (by ((first | (with_reducible refine exts_below ?_ ?_ _) | skip); (repeat' (first | (with_reducible exact Below.refl _ _) | (with_reducible assumption) | (with_reducible refine below_ext0 ?_ _ _) | (with_reducible refine below_alloc0 ?_ _) | (with_reducible refine Below.ext ?_ ?_ _ _) | (with_reducible refine Below.alloc ?_ ?_ _) | (with_reducible refine Below.setCell ?_ ?_ _) | (with_reducible refine Below.drew ?_) | (with_reducible refine below_draws ?_ _) | go_size | (simp [size_ext]; done) | (simp [size_ext]; omega)))))))))
                  refine wpQuiet_nil ?_
                  rintro _ ⟨⟨os, d⟩, rfl⟩
                  simp only [exts]
                  go_wp2
                  go_roundg (i - (b + 1))
                  case measure => omega
                  case rel => exact ⟨b + 1, by omega, rfl, by go_num, by (repeat' (first | (with_reducible exact Below.refl _ _) | (with_reducible assumption) | (with_reducible refine below_ext0 ?_ _ _) | (with_reducible refine below_alloc0 ?_ _) | (with_reducible refine Below.ext ?_ ?_ _ _) | (with_reducible refine Below.alloc ?_ ?_ _) | (with_reducible refine Below.setCell ?_ ?_ _) | (with_reducible refine Below.drew ?_) | (with_reducible refine below_draws ?_ _) | go_size | (simp [size_ext]; done) | (simp [size_ext]; omega)))⟩
                · have f1 : ¬ ((m : Int) ≤ 8 * (nq : Int)) := by omega
                  have f1d : decide ((m : Int) ≤ 8 * (nq : Int)) = false := decide_eq_false f1
                  go_wp2_with fail
                  refine wp_region_ext (by kernel_rfl) (by kernel_rfl) ?_
                  repeat (go_big_quiet_step ((fail)))
                  refine wpQuiet_nil ?_
                  rintro _ ⟨⟨os, d⟩, rfl⟩
                  simp only [exts]
                  go_wp2
                  go_roundg (i - (b + 1))
                  case measure => omega
                  case rel => exact ⟨b + 1, by omega, rfl, by go_num, by (repeat' (first | (with_reducible exact Below.refl _ _) | (with_reducible assumption) | (with_reducible refine below_ext0 ?_ _ _) | (with_reducible refine below_alloc0 ?_ _) | (with_reducible refine Below.ext ?_ ?_ _ _) | (with_reducible refine Below.alloc ?_ ?_ _) | (with_reducible refine Below.setCell ?_ ?_ _) | (with_reducible refine Below.drew ?_) | (with_reducible refine below_draws ?_ _) | go_size | (simp [size_ext]; done) | (simp [size_ext]; omega)))⟩
                · have f1 : ¬ ((m : Int) ≤ 8 * (nq : Int)) := by omega
                  have f1d : decide ((m : Int) ≤ 8 * (nq : Int)) = false := decide_eq_false f1
                  have f3 : (g1 == (b : Int)) = false := by rw [beq_eq_false_iff_ne]; exact y3
                  clear y3
                  go_wp2_with fail
                  refine wp_region_ext (by kernel_rfl) (by kernel_rfl) ?_
                  repeat (go_big_quiet_step ((fail)))
                  refine wpQuiet_nil ?_
                  rintro _ ⟨⟨os, d⟩, rfl⟩
                  simp only [exts]
                  go_wp2
                  go_roundg (i - (b + 1))
                  case measure => omega
                  case rel => exact ⟨b + 1, by omega, rfl, by go_num, by (repeat' (first | (with_reducible exact Below.refl _ _) | (with_reducible assumption) | (with_reducible refine below_ext0 ?_ _ _) | (with_reducible refine below_alloc0 ?_ _) | (with_reducible refine Below.ext ?_ ?_ _ _) | (with_reducible refine Below.alloc ?_ ?_ _) | (with_reducible refine Below.setCell ?_ ?_ _) | (with_reducible refine Below.drew ?_) | (with_reducible refine below_draws ?_ _) | go_size | (simp [size_ext]; done) | (simp [size_ext]; omega)))⟩
              · obtain rfl : b = i := by omega
                go_wp2
                go_roundg (n4 - (a + 1))
                case measure => omega
                case rel => exact ⟨a + 1, by omega, rfl, by go_num, BX.out⟩
          · have CL1 := hid fun w' (hb : Below wr.heap.size wr w') => len_any (T3.out.t1.later hb)
            have CL2 := hid fun w' (hb : Below wr.heap.size wr w') => len_any (T3.out.t2.later hb)
            have bw3 := BW3.out
            go_wp2_with (first
              | (go_at_call 22; have _t := tk9; (with_reducible refine (CL1.out _ (by (repeat' (first | (with_reducible exact Below.refl _ _) | (with_reducible assumption) | (with_reducible refine below_ext0 ?_ _ _) | (with_reducible refine below_alloc0 ?_ _) | (with_reducible refine Below.ext ?_ ?_ _ _) | (with_reducible refine Below.alloc ?_ ?_ _) | (with_reducible refine Below.setCell ?_ ?_ _) | (with_reducible refine Below.drew ?_) | (with_reducible refine below_draws ?_ _) | go_size | (simp [size_ext]; done) | (simp [size_ext]; omega))))).mono ?_); rintro e wx ⟨rfl, hw⟩; subst wx; clear tk9)
              | (go_at_call 22; have _t := tk10; (with_reducible refine (CL2.out _ (by (repeat' (first | (with_reducible exact Below.refl _ _) | (with_reducible assumption) | (with_reducible refine below_ext0 ?_ _ _) | (with_reducible refine below_alloc0 ?_ _) | (with_reducible refine Below.ext ?_ ?_ _ _) | (with_reducible refine Below.alloc ?_ ?_ _) | (with_reducible refine Below.setCell ?_ ?_ _) | (with_reducible refine Below.drew ?_) | (with_reducible refine below_draws ?_ _) | go_size | (simp [size_ext]; done) | (simp [size_ext]; omega))))).mono ?_); rintro e wx ⟨rfl, hw⟩; subst wx; clear tk10))
            go_ret
            exact ⟨by first | rfl | (simp; done) | (simp; omega), bw3⟩
set_option maxRecDepth 100000 in
theorem contractUpto (H : Type) (enc : TypeId × Value → H) (W : World) (base : Nat) (args : Array Value) (ds gs : List (DataW H)) (before : List MemPlace)
    (hval : ∀ (j : Nat) t v, Try.f7.params[j]? = some t → args[j]? = some v → Value.okWide Try.prog W .any base t v)
    (hW : DataW.Whole enc Try.prog Try.f7.params.toList Rows.trieOrderSpec.vars false W args.toList ds gs before) (hsz : (DataW.weightsEach Try.prog (Try.f7.params.toList ++ Rows.trieOrderSpec.plain.varTypes Try.prog) (ds ++ gs)).all (· ≤ reachBytes) = true) (hk : Rows.uptoSmall H (ds ++ gs) = true) :
    Calls Try.prog 7 args W fun e W' => ∃ v, e = .returned v ∧ Rows.trieOrderSpec.post enc Try.prog Try.f7 false true false false W args v W' := by
  have hW' := hW
  obtain ⟨p, q, hA0, hV, rfl, hfz, hnd⟩ := hW
  have hA : DataW.TrodAll enc Try.prog W 0 (fun _ => true) true Try.f7.params.toList args.toList ds p := hA0
  rw [Try.params7] at hA hval hsz
  obtain ⟨v0, vs0, d0, ds0, p0, q0, hargs, rfl, rfl, k0, r0⟩ := trodAll_cons hA
  obtain ⟨v1, vs1, d1, ds1, p1, q1, rfl, rfl, rfl, k1, r1⟩ := trodAll_cons r0
  obtain ⟨v2, vs2, d2, ds2, p2, q2, rfl, rfl, rfl, k2, r2⟩ := trodAll_cons r1
  obtain ⟨v3, vs3, d3, ds3, p3, q3, rfl, rfl, rfl, k3, r3⟩ := trodAll_cons r2
  obtain ⟨rfl, rfl, rfl⟩ := trodAll_nil r3
  obtain rfl : args = #[v0, v1, v2, v3] := by cases args; simp_all
  obtain ⟨rfl, rfl⟩ := trodVars_none hV
  have lt0 : ∀ x ∈ p0, x.block < W.heap.size := by obtain ⟨m, hm⟩ := k0; exact DataW.trod_lt m _ _ _ hm
  have lt1 : ∀ x ∈ p1, x.block < W.heap.size := by obtain ⟨m, hm⟩ := k1; exact DataW.trod_lt m _ _ _ hm
  have lt2 : ∀ x ∈ p2, x.block < W.heap.size := by obtain ⟨m, hm⟩ := k2; exact DataW.trod_lt m _ _ _ hm
  have lt3 : ∀ x ∈ p3, x.block < W.heap.size := by obtain ⟨m, hm⟩ := k3; exact DataW.trod_lt m _ _ _ hm
  have hsz' : ∀ k ∈ _, k ≤ reachBytes := fun k hk => of_decide_eq_true (List.all_eq_true.1 hsz k hk)
  have u0 : ∀ k ∈ d0.weights Try.prog 35, k ≤ reachBytes := fun k hk => hsz' k (by simp [DataW.weightsEach, hk])
  have u1 : ∀ k ∈ d1.weights Try.prog 30, k ≤ reachBytes := fun k hk => hsz' k (by simp [DataW.weightsEach, hk])
  have u2 : ∀ k ∈ d2.weights Try.prog 30, k ≤ reachBytes := fun k hk => hsz' k (by simp [DataW.weightsEach, hk])
  have u3 : ∀ k ∈ d3.weights Try.prog 35, k ≤ reachBytes := fun k hk => hsz' k (by simp [DataW.weightsEach, hk])
  obtain ⟨A0, n0, c0, l0, rfl, w0, z0⟩ := arg_slice Try.underlying35 (opens_slice Try.underlying35 (opens_slice Try.underlying36 (opens_u8 Try.underlying5) (by kernel_rfl) (by decide) (of_decide_eq_true (by kernel_rfl))) (by kernel_rfl) (by decide) (of_decide_eq_true (by kernel_rfl))) (hval 0 35 v0 rfl rfl) k0 u0
  obtain ⟨A1, n1, c1, l1, rfl, w1, z1⟩ := arg_slice Try.underlying30 (opens_slice Try.underlying30 (opens_int Try.underlying3) (by kernel_rfl) (by decide) (of_decide_eq_true (by kernel_rfl))) (hval 1 30 v1 rfl rfl) k1 u1
  obtain ⟨A2, n2, c2, l2, rfl, w2, z2⟩ := arg_slice Try.underlying30 (opens_slice Try.underlying30 (opens_int Try.underlying3) (by kernel_rfl) (by decide) (of_decide_eq_true (by kernel_rfl))) (hval 2 30 v2 rfl rfl) k2 u2
  obtain ⟨A3, n3, c3, l3, rfl, w3, z3⟩ := arg_slice Try.underlying35 (opens_slice Try.underlying35 (opens_slice Try.underlying36 (opens_u8 Try.underlying5) (by kernel_rfl) (by decide) (of_decide_eq_true (by kernel_rfl))) (by kernel_rfl) (by decide) (of_decide_eq_true (by kernel_rfl))) (hval 3 35 v3 rfl rfl) k3 u3
  have hsum := bulk_of hk
  simp only [List.append_nil, List.map_cons, List.map_nil, List.sum_cons, List.sum_nil] at hsum
  clear hA0 hA
  refine (walkUpto W A0 n0 c0 l0 w0 A1 n1 c1 l1 w1 A2 n2 c2 l2 w2 A3 n3 c3 l3 w3 (by omega)).mono fun e W' ⟨he, bel⟩ => ?_
  subst he
  exact ⟨_, rfl, _, _, _, [], _, [], hW', trodAll_mk1 (shut_bool Try.underlying4 _), (trodAll_cons_mk (Below.trod laidOut (by kernel_rfl) (of_decide_eq_true (by kernel_rfl)) k0 bel lt0) (trodAll_cons_mk (Below.trod laidOut (by kernel_rfl) (of_decide_eq_true (by kernel_rfl)) k1 bel lt1) (trodAll_cons_mk (Below.trod laidOut (by kernel_rfl) (of_decide_eq_true (by kernel_rfl)) k2 bel lt2) (trodAll_cons_mk (Below.trod laidOut (by kernel_rfl) (of_decide_eq_true (by kernel_rfl)) k3 bel lt3) trodAll_mk0)))), rfl, bel.frame _, fun h => by cases h⟩

set_option maxRecDepth 100000 in
theorem liftedUpto (os : Os) (started : os.Started) (H : Type) (enc : TypeId × Value → H) (F : Stop.Interp) :
    ReturnsInHanded {} Try.checked os 7 .any ((Rows.OpenSpec.upto Rows.trieOrderSpec).pre6 enc Try.prog Try.f7 Rows.trieOrderUptoRow.domain false) (((Rows.OpenSpec.upto Rows.trieOrderSpec).at F).post enc Try.prog Try.f7 false true false false) := by
  refine returnsInHanded_of_cond_sized (C := Try.checked) (s := Rows.OpenSpec.upto Rows.trieOrderSpec) (k := Rows.uptoSmall) rfl own started (by kernel_rfl) Try.func7
    (OpenSpec.witness (enc := enc) (C := Try.checked) (s := Rows.OpenSpec.upto Rows.trieOrderSpec) (k := Rows.uptoSmall) rfl false ⟨#[], #[.slice none 0 0, .slice none 0 0, .slice none 0 0, .slice none 0 0], []⟩ 8 (by kernel_rfl) (by kernel_rfl) (by kernel_rfl)
      (x := ([.nil, .nil, .nil, .nil], [], [])) (by kernel_rfl) rfl (by kernel_rfl)) ?_
  intro W base args ds gs before hval hW _ hk hsz _
  exact contractUpto H enc W base args ds gs before hval hW hsz hk

/-- the statement -/
theorem provedUpto : Rows.TrieOrderUptoSaid :=
  OpenClaim.holds_of_cond 7 Try.f7 rfl rfl rfl rfl rfl rfl rfl ⟨rfl, rfl, rfl, rfl, rfl⟩ rfl rfl rfl rfl rfl (by kernel_rfl) Try.func7 (by kernel_rfl)
    (of_decide_eq_true (by kernel_rfl)) (by unfold Func.isWrapper; first | (rw [if_pos (by decide +kernel)]; kernel_rfl) | (rw [if_neg (by decide +kernel)]; exact ⟨rfl, rfl⟩))
    (fun os started H enc _ F => liftedUpto os started H enc F)

end trieOrder
end Go.Proofs.Ytbpflpmhnmdeoaa
