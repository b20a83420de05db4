/- The document's answers: what is wrong with what a message is to tell (OptFault); a message that tells nothing (Silent). -/
import Derived.Test.YtfihedcobopbcaaDoorK10
namespace Go.Proofs.YtfihedcobopbcaaDoor
open Go.RowKit
set_option linter.unusedVariables false
set_option linter.unusedSimpArgs false

set_option maxRecDepth 100000 in
set_option maxHeartbeats 4000000 in
theorem optfault_any {w : World} {size code ver z : Int} {dob : Bool} {Ao : Option Addr} {no co : Nat} {os : List OT} (hO : Rd oR w w.heap.size Ao no co os) (hd : (dataO os).length ≤ 1073741824) {kk : Int} (hse : setErr ⟨size, code, ver, dob, z⟩ os = kk) :
    Calls Tryd.prog 18 #[.agg (optC ⟨size, code, ver, dob, z⟩ (.slice Ao no co))] w fun e w' => e = .returned (.int .i64 kk) ∧ Below w.heap.size w w' := by
  by_cases hk : OptOk ⟨size, code, ver, dob, z⟩
  · have HSE := hid hse
    have HOK := hid hk
    obtain ⟨⟨k0, k1⟩, ⟨k2, k3⟩, ⟨k4, k5⟩, ⟨k6, k7⟩⟩ := hk
    simp only at k0 k1 k2 k3 k4 k5 k6 k7
    have lo := hO.len
    have limo := hO.lim
    rw [show oR.bs = 32 from rfl] at limo
    have HO := hid hO
    have m0 : ¬ size < 0 := by omega
    have m1 : ¬ 65535 < size := by omega
    have m2 : ¬ code < 0 := by omega
    have m3 : ¬ 255 < code := by omega
    have m4 : ¬ ver < 0 := by omega
    have m5 : ¬ 255 < ver := by omega
    have m6 : ¬ z < 0 := by omega
    have m7 : ¬ 32767 < z := by omega
    clear hO hse
    go_enter Tryd.func18, Tryd.ntmps18
    go_wp2
    have hB1 : Blk (w.alloc (.cells (optC ⟨size, code, ver, dob, z⟩ (.slice Ao no co)) 46)) w.heap.size 46 (optC ⟨size, code, ver, dob, z⟩ (.slice Ao no co)) := Blk.new _ _ _
    go_loopg [3, 4] no (fun g v3 v4 wi => ∃ k : Nat, k ≤ no ∧ g = no - k ∧ v4 = .int .i64 (k : Int) ∧ v3 = .int .i64 ((dataO (os.take k)).length : Int) ∧ Hid (optsErr os = optsErr (os.drop k)) ∧ Blk wi w.heap.size 46 (optC ⟨size, code, ver, dob, z⟩ (.slice Ao no co)) ∧ Below w.heap.size w wi)
    case atStart => exact ⟨0, Nat.zero_le _, rfl, rfl, rfl, hid rfl, hB1, (by (repeat' (first | (with_reducible exact Below.refl _ _) | (with_reducible assumption) | (with_reducible refine below_ext0 ?_ _ _) | (with_reducible refine below_alloc0 ?_ _) | (with_reducible refine Below.ext ?_ ?_ _ _) | (with_reducible refine Below.alloc ?_ ?_ _) | (with_reducible refine Below.setCell ?_ ?_ _) | (with_reducible refine Below.drew ?_) | (with_reducible refine below_draws ?_ _) | go_size | (simp [size_ext]; done) | (simp [size_ext]; omega))))⟩
    case round =>
      obtain ⟨k, hk, rfl, rfl, rfl, HE, hblk, hb⟩ := hrel
      clear hB1
      have HB := hid hb
      have HBK := hid hblk
      have q5 : wr.cell? ⟨w.heap.size, 5, none⟩ = some (.slice Ao no co) := hblk.cell 5
      obtain ⟨nV, hnV⟩ : ∃ nV, (dataO (os.take k)).length = nV := ⟨_, rfl⟩
      rw [hnV]
      have hle0 := dataO_le os k
      rw [hnV] at hle0
      have HNV := hid hnV
      clear hblk hnV
      by_cases hlt : k < no
      · obtain ⟨b, o, C, A3, n3, c3, d, rfl, hb1, e1, x0, x1, r1, hC⟩ := (HO.out.later hb).opt k hlt
        have hk' : k < os.length := by rw [lo]; exact hlt
        have hst : optsErr os = if 0 ≤ C ∧ C ≤ 65535 then (if d.length ≤ 65535 then optsErr (os.drop (k + 1)) else 7) else 6 := by
          rw [HE.out, List.drop_eq_getElem_cons hk', e1]
          rfl
        have hdt := dataO_take os hk'
        rw [e1] at hdt
        have hdl : (dataO (os.take (k + 1))).length = nV + (4 + n3) := by
          rw [hdt, List.length_append, HNV.out, ← r1.len]
          unfold optB
          simp only [List.length_append, two2_len]
          omega
        have hle := dataO_le os (k + 1)
        rw [hdl] at hle
        rw [r1.len] at hst
        have HST := hid hst
        have HDL := hid hdl
        clear hb e1 hst hdt hdl r1 hC
        have t0 : (k : Int) < (no : Int) := by omega
        have t2 : (0 : Int) ≤ (k : Int) := by omega
        by_cases hC0 : 0 ≤ C ∧ C ≤ 65535
        · obtain ⟨C0, C1⟩ := hC0
          have c0 : ¬ C < 0 := by omega
          have c1 : ¬ 65535 < C := by omega
          by_cases hd5 : n3 ≤ 65535
          · have c2 : ¬ (65535 : Int) < (n3 : Int) := by omega
            have HE2 := hid (show optsErr os = optsErr (os.drop (k + 1)) by rw [HST.out, if_pos ⟨C0, C1⟩, if_pos hd5])
            clear hd5
            go_wp2
            go_roundg (no - (k + 1))
            case measure => omega
            case rel => exact ⟨k + 1, by omega, rfl, by go_num, by rw [HDL.out]; go_num, HE2, HBK.out, HB.out⟩
          · have c2 : (65535 : Int) < (n3 : Int) := by omega
            have h7 : optsErr os = 7 := by rw [HST.out, if_pos ⟨C0, C1⟩, if_neg hd5]
            have HK := hid (show kk = 7 by rw [← HSE.out]; unfold setErr; rw [if_pos HOK.out, h7, if_neg (by decide)])
            clear h7 hd5
            go_wp2
            go_ret
            exact ⟨by rw [HK.out]; rfl, HB.out⟩
        · have h6 : optsErr os = 6 := by rw [HST.out, if_neg hC0]
          have HK := hid (show kk = 6 by rw [← HSE.out]; unfold setErr; rw [if_pos HOK.out, h6, if_neg (by decide)])
          have hways : C < 0 ∨ (¬ C < 0 ∧ 65535 < C) := by omega
          clear h6 hC0
          rcases hways with c0 | ⟨c0, c1⟩
          all_goals
            go_wp2
            go_ret
            exact ⟨by rw [HK.out]; rfl, HB.out⟩
      · have t0 : ¬ (k : Int) < (no : Int) := by omega
        obtain rfl : k = no := by omega
        have hall : os.take k = os := List.take_of_length_le (by omega)
        have he0 : optsErr os = 0 := by rw [HE.out, List.drop_eq_nil_of_le (by omega)]; rfl
        have hnV := HNV.out
        rw [hall] at hnV
        by_cases hn5 : nV ≤ 65535
        · have u0 : ¬ (65535 : Int) < (nV : Int) := by omega
          have HK := hid (show kk = 0 by rw [← HSE.out]; unfold setErr; rw [if_pos HOK.out, he0, if_pos rfl, if_pos (by omega)])
          clear hb hall he0 hnV hn5
          go_wp2
          go_ret
          exact ⟨by rw [HK.out]; rfl, HB.out⟩
        · have u0 : (65535 : Int) < (nV : Int) := by omega
          have HK := hid (show kk = 7 by rw [← HSE.out]; unfold setErr; rw [if_pos HOK.out, he0, if_pos rfl, if_neg (by omega)])
          clear hb hall he0 hnV hn5
          go_wp2
          go_ret
          exact ⟨by rw [HK.out]; rfl, HB.out⟩
  · have HK := hid (show kk = 6 by rw [← hse]; unfold setErr; rw [if_neg hk])
    have hk' : ¬ ((0 ≤ size ∧ size ≤ 65535) ∧ (0 ≤ code ∧ code ≤ 255) ∧ (0 ≤ ver ∧ ver ≤ 255) ∧ (0 ≤ z ∧ z ≤ 32767)) := fun h => hk ⟨h.1, h.2.1, h.2.2.1, h.2.2.2⟩
    have hways : size < 0 ∨ (¬ size < 0 ∧ 65535 < size) ∨ (¬ size < 0 ∧ ¬ 65535 < size ∧ code < 0) ∨ (¬ size < 0 ∧ ¬ 65535 < size ∧ ¬ code < 0 ∧ 255 < code) ∨ (¬ size < 0 ∧ ¬ 65535 < size ∧ ¬ code < 0 ∧ ¬ 255 < code ∧ ver < 0) ∨ (¬ size < 0 ∧ ¬ 65535 < size ∧ ¬ code < 0 ∧ ¬ 255 < code ∧ ¬ ver < 0 ∧ 255 < ver) ∨ (¬ size < 0 ∧ ¬ 65535 < size ∧ ¬ code < 0 ∧ ¬ 255 < code ∧ ¬ ver < 0 ∧ ¬ 255 < ver ∧ z < 0) ∨ (¬ size < 0 ∧ ¬ 65535 < size ∧ ¬ code < 0 ∧ ¬ 255 < code ∧ ¬ ver < 0 ∧ ¬ 255 < ver ∧ ¬ z < 0 ∧ 32767 < z) := by omega
    clear hse hk hk' hO hd
    rcases hways with m0 | ⟨m0, m1⟩ | ⟨m0, m1, m2⟩ | ⟨m0, m1, m2, m3⟩ | ⟨m0, m1, m2, m3, m4⟩ | ⟨m0, m1, m2, m3, m4, m5⟩ | ⟨m0, m1, m2, m3, m4, m5, m6⟩ | ⟨m0, m1, m2, m3, m4, m5, m6, m7⟩
    all_goals
      go_enter Tryd.func18, Tryd.ntmps18
      go_wp2
      go_ret
      exact ⟨by rw [HK.out]; rfl, (by (repeat' (first | (with_reducible exact Below.refl _ _) | (with_reducible assumption) | (with_reducible refine below_ext0 ?_ _ _) | (with_reducible refine below_alloc0 ?_ _) | (with_reducible refine Below.ext ?_ ?_ _ _) | (with_reducible refine Below.alloc ?_ ?_ _) | (with_reducible refine Below.setCell ?_ ?_ _) | (with_reducible refine Below.drew ?_) | (with_reducible refine below_draws ?_ _) | go_size | (simp [size_ext]; done) | (simp [size_ext]; omega))))⟩

theorem res_silent {tmps : Array Value} {W : World} {r : Nat} {T : TypeId} {h : Hd} {Q X Y Z : Value} (h2 : tmps[2]? = some (.pointer (some ⟨r, 0, none⟩))) (hB : Blk W r T (msgC h Q X Y Z)) :
    (results Tryd.f17 tmps).run Tryd.prog W = .ok (.agg (msgC h Q X Y Z)) W := by
  have k0 : (W).cell? ⟨r, 0, none⟩ = some (.int .i64 h.id) := (hB).cell 0; have k1 : (W).cell? ⟨r, 1, none⟩ = some (.bool h.an) := (hB).cell 1; have k2 : (W).cell? ⟨r, 2, none⟩ = some (.int .i64 h.op) := (hB).cell 2; have k3 : (W).cell? ⟨r, 3, none⟩ = some (.bool h.aa) := (hB).cell 3; have k4 : (W).cell? ⟨r, 4, none⟩ = some (.bool h.tc) := (hB).cell 4; have k5 : (W).cell? ⟨r, 5, none⟩ = some (.bool h.rd) := (hB).cell 5; have k6 : (W).cell? ⟨r, 6, none⟩ = some (.bool h.ra) := (hB).cell 6; have k7 : (W).cell? ⟨r, 7, none⟩ = some (.bool h.z) := (hB).cell 7; have k8 : (W).cell? ⟨r, 8, none⟩ = some (.bool h.ad) := (hB).cell 8; have k9 : (W).cell? ⟨r, 9, none⟩ = some (.bool h.cd) := (hB).cell 9; have k10 : (W).cell? ⟨r, 10, none⟩ = some (.int .i64 h.code) := (hB).cell 10; have k11 : (W).cell? ⟨r, 11, none⟩ = some (Q) := (hB).cell 11; have k12 : (W).cell? ⟨r, 12, none⟩ = some (X) := (hB).cell 12; have k13 : (W).cell? ⟨r, 13, none⟩ = some (Y) := (hB).cell 13; have k14 : (W).cell? ⟨r, 14, none⟩ = some (Z) := (hB).cell 14
  simp [results, Tryd.results17, go_sem, h2, k0, k1, k2, k3, k4, k5, k6, k7, k8, k9, k10, k11, k12, k13, k14]
theorem silent_end {w w4 wf : World} {h : Hd} {Q X Y : Value} {zs : List RecT} {Az A4 : Option Addr} {nz cz n4 c4 : Nat} (hQ : ∃ a n c, Q = .slice a n c) (hX : ∃ a n c, X = .slice a n c) (hY : ∃ a n c, Y = .slice a n c) (hg : (w4.setCell ⟨w.heap.size, 14, none⟩ (.slice A4 n4 c4)).grownBy wf (some (w.heap.size + 1)))
    (hkx : Blk w4 w.heap.size 28 (msgC h Q X Y (.slice Az nz cz))) (hkz : Blk w4 (w.heap.size + 1) 28 (msgC hd0 (.slice none 0 0) (.slice none 0 0) (.slice none 0 0) (.slice none 0 0)))
    (hz : Row recR 67 w4 (w.heap.size + 2) (.slice A4 n4 c4) zs) (hlow : Below w.heap.size w w4) :
    Row recR 67 wf w.heap.size (.slice A4 n4 c4) zs ∧ Below w.heap.size w wf := by
  obtain ⟨_, _, _, rfl⟩ := hQ
  obtain ⟨_, _, _, rfl⟩ := hX
  obtain ⟨_, _, _, rfl⟩ := hY
  have hz4 := hkz.lt
  have hf1 := FreeB.grown_msg hkx (not_d_slice _ _ _) (not_d_slice _ _ _) (not_d_slice _ _ _) (not_d_slice _ _ _)
  have hkz2 : Blk (w4.setCell ⟨w.heap.size, 14, none⟩ (.slice A4 n4 c4)) (w.heap.size + 1) 28 (msgC hd0 (.slice none 0 0) (.slice none 0 0) (.slice none 0 0) (.slice none 0 0)) := hkz.far (by simp only; omega) _
  have hf2 := FreeB.grown_msg hkz2 (not_d_slice _ _ _) (not_d_slice _ _ _) (not_d_slice _ _ _) (not_d_slice _ _ _)
  have gs := grown_set (w := w4) (g := w.heap.size) 14 (.slice A4 n4 c4)
  have hbf : w.heap.size + 2 ≤ wf.heap.size := Nat.le_trans (by simp; omega) hg.size
  exact ⟨((hz.grown near_rec gs hf1 (by omega)).grown near_rec hg hf2 (by omega)).less (by omega), (hlow.setCell (Nat.le_refl _) _).trans ((grown_belowB hg (by simp; omega)).mono (by omega))⟩

set_option maxRecDepth 100000 in
set_option maxHeartbeats 8000000 in
theorem rsilent_any {w : World} {h : Hd} {Aq Ax Ay Az : Option Addr} {nq cq nx cx ny cy nz cz : Nat} {zs : List RecT} (hR : Rd recR w w.heap.size Az nz cz zs) {kk : Nat} (hkk : (silent zs).length = kk) :
    Calls Tryd.prog 17 #[.agg (msgC h (.slice Aq nq cq) (.slice Ax nx cx) (.slice Ay ny cy) (.slice Az nz cz))] w fun e w' => ∃ A c, e = .returned (.agg (msgC h (.slice Aq nq cq) (.slice Ax nx cx) (.slice Ay ny cy) (.slice A kk c))) ∧ Row recR 67 w' w.heap.size (.slice A kk c) (silent zs) ∧ Below w.heap.size w w' := by
  have m1 := hR.max
  have k1 := hR.cap
  have lim := hR.lim
  rw [show recR.bs = 72 from rfl] at lim
  unfold maxLen at m1
  have HR := hid hR
  have HKK := hid hkk
  clear hR hkk
  go_enter Tryd.func17, Tryd.ntmps17
  go_wp2
  have hB1 : Blk ((w.alloc (.cells (msgC h (.slice Aq nq cq) (.slice Ax nx cx) (.slice Ay ny cy) (.slice Az nz cz)) 28)).alloc (.cells (msgC hd0 (.slice none 0 0) (.slice none 0 0) (.slice none 0 0) (.slice none 0 0)) 28)) w.heap.size 28 (msgC h (.slice Aq nq cq) (.slice Ax nx cx) (.slice Ay ny cy) (.slice Az nz cz)) := (Blk.new _ _ _).alloc _
  have hB2 : Blk ((w.alloc (.cells (msgC h (.slice Aq nq cq) (.slice Ax nx cx) (.slice Ay ny cy) (.slice Az nz cz)) 28)).alloc (.cells (msgC hd0 (.slice none 0 0) (.slice none 0 0) (.slice none 0 0) (.slice none 0 0)) 28)) (w.heap.size + 1) 28 (msgC hd0 (.slice none 0 0) (.slice none 0 0) (.slice none 0 0) (.slice none 0 0)) := Blk.new' _ _ (by simp)
  go_loopg [3, 4] nz (fun g s3 s4 wi => ∃ (k : Nat) (V : Value), k ≤ nz ∧ g = nz - k ∧ s3 = V ∧ s4 = .int .i64 k ∧ Row recR 67 wi (w.heap.size + 2) V (silent (zs.take k)) ∧ Blk wi w.heap.size 28 (msgC h (.slice Aq nq cq) (.slice Ax nx cx) (.slice Ay ny cy) (.slice Az nz cz)) ∧ Blk wi (w.heap.size + 1) 28 (msgC hd0 (.slice none 0 0) (.slice none 0 0) (.slice none 0 0) (.slice none 0 0)) ∧ Below w.heap.size w wi)
  case atStart => exact ⟨0, _, Nat.zero_le _, rfl, rfl, rfl, Row.nil _ _ _ _, hB1, hB2, (by (repeat' (first | (with_reducible exact Below.refl _ _) | (with_reducible assumption) | (with_reducible refine below_ext0 ?_ _ _) | (with_reducible refine below_alloc0 ?_ _) | (with_reducible refine Below.ext ?_ ?_ _ _) | (with_reducible refine Below.alloc ?_ ?_ _) | (with_reducible refine Below.setCell ?_ ?_ _) | (with_reducible refine Below.drew ?_) | (with_reducible refine below_draws ?_ _) | go_size | (simp [size_ext]; done) | (simp [size_ext]; omega))))⟩
  case round =>
    obtain ⟨k, V, hk, rfl, rfl, rfl, hrow, hkx, hkz, hb⟩ := hrel
    clear hB1 hB2
    obtain ⟨nV, hlen⟩ : ∃ nV, (silent (zs.take k)).length = nV := ⟨_, rfl⟩
    have hnk : nV ≤ k := by
      have := silent_len (zs.take k)
      rw [hlen, List.length_take] at this
      omega
    obtain ⟨AV, cV, hV⟩ := hrow.slice
    rw [hlen] at hV
    subst hV
    have HB := hid hb
    have hsz := hkz.lt
    have HKX := hid hkx
    have HKZ := hid hkz
    by_cases hlt : k < nz
    · obtain ⟨b1, o1, A3, n3, c3, A4, n4, c4, l1, T, C, L, d, rfl, hb1, e1, x0, x1, x2, x3, x4, r1, hi64, s1⟩ := (HR.out.later hb).recd k hlt
      have q14 : wr.cell? ⟨w.heap.size, 14, none⟩ = some (.slice (some ⟨b1, o1, none⟩) nz cz) := hkx.cell 14
      have hk' : k < zs.length := by rw [HR.out.len]; exact hlt
      have ht := silent_take zs hk'
      rw [e1] at ht
      have HT := hid ht
      have R1 := hid r1
      have S1 := hid s1
      have HI := hid hi64
      obtain ⟨cs, hro, hrr, hrf⟩ := hrow
      have HRO := hid hro
      have HRR := hid hrr
      have HRF := hid hrf
      have HLEN := hid hlen
      have ab1 : ((silent (zs.take k)).length + 1) * 72 ≤ 140737488355328 := by rw [hlen]; omega
      have ab2 : (silent (zs.take k)).length + 1 ≤ maxLen := by rw [hlen]; unfold maxLen; omega
      clear hb e1 ht r1 s1 hi64 hro hrr hrf hlen hkx hkz
      have t0 : (k : Int) < (nz : Int) := by omega
      have t2 : (0 : Int) ≤ (k : Int) := by omega
      by_cases h41 : T = 41
      · have hv : (T != 41) = false := by rw [bne_eq_false_iff_eq]; exact h41
        have hT2 : silent (zs.take (k + 1)) = silent (zs.take k) := by rw [HT.out, if_pos (by simpa [isOpt] using h41), List.append_nil]
        have HT2 := hid hT2
        clear h41 hT2
        go_wp2
        go_roundg (nz - (k + 1))
        case measure => omega
        case rel => exact ⟨k + 1, _, by omega, rfl, rfl, by go_num, by rw [HT2.out]; exact ⟨cs, HRO.out, HRR.out, HRF.out⟩, HKX.out, HKZ.out, HB.out⟩
      · have hv : (T != 41) = true := by rw [bne_iff_ne]; exact h41
        have hT2 : silent (zs.take (k + 1)) = silent (zs.take k) ++ [(l1, T, C, L, d, ())] := by rw [HT.out, if_neg (by simpa [isOpt] using h41)]
        have HT2 := hid hT2
        clear h41 hT2
        go_wp2_with (at_builtin; go_must (refine wpList_row near_rec el_r zr_d HRO.out HRR.out HRF.out ((l1, T, C, L, d, ()) : RecT) [.slice A3 n3 c3, .int .i64 T, .int .i64 C, .int .i64 L, .slice A4 n4 c4] rfl _ _ rfl rfl rfl (by (repeat' (first | (with_reducible exact Below.refl _ _) | (with_reducible assumption) | (with_reducible refine below_ext0 ?_ _ _) | (with_reducible refine below_alloc0 ?_ _) | (with_reducible refine Below.ext ?_ ?_ _ _) | (with_reducible refine Below.alloc ?_ ?_ _) | (with_reducible refine Below.setCell ?_ ?_ _) | (with_reducible refine Below.drew ?_) | (with_reducible refine below_draws ?_ _) | go_size | (simp [size_ext]; done) | (simp [size_ext]; omega)))) (src_blk (m := 1) (size := 5) (t := 67) (cs := #[.slice A3 n3 c3, .int .i64 T, .int .i64 C, .int .i64 L, .slice A4 n4 c4]) (Blk.new' _ _ (by first | rfl | (simp [size_ext]; done) | (simp [size_ext]; omega))) rfl (by simp [Value.oneCell'])) (rel_r (R1.out.later (by (repeat' (first | (with_reducible exact Below.refl _ _) | (with_reducible assumption) | (with_reducible refine below_ext0 ?_ _ _) | (with_reducible refine below_alloc0 ?_ _) | (with_reducible refine Below.ext ?_ ?_ _ _) | (with_reducible refine Below.alloc ?_ ?_ _) | (with_reducible refine Below.setCell ?_ ?_ _) | (with_reducible refine Below.drew ?_) | (with_reducible refine below_draws ?_ _) | go_size | (simp [size_ext]; done) | (simp [size_ext]; omega))))) HI.out.1 HI.out.2.1 HI.out.2.2 (S1.out.later (by (repeat' (first | (with_reducible exact Below.refl _ _) | (with_reducible assumption) | (with_reducible refine below_ext0 ?_ _ _) | (with_reducible refine below_alloc0 ?_ _) | (with_reducible refine Below.ext ?_ ?_ _ _) | (with_reducible refine Below.alloc ?_ ?_ _) | (with_reducible refine Below.setCell ?_ ?_ _) | (with_reducible refine Below.drew ?_) | (with_reducible refine below_draws ?_ _) | go_size | (simp [size_ext]; done) | (simp [size_ext]; omega)))))) (by simp [not_d_slice, not_d_int]) ab1 ab2 (by omega) ?_); intro v9 w9 row9 ha9)
        have kx9 := app_blk HRO.out HKX.out ha9 (by (repeat' (first | (with_reducible exact Below.refl _ _) | (with_reducible assumption) | (with_reducible refine below_ext0 ?_ _ _) | (with_reducible refine below_alloc0 ?_ _) | (with_reducible refine Below.ext ?_ ?_ _ _) | (with_reducible refine Below.alloc ?_ ?_ _) | (with_reducible refine Below.setCell ?_ ?_ _) | (with_reducible refine Below.drew ?_) | (with_reducible refine below_draws ?_ _) | go_size | (simp [size_ext]; done) | (simp [size_ext]; omega)))) (by omega)
        have kz9 := app_blk HRO.out HKZ.out ha9 (by (repeat' (first | (with_reducible exact Below.refl _ _) | (with_reducible assumption) | (with_reducible refine below_ext0 ?_ _ _) | (with_reducible refine below_alloc0 ?_ _) | (with_reducible refine Below.ext ?_ ?_ _ _) | (with_reducible refine Below.alloc ?_ ?_ _) | (with_reducible refine Below.setCell ?_ ?_ _) | (with_reducible refine Below.drew ?_) | (with_reducible refine below_draws ?_ _) | go_size | (simp [size_ext]; done) | (simp [size_ext]; omega)))) (by omega)
        have hl9 := app_low HRO.out ha9 (by (repeat' (first | (with_reducible exact Below.refl _ _) | (with_reducible assumption) | (with_reducible refine below_ext0 ?_ _ _) | (with_reducible refine below_alloc0 ?_ _) | (with_reducible refine Below.ext ?_ ?_ _ _) | (with_reducible refine Below.alloc ?_ ?_ _) | (with_reducible refine Below.setCell ?_ ?_ _) | (with_reducible refine Below.drew ?_) | (with_reducible refine below_draws ?_ _) | go_size | (simp [size_ext]; done) | (simp [size_ext]; omega)))) HB.out (by omega) (by omega)
        go_roundg (nz - (k + 1))
        case measure => omega
        case rel => exact ⟨k + 1, v9, by omega, rfl, rfl, by go_num, by rw [HT2.out]; exact row9, kx9, kz9, hl9⟩
    · have t0 : ¬ (k : Int) < (nz : Int) := by omega
      obtain rfl : k = nz := by omega
      have ht : zs.take k = zs := List.take_of_length_le (by rw [HR.out.len]; exact Nat.le_refl _)
      rw [ht] at hrow hlen
      obtain rfl : nV = kk := hlen.symm.trans HKK.out
      have x0 : (wr).cell? ⟨w.heap.size, 0, none⟩ = some (.int .i64 h.id) := (hkx).cell 0; have x1 : (wr).cell? ⟨w.heap.size, 1, none⟩ = some (.bool h.an) := (hkx).cell 1; have x2 : (wr).cell? ⟨w.heap.size, 2, none⟩ = some (.int .i64 h.op) := (hkx).cell 2; have x3 : (wr).cell? ⟨w.heap.size, 3, none⟩ = some (.bool h.aa) := (hkx).cell 3; have x4 : (wr).cell? ⟨w.heap.size, 4, none⟩ = some (.bool h.tc) := (hkx).cell 4; have x5 : (wr).cell? ⟨w.heap.size, 5, none⟩ = some (.bool h.rd) := (hkx).cell 5; have x6 : (wr).cell? ⟨w.heap.size, 6, none⟩ = some (.bool h.ra) := (hkx).cell 6; have x7 : (wr).cell? ⟨w.heap.size, 7, none⟩ = some (.bool h.z) := (hkx).cell 7; have x8 : (wr).cell? ⟨w.heap.size, 8, none⟩ = some (.bool h.ad) := (hkx).cell 8; have x9 : (wr).cell? ⟨w.heap.size, 9, none⟩ = some (.bool h.cd) := (hkx).cell 9; have x10 : (wr).cell? ⟨w.heap.size, 10, none⟩ = some (.int .i64 h.code) := (hkx).cell 10; have x11 : (wr).cell? ⟨w.heap.size, 11, none⟩ = some (.slice Aq nq cq) := (hkx).cell 11; have x12 : (wr).cell? ⟨w.heap.size, 12, none⟩ = some (.slice Ax nx cx) := (hkx).cell 12; have x13 : (wr).cell? ⟨w.heap.size, 13, none⟩ = some (.slice Ay ny cy) := (hkx).cell 13; have x14 : (wr).cell? ⟨w.heap.size, 14, none⟩ = some (.slice Az k cz) := (hkx).cell 14
      have g0 : (wr).frozen? ⟨w.heap.size, 0, none⟩ = false := (hkx).frozen 0; have g1 : (wr).frozen? ⟨w.heap.size, 1, none⟩ = false := (hkx).frozen 1; have g2 : (wr).frozen? ⟨w.heap.size, 2, none⟩ = false := (hkx).frozen 2; have g3 : (wr).frozen? ⟨w.heap.size, 3, none⟩ = false := (hkx).frozen 3; have g4 : (wr).frozen? ⟨w.heap.size, 4, none⟩ = false := (hkx).frozen 4; have g5 : (wr).frozen? ⟨w.heap.size, 5, none⟩ = false := (hkx).frozen 5; have g6 : (wr).frozen? ⟨w.heap.size, 6, none⟩ = false := (hkx).frozen 6; have g7 : (wr).frozen? ⟨w.heap.size, 7, none⟩ = false := (hkx).frozen 7; have g8 : (wr).frozen? ⟨w.heap.size, 8, none⟩ = false := (hkx).frozen 8; have g9 : (wr).frozen? ⟨w.heap.size, 9, none⟩ = false := (hkx).frozen 9; have g10 : (wr).frozen? ⟨w.heap.size, 10, none⟩ = false := (hkx).frozen 10; have g11 : (wr).frozen? ⟨w.heap.size, 11, none⟩ = false := (hkx).frozen 11; have g12 : (wr).frozen? ⟨w.heap.size, 12, none⟩ = false := (hkx).frozen 12; have g13 : (wr).frozen? ⟨w.heap.size, 13, none⟩ = false := (hkx).frozen 13; have g14 : (wr).frozen? ⟨w.heap.size, 14, none⟩ = false := (hkx).frozen 14
      have z0 : (wr).cell? ⟨w.heap.size + 1, 0, none⟩ = some (.int .i64 hd0.id) := (hkz).cell 0; have z1 : (wr).cell? ⟨w.heap.size + 1, 1, none⟩ = some (.bool hd0.an) := (hkz).cell 1; have z2 : (wr).cell? ⟨w.heap.size + 1, 2, none⟩ = some (.int .i64 hd0.op) := (hkz).cell 2; have z3 : (wr).cell? ⟨w.heap.size + 1, 3, none⟩ = some (.bool hd0.aa) := (hkz).cell 3; have z4 : (wr).cell? ⟨w.heap.size + 1, 4, none⟩ = some (.bool hd0.tc) := (hkz).cell 4; have z5 : (wr).cell? ⟨w.heap.size + 1, 5, none⟩ = some (.bool hd0.rd) := (hkz).cell 5; have z6 : (wr).cell? ⟨w.heap.size + 1, 6, none⟩ = some (.bool hd0.ra) := (hkz).cell 6; have z7 : (wr).cell? ⟨w.heap.size + 1, 7, none⟩ = some (.bool hd0.z) := (hkz).cell 7; have z8 : (wr).cell? ⟨w.heap.size + 1, 8, none⟩ = some (.bool hd0.ad) := (hkz).cell 8; have z9 : (wr).cell? ⟨w.heap.size + 1, 9, none⟩ = some (.bool hd0.cd) := (hkz).cell 9; have z10 : (wr).cell? ⟨w.heap.size + 1, 10, none⟩ = some (.int .i64 hd0.code) := (hkz).cell 10; have z11 : (wr).cell? ⟨w.heap.size + 1, 11, none⟩ = some (.slice none 0 0) := (hkz).cell 11; have z12 : (wr).cell? ⟨w.heap.size + 1, 12, none⟩ = some (.slice none 0 0) := (hkz).cell 12; have z13 : (wr).cell? ⟨w.heap.size + 1, 13, none⟩ = some (.slice none 0 0) := (hkz).cell 13; have z14 : (wr).cell? ⟨w.heap.size + 1, 14, none⟩ = some (.slice none 0 0) := (hkz).cell 14
      have f0 : (wr).frozen? ⟨w.heap.size + 1, 0, none⟩ = false := (hkz).frozen 0; have f1 : (wr).frozen? ⟨w.heap.size + 1, 1, none⟩ = false := (hkz).frozen 1; have f2 : (wr).frozen? ⟨w.heap.size + 1, 2, none⟩ = false := (hkz).frozen 2; have f3 : (wr).frozen? ⟨w.heap.size + 1, 3, none⟩ = false := (hkz).frozen 3; have f4 : (wr).frozen? ⟨w.heap.size + 1, 4, none⟩ = false := (hkz).frozen 4; have f5 : (wr).frozen? ⟨w.heap.size + 1, 5, none⟩ = false := (hkz).frozen 5; have f6 : (wr).frozen? ⟨w.heap.size + 1, 6, none⟩ = false := (hkz).frozen 6; have f7 : (wr).frozen? ⟨w.heap.size + 1, 7, none⟩ = false := (hkz).frozen 7; have f8 : (wr).frozen? ⟨w.heap.size + 1, 8, none⟩ = false := (hkz).frozen 8; have f9 : (wr).frozen? ⟨w.heap.size + 1, 9, none⟩ = false := (hkz).frozen 9; have f10 : (wr).frozen? ⟨w.heap.size + 1, 10, none⟩ = false := (hkz).frozen 10; have f11 : (wr).frozen? ⟨w.heap.size + 1, 11, none⟩ = false := (hkz).frozen 11; have f12 : (wr).frozen? ⟨w.heap.size + 1, 12, none⟩ = false := (hkz).frozen 12; have f13 : (wr).frozen? ⟨w.heap.size + 1, 13, none⟩ = false := (hkz).frozen 13; have f14 : (wr).frozen? ⟨w.heap.size + 1, 14, none⟩ = false := (hkz).frozen 14
      have HW := hid hrow
      clear ht hrow hb hlen hkx hkz
      go_wp2
      have kz2 : Blk (wr.setCell ⟨w.heap.size, 14, none⟩ (.slice AV nV cV)) (w.heap.size + 1) 28 (msgC hd0 (.slice none 0 0) (.slice none 0 0) (.slice none 0 0) (.slice none 0 0)) := HKZ.out.far (by simp only; omega) _
      refine bodyPost_ret (res_silent rfl (msg_over h _ _ _ _ kz2)) rfl ⟨AV, cV, rfl, silent_end ⟨_, _, _, rfl⟩ ⟨_, _, _, rfl⟩ ⟨_, _, _, rfl⟩ ?_ HKX.out HKZ.out HW.out HB.out⟩
      repeat (first | (with_reducible exact grown_refl _ _) | (with_reducible refine World.grownBy.trans ?_ (grown_set _ _)))
end Go.Proofs.YtfihedcobopbcaaDoor
