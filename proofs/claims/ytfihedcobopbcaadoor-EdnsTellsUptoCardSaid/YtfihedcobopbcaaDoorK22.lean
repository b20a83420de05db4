/- The document's answer: a message that tells (Telling). -/
import Derived.Test.YtfihedcobopbcaaDoorK21
import Derived.Test.YtfihedcobopbcaaDoorK12
import Derived.Test.YtfihedcobopbcaaDoorK19
namespace Go.Proofs.YtfihedcobopbcaaDoor
open Go.RowKit
set_option linter.unusedVariables false
set_option linter.unusedSimpArgs false

theorem rpair2_any {w : World} (x : Int) (h0 : 0 ≤ x) (h1 : x ≤ 65535) :
    Calls Tryd.prog 53 #[.int .i64 x] w fun e w' => ∃ A' c', e = .returned (.slice A' 2 c') ∧ Rd u8R w' w'.heap.size A' 2 c' (two2 x) ∧ Below w.heap.size w w' := by
  have hc : Rd u8R (w.alloc (.cells #[.int .u8 (x / 256), .int .u8 (x % 256)] 5)) (w.alloc (.cells #[.int .u8 (x / 256), .int .u8 (x % 256)] 5)).heap.size (some ⟨w.heap.size, 0, none⟩) 2 2 (two2 x) := by
    refine rd_lit 5 _ (two2 x) 2 rfl ?_ rfl (by omega)
    simp only [two2, List.map_cons, List.map_nil, UInt8.toNat_ofNat']
    congr 2 <;> (try congr 1) <;> omega
  have HC := hid hc
  clear hc
  go_enter Tryd.func53, Tryd.ntmps53
  go_wp2
  go_ret
  exact ⟨_, _, rfl, HC.out, (by (repeat' (first | (with_reducible exact Below.refl _ _) | (with_reducible assumption) | (with_reducible refine below_ext0 ?_ _ _) | (with_reducible refine below_alloc0 ?_ _) | (with_reducible refine Below.ext ?_ ?_ _ _) | (with_reducible refine Below.alloc ?_ ?_ _) | (with_reducible refine Below.setCell ?_ ?_ _) | (with_reducible refine Below.drew ?_) | (with_reducible refine below_draws ?_ _) | go_size | (simp [size_ext]; done) | (simp [size_ext]; omega))))⟩
theorem SrcR.u8' {w : World} {B B' n c : Nat} {A : Option Addr} {m : List UInt8} (h : Rd u8R w B' A n c m) : SrcR u8R B w A n c m := by
  obtain ⟨⟨ys, h1, h2⟩, h3⟩ := SrcR.u8 h
  exact ⟨⟨ys, h1, rels_u8.2 (rels_u8.1 h2)⟩, h3⟩
/-- Telling, so many options laid -/
structure TellI (w : World) (M O Z : Array Value) (size T2 : Int) (q : List UInt8) (wi : World) (V : Value) : Prop where
  s : SetI w (w.heap.size + 3) M #[] Z size T2 q wi V
  o : Blk wi (w.heap.size + 1) 46 O
theorem TellI.step {w wi W w2 : World} {M O Z : Array Value} {size T2 : Int} {q q' : List UInt8} {V V2 : Value} (h : TellI w M O Z size T2 q wi V) (hb : Below wi.heap.size wi W) (ho : OwnR u8R 5 w.heap.size (w.heap.size + 3 + 1) w2 V2 q') (hw : Below (w.heap.size + 3 + 1) W w2) : TellI w M O Z size T2 q' (w2.setCell ⟨w.heap.size + 3, 4, none⟩ V2) V2 := by
  have hlt := h.s.recd.lt
  have hW : Below (w.heap.size + 3 + 1) wi w2 := (hb.mono (by omega)).trans hw
  exact ⟨h.s.step (Nat.le_refl _) hb ho hw, (h.o.below hW (by omega)).far (by simp only; omega) _⟩
/-- Telling, behind Silent -/
structure TellS (w : World) (h : Hd) (Q X Y : Value) (base : Nat) (zs : List RecT) (nS : Nat) (size T2 : Int) (q : List UInt8) (wx : World) (A4 : Option Addr) (c4 : Nat) (V : Value) : Prop where
  x : Blk wx w.heap.size 28 (msgC h Q X Y (.slice A4 nS c4))
  recd : Blk wx (w.heap.size + 3) 67 #[.slice none 0 0, .int .i64 41, .int .i64 size, .int .i64 T2, V]
  z : Blk wx (w.heap.size + 2) 28 (msgC hd0 (.slice none 0 0) (.slice none 0 0) (.slice none 0 0) (.slice none 0 0))
  d : OwnR u8R 5 w.heap.size (w.heap.size + 3 + 1) wx V q
  rz : Row recR 67 wx base (.slice A4 nS c4) (silent zs)
  le : base ≤ wx.heap.size
  low : Below w.heap.size w wx
theorem tell_drop {w wr w4 wx : World} {h : Hd} {Aq Ax Ay Az A4 : Option Addr} {nq cq nx cx ny cy nz cz nS c4 : Nat} {O : Array Value} {zs : List RecT} {size T2 : Int} {q : List UInt8} {V : Value} (hs : TellI w (msgC h (.slice Aq nq cq) (.slice Ax nx cx) (.slice Ay ny cy) (.slice Az nz cz)) O (msgC hd0 (.slice none 0 0) (.slice none 0 0) (.slice none 0 0) (.slice none 0 0)) size T2 q wr V) (hr : Row recR 67 w4 wr.heap.size (.slice A4 nS c4) (silent zs)) (hb : Below wr.heap.size wr w4) (hg : w4.grownBy wx (some w.heap.size)) (hx : Blk wx w.heap.size 28 (msgC h (.slice Aq nq cq) (.slice Ax nx cx) (.slice Ay ny cy) (.slice A4 nS c4))) :
    TellS w h (.slice Aq nq cq) (.slice Ax nx cx) (.slice Ay ny cy) wr.heap.size zs nS size T2 q wx A4 c4 V := by
  have l1 := hs.s.recd.lt
  have l2 := hs.s.x.lt
  have hf := FreeB.grown_msg (hs.s.x.below hb l2) (not_d_slice _ _ _) (not_d_slice _ _ _) (not_d_slice _ _ _) (not_d_slice _ _ _)
  exact ⟨hx, blk_grown (hs.s.recd.below hb l1) hg (by omega), blk_grown (hs.s.z.below hb (by omega)) hg (by omega), (hs.s.own.below hb).grown hg (Nat.le_refl _) (by omega), hr.grown near_rec hg hf l2, Nat.le_trans hb.size hg.size, (hs.s.low.trans (hb.mono hs.s.low.size)).trans ((grown_belowB hg (by have := hb.size; omega)))⟩
theorem res_telling {tmps : Array Value} {W : World} {r : Nat} {T : TypeId} {h : Hd} {Q X Y Z : Value} (h2 : tmps[4]? = some (.pointer (some ⟨r, 0, none⟩))) (hB : Blk W r T (msgC h Q X Y Z)) :
    (results Tryd.f19 tmps).run Tryd.prog W = .ok (.agg (msgC h Q X Y Z)) W := by
  have k0 : (W).cell? ⟨r, 0, none⟩ = some (.int .i64 h.id) := (hB).cell 0; have k1 : (W).cell? ⟨r, 1, none⟩ = some (.bool h.an) := (hB).cell 1; have k2 : (W).cell? ⟨r, 2, none⟩ = some (.int .i64 h.op) := (hB).cell 2; have k3 : (W).cell? ⟨r, 3, none⟩ = some (.bool h.aa) := (hB).cell 3; have k4 : (W).cell? ⟨r, 4, none⟩ = some (.bool h.tc) := (hB).cell 4; have k5 : (W).cell? ⟨r, 5, none⟩ = some (.bool h.rd) := (hB).cell 5; have k6 : (W).cell? ⟨r, 6, none⟩ = some (.bool h.ra) := (hB).cell 6; have k7 : (W).cell? ⟨r, 7, none⟩ = some (.bool h.z) := (hB).cell 7; have k8 : (W).cell? ⟨r, 8, none⟩ = some (.bool h.ad) := (hB).cell 8; have k9 : (W).cell? ⟨r, 9, none⟩ = some (.bool h.cd) := (hB).cell 9; have k10 : (W).cell? ⟨r, 10, none⟩ = some (.int .i64 h.code) := (hB).cell 10; have k11 : (W).cell? ⟨r, 11, none⟩ = some (Q) := (hB).cell 11; have k12 : (W).cell? ⟨r, 12, none⟩ = some (X) := (hB).cell 12; have k13 : (W).cell? ⟨r, 13, none⟩ = some (Y) := (hB).cell 13; have k14 : (W).cell? ⟨r, 14, none⟩ = some (Z) := (hB).cell 14
  simp [results, Tryd.results19, go_sem, h2, k0, k1, k2, k3, k4, k5, k6, k7, k8, k9, k10, k11, k12, k13, k14]
theorem tell_end {w w9 wf : World} {h : Hd} {Q X Y : Value} {zs : List RecT} {Az A9 : Option Addr} {nz cz n9 c9 base : Nat} (hQ : ∃ a n c, Q = .slice a n c) (hX : ∃ a n c, X = .slice a n c) (hY : ∃ a n c, Y = .slice a n c) (hg : (w9.setCell ⟨w.heap.size, 14, none⟩ (.slice A9 n9 c9)).grownBy wf (some (w.heap.size + 2)))
    (hkx : Blk w9 w.heap.size 28 (msgC h Q X Y (.slice Az nz cz))) (hkz : Blk w9 (w.heap.size + 2) 28 (msgC hd0 (.slice none 0 0) (.slice none 0 0) (.slice none 0 0) (.slice none 0 0)))
    (hz : Row recR 67 w9 base (.slice A9 n9 c9) zs) (lz : zs.length = n9 ∧ n9 * 72 ≤ 140737488355328) (bb : w.heap.size + 3 ≤ base) (hb : base ≤ w9.heap.size) (hlow : Below w.heap.size w w9) :
    Row recR 67 wf w.heap.size (.slice A9 n9 c9) zs ∧ Below w.heap.size w wf := by
  obtain ⟨_, _, _, rfl⟩ := hQ
  obtain ⟨_, _, _, rfl⟩ := hX
  obtain ⟨_, _, _, rfl⟩ := hY
  have hz4 := hkz.lt
  have hf1 := FreeB.grown_msg hkx (not_d_slice _ _ _) (not_d_slice _ _ _) (not_d_slice _ _ _) (not_d_slice _ _ _)
  have kz2 : Blk (w9.setCell ⟨w.heap.size, 14, none⟩ (.slice A9 n9 c9)) (w.heap.size + 2) 28 (msgC hd0 (.slice none 0 0) (.slice none 0 0) (.slice none 0 0) (.slice none 0 0)) := hkz.far (by simp only; omega) _
  have hf2 := FreeB.grown_msg kz2 (not_d_slice _ _ _) (not_d_slice _ _ _) (not_d_slice _ _ _) (not_d_slice _ _ _)
  have gs := grown_set (w := w9) (g := w.heap.size) 14 (.slice A9 n9 c9)
  have r4 := ((hz.grown near_rec gs hf1 (by omega)).grown near_rec hg hf2 (by omega)).less (base' := w.heap.size) (by omega)
  exact ⟨r4, (hlow.setCell (Nat.le_refl _) _).trans ((grown_belowB hg (by simp; omega)).mono (by omega))⟩

set_option maxRecDepth 100000 in
set_option maxHeartbeats 8000000 in
theorem rtelling_any {w : World} {h : Hd} {Aq Ax Ay Az : Option Addr} {nq cq nx cx ny cy nz cz : Nat} {zs : List RecT} (hZ : Rd recR w w.heap.size Az nz cz zs) (tz : nz * 72 ≤ 140737488351232)
    {size code ver z : Int} {dob : Bool} {Ao : Option Addr} {no co : Nat} {os : List OT} (hO : Rd oR w w.heap.size Ao no co os) (hk : OptOk ⟨size, code, ver, dob, z⟩) (he : optsErr os = 0) (hd : (dataO os).length ≤ 65535) {ss : List RecT} (hs : silent zs ++ [recO ⟨size, code, ver, dob, z⟩ os] = ss) {kk : Nat} (hkk : ss.length = kk) :
    Calls Tryd.prog 19 #[.agg (msgC h (.slice Aq nq cq) (.slice Ax nx cx) (.slice Ay ny cy) (.slice Az nz cz)), .agg (optC ⟨size, code, ver, dob, z⟩ (.slice Ao no co))] w fun e w' => ∃ A c, e = .returned (.agg (msgC h (.slice Aq nq cq) (.slice Ax nx cx) (.slice Ay ny cy) (.slice A kk c))) ∧ Row recR 67 w' w.heap.size (.slice A kk c) ss ∧ Below w.heap.size w w' := by
  obtain ⟨T1, hT1⟩ : ∃ T1, code * 16777216 + ver * 65536 + z = T1 := ⟨_, rfl⟩
  obtain ⟨T2, hT2⟩ : ∃ T2, ttl2 ⟨size, code, ver, dob, z⟩ = T2 := ⟨_, rfl⟩
  have HT2 := hid hT2
  obtain ⟨⟨k0, k1⟩, ⟨k2, k3⟩, ⟨k4, k5⟩, ⟨k6, k7⟩⟩ := hk
  simp only at k0 k1 k2 k3 k4 k5 k6 k7
  have hT1b : 0 ≤ T1 ∧ T1 ≤ 4294934527 := by omega
  obtain ⟨t1lo, t1hi⟩ := hT1b
  have hb2 : dob = true → T2 = T1 + 32768 := fun hd => by rw [← hT1, ← hT2]; unfold ttl2; simp [hd]; omega
  have hb3 : dob = false → T2 = T1 := fun hd => by rw [← hT1, ← hT2]; unfold ttl2; simp [hd]
  have hT2b : 0 ≤ T2 ∧ T2 ≤ 4294967295 := by cases dob; (have := hb3 rfl; omega); (have := hb2 rfl; omega)
  obtain ⟨t2lo, t2hi⟩ := hT2b
  have HB2 := hid hb2
  have HB3 := hid hb3
  have HO := hid hO
  have HZ := hid hZ
  have HS := hid hs
  have HKK := hid hkk
  have HE := hid he
  have lz := hZ.len
  have hzl := silent_len zs
  rw [lz] at hzl
  obtain ⟨nS, hnS⟩ : ∃ nS, (silent zs).length = nS := ⟨_, rfl⟩
  rw [hnS] at hzl
  have HNS := hid hnS
  have CZ := hid fun w' (hb : Below w.heap.size w w') => rsilent_any (h := h) (Aq := Aq) (Ax := Ax) (Ay := Ay) (nq := nq) (cq := cq) (nx := nx) (cx := cx) (ny := ny) (cy := cy) (hZ.later hb) hnS
  clear hO hZ hT2 hb2 hb3 hs hkk he hnS
  have tk0 : True := trivial; have tk1 : True := trivial; have tk2 : True := trivial; have tk3 : True := trivial; have tk4 : True := trivial; have tk5 : True := trivial; have tk6 : True := trivial; have tk7 : True := trivial; have tk8 : True := trivial; have tk9 : True := trivial; have tk10 : True := trivial; have tk11 : True := trivial; have tk12 : True := trivial
  go_enter Tryd.func19, Tryd.ntmps19
  go_upto_if 21 with fail
  go_cut [5] from 5 to 26 (fun s5 wx => s5 = .pointer (some ⟨w.heap.size + 3, 0, none⟩) ∧ Blk wx (w.heap.size + 3) 67 #[.slice none 0 0, .int .i64 41, .int .i64 size, .int .i64 T2, .slice none 0 0] ∧ Blk wx w.heap.size 28 (msgC h (.slice Aq nq cq) (.slice Ax nx cx) (.slice Ay ny cy) (.slice Az nz cz)) ∧ Blk wx (w.heap.size + 1) 46 (optC ⟨size, code, ver, dob, z⟩ (.slice Ao no co)) ∧ Blk wx (w.heap.size + 2) 28 (msgC hd0 (.slice none 0 0) (.slice none 0 0) (.slice none 0 0) (.slice none 0 0)) ∧ Below w.heap.size w wx)
  case first =>
    cases dob
    · obtain rfl := HB3.out rfl
      clear HB2 HB3
      go_wp2_with fail
      go_meet
      exact ⟨rfl, (by ((repeat' (first | (with_reducible assumption) | (with_reducible refine Blk.drew ?_) | exact Blk.new' _ _ (by first | rfl | (simp [size_ext]; done) | (simp [size_ext]; omega)) | (with_reducible refine Blk.ext ?_ _ _) | (with_reducible refine Blk.alloc ?_ _))); (all_goals fail))), (by ((repeat' (first | (with_reducible assumption) | (with_reducible refine Blk.drew ?_) | exact Blk.new' _ _ (by first | rfl | (simp [size_ext]; done) | (simp [size_ext]; omega)) | (with_reducible refine Blk.ext ?_ _ _) | (with_reducible refine Blk.alloc ?_ _))); (all_goals fail))), (by ((repeat' (first | (with_reducible assumption) | (with_reducible refine Blk.drew ?_) | exact Blk.new' _ _ (by first | rfl | (simp [size_ext]; done) | (simp [size_ext]; omega)) | (with_reducible refine Blk.ext ?_ _ _) | (with_reducible refine Blk.alloc ?_ _))); (all_goals fail))), (by ((repeat' (first | (with_reducible assumption) | (with_reducible refine Blk.drew ?_) | exact Blk.new' _ _ (by first | rfl | (simp [size_ext]; done) | (simp [size_ext]; omega)) | (with_reducible refine Blk.ext ?_ _ _) | (with_reducible refine Blk.alloc ?_ _))); (all_goals fail))), (by (repeat' (first | (with_reducible exact Below.refl _ _) | (with_reducible assumption) | (with_reducible refine below_ext0 ?_ _ _) | (with_reducible refine below_alloc0 ?_ _) | (with_reducible refine Below.ext ?_ ?_ _ _) | (with_reducible refine Below.alloc ?_ ?_ _) | (with_reducible refine Below.setCell ?_ ?_ _) | (with_reducible refine Below.drew ?_) | (with_reducible refine below_draws ?_ _) | go_size | (simp [size_ext]; done) | (simp [size_ext]; omega))))⟩
    · obtain rfl := HB2.out rfl
      clear HB2 HB3
      go_wp2_with fail
      go_meet
      exact ⟨rfl, (by ((repeat' (first | (with_reducible assumption) | (with_reducible refine Blk.drew ?_) | exact Blk.new' _ _ (by first | rfl | (simp [size_ext]; done) | (simp [size_ext]; omega)) | (with_reducible refine Blk.ext ?_ _ _) | (with_reducible refine Blk.alloc ?_ _))); (all_goals fail))), (by ((repeat' (first | (with_reducible assumption) | (with_reducible refine Blk.drew ?_) | exact Blk.new' _ _ (by first | rfl | (simp [size_ext]; done) | (simp [size_ext]; omega)) | (with_reducible refine Blk.ext ?_ _ _) | (with_reducible refine Blk.alloc ?_ _))); (all_goals fail))), (by ((repeat' (first | (with_reducible assumption) | (with_reducible refine Blk.drew ?_) | exact Blk.new' _ _ (by first | rfl | (simp [size_ext]; done) | (simp [size_ext]; omega)) | (with_reducible refine Blk.ext ?_ _ _) | (with_reducible refine Blk.alloc ?_ _))); (all_goals fail))), (by ((repeat' (first | (with_reducible assumption) | (with_reducible refine Blk.drew ?_) | exact Blk.new' _ _ (by first | rfl | (simp [size_ext]; done) | (simp [size_ext]; omega)) | (with_reducible refine Blk.ext ?_ _ _) | (with_reducible refine Blk.alloc ?_ _))); (all_goals fail))), (by (repeat' (first | (with_reducible exact Below.refl _ _) | (with_reducible assumption) | (with_reducible refine below_ext0 ?_ _ _) | (with_reducible refine below_alloc0 ?_ _) | (with_reducible refine Below.ext ?_ ?_ _ _) | (with_reducible refine Below.alloc ?_ ?_ _) | (with_reducible refine Below.setCell ?_ ?_ _) | (with_reducible refine Below.drew ?_) | (with_reducible refine below_draws ?_ _) | go_size | (simp [size_ext]; done) | (simp [size_ext]; omega))))⟩
  case rest =>
    obtain ⟨rfl, kr, kx, ko, kz, hlow⟩ := hcut
    have HI : Hid (TellI w (msgC h (.slice Aq nq cq) (.slice Ax nx cx) (.slice Ay ny cy) (.slice Az nz cz)) (optC ⟨size, code, ver, dob, z⟩ (.slice Ao no co)) (msgC hd0 (.slice none 0 0) (.slice none 0 0) (.slice none 0 0) (.slice none 0 0)) size T2 [] wc (.slice none 0 0)) := hid ⟨⟨kr, OwnR.nil (by omega) kr.lt, kx, kz, hlow⟩, ko⟩
    clear kr kx ko kz hlow hT1
    go_wp2_with fail
    go_loopg [6] no (fun gk s6 wi => ∃ (k : Nat) (V : Value), k ≤ no ∧ gk = no - k ∧ s6 = .int .i64 (k : Int) ∧ TellI w (msgC h (.slice Aq nq cq) (.slice Ax nx cx) (.slice Ay ny cy) (.slice Az nz cz)) (optC ⟨size, code, ver, dob, z⟩ (.slice Ao no co)) (msgC hd0 (.slice none 0 0) (.slice none 0 0) (.slice none 0 0) (.slice none 0 0)) size T2 (dataO (os.take k)) wi V)
    case atStart => exact ⟨0, _, Nat.zero_le _, rfl, rfl, HI.out⟩
    case round =>
      obtain ⟨k, V, hk, rfl, rfl, hI⟩ := hrel
      clear HI
      have HS2 := hid hI
      obtain ⟨AV, cV, hV⟩ := hI.s.own.slice
      subst hV
      obtain ⟨nV, hnV⟩ : ∃ nV, (dataO (os.take k)).length = nV := ⟨_, rfl⟩
      rw [hnV] at HS2
      (try rw [hnV])
      have zr := hI.s.recd.lt
      have q5 : wr.cell? ⟨w.heap.size + 1, 5, none⟩ = some (.slice Ao no co) := hI.o.cell 5
      have hlo := hI.s.low.size
      have lo := HO.out.len
      by_cases hlt : k < no
      · obtain ⟨b, o, C, A3, n3, c3, d, rfl, hb1, e1, x0, x1, r1, hC⟩ := HO.out.opt k hlt
        have hk' : k < os.length := by rw [lo]; exact hlt
        have hoo := optsErr_at os HE.out _ (List.getElem_mem hk')
        rw [e1] at hoo
        obtain ⟨⟨C0, C1⟩, hd5⟩ := hoo
        simp only at C0 C1 hd5
        have hdt := dataO_take os hk'
        rw [e1] at hdt
        have hle := dataO_le os (k + 1)
        have hl3 := r1.len
        have hle2 : nV + 4 + n3 ≤ 65535 := by
          rw [hdt, List.length_append, hnV] at hle
          unfold optB at hle
          simp only [List.length_append, two2_len] at hle
          omega
        have limo := HO.out.lim
        rw [show oR.bs = 32 from rfl] at limo
        have y0 : wr.cell? ⟨b, o + k * 2, none⟩ = some (.int .i64 C) := (hI.s.low.cell (p := ⟨b, o + k * 2, none⟩) hb1).trans x0
        have y1 : wr.cell? ⟨b, o + k * 2 + 1, none⟩ = some (.slice A3 n3 c3) := (hI.s.low.cell (p := ⟨b, o + k * 2 + 1, none⟩) hb1).trans x1
        have hbw : b < wr.heap.size := by omega
        have HDT := hid (show dataO (os.take (k + 1)) = ((dataO (os.take k) ++ two2 C) ++ two2 (n3 : Int)) ++ d by rw [hdt, ← hl3]; simp [optB])
        have HNV := hid hnV
        have P1 := hid fun w' => rpair2_any (w := w') C C0 C1
        have P2 := hid fun w' => rpair2_any (w := w') (n3 : Int) (by omega) (by omega)
        have R1 := hid r1
        have X0 := hid x0
        have X1 := hid x1
        clear x0 x1 e1 hC hdt hle r1 hl3 hI hnV
        have t0 : (k : Int) < (no : Int) := by omega
        have t2 : (0 : Int) ≤ (k : Int) := by omega
        have v3 : IntKind.i64.wrap ((k : Int) + 1) = (k : Int) + 1 := IntWalk.i64_in _ (by omega)
        have q4 : wr.cell? ⟨w.heap.size + 3, 4, none⟩ = some (.slice AV nV cV) := HS2.out.s.recd.cell 4
        have f4 : wr.frozen? ⟨w.heap.size + 3, 4, none⟩ = false := HS2.out.s.recd.frozen 4
        have HL7 := hid (show (dataO (os.take k)).length = nV from HNV.out)
        have W8 := hid (show ∀ wx : World, Below w.heap.size w wx → wx.cell? ⟨b, o + k * 2, none⟩ = some (.int .i64 C) ∧ wx.cell? ⟨b, o + k * 2 + 1, none⟩ = some (.slice A3 n3 c3) from fun wx hb => ⟨(hb.cell (p := ⟨b, o + k * 2, none⟩) hb1).trans X0.out, (hb.cell (p := ⟨b, o + k * 2 + 1, none⟩) hb1).trans X1.out⟩)
        go_upto_region 7 with fail
        go_cut [6] (fun s6 wx => s6 = .int .i64 (k : Int) ∧ ∃ V, TellI w (msgC h (.slice Aq nq cq) (.slice Ax nx cx) (.slice Ay ny cy) (.slice Az nz cz)) (optC ⟨size, code, ver, dob, z⟩ (.slice (some ⟨b, o, none⟩) no co)) (msgC hd0 (.slice none 0 0) (.slice none 0 0) (.slice none 0 0) (.slice none 0 0)) size T2 (dataO (os.take k) ++ two2 C) wx V)
        case first =>
          go_region_law (first
            | (go_simp; (first | (go_at_call 53; have _t := tk7; (with_reducible refine (P1.out _).mono ?_); rintro e w1 ⟨Atk7, ctk7, rfl, hr, hb⟩; obtain ⟨otk7, dtk7, rfl⟩ := ext_of_below hb; (try simp only [ext_drew, ext_drewN] at hr); have RP7 := hid hr; clear hr; clear hb tk7)))
            | (refine step_own (R := u8R) (B := w.heap.size) (base := w.heap.size + 3 + 1) (l := dataO (os.take k)) (v := .slice AV (nV) cV) (A := Atk7) (c := ctk7) (m := two2 C) (n := 2) el_u8 (by rfl) (.tmp 34) (.tmp 41) (by rfl) (by rfl) (HS2.out.s.own.below (by (repeat' (first | (with_reducible exact Below.refl _ _) | (with_reducible assumption) | (with_reducible refine below_ext0 ?_ _ _) | (with_reducible refine below_alloc0 ?_ _) | (with_reducible refine Below.ext ?_ ?_ _ _) | (with_reducible refine Below.alloc ?_ ?_ _) | (with_reducible refine Below.setCell ?_ ?_ _) | (with_reducible refine Below.drew ?_) | (with_reducible refine below_draws ?_ _) | go_size | (simp [size_ext]; done) | (simp [size_ext]; omega))))) (by rfl) (SrcR.u8' (RP7.out.later (by (repeat' (first | (with_reducible exact Below.refl _ _) | (with_reducible assumption) | (with_reducible refine below_ext0 ?_ _ _) | (with_reducible refine below_alloc0 ?_ _) | (with_reducible refine Below.ext ?_ ?_ _ _) | (with_reducible refine Below.alloc ?_ ?_ _) | (with_reducible refine Below.setCell ?_ ?_ _) | (with_reducible refine Below.drew ?_) | (with_reducible refine below_draws ?_ _) | go_size | (simp [size_ext]; done) | (simp [size_ext]; omega)))))) (by rw [HL7.out]; omega) (by rw [HL7.out]; unfold maxLen; omega) ?_; intro v2 w2 ho hb ha; have kg := (HS2.out.s.recd.below (w' := w2) (Below.trans (Below.mono (by (repeat' (first | (with_reducible exact Below.refl _ _) | (with_reducible assumption) | (with_reducible refine below_ext0 ?_ _ _) | (with_reducible refine below_alloc0 ?_ _) | (with_reducible refine Below.ext ?_ ?_ _ _) | (with_reducible refine Below.alloc ?_ ?_ _) | (with_reducible refine Below.setCell ?_ ?_ _) | (with_reducible refine Below.drew ?_) | (with_reducible refine below_draws ?_ _) | go_size | (simp [size_ext]; done) | (simp [size_ext]; omega))) : Below wr.heap.size wr _) (by omega)) hb : Below (w.heap.size + 3 + 1) wr w2) (by omega)); have hs2 := TellI.step HS2.out (by (repeat' (first | (with_reducible exact Below.refl _ _) | (with_reducible assumption) | (with_reducible refine below_ext0 ?_ _ _) | (with_reducible refine below_alloc0 ?_ _) | (with_reducible refine Below.ext ?_ ?_ _ _) | (with_reducible refine Below.alloc ?_ ?_ _) | (with_reducible refine Below.setCell ?_ ?_ _) | (with_reducible refine Below.drew ?_) | (with_reducible refine below_draws ?_ _) | go_size | (simp [size_ext]; done) | (simp [size_ext]; omega)))) ho hb; have b4 : w2.cell? ⟨w.heap.size + 3, 4, none⟩ = some (.slice AV (nV) cV) := kg.cell 4; have c4' : w2.frozen? ⟨w.heap.size + 3, 4, none⟩ = false := kg.frozen 4; obtain ⟨A2, c2, rfl⟩ := ho.slice' (n := nV + 2) (by rw [List.length_append, HL7.out]; rfl); have HS3 := hid hs2; clear ho hb ha kg hs2))
          all_goals
            go_wp2_with fail
            go_meet
            exact ⟨rfl, _, HS3.out⟩
        case rest =>
          obtain ⟨rfl, V1, hT1⟩ := hcut
          have HL8 := hid (show (dataO (os.take k) ++ two2 C).length = nV + 2 by rw [List.length_append, HL7.out]; rfl)
          obtain ⟨A1, c1, hV1⟩ := hT1.s.own.slice' HL8.out
          subst hV1
          obtain ⟨y10, y11⟩ := W8.out _ hT1.s.low
          have q51 : wc.cell? ⟨w.heap.size + 1, 5, none⟩ = some (.slice (some ⟨b, o, none⟩) no co) := hT1.o.cell 5
          have q41 : wc.cell? ⟨w.heap.size + 3, 4, none⟩ = some (.slice A1 (nV + 2) c1) := hT1.s.recd.cell 4
          have f41 : wc.frozen? ⟨w.heap.size + 3, 4, none⟩ = false := hT1.s.recd.frozen 4
          have zc1 := hT1.s.recd.lt
          have hbc1 : b < wc.heap.size := by omega
          have HT1 := hid hT1
          clear hT1 HS2 y0 y1 q5 q4 f4 zr hbw hlo
          obtain ⟨w10, hw10⟩ : ∃ w10, wc = w10 := ⟨_, rfl⟩
          rw [hw10] at y10 y11 q51 q41 f41 zc1 hbc1 HT1 ⊢
          clear hw10
          go_upto_region 8 with fail
          go_cut [6] (fun s6 wx => s6 = .int .i64 (k : Int) ∧ ∃ V, TellI w (msgC h (.slice Aq nq cq) (.slice Ax nx cx) (.slice Ay ny cy) (.slice Az nz cz)) (optC ⟨size, code, ver, dob, z⟩ (.slice (some ⟨b, o, none⟩) no co)) (msgC hd0 (.slice none 0 0) (.slice none 0 0) (.slice none 0 0) (.slice none 0 0)) size T2 ((dataO (os.take k) ++ two2 C) ++ two2 (n3 : Int)) wx V)
          case first =>
            go_region_law (first
              | (go_simp; (first | (go_at_call 53; have _t := tk8; (with_reducible refine (P2.out _).mono ?_); rintro e w1 ⟨Atk8, ctk8, rfl, hr, hb⟩; obtain ⟨otk8, dtk8, rfl⟩ := ext_of_below hb; (try simp only [ext_drew, ext_drewN] at hr); have RP8 := hid hr; clear hr; clear hb tk8)))
              | (refine step_own (R := u8R) (B := w.heap.size) (base := w.heap.size + 3 + 1) (l := dataO (os.take k) ++ two2 C) (v := .slice A1 (nV + 2) c1) (A := Atk8) (c := ctk8) (m := two2 (n3 : Int)) (n := 2) el_u8 (by rfl) (.tmp 45) (.tmp 53) (by rfl) (by rfl) (HT1.out.s.own.below (by (repeat' (first | (with_reducible exact Below.refl _ _) | (with_reducible assumption) | (with_reducible refine below_ext0 ?_ _ _) | (with_reducible refine below_alloc0 ?_ _) | (with_reducible refine Below.ext ?_ ?_ _ _) | (with_reducible refine Below.alloc ?_ ?_ _) | (with_reducible refine Below.setCell ?_ ?_ _) | (with_reducible refine Below.drew ?_) | (with_reducible refine below_draws ?_ _) | go_size | (simp [size_ext]; done) | (simp [size_ext]; omega))))) (by rfl) (SrcR.u8' (RP8.out.later (by (repeat' (first | (with_reducible exact Below.refl _ _) | (with_reducible assumption) | (with_reducible refine below_ext0 ?_ _ _) | (with_reducible refine below_alloc0 ?_ _) | (with_reducible refine Below.ext ?_ ?_ _ _) | (with_reducible refine Below.alloc ?_ ?_ _) | (with_reducible refine Below.setCell ?_ ?_ _) | (with_reducible refine Below.drew ?_) | (with_reducible refine below_draws ?_ _) | go_size | (simp [size_ext]; done) | (simp [size_ext]; omega)))))) (by rw [HL8.out]; omega) (by rw [HL8.out]; unfold maxLen; omega) ?_; intro v2 w2 ho hb ha; have kg := (HT1.out.s.recd.below (w' := w2) (Below.trans (Below.mono (by (repeat' (first | (with_reducible exact Below.refl _ _) | (with_reducible assumption) | (with_reducible refine below_ext0 ?_ _ _) | (with_reducible refine below_alloc0 ?_ _) | (with_reducible refine Below.ext ?_ ?_ _ _) | (with_reducible refine Below.alloc ?_ ?_ _) | (with_reducible refine Below.setCell ?_ ?_ _) | (with_reducible refine Below.drew ?_) | (with_reducible refine below_draws ?_ _) | go_size | (simp [size_ext]; done) | (simp [size_ext]; omega))) : Below w10.heap.size w10 _) (by omega)) hb : Below (w.heap.size + 3 + 1) w10 w2) (by omega)); have hs2 := TellI.step HT1.out (by (repeat' (first | (with_reducible exact Below.refl _ _) | (with_reducible assumption) | (with_reducible refine below_ext0 ?_ _ _) | (with_reducible refine below_alloc0 ?_ _) | (with_reducible refine Below.ext ?_ ?_ _ _) | (with_reducible refine Below.alloc ?_ ?_ _) | (with_reducible refine Below.setCell ?_ ?_ _) | (with_reducible refine Below.drew ?_) | (with_reducible refine below_draws ?_ _) | go_size | (simp [size_ext]; done) | (simp [size_ext]; omega)))) ho hb; have b4 : w2.cell? ⟨w.heap.size + 3, 4, none⟩ = some (.slice A1 (nV + 2) c1) := kg.cell 4; have c4' : w2.frozen? ⟨w.heap.size + 3, 4, none⟩ = false := kg.frozen 4; obtain ⟨A2, c2, rfl⟩ := ho.slice' (n := nV + 2 + 2) (by rw [List.length_append, HL8.out]; rfl); have HS3 := hid hs2; clear ho hb ha kg hs2))
            all_goals
              go_wp2_with fail
              go_meet
              exact ⟨rfl, _, HS3.out⟩
          case rest =>
            obtain ⟨rfl, V2, hT2⟩ := hcut
            have HL9 := hid (show ((dataO (os.take k) ++ two2 C) ++ two2 (n3 : Int)).length = nV + 2 + 2 by rw [List.length_append, HL8.out]; rfl)
            obtain ⟨A2, c2, hV2⟩ := hT2.s.own.slice' HL9.out
            subst hV2
            obtain ⟨y20, y21⟩ := W8.out _ hT2.s.low
            have q52 : wc.cell? ⟨w.heap.size + 1, 5, none⟩ = some (.slice (some ⟨b, o, none⟩) no co) := hT2.o.cell 5
            have q42 : wc.cell? ⟨w.heap.size + 3, 4, none⟩ = some (.slice A2 (nV + 2 + 2) c2) := hT2.s.recd.cell 4
            have f42 : wc.frozen? ⟨w.heap.size + 3, 4, none⟩ = false := hT2.s.recd.frozen 4
            have zc2 := hT2.s.recd.lt
            have hbc2 : b < wc.heap.size := by omega
            have HT2x := hid hT2
            clear hT2 HT1 y10 y11 q51 q41 f41 zc1 hbc1
            go_wp2_with fail
            go_region_law (refine step_own (R := u8R) (B := w.heap.size) (base := w.heap.size + 3 + 1) (l := (dataO (os.take k) ++ two2 C) ++ two2 (n3 : Int)) (v := .slice A2 (nV + 2 + 2) c2) (A := A3) (c := c3) (m := d) (n := n3) el_u8 (by rfl) (.tmp 57) (.tmp 63) (by rfl) (by rfl) (HT2x.out.s.own.below (by (repeat' (first | (with_reducible exact Below.refl _ _) | (with_reducible assumption) | (with_reducible refine below_ext0 ?_ _ _) | (with_reducible refine below_alloc0 ?_ _) | (with_reducible refine Below.ext ?_ ?_ _ _) | (with_reducible refine Below.alloc ?_ ?_ _) | (with_reducible refine Below.setCell ?_ ?_ _) | (with_reducible refine Below.drew ?_) | (with_reducible refine below_draws ?_ _) | go_size | (simp [size_ext]; done) | (simp [size_ext]; omega))))) (by rfl) (SrcR.u8' (R1.out.below (HT2x.out.s.low.trans (Below.mono (by (repeat' (first | (with_reducible exact Below.refl _ _) | (with_reducible assumption) | (with_reducible refine below_ext0 ?_ _ _) | (with_reducible refine below_alloc0 ?_ _) | (with_reducible refine Below.ext ?_ ?_ _ _) | (with_reducible refine Below.alloc ?_ ?_ _) | (with_reducible refine Below.setCell ?_ ?_ _) | (with_reducible refine Below.drew ?_) | (with_reducible refine below_draws ?_ _) | go_size | (simp [size_ext]; done) | (simp [size_ext]; omega))) : Below wc.heap.size wc _) (by have := HT2x.out.s.low.size; omega))))) (by rw [HL9.out]; omega) (by rw [HL9.out]; unfold maxLen; omega) ?_; intro v3 w3 ho hb ha; have kg := (HT2x.out.s.recd.below (w' := w3) (Below.trans (Below.mono (by (repeat' (first | (with_reducible exact Below.refl _ _) | (with_reducible assumption) | (with_reducible refine below_ext0 ?_ _ _) | (with_reducible refine below_alloc0 ?_ _) | (with_reducible refine Below.ext ?_ ?_ _ _) | (with_reducible refine Below.alloc ?_ ?_ _) | (with_reducible refine Below.setCell ?_ ?_ _) | (with_reducible refine Below.drew ?_) | (with_reducible refine below_draws ?_ _) | go_size | (simp [size_ext]; done) | (simp [size_ext]; omega))) : Below wc.heap.size wc _) (by omega)) hb : Below (w.heap.size + 3 + 1) wc w3) (by omega)); have hs3 := TellI.step HT2x.out (by (repeat' (first | (with_reducible exact Below.refl _ _) | (with_reducible assumption) | (with_reducible refine below_ext0 ?_ _ _) | (with_reducible refine below_alloc0 ?_ _) | (with_reducible refine Below.ext ?_ ?_ _ _) | (with_reducible refine Below.alloc ?_ ?_ _) | (with_reducible refine Below.setCell ?_ ?_ _) | (with_reducible refine Below.drew ?_) | (with_reducible refine below_draws ?_ _) | go_size | (simp [size_ext]; done) | (simp [size_ext]; omega)))) ho hb; have b5 : w3.cell? ⟨w.heap.size + 3, 4, none⟩ = some (.slice A2 (nV + 2 + 2) c2) := kg.cell 4; have c5' : w3.frozen? ⟨w.heap.size + 3, 4, none⟩ = false := kg.frozen 4; obtain ⟨A5, c5, rfl⟩ := ho.slice' (n := nV + 2 + 2 + n3) (by rw [List.length_append, HL9.out, R1.out.len]); have HS3 := hid hs3; clear ho hb ha kg hs3)
            all_goals
              go_wp2
              go_roundg (no - (k + 1))
              case measure => omega
              case rel => exact ⟨k + 1, _, by omega, rfl, by go_num, by rw [HDT.out]; exact HS3.out⟩
      · have t0 : ¬ (k : Int) < (no : Int) := by omega
        obtain rfl : k = no := by omega
        have hall : os.take k = os := List.take_of_length_le (by omega)
        have hds := HS2.out
        rw [hall] at hds hnV
        have kx := hds.s.x
        have x0 : (wr).cell? ⟨w.heap.size, 0, none⟩ = some (.int .i64 h.id) := (kx).cell 0; have x1 : (wr).cell? ⟨w.heap.size, 1, none⟩ = some (.bool h.an) := (kx).cell 1; have x2 : (wr).cell? ⟨w.heap.size, 2, none⟩ = some (.int .i64 h.op) := (kx).cell 2; have x3 : (wr).cell? ⟨w.heap.size, 3, none⟩ = some (.bool h.aa) := (kx).cell 3; have x4 : (wr).cell? ⟨w.heap.size, 4, none⟩ = some (.bool h.tc) := (kx).cell 4; have x5 : (wr).cell? ⟨w.heap.size, 5, none⟩ = some (.bool h.rd) := (kx).cell 5; have x6 : (wr).cell? ⟨w.heap.size, 6, none⟩ = some (.bool h.ra) := (kx).cell 6; have x7 : (wr).cell? ⟨w.heap.size, 7, none⟩ = some (.bool h.z) := (kx).cell 7; have x8 : (wr).cell? ⟨w.heap.size, 8, none⟩ = some (.bool h.ad) := (kx).cell 8; have x9 : (wr).cell? ⟨w.heap.size, 9, none⟩ = some (.bool h.cd) := (kx).cell 9; have x10 : (wr).cell? ⟨w.heap.size, 10, none⟩ = some (.int .i64 h.code) := (kx).cell 10; have x11 : (wr).cell? ⟨w.heap.size, 11, none⟩ = some (.slice Aq nq cq) := (kx).cell 11; have x12 : (wr).cell? ⟨w.heap.size, 12, none⟩ = some (.slice Ax nx cx) := (kx).cell 12; have x13 : (wr).cell? ⟨w.heap.size, 13, none⟩ = some (.slice Ay ny cy) := (kx).cell 13; have x14 : (wr).cell? ⟨w.heap.size, 14, none⟩ = some (.slice Az nz cz) := (kx).cell 14
        have HD := hid hds
        have HNV := hid hnV
        have hn5 : nV ≤ 65535 := by rw [← hnV]; exact hd
        have zl := kx.lt
        clear kx hds hall hnV hI
        go_upto_region 10 with fail
        go_cut [5] (fun s5 wx => s5 = .pointer (some ⟨w.heap.size + 3, 0, none⟩) ∧ ∃ A4 c4, TellS w h (.slice Aq nq cq) (.slice Ax nx cx) (.slice Ay ny cy) wr.heap.size zs nS size T2 (dataO os) wx A4 c4 (.slice AV nV cV))
        case first =>
          go_wp2_with (go_at_call 17; have _t := tk8; (with_reducible refine (CZ.out _ HD.out.s.low).mono ?_); rintro e w4 ⟨A4, c4, rfl, hrow, hb⟩; have k4 := HD.out.s.x.below hb zl; have y0 : (w4).cell? ⟨w.heap.size, 0, none⟩ = some (.int .i64 h.id) := (k4).cell 0; have y1 : (w4).cell? ⟨w.heap.size, 1, none⟩ = some (.bool h.an) := (k4).cell 1; have y2 : (w4).cell? ⟨w.heap.size, 2, none⟩ = some (.int .i64 h.op) := (k4).cell 2; have y3 : (w4).cell? ⟨w.heap.size, 3, none⟩ = some (.bool h.aa) := (k4).cell 3; have y4 : (w4).cell? ⟨w.heap.size, 4, none⟩ = some (.bool h.tc) := (k4).cell 4; have y5 : (w4).cell? ⟨w.heap.size, 5, none⟩ = some (.bool h.rd) := (k4).cell 5; have y6 : (w4).cell? ⟨w.heap.size, 6, none⟩ = some (.bool h.ra) := (k4).cell 6; have y7 : (w4).cell? ⟨w.heap.size, 7, none⟩ = some (.bool h.z) := (k4).cell 7; have y8 : (w4).cell? ⟨w.heap.size, 8, none⟩ = some (.bool h.ad) := (k4).cell 8; have y9 : (w4).cell? ⟨w.heap.size, 9, none⟩ = some (.bool h.cd) := (k4).cell 9; have y10 : (w4).cell? ⟨w.heap.size, 10, none⟩ = some (.int .i64 h.code) := (k4).cell 10; have y11 : (w4).cell? ⟨w.heap.size, 11, none⟩ = some (.slice Aq nq cq) := (k4).cell 11; have y12 : (w4).cell? ⟨w.heap.size, 12, none⟩ = some (.slice Ax nx cx) := (k4).cell 12; have y13 : (w4).cell? ⟨w.heap.size, 13, none⟩ = some (.slice Ay ny cy) := (k4).cell 13; have y14 : (w4).cell? ⟨w.heap.size, 14, none⟩ = some (.slice Az nz cz) := (k4).cell 14; have g0 : (w4).frozen? ⟨w.heap.size, 0, none⟩ = false := (k4).frozen 0; have g1 : (w4).frozen? ⟨w.heap.size, 1, none⟩ = false := (k4).frozen 1; have g2 : (w4).frozen? ⟨w.heap.size, 2, none⟩ = false := (k4).frozen 2; have g3 : (w4).frozen? ⟨w.heap.size, 3, none⟩ = false := (k4).frozen 3; have g4 : (w4).frozen? ⟨w.heap.size, 4, none⟩ = false := (k4).frozen 4; have g5 : (w4).frozen? ⟨w.heap.size, 5, none⟩ = false := (k4).frozen 5; have g6 : (w4).frozen? ⟨w.heap.size, 6, none⟩ = false := (k4).frozen 6; have g7 : (w4).frozen? ⟨w.heap.size, 7, none⟩ = false := (k4).frozen 7; have g8 : (w4).frozen? ⟨w.heap.size, 8, none⟩ = false := (k4).frozen 8; have g9 : (w4).frozen? ⟨w.heap.size, 9, none⟩ = false := (k4).frozen 9; have g10 : (w4).frozen? ⟨w.heap.size, 10, none⟩ = false := (k4).frozen 10; have g11 : (w4).frozen? ⟨w.heap.size, 11, none⟩ = false := (k4).frozen 11; have g12 : (w4).frozen? ⟨w.heap.size, 12, none⟩ = false := (k4).frozen 12; have g13 : (w4).frozen? ⟨w.heap.size, 13, none⟩ = false := (k4).frozen 13; have g14 : (w4).frozen? ⟨w.heap.size, 14, none⟩ = false := (k4).frozen 14; have HRW := hid hrow; have HB4 := hid hb; have K4 := hid k4; clear hrow hb k4 tk8)
          go_meet
          refine ⟨rfl, A4, c4, tell_drop HD.out HRW.out HB4.out ?_ (msg_over h _ _ _ _ K4.out)⟩
          repeat (first | (with_reducible exact grown_refl _ _) | (with_reducible refine World.grownBy.trans ?_ (grown_set _ _)))
        case rest =>
          obtain ⟨rfl, A4, c4, hsd⟩ := hcut
          have kx := hsd.x
          have kr := hsd.recd
          have kz := hsd.z
          have RD := hid (hsd.d.rd' HNV.out (by rw [show u8R.bs = 1 from rfl]; omega) (by decide))
          have z1 := kr.lt
          have zwr := hsd.low.size
          have zwr' : wr.heap.size ≤ wc.heap.size := hsd.le
          obtain ⟨cs, hro, hrr, hrf⟩ := hsd.rz
          have HRO := hid hro
          have HRR := hid hrr
          have HRF := hid hrf
          have HSD := hid hsd
          have ab1 : ((silent zs).length + 1) * 72 ≤ 140737488355328 := by rw [HNS.out]; omega
          have ab2 : (silent zs).length + 1 ≤ maxLen := by rw [HNS.out]; unfold maxLen; omega
          have x0 : (wc).cell? ⟨w.heap.size, 0, none⟩ = some (.int .i64 h.id) := (kx).cell 0; have x1 : (wc).cell? ⟨w.heap.size, 1, none⟩ = some (.bool h.an) := (kx).cell 1; have x2 : (wc).cell? ⟨w.heap.size, 2, none⟩ = some (.int .i64 h.op) := (kx).cell 2; have x3 : (wc).cell? ⟨w.heap.size, 3, none⟩ = some (.bool h.aa) := (kx).cell 3; have x4 : (wc).cell? ⟨w.heap.size, 4, none⟩ = some (.bool h.tc) := (kx).cell 4; have x5 : (wc).cell? ⟨w.heap.size, 5, none⟩ = some (.bool h.rd) := (kx).cell 5; have x6 : (wc).cell? ⟨w.heap.size, 6, none⟩ = some (.bool h.ra) := (kx).cell 6; have x7 : (wc).cell? ⟨w.heap.size, 7, none⟩ = some (.bool h.z) := (kx).cell 7; have x8 : (wc).cell? ⟨w.heap.size, 8, none⟩ = some (.bool h.ad) := (kx).cell 8; have x9 : (wc).cell? ⟨w.heap.size, 9, none⟩ = some (.bool h.cd) := (kx).cell 9; have x10 : (wc).cell? ⟨w.heap.size, 10, none⟩ = some (.int .i64 h.code) := (kx).cell 10; have x11 : (wc).cell? ⟨w.heap.size, 11, none⟩ = some (.slice Aq nq cq) := (kx).cell 11; have x12 : (wc).cell? ⟨w.heap.size, 12, none⟩ = some (.slice Ax nx cx) := (kx).cell 12; have x13 : (wc).cell? ⟨w.heap.size, 13, none⟩ = some (.slice Ay ny cy) := (kx).cell 13; have x14 : (wc).cell? ⟨w.heap.size, 14, none⟩ = some (.slice A4 nS c4) := (kx).cell 14
          have p0 : wc.cell? ⟨w.heap.size + 3, 0, none⟩ = some (.slice none 0 0) := kr.cell 0
          have p1 : wc.cell? ⟨w.heap.size + 3, 1, none⟩ = some (.int .i64 41) := kr.cell 1
          have p2 : wc.cell? ⟨w.heap.size + 3, 2, none⟩ = some (.int .i64 size) := kr.cell 2
          have p3 : wc.cell? ⟨w.heap.size + 3, 3, none⟩ = some (.int .i64 T2) := kr.cell 3
          have p4 : wc.cell? ⟨w.heap.size + 3, 4, none⟩ = some (.slice AV nV cV) := kr.cell 4
          have KX5 := hid kx
          have KZ5 := hid kz
          clear kx kr kz hro hrr hrf hsd
          go_wp2_with (at_builtin; have _t := tk9; go_must (refine wpList_row near_rec el_r zr_d HRO.out HRR.out HRF.out (([], 41, size, T2, dataO os, ()) : RecT) [.slice none 0 0, .int .i64 41, .int .i64 size, .int .i64 T2, .slice AV nV cV] rfl _ _ rfl rfl rfl (by (repeat' (first | (with_reducible exact Below.refl _ _) | (with_reducible assumption) | (with_reducible refine below_ext0 ?_ _ _) | (with_reducible refine below_alloc0 ?_ _) | (with_reducible refine Below.ext ?_ ?_ _ _) | (with_reducible refine Below.alloc ?_ ?_ _) | (with_reducible refine Below.setCell ?_ ?_ _) | (with_reducible refine Below.drew ?_) | (with_reducible refine below_draws ?_ _) | go_size | (simp [size_ext]; done) | (simp [size_ext]; omega)))) (src_blk (m := 1) (size := 5) (t := 67) (cs := #[.slice none 0 0, .int .i64 41, .int .i64 size, .int .i64 T2, .slice AV nV cV]) (Blk.new' _ _ (by first | rfl | (simp [size_ext]; done) | (simp [size_ext]; omega))) rfl (by simp [Value.oneCell'])) (rel_r (rd_nil _ _) (by unfold I64; omega) (by unfold I64; omega) (by unfold I64; omega) (RD.out.later (by (repeat' (first | (with_reducible exact Below.refl _ _) | (with_reducible assumption) | (with_reducible refine below_ext0 ?_ _ _) | (with_reducible refine below_alloc0 ?_ _) | (with_reducible refine Below.ext ?_ ?_ _ _) | (with_reducible refine Below.alloc ?_ ?_ _) | (with_reducible refine Below.setCell ?_ ?_ _) | (with_reducible refine Below.drew ?_) | (with_reducible refine below_draws ?_ _) | go_size | (simp [size_ext]; done) | (simp [size_ext]; omega)))))) (by simp [not_d_slice, not_d_int]) ab1 ab2 (by omega) ?_); intro v9 w9 row9 ha9; have hl9 : (silent zs ++ [(([], 41, size, T2, dataO os, ()) : RecT)]).length = nS + 1 := (by rw [List.length_append, HNS.out]; rfl); obtain ⟨A9, c9, hv9⟩ := row9.slice; rw [hl9] at hv9; subst hv9; have kx9 := app_blk HRO.out KX5.out ha9 (by (repeat' (first | (with_reducible exact Below.refl _ _) | (with_reducible assumption) | (with_reducible refine below_ext0 ?_ _ _) | (with_reducible refine below_alloc0 ?_ _) | (with_reducible refine Below.ext ?_ ?_ _ _) | (with_reducible refine Below.alloc ?_ ?_ _) | (with_reducible refine Below.setCell ?_ ?_ _) | (with_reducible refine Below.drew ?_) | (with_reducible refine below_draws ?_ _) | go_size | (simp [size_ext]; done) | (simp [size_ext]; omega)))) (by omega); have kz9 := app_blk HRO.out KZ5.out ha9 (by (repeat' (first | (with_reducible exact Below.refl _ _) | (with_reducible assumption) | (with_reducible refine below_ext0 ?_ _ _) | (with_reducible refine below_alloc0 ?_ _) | (with_reducible refine Below.ext ?_ ?_ _ _) | (with_reducible refine Below.alloc ?_ ?_ _) | (with_reducible refine Below.setCell ?_ ?_ _) | (with_reducible refine Below.drew ?_) | (with_reducible refine below_draws ?_ _) | go_size | (simp [size_ext]; done) | (simp [size_ext]; omega)))) (by omega); have x0 : (w9).cell? ⟨w.heap.size, 0, none⟩ = some (.int .i64 h.id) := (kx9).cell 0; have x1 : (w9).cell? ⟨w.heap.size, 1, none⟩ = some (.bool h.an) := (kx9).cell 1; have x2 : (w9).cell? ⟨w.heap.size, 2, none⟩ = some (.int .i64 h.op) := (kx9).cell 2; have x3 : (w9).cell? ⟨w.heap.size, 3, none⟩ = some (.bool h.aa) := (kx9).cell 3; have x4 : (w9).cell? ⟨w.heap.size, 4, none⟩ = some (.bool h.tc) := (kx9).cell 4; have x5 : (w9).cell? ⟨w.heap.size, 5, none⟩ = some (.bool h.rd) := (kx9).cell 5; have x6 : (w9).cell? ⟨w.heap.size, 6, none⟩ = some (.bool h.ra) := (kx9).cell 6; have x7 : (w9).cell? ⟨w.heap.size, 7, none⟩ = some (.bool h.z) := (kx9).cell 7; have x8 : (w9).cell? ⟨w.heap.size, 8, none⟩ = some (.bool h.ad) := (kx9).cell 8; have x9 : (w9).cell? ⟨w.heap.size, 9, none⟩ = some (.bool h.cd) := (kx9).cell 9; have x10 : (w9).cell? ⟨w.heap.size, 10, none⟩ = some (.int .i64 h.code) := (kx9).cell 10; have x11 : (w9).cell? ⟨w.heap.size, 11, none⟩ = some (.slice Aq nq cq) := (kx9).cell 11; have x12 : (w9).cell? ⟨w.heap.size, 12, none⟩ = some (.slice Ax nx cx) := (kx9).cell 12; have x13 : (w9).cell? ⟨w.heap.size, 13, none⟩ = some (.slice Ay ny cy) := (kx9).cell 13; have x14 : (w9).cell? ⟨w.heap.size, 14, none⟩ = some (.slice A4 nS c4) := (kx9).cell 14; have x14f : w9.frozen? ⟨w.heap.size, 14, none⟩ = false := kx9.frozen 14; have z0 : (w9).cell? ⟨w.heap.size + 2, 0, none⟩ = some (.int .i64 hd0.id) := (kz9).cell 0; have z1 : (w9).cell? ⟨w.heap.size + 2, 1, none⟩ = some (.bool hd0.an) := (kz9).cell 1; have z2 : (w9).cell? ⟨w.heap.size + 2, 2, none⟩ = some (.int .i64 hd0.op) := (kz9).cell 2; have z3 : (w9).cell? ⟨w.heap.size + 2, 3, none⟩ = some (.bool hd0.aa) := (kz9).cell 3; have z4 : (w9).cell? ⟨w.heap.size + 2, 4, none⟩ = some (.bool hd0.tc) := (kz9).cell 4; have z5 : (w9).cell? ⟨w.heap.size + 2, 5, none⟩ = some (.bool hd0.rd) := (kz9).cell 5; have z6 : (w9).cell? ⟨w.heap.size + 2, 6, none⟩ = some (.bool hd0.ra) := (kz9).cell 6; have z7 : (w9).cell? ⟨w.heap.size + 2, 7, none⟩ = some (.bool hd0.z) := (kz9).cell 7; have z8 : (w9).cell? ⟨w.heap.size + 2, 8, none⟩ = some (.bool hd0.ad) := (kz9).cell 8; have z9 : (w9).cell? ⟨w.heap.size + 2, 9, none⟩ = some (.bool hd0.cd) := (kz9).cell 9; have z10 : (w9).cell? ⟨w.heap.size + 2, 10, none⟩ = some (.int .i64 hd0.code) := (kz9).cell 10; have z11 : (w9).cell? ⟨w.heap.size + 2, 11, none⟩ = some (.slice none 0 0) := (kz9).cell 11; have z12 : (w9).cell? ⟨w.heap.size + 2, 12, none⟩ = some (.slice none 0 0) := (kz9).cell 12; have z13 : (w9).cell? ⟨w.heap.size + 2, 13, none⟩ = some (.slice none 0 0) := (kz9).cell 13; have z14 : (w9).cell? ⟨w.heap.size + 2, 14, none⟩ = some (.slice none 0 0) := (kz9).cell 14; have f0 : (w9).frozen? ⟨w.heap.size + 2, 0, none⟩ = false := (kz9).frozen 0; have f1 : (w9).frozen? ⟨w.heap.size + 2, 1, none⟩ = false := (kz9).frozen 1; have f2 : (w9).frozen? ⟨w.heap.size + 2, 2, none⟩ = false := (kz9).frozen 2; have f3 : (w9).frozen? ⟨w.heap.size + 2, 3, none⟩ = false := (kz9).frozen 3; have f4 : (w9).frozen? ⟨w.heap.size + 2, 4, none⟩ = false := (kz9).frozen 4; have f5 : (w9).frozen? ⟨w.heap.size + 2, 5, none⟩ = false := (kz9).frozen 5; have f6 : (w9).frozen? ⟨w.heap.size + 2, 6, none⟩ = false := (kz9).frozen 6; have f7 : (w9).frozen? ⟨w.heap.size + 2, 7, none⟩ = false := (kz9).frozen 7; have f8 : (w9).frozen? ⟨w.heap.size + 2, 8, none⟩ = false := (kz9).frozen 8; have f9 : (w9).frozen? ⟨w.heap.size + 2, 9, none⟩ = false := (kz9).frozen 9; have f10 : (w9).frozen? ⟨w.heap.size + 2, 10, none⟩ = false := (kz9).frozen 10; have f11 : (w9).frozen? ⟨w.heap.size + 2, 11, none⟩ = false := (kz9).frozen 11; have f12 : (w9).frozen? ⟨w.heap.size + 2, 12, none⟩ = false := (kz9).frozen 12; have f13 : (w9).frozen? ⟨w.heap.size + 2, 13, none⟩ = false := (kz9).frozen 13; have f14 : (w9).frozen? ⟨w.heap.size + 2, 14, none⟩ = false := (kz9).frozen 14; have LOW9 := hid (app_low HRO.out ha9 (by (repeat' (first | (with_reducible exact Below.refl _ _) | (with_reducible assumption) | (with_reducible refine below_ext0 ?_ _ _) | (with_reducible refine below_alloc0 ?_ _) | (with_reducible refine Below.ext ?_ ?_ _ _) | (with_reducible refine Below.alloc ?_ ?_ _) | (with_reducible refine Below.setCell ?_ ?_ _) | (with_reducible refine Below.drew ?_) | (with_reducible refine below_draws ?_ _) | go_size | (simp [size_ext]; done) | (simp [size_ext]; omega)))) HSD.out.low (by omega) zwr'); have zw9 : wc.heap.size ≤ w9.heap.size := (by have := ha9.grown.size; simp at this; omega); have ROW9 := hid row9; have HL9 := hid hl9; have KX9 := hid kx9; have KZ9 := hid kz9; clear row9 ha9 kx9 kz9 hl9 tk9)
          have kz2 : Blk (w9.setCell ⟨w.heap.size, 14, none⟩ (.slice A9 (nS + 1) c9)) (w.heap.size + 2) 28 (msgC hd0 (.slice none 0 0) (.slice none 0 0) (.slice none 0 0) (.slice none 0 0)) := KZ9.out.far (by simp only; omega) _
          have hrec : silent zs ++ [(([], 41, size, T2, dataO os, ()) : RecT)] = ss := by rw [← HS.out]; unfold recO; rw [HT2.out]
          have hrw := ROW9.out
          have hl9 := HL9.out
          rw [hrec] at hrw hl9
          obtain rfl : nS + 1 = kk := hl9.symm.trans HKK.out
          refine bodyPost_ret (res_telling rfl (msg_over h _ _ _ _ kz2)) rfl ⟨A9, c9, rfl, tell_end ⟨_, _, _, rfl⟩ ⟨_, _, _, rfl⟩ ⟨_, _, _, rfl⟩ ?_ KX9.out KZ9.out hrw ⟨hl9, by omega⟩ (by omega) (by omega) LOW9.out⟩
          repeat (first | (with_reducible exact grown_refl _ _) | (with_reducible refine World.grownBy.trans ?_ (grown_set _ _)))
end Go.Proofs.YtfihedcobopbcaaDoor
