/- edns.Set of what may be told. -/
import Derived.Test.YtfihedcobopbcaaDoorK10
namespace Go.Proofs.YtfihedcobopbcaaDoor
open Go.RowKit
set_option linter.unusedVariables false
set_option linter.unusedSimpArgs false

set_option maxRecDepth 100000 in
set_option maxHeartbeats 8000000 in
theorem set_ok {w : World} {h : Hd} {Aq Ax Ay Az : Option Addr} {nq cq nx cx ny cy nz cz : Nat} {qs : List QT} {xs ys zs : List RecT} (hQ : Rd qR w w.heap.size Aq nq cq qs) (hX : Rd recR w w.heap.size Ax nx cx xs) (hY : Rd recR w w.heap.size Ay ny cy ys) (hZ : Rd recR w w.heap.size Az nz cz zs) (tz : nz * 72 ≤ 140737488351232)
    {size code ver z : Int} {dob : Bool} {Ao : Option Addr} {no co : Nat} {os : List OT} (hO : Rd oR w w.heap.size Ao no co os) (hk : OptOk ⟨size, code, ver, dob, z⟩) (he : optsErr os = 0) (hd : (dataO os).length ≤ 65535) :
    Calls Tryd.prog 20 #[.agg (msgC h (.slice Aq nq cq) (.slice Ax nx cx) (.slice Ay ny cy) (.slice Az nz cz)), .agg (optC ⟨size, code, ver, dob, z⟩ (.slice Ao no co))] w fun e w' => ∃ Aq' cq' Ax' cx' Ay' cy' Az' nz' cz', e = .returned (.tuple #[.agg (msgC h (.slice Aq' nq cq') (.slice Ax' nx cx') (.slice Ay' ny cy') (.slice Az' nz' cz')), .nilIface]) ∧ (Rd qR w' w'.heap.size Aq' nq cq' qs ∧ Rd recR w' w'.heap.size Ax' nx cx' xs ∧ Rd recR w' w'.heap.size Ay' ny cy' ys ∧ Rd recR w' w'.heap.size Az' nz' cz' (silent zs ++ [recO ⟨size, code, ver, dob, z⟩ os])) ∧ Below w.heap.size w w' := by
  have HOK := hid hk
  have b1 := ttl1_bits hk
  obtain ⟨T1, hT1⟩ : ∃ T1, ttl1 ⟨size, code, ver, dob, z⟩ = T1 := ⟨_, rfl⟩
  obtain ⟨T2, hT2⟩ : ∃ T2, ttl2 ⟨size, code, ver, dob, z⟩ = T2 := ⟨_, rfl⟩
  rw [hT1] at b1
  simp only at b1
  have HT2 := hid hT2
  obtain ⟨⟨k0, k1⟩, ⟨k2, k3⟩, ⟨k4, k5⟩, ⟨k6, k7⟩⟩ := hk
  simp only at k0 k1 k2 k3 k4 k5 k6 k7
  have hT2b : 0 ≤ T2 ∧ T2 ≤ 4294967295 := by rw [← hT2]; unfold ttl2; cases dob <;> simp <;> omega
  obtain ⟨t2lo, t2hi⟩ := hT2b
  have W1 := hid (within_yes (n := size) (m := 65535) ⟨k0, k1⟩)
  have W2 := hid (within_yes (n := code) (m := 255) ⟨k2, k3⟩)
  have W3 := hid (within_yes (n := ver) (m := 255) ⟨k4, k5⟩)
  have W4 := hid (within_yes (n := z) (m := 32767) ⟨k6, k7⟩)
  have v1 : IntKind.i64.wrap (code * 16777216) = code * 16777216 := IntWalk.i64_in _ (by omega)
  have v2 : IntKind.i64.wrap (ver * 65536) = ver * 65536 := IntWalk.i64_in _ (by omega)
  have hb2 : dob = true → bits .or .i64 T1 32768 = T2 := fun hd => by rw [← hT1, ← hT2]; exact ttl2_bits HOK.out hd
  have hb3 : dob = false → T1 = T2 := fun hd => by rw [← hT1, ← hT2]; unfold ttl1 ttl2; simp [hd]
  have HB2 := hid hb2
  have HB3 := hid hb3
  have HO := hid hO
  have CD := hid fun w' (hb : Below w.heap.size w w') => drop_any (h := h) (hQ.later hb) (hX.later hb) (hY.later hb) (hZ.later hb)
  have HZL := hid hZ.len
  clear hQ hX hY hZ hO hT1 hT2 hb2 hb3
  have tk0 : True := trivial; have tk1 : True := trivial; have tk2 : True := trivial; have tk3 : True := trivial; have tk4 : True := trivial; have tk5 : True := trivial; have tk6 : True := trivial; have tk7 : True := trivial; have tk8 : True := trivial; have tk9 : True := trivial; have tk10 : True := trivial; have tk11 : True := trivial; have tk12 : True := trivial
  go_enter Tryd.func20, Tryd.ntmps20
  go_upto_if 48 with (first
    | (go_at_call 54; have _t := tk1; (with_reducible refine (W1.out _).mono ?_); rintro e w1 ⟨rfl, hb⟩; obtain ⟨otk1, dtk1, rfl⟩ := ext_of_below hb; clear hb tk1)
    | (go_at_call 54; have _t := tk2; (with_reducible refine (W2.out _).mono ?_); rintro e w1 ⟨rfl, hb⟩; obtain ⟨otk2, dtk2, rfl⟩ := ext_of_below hb; clear hb tk2)
    | (go_at_call 54; have _t := tk3; (with_reducible refine (W3.out _).mono ?_); rintro e w1 ⟨rfl, hb⟩; obtain ⟨otk3, dtk3, rfl⟩ := ext_of_below hb; clear hb tk3)
    | (go_at_call 54; have _t := tk4; (with_reducible refine (W4.out _).mono ?_); rintro e w1 ⟨rfl, hb⟩; obtain ⟨otk4, dtk4, rfl⟩ := ext_of_below hb; clear hb tk4))
  go_cut [6] from 6 to 56 (fun s6 wx => ∃ gr, s6 = .pointer (some ⟨gr, 0, none⟩) ∧ w.heap.size + 3 ≤ gr ∧ Blk wx gr 67 #[.slice none 0 0, .int .i64 41, .int .i64 size, .int .i64 T2, .slice none 0 0] ∧ Blk wx w.heap.size 28 (msgC h (.slice Aq nq cq) (.slice Ax nx cx) (.slice Ay ny cy) (.slice Az nz cz)) ∧ Blk wx (w.heap.size + 1) 46 (optC ⟨size, code, ver, dob, z⟩ (.slice Ao no co)) ∧ Blk wx (w.heap.size + 2) 28 (msgC hd0 (.slice none 0 0) (.slice none 0 0) (.slice none 0 0) (.slice none 0 0)) ∧ Below w.heap.size w wx)
  case first =>
    cases dob
    · have b3 := HB3.out rfl
      subst b3
      clear HB2 HB3
      go_wp2_with fail
      go_meet
      exact ⟨_, rfl, (by first | omega | (simp [size_ext]; done) | (simp [size_ext]; omega)), (by ((repeat' (first | (with_reducible assumption) | (with_reducible refine Blk.drew ?_) | exact Blk.new' _ _ (by first | rfl | (simp [size_ext]; done) | (simp [size_ext]; omega)) | (with_reducible refine Blk.ext ?_ _ _) | (with_reducible refine Blk.alloc ?_ _))); (all_goals fail))), (by ((repeat' (first | (with_reducible assumption) | (with_reducible refine Blk.drew ?_) | exact Blk.new' _ _ (by first | rfl | (simp [size_ext]; done) | (simp [size_ext]; omega)) | (with_reducible refine Blk.ext ?_ _ _) | (with_reducible refine Blk.alloc ?_ _))); (all_goals fail))), (by ((repeat' (first | (with_reducible assumption) | (with_reducible refine Blk.drew ?_) | exact Blk.new' _ _ (by first | rfl | (simp [size_ext]; done) | (simp [size_ext]; omega)) | (with_reducible refine Blk.ext ?_ _ _) | (with_reducible refine Blk.alloc ?_ _))); (all_goals fail))), (by ((repeat' (first | (with_reducible assumption) | (with_reducible refine Blk.drew ?_) | exact Blk.new' _ _ (by first | rfl | (simp [size_ext]; done) | (simp [size_ext]; omega)) | (with_reducible refine Blk.ext ?_ _ _) | (with_reducible refine Blk.alloc ?_ _))); (all_goals fail))), (by (repeat' (first | (with_reducible exact Below.refl _ _) | (with_reducible assumption) | (with_reducible refine below_ext0 ?_ _ _) | (with_reducible refine below_alloc0 ?_ _) | (with_reducible refine Below.ext ?_ ?_ _ _) | (with_reducible refine Below.alloc ?_ ?_ _) | (with_reducible refine Below.setCell ?_ ?_ _) | (with_reducible refine Below.drew ?_) | (with_reducible refine below_draws ?_ _) | go_size | (simp [size_ext]; done) | (simp [size_ext]; omega))))⟩
    · have b2 := HB2.out rfl
      clear HB2 HB3
      go_wp2_with fail
      go_meet
      exact ⟨_, rfl, (by first | omega | (simp [size_ext]; done) | (simp [size_ext]; omega)), (by ((repeat' (first | (with_reducible assumption) | (with_reducible refine Blk.drew ?_) | exact Blk.new' _ _ (by first | rfl | (simp [size_ext]; done) | (simp [size_ext]; omega)) | (with_reducible refine Blk.ext ?_ _ _) | (with_reducible refine Blk.alloc ?_ _))); (all_goals fail))), (by ((repeat' (first | (with_reducible assumption) | (with_reducible refine Blk.drew ?_) | exact Blk.new' _ _ (by first | rfl | (simp [size_ext]; done) | (simp [size_ext]; omega)) | (with_reducible refine Blk.ext ?_ _ _) | (with_reducible refine Blk.alloc ?_ _))); (all_goals fail))), (by ((repeat' (first | (with_reducible assumption) | (with_reducible refine Blk.drew ?_) | exact Blk.new' _ _ (by first | rfl | (simp [size_ext]; done) | (simp [size_ext]; omega)) | (with_reducible refine Blk.ext ?_ _ _) | (with_reducible refine Blk.alloc ?_ _))); (all_goals fail))), (by ((repeat' (first | (with_reducible assumption) | (with_reducible refine Blk.drew ?_) | exact Blk.new' _ _ (by first | rfl | (simp [size_ext]; done) | (simp [size_ext]; omega)) | (with_reducible refine Blk.ext ?_ _ _) | (with_reducible refine Blk.alloc ?_ _))); (all_goals fail))), (by (repeat' (first | (with_reducible exact Below.refl _ _) | (with_reducible assumption) | (with_reducible refine below_ext0 ?_ _ _) | (with_reducible refine below_alloc0 ?_ _) | (with_reducible refine Below.ext ?_ ?_ _ _) | (with_reducible refine Below.alloc ?_ ?_ _) | (with_reducible refine Below.setCell ?_ ?_ _) | (with_reducible refine Below.drew ?_) | (with_reducible refine below_draws ?_ _) | go_size | (simp [size_ext]; done) | (simp [size_ext]; omega))))⟩
  case rest =>
    obtain ⟨gr, rfl, hgr, kr, kx, ko, kz, hlow⟩ := hcut
    have q5 : wc.cell? ⟨w.heap.size + 1, 5, none⟩ = some (.slice Ao no co) := ko.cell 5
    have HI : Hid (SetI w gr (msgC h (.slice Aq nq cq) (.slice Ax nx cx) (.slice Ay ny cy) (.slice Az nz cz)) #[] (msgC hd0 (.slice none 0 0) (.slice none 0 0) (.slice none 0 0) (.slice none 0 0)) size T2 [] wc (.slice none 0 0)) := hid ⟨kr, OwnR.nil (by omega) kr.lt, kx, kz, hlow⟩
    clear kr kx ko kz hlow
    go_wp2_with fail
    go_loopg [5, 56] no (fun gk s5 s56 wi => ∃ (k : Nat) (V : Value), k ≤ no ∧ gk = no - k ∧ s5 = .nilIface ∧ s56 = .int .i64 (k : Int) ∧ SetI w gr (msgC h (.slice Aq nq cq) (.slice Ax nx cx) (.slice Ay ny cy) (.slice Az nz cz)) #[] (msgC hd0 (.slice none 0 0) (.slice none 0 0) (.slice none 0 0) (.slice none 0 0)) size T2 (dataO (os.take k)) wi V)
    case atStart => exact ⟨0, _, Nat.zero_le _, rfl, rfl, rfl, HI.out⟩
    case round =>
      obtain ⟨k, V, hk, rfl, rfl, rfl, hI⟩ := hrel
      have HS := hid hI
      obtain ⟨AV, cV, hV⟩ := hI.own.slice
      subst hV
      obtain ⟨nV, hnV⟩ : ∃ nV, (dataO (os.take k)).length = nV := ⟨_, rfl⟩
      rw [hnV] at HS
      have zr := hI.recd.lt
      have q4 : wr.cell? ⟨gr, 4, none⟩ = some (.slice AV (dataO (os.take k)).length cV) := hI.recd.cell 4
      have f4 : wr.frozen? ⟨gr, 4, none⟩ = false := hI.recd.frozen 4
      have hlo := hI.low.size
      have lo := HO.out.len
      rw [hnV] at q4
      by_cases hlt : k < no
      · obtain ⟨b, o, C, A3, n3, c3, d, rfl, hb1, e1, x0, x1, r1, hC⟩ := HO.out.opt k hlt
        have hk' : k < os.length := by rw [lo]; exact hlt
        have hoo := optsErr_at os he _ (List.getElem_mem hk')
        rw [e1] at hoo
        obtain ⟨⟨C0, C1⟩, hd5⟩ := hoo
        simp only at C0 C1 hd5
        have hdt := dataO_take os hk'
        rw [e1] at hdt
        have hle := dataO_le os (k + 1)
        have hl3 := r1.len
        have hle2 : nV + 4 + n3 ≤ 65535 := by
          rw [hdt, List.length_append, hnV] at hle
          unfold optB at hle
          simp only [List.length_append, two2_len] at hle
          omega
        have limo := HO.out.lim
        rw [show oR.bs = 32 from rfl] at limo
        have y0 : wr.cell? ⟨b, o + k * 2, none⟩ = some (.int .i64 C) := (hI.low.cell (p := ⟨b, o + k * 2, none⟩) hb1).trans x0
        have y1 : wr.cell? ⟨b, o + k * 2 + 1, none⟩ = some (.slice A3 n3 c3) := (hI.low.cell (p := ⟨b, o + k * 2 + 1, none⟩) hb1).trans x1
        have hbw : b < wr.heap.size := by omega
        have HC4 := hid (four_cells C0 C1 (n := (n3 : Int)) (by omega) (by omega))
        have HDT := hid (show dataO (os.take (k + 1)) = dataO (os.take k) ++ (two2 C ++ two2 (n3 : Int)) ++ d by rw [hdt, ← hl3]; simp [optB])
        have W5 := hid (within_yes (n := C) (m := 65535) ⟨C0, C1⟩)
        have HNV := hid hnV
        have ab1 : ((dataO (os.take k)).length + 4) * 1 ≤ 140737488355328 := by rw [hnV]; omega
        have ab2 : (dataO (os.take k)).length + 4 ≤ maxLen := by rw [hnV]; unfold maxLen; omega
        have ab3 : ((dataO (os.take k) ++ (two2 C ++ two2 (n3 : Int))).length + n3) * 1 ≤ 140737488355328 := by simp only [List.length_append, two2_len]; rw [hnV]; omega
        have ab4 : (dataO (os.take k) ++ (two2 C ++ two2 (n3 : Int))).length + n3 ≤ maxLen := by simp only [List.length_append, two2_len]; rw [hnV]; unfold maxLen; omega
        have R1 := hid r1
        have g1 : ¬ gr = wr.heap.size := by omega
        have g2 : ¬ wr.heap.size = gr := by omega
        clear x0 x1 e1 hC hdt hle r1 hl3 hI hnV he
        have t0 : (k : Int) < (no : Int) := by omega
        have t1 : decide ((k : Int) < (no : Int)) = true := decide_eq_true t0
        have t2 : (0 : Int) ≤ (k : Int) := by omega
        have v3 : IntKind.i64.wrap ((k : Int) + 1) = (k : Int) + 1 := IntWalk.i64_in _ (by omega)
        have u0 : ¬ (65535 : Int) < (n3 : Int) := by omega
        have u1 : decide ((65535 : Int) < (n3 : Int)) = false := decide_eq_false u0
        go_wp2_with (first
          | (go_at_call 54; have _t := tk5; (with_reducible refine (W5.out _).mono ?_); rintro e w1 ⟨rfl, hb⟩; obtain ⟨otk5, dtk5, rfl⟩ := ext_of_below hb; clear hb tk5)
          | (at_builtin; have _t := tk6; go_must (refine wpList_ownT (R := u8R) (B := w.heap.size) (base := gr + 1) el_u8 rfl _ _ rfl rfl (HS.out.own.below (by (repeat' (first | (with_reducible exact Below.refl _ _) | (with_reducible assumption) | (with_reducible refine below_ext0 ?_ _ _) | (with_reducible refine below_alloc0 ?_ _) | (with_reducible refine Below.ext ?_ ?_ _ _) | (with_reducible refine Below.alloc ?_ ?_ _) | (with_reducible refine Below.setCell ?_ ?_ _) | (with_reducible refine Below.drew ?_) | (with_reducible refine below_draws ?_ _) | go_size | (simp [size_ext]; done) | (simp [size_ext]; omega))))) rfl (SrcR.lit8 (Blk.new' _ _ (by first | rfl | (simp [size_ext]; done) | (simp [size_ext]; omega))) HC4.out rfl) ab1 ab2 ?_); intro v2 w2 ho hb ha; have kb := ha.keepB (k := wr.heap.size) (T := 105) (cs := #[.int .i64 C, .slice A3 n3 c3]) (by ((repeat' (first | (with_reducible assumption) | (with_reducible refine Blk.drew ?_) | exact Blk.new' _ _ (by first | rfl | (simp [size_ext]; done) | (simp [size_ext]; omega)) | (with_reducible refine Blk.ext ?_ _ _) | (with_reducible refine Blk.alloc ?_ _))); (all_goals fail))) (fun g hg => by have := HS.out.own.blk hg; omega); have kg := (HS.out.recd.below (w' := w2) (Below.trans (Below.mono (by (repeat' (first | (with_reducible exact Below.refl _ _) | (with_reducible assumption) | (with_reducible refine below_ext0 ?_ _ _) | (with_reducible refine below_alloc0 ?_ _) | (with_reducible refine Below.ext ?_ ?_ _ _) | (with_reducible refine Below.alloc ?_ ?_ _) | (with_reducible refine Below.setCell ?_ ?_ _) | (with_reducible refine Below.drew ?_) | (with_reducible refine below_draws ?_ _) | go_size | (simp [size_ext]; done) | (simp [size_ext]; omega))) : Below wr.heap.size wr _) (by omega)) hb : Below (gr + 1) wr w2) (by omega)); have hs2 := SetI.step HS.out hgr (by (repeat' (first | (with_reducible exact Below.refl _ _) | (with_reducible assumption) | (with_reducible refine below_ext0 ?_ _ _) | (with_reducible refine below_alloc0 ?_ _) | (with_reducible refine Below.ext ?_ ?_ _ _) | (with_reducible refine Below.alloc ?_ ?_ _) | (with_reducible refine Below.setCell ?_ ?_ _) | (with_reducible refine Below.drew ?_) | (with_reducible refine below_draws ?_ _) | go_size | (simp [size_ext]; done) | (simp [size_ext]; omega)))) ho hb; have hl : (dataO (os.take k) ++ (two2 C ++ two2 (n3 : Int))).length = nV + 4 := (by simp only [List.length_append, two2_len]; rw [HNV.out]); obtain ⟨A2, c2, rfl⟩ := ho.slice' hl; have b1' : w2.cell? ⟨wr.heap.size, 1, none⟩ = some (.slice A3 n3 c3) := kb.cell 1; have z2 := kb.lt; have b4 : w2.cell? ⟨gr, 4, none⟩ = some (.slice AV nV cV) := kg.cell 4; have c4' : w2.frozen? ⟨gr, 4, none⟩ = false := kg.frozen 4; have HS2 := hid hs2; clear ho hb ha kb kg hs2 hl tk6)
          | (at_builtin; have _t := tk7; have hs2x := HS2.out; go_must (refine wpList_ownT (R := u8R) (B := w.heap.size) (base := gr + 1) el_u8 rfl _ _ rfl rfl HS2.out.own rfl (SrcR.u8 (R1.out.below HS2.out.low)) ab3 ab4 ?_); intro v3 w3 ho hb ha; have kg := HS2.out.recd.below hb (by omega); have hs3 := SetI.step HS2.out hgr (Below.refl _ _) ho hb; have b5 : w3.cell? ⟨gr, 4, none⟩ = some (.slice A2 (nV + 4) c2) := kg.cell 4; have hl3 : (dataO (os.take k) ++ (two2 C ++ two2 (n3 : Int)) ++ d).length = nV + 4 + n3 := (by have := R1.out.len; simp only [List.length_append, two2_len]; rw [HNV.out]; omega); obtain ⟨A5, c5, rfl⟩ := ho.slice' hl3; have c5' : w3.frozen? ⟨gr, 4, none⟩ = false := kg.frozen 4; have HS3 := hid hs3; clear ho hb ha kg hs3 hl3 tk7))
        go_roundg (no - (k + 1))
        case measure => omega
        case rel => exact ⟨k + 1, _, by omega, rfl, rfl, by go_num, by rw [HDT.out]; exact HS3.out⟩
      · have t0 : ¬ (k : Int) < (no : Int) := by omega
        have t1 : decide ((k : Int) < (no : Int)) = false := decide_eq_false t0
        obtain rfl : k = no := by omega
        have hall : os.take k = os := List.take_of_length_le (by omega)
        have hds := HS.out
        rw [hall] at hds hnV
        have hn5 : nV ≤ 65535 := by omega
        have u0 : ¬ (65535 : Int) < (nV : Int) := by omega
        have u1 : decide ((65535 : Int) < (nV : Int)) = false := decide_eq_false u0
        have kx := hds.x
        have x0 : (wr).cell? ⟨w.heap.size, 0, none⟩ = some (.int .i64 h.id) := (kx).cell 0; have x1 : (wr).cell? ⟨w.heap.size, 1, none⟩ = some (.bool h.an) := (kx).cell 1; have x2 : (wr).cell? ⟨w.heap.size, 2, none⟩ = some (.int .i64 h.op) := (kx).cell 2; have x3 : (wr).cell? ⟨w.heap.size, 3, none⟩ = some (.bool h.aa) := (kx).cell 3; have x4 : (wr).cell? ⟨w.heap.size, 4, none⟩ = some (.bool h.tc) := (kx).cell 4; have x5 : (wr).cell? ⟨w.heap.size, 5, none⟩ = some (.bool h.rd) := (kx).cell 5; have x6 : (wr).cell? ⟨w.heap.size, 6, none⟩ = some (.bool h.ra) := (kx).cell 6; have x7 : (wr).cell? ⟨w.heap.size, 7, none⟩ = some (.bool h.z) := (kx).cell 7; have x8 : (wr).cell? ⟨w.heap.size, 8, none⟩ = some (.bool h.ad) := (kx).cell 8; have x9 : (wr).cell? ⟨w.heap.size, 9, none⟩ = some (.bool h.cd) := (kx).cell 9; have x10 : (wr).cell? ⟨w.heap.size, 10, none⟩ = some (.int .i64 h.code) := (kx).cell 10; have x11 : (wr).cell? ⟨w.heap.size, 11, none⟩ = some (.slice Aq nq cq) := (kx).cell 11; have x12 : (wr).cell? ⟨w.heap.size, 12, none⟩ = some (.slice Ax nx cx) := (kx).cell 12; have x13 : (wr).cell? ⟨w.heap.size, 13, none⟩ = some (.slice Ay ny cy) := (kx).cell 13; have x14 : (wr).cell? ⟨w.heap.size, 14, none⟩ = some (.slice Az nz cz) := (kx).cell 14
        have HD := hid hds
        have HNV := hid hnV
        have zl := kx.lt
        clear kx hds hall hnV hI he
        go_upto_region 19 with fail
        go_cut [5] (fun s5 wx => s5 = .nilIface ∧ ∃ Aq cq Ax cx Ay cy Az nz cz, SetD w gr wr.heap.size h qs xs ys zs size T2 (dataO os) nq nx ny wx Aq cq Ax cx Ay cy Az nz cz (.slice AV nV cV))
        case first =>
          go_wp2_with (go_at_call 16; have _t := tk8; (with_reducible refine (CD.out _ HD.out.low).mono ?_); rintro e w4 ⟨Aq1, cq1, Ax1, cx1, Ay1, cy1, Az1, nz1, cz1, hdr⟩; obtain rfl := hdr.ret; have k4 := HD.out.x.below hdr.low zl; have y0 : (w4).cell? ⟨w.heap.size, 0, none⟩ = some (.int .i64 h.id) := (k4).cell 0; have y1 : (w4).cell? ⟨w.heap.size, 1, none⟩ = some (.bool h.an) := (k4).cell 1; have y2 : (w4).cell? ⟨w.heap.size, 2, none⟩ = some (.int .i64 h.op) := (k4).cell 2; have y3 : (w4).cell? ⟨w.heap.size, 3, none⟩ = some (.bool h.aa) := (k4).cell 3; have y4 : (w4).cell? ⟨w.heap.size, 4, none⟩ = some (.bool h.tc) := (k4).cell 4; have y5 : (w4).cell? ⟨w.heap.size, 5, none⟩ = some (.bool h.rd) := (k4).cell 5; have y6 : (w4).cell? ⟨w.heap.size, 6, none⟩ = some (.bool h.ra) := (k4).cell 6; have y7 : (w4).cell? ⟨w.heap.size, 7, none⟩ = some (.bool h.z) := (k4).cell 7; have y8 : (w4).cell? ⟨w.heap.size, 8, none⟩ = some (.bool h.ad) := (k4).cell 8; have y9 : (w4).cell? ⟨w.heap.size, 9, none⟩ = some (.bool h.cd) := (k4).cell 9; have y10 : (w4).cell? ⟨w.heap.size, 10, none⟩ = some (.int .i64 h.code) := (k4).cell 10; have y11 : (w4).cell? ⟨w.heap.size, 11, none⟩ = some (.slice Aq nq cq) := (k4).cell 11; have y12 : (w4).cell? ⟨w.heap.size, 12, none⟩ = some (.slice Ax nx cx) := (k4).cell 12; have y13 : (w4).cell? ⟨w.heap.size, 13, none⟩ = some (.slice Ay ny cy) := (k4).cell 13; have y14 : (w4).cell? ⟨w.heap.size, 14, none⟩ = some (.slice Az nz cz) := (k4).cell 14; have g0 : (w4).frozen? ⟨w.heap.size, 0, none⟩ = false := (k4).frozen 0; have g1 : (w4).frozen? ⟨w.heap.size, 1, none⟩ = false := (k4).frozen 1; have g2 : (w4).frozen? ⟨w.heap.size, 2, none⟩ = false := (k4).frozen 2; have g3 : (w4).frozen? ⟨w.heap.size, 3, none⟩ = false := (k4).frozen 3; have g4 : (w4).frozen? ⟨w.heap.size, 4, none⟩ = false := (k4).frozen 4; have g5 : (w4).frozen? ⟨w.heap.size, 5, none⟩ = false := (k4).frozen 5; have g6 : (w4).frozen? ⟨w.heap.size, 6, none⟩ = false := (k4).frozen 6; have g7 : (w4).frozen? ⟨w.heap.size, 7, none⟩ = false := (k4).frozen 7; have g8 : (w4).frozen? ⟨w.heap.size, 8, none⟩ = false := (k4).frozen 8; have g9 : (w4).frozen? ⟨w.heap.size, 9, none⟩ = false := (k4).frozen 9; have g10 : (w4).frozen? ⟨w.heap.size, 10, none⟩ = false := (k4).frozen 10; have g11 : (w4).frozen? ⟨w.heap.size, 11, none⟩ = false := (k4).frozen 11; have g12 : (w4).frozen? ⟨w.heap.size, 12, none⟩ = false := (k4).frozen 12; have g13 : (w4).frozen? ⟨w.heap.size, 13, none⟩ = false := (k4).frozen 13; have g14 : (w4).frozen? ⟨w.heap.size, 14, none⟩ = false := (k4).frozen 14; have HDR := hid hdr; have K4 := hid k4; clear hdr k4 tk8)
          go_meet
          refine ⟨rfl, Aq1, cq1, Ax1, cx1, Ay1, cy1, Az1, nz1, cz1, set_drop HD.out hgr rfl ⟨_, _, _, rfl⟩ ⟨_, _, _, rfl⟩ ⟨_, _, _, rfl⟩ ⟨_, _, _, rfl⟩ HDR.out ?_ (msg_over h _ _ _ _ K4.out)⟩
          repeat (first | (with_reducible exact grown_refl _ _) | (with_reducible refine World.grownBy.trans ?_ (grown_set _ _)))
        case rest =>
          obtain ⟨rfl, Aq1, cq1, Ax1, cx1, Ay1, cy1, Az1, nz1, cz1, hsd⟩ := hcut
          have kx := hsd.x
          have kr := hsd.recd
          have kz := hsd.z
          have RD := hid (hsd.d.rd' HNV.out (by rw [show u8R.bs = 1 from rfl]; omega) (by decide))
          have z1 := kr.lt
          have zwr := hsd.low.size
          have zwr' : wr.heap.size ≤ wc.heap.size := hsd.le
          obtain ⟨cs, hro, hrr, hrf⟩ := hsd.rz
          have HRO := hid hro
          have HRR := hid hrr
          have HRF := hid hrf
          have HSD := hid hsd
          have HLZ := hid hsd.lz
          have hzl := silent_len zs
          rw [HZL.out] at hzl
          have ab1 : ((silent zs).length + 1) * 72 ≤ 140737488355328 := by omega
          have ab2 : (silent zs).length + 1 ≤ maxLen := by unfold maxLen; omega
          have x0 : (wc).cell? ⟨w.heap.size, 0, none⟩ = some (.int .i64 h.id) := (kx).cell 0; have x1 : (wc).cell? ⟨w.heap.size, 1, none⟩ = some (.bool h.an) := (kx).cell 1; have x2 : (wc).cell? ⟨w.heap.size, 2, none⟩ = some (.int .i64 h.op) := (kx).cell 2; have x3 : (wc).cell? ⟨w.heap.size, 3, none⟩ = some (.bool h.aa) := (kx).cell 3; have x4 : (wc).cell? ⟨w.heap.size, 4, none⟩ = some (.bool h.tc) := (kx).cell 4; have x5 : (wc).cell? ⟨w.heap.size, 5, none⟩ = some (.bool h.rd) := (kx).cell 5; have x6 : (wc).cell? ⟨w.heap.size, 6, none⟩ = some (.bool h.ra) := (kx).cell 6; have x7 : (wc).cell? ⟨w.heap.size, 7, none⟩ = some (.bool h.z) := (kx).cell 7; have x8 : (wc).cell? ⟨w.heap.size, 8, none⟩ = some (.bool h.ad) := (kx).cell 8; have x9 : (wc).cell? ⟨w.heap.size, 9, none⟩ = some (.bool h.cd) := (kx).cell 9; have x10 : (wc).cell? ⟨w.heap.size, 10, none⟩ = some (.int .i64 h.code) := (kx).cell 10; have x11 : (wc).cell? ⟨w.heap.size, 11, none⟩ = some (.slice Aq1 nq cq1) := (kx).cell 11; have x12 : (wc).cell? ⟨w.heap.size, 12, none⟩ = some (.slice Ax1 nx cx1) := (kx).cell 12; have x13 : (wc).cell? ⟨w.heap.size, 13, none⟩ = some (.slice Ay1 ny cy1) := (kx).cell 13; have x14 : (wc).cell? ⟨w.heap.size, 14, none⟩ = some (.slice Az1 nz1 cz1) := (kx).cell 14
          have p0 : wc.cell? ⟨gr, 0, none⟩ = some (.slice none 0 0) := kr.cell 0
          have p1 : wc.cell? ⟨gr, 1, none⟩ = some (.int .i64 41) := kr.cell 1
          have p2 : wc.cell? ⟨gr, 2, none⟩ = some (.int .i64 size) := kr.cell 2
          have p3 : wc.cell? ⟨gr, 3, none⟩ = some (.int .i64 T2) := kr.cell 3
          have p4 : wc.cell? ⟨gr, 4, none⟩ = some (.slice AV nV cV) := kr.cell 4
          have KX5 := hid kx
          have KZ5 := hid kz
          clear kx kr kz hro hrr hrf hsd hzl
          go_wp2_with (at_builtin; have _t := tk9; go_must (refine wpList_row near_rec el_r zr_d HRO.out HRR.out HRF.out (([], 41, size, T2, dataO os, ()) : RecT) [.slice none 0 0, .int .i64 41, .int .i64 size, .int .i64 T2, .slice AV nV cV] rfl _ _ rfl rfl rfl (by (repeat' (first | (with_reducible exact Below.refl _ _) | (with_reducible assumption) | (with_reducible refine below_ext0 ?_ _ _) | (with_reducible refine below_alloc0 ?_ _) | (with_reducible refine Below.ext ?_ ?_ _ _) | (with_reducible refine Below.alloc ?_ ?_ _) | (with_reducible refine Below.setCell ?_ ?_ _) | (with_reducible refine Below.drew ?_) | (with_reducible refine below_draws ?_ _) | go_size | (simp [size_ext]; done) | (simp [size_ext]; omega)))) (src_blk (m := 1) (size := 5) (t := 67) (cs := #[.slice none 0 0, .int .i64 41, .int .i64 size, .int .i64 T2, .slice AV nV cV]) (Blk.new' _ _ (by first | rfl | (simp [size_ext]; done) | (simp [size_ext]; omega))) rfl (by simp [Value.oneCell'])) (rel_r (rd_nil _ _) (by unfold I64; omega) (by unfold I64; omega) (by unfold I64; omega) (RD.out.later (by (repeat' (first | (with_reducible exact Below.refl _ _) | (with_reducible assumption) | (with_reducible refine below_ext0 ?_ _ _) | (with_reducible refine below_alloc0 ?_ _) | (with_reducible refine Below.ext ?_ ?_ _ _) | (with_reducible refine Below.alloc ?_ ?_ _) | (with_reducible refine Below.setCell ?_ ?_ _) | (with_reducible refine Below.drew ?_) | (with_reducible refine below_draws ?_ _) | go_size | (simp [size_ext]; done) | (simp [size_ext]; omega)))))) (by simp [not_d_slice, not_d_int]) ab1 ab2 (by omega) ?_); intro v9 w9 row9 ha9; have hl9 : (silent zs ++ [(([], 41, size, T2, dataO os, ()) : RecT)]).length = nz1 + 1 := (by rw [List.length_append, HLZ.out]; rfl); obtain ⟨A9, c9, hv9⟩ := row9.slice; rw [hl9] at hv9; subst hv9; have kx9 := app_blk HRO.out KX5.out ha9 (by (repeat' (first | (with_reducible exact Below.refl _ _) | (with_reducible assumption) | (with_reducible refine below_ext0 ?_ _ _) | (with_reducible refine below_alloc0 ?_ _) | (with_reducible refine Below.ext ?_ ?_ _ _) | (with_reducible refine Below.alloc ?_ ?_ _) | (with_reducible refine Below.setCell ?_ ?_ _) | (with_reducible refine Below.drew ?_) | (with_reducible refine below_draws ?_ _) | go_size | (simp [size_ext]; done) | (simp [size_ext]; omega)))) (by omega); have kz9 := app_blk HRO.out KZ5.out ha9 (by (repeat' (first | (with_reducible exact Below.refl _ _) | (with_reducible assumption) | (with_reducible refine below_ext0 ?_ _ _) | (with_reducible refine below_alloc0 ?_ _) | (with_reducible refine Below.ext ?_ ?_ _ _) | (with_reducible refine Below.alloc ?_ ?_ _) | (with_reducible refine Below.setCell ?_ ?_ _) | (with_reducible refine Below.drew ?_) | (with_reducible refine below_draws ?_ _) | go_size | (simp [size_ext]; done) | (simp [size_ext]; omega)))) (by omega); have x0 : (w9).cell? ⟨w.heap.size, 0, none⟩ = some (.int .i64 h.id) := (kx9).cell 0; have x1 : (w9).cell? ⟨w.heap.size, 1, none⟩ = some (.bool h.an) := (kx9).cell 1; have x2 : (w9).cell? ⟨w.heap.size, 2, none⟩ = some (.int .i64 h.op) := (kx9).cell 2; have x3 : (w9).cell? ⟨w.heap.size, 3, none⟩ = some (.bool h.aa) := (kx9).cell 3; have x4 : (w9).cell? ⟨w.heap.size, 4, none⟩ = some (.bool h.tc) := (kx9).cell 4; have x5 : (w9).cell? ⟨w.heap.size, 5, none⟩ = some (.bool h.rd) := (kx9).cell 5; have x6 : (w9).cell? ⟨w.heap.size, 6, none⟩ = some (.bool h.ra) := (kx9).cell 6; have x7 : (w9).cell? ⟨w.heap.size, 7, none⟩ = some (.bool h.z) := (kx9).cell 7; have x8 : (w9).cell? ⟨w.heap.size, 8, none⟩ = some (.bool h.ad) := (kx9).cell 8; have x9 : (w9).cell? ⟨w.heap.size, 9, none⟩ = some (.bool h.cd) := (kx9).cell 9; have x10 : (w9).cell? ⟨w.heap.size, 10, none⟩ = some (.int .i64 h.code) := (kx9).cell 10; have x11 : (w9).cell? ⟨w.heap.size, 11, none⟩ = some (.slice Aq1 nq cq1) := (kx9).cell 11; have x12 : (w9).cell? ⟨w.heap.size, 12, none⟩ = some (.slice Ax1 nx cx1) := (kx9).cell 12; have x13 : (w9).cell? ⟨w.heap.size, 13, none⟩ = some (.slice Ay1 ny cy1) := (kx9).cell 13; have x14 : (w9).cell? ⟨w.heap.size, 14, none⟩ = some (.slice Az1 nz1 cz1) := (kx9).cell 14; have x14f : w9.frozen? ⟨w.heap.size, 14, none⟩ = false := kx9.frozen 14; have z0 : (w9).cell? ⟨w.heap.size + 2, 0, none⟩ = some (.int .i64 hd0.id) := (kz9).cell 0; have z1 : (w9).cell? ⟨w.heap.size + 2, 1, none⟩ = some (.bool hd0.an) := (kz9).cell 1; have z2 : (w9).cell? ⟨w.heap.size + 2, 2, none⟩ = some (.int .i64 hd0.op) := (kz9).cell 2; have z3 : (w9).cell? ⟨w.heap.size + 2, 3, none⟩ = some (.bool hd0.aa) := (kz9).cell 3; have z4 : (w9).cell? ⟨w.heap.size + 2, 4, none⟩ = some (.bool hd0.tc) := (kz9).cell 4; have z5 : (w9).cell? ⟨w.heap.size + 2, 5, none⟩ = some (.bool hd0.rd) := (kz9).cell 5; have z6 : (w9).cell? ⟨w.heap.size + 2, 6, none⟩ = some (.bool hd0.ra) := (kz9).cell 6; have z7 : (w9).cell? ⟨w.heap.size + 2, 7, none⟩ = some (.bool hd0.z) := (kz9).cell 7; have z8 : (w9).cell? ⟨w.heap.size + 2, 8, none⟩ = some (.bool hd0.ad) := (kz9).cell 8; have z9 : (w9).cell? ⟨w.heap.size + 2, 9, none⟩ = some (.bool hd0.cd) := (kz9).cell 9; have z10 : (w9).cell? ⟨w.heap.size + 2, 10, none⟩ = some (.int .i64 hd0.code) := (kz9).cell 10; have z11 : (w9).cell? ⟨w.heap.size + 2, 11, none⟩ = some (.slice none 0 0) := (kz9).cell 11; have z12 : (w9).cell? ⟨w.heap.size + 2, 12, none⟩ = some (.slice none 0 0) := (kz9).cell 12; have z13 : (w9).cell? ⟨w.heap.size + 2, 13, none⟩ = some (.slice none 0 0) := (kz9).cell 13; have z14 : (w9).cell? ⟨w.heap.size + 2, 14, none⟩ = some (.slice none 0 0) := (kz9).cell 14; have f0 : (w9).frozen? ⟨w.heap.size + 2, 0, none⟩ = false := (kz9).frozen 0; have f1 : (w9).frozen? ⟨w.heap.size + 2, 1, none⟩ = false := (kz9).frozen 1; have f2 : (w9).frozen? ⟨w.heap.size + 2, 2, none⟩ = false := (kz9).frozen 2; have f3 : (w9).frozen? ⟨w.heap.size + 2, 3, none⟩ = false := (kz9).frozen 3; have f4 : (w9).frozen? ⟨w.heap.size + 2, 4, none⟩ = false := (kz9).frozen 4; have f5 : (w9).frozen? ⟨w.heap.size + 2, 5, none⟩ = false := (kz9).frozen 5; have f6 : (w9).frozen? ⟨w.heap.size + 2, 6, none⟩ = false := (kz9).frozen 6; have f7 : (w9).frozen? ⟨w.heap.size + 2, 7, none⟩ = false := (kz9).frozen 7; have f8 : (w9).frozen? ⟨w.heap.size + 2, 8, none⟩ = false := (kz9).frozen 8; have f9 : (w9).frozen? ⟨w.heap.size + 2, 9, none⟩ = false := (kz9).frozen 9; have f10 : (w9).frozen? ⟨w.heap.size + 2, 10, none⟩ = false := (kz9).frozen 10; have f11 : (w9).frozen? ⟨w.heap.size + 2, 11, none⟩ = false := (kz9).frozen 11; have f12 : (w9).frozen? ⟨w.heap.size + 2, 12, none⟩ = false := (kz9).frozen 12; have f13 : (w9).frozen? ⟨w.heap.size + 2, 13, none⟩ = false := (kz9).frozen 13; have f14 : (w9).frozen? ⟨w.heap.size + 2, 14, none⟩ = false := (kz9).frozen 14; have BQ := hid (HSD.out.rq.beside near_q HRO.out HRF.out (by (repeat' (first | (with_reducible exact Below.refl _ _) | (with_reducible assumption) | (with_reducible refine below_ext0 ?_ _ _) | (with_reducible refine below_alloc0 ?_ _) | (with_reducible refine Below.ext ?_ ?_ _ _) | (with_reducible refine Below.alloc ?_ ?_ _) | (with_reducible refine Below.setCell ?_ ?_ _) | (with_reducible refine Below.drew ?_) | (with_reducible refine below_draws ?_ _) | go_size | (simp [size_ext]; done) | (simp [size_ext]; omega)))) ha9 (fun g e => (HSD.out.ap g e).1)); have BX := hid (HSD.out.rx.beside near_rec HRO.out HRF.out (by (repeat' (first | (with_reducible exact Below.refl _ _) | (with_reducible assumption) | (with_reducible refine below_ext0 ?_ _ _) | (with_reducible refine below_alloc0 ?_ _) | (with_reducible refine Below.ext ?_ ?_ _ _) | (with_reducible refine Below.alloc ?_ ?_ _) | (with_reducible refine Below.setCell ?_ ?_ _) | (with_reducible refine Below.drew ?_) | (with_reducible refine below_draws ?_ _) | go_size | (simp [size_ext]; done) | (simp [size_ext]; omega)))) ha9 (fun g e => (HSD.out.ap g e).2.1)); have BY := hid (HSD.out.ry.beside near_rec HRO.out HRF.out (by (repeat' (first | (with_reducible exact Below.refl _ _) | (with_reducible assumption) | (with_reducible refine below_ext0 ?_ _ _) | (with_reducible refine below_alloc0 ?_ _) | (with_reducible refine Below.ext ?_ ?_ _ _) | (with_reducible refine Below.alloc ?_ ?_ _) | (with_reducible refine Below.setCell ?_ ?_ _) | (with_reducible refine Below.drew ?_) | (with_reducible refine below_draws ?_ _) | go_size | (simp [size_ext]; done) | (simp [size_ext]; omega)))) ha9 (fun g e => (HSD.out.ap g e).2.2)); have LOW9 := hid (app_low HRO.out ha9 (by (repeat' (first | (with_reducible exact Below.refl _ _) | (with_reducible assumption) | (with_reducible refine below_ext0 ?_ _ _) | (with_reducible refine below_alloc0 ?_ _) | (with_reducible refine Below.ext ?_ ?_ _ _) | (with_reducible refine Below.alloc ?_ ?_ _) | (with_reducible refine Below.setCell ?_ ?_ _) | (with_reducible refine Below.drew ?_) | (with_reducible refine below_draws ?_ _) | go_size | (simp [size_ext]; done) | (simp [size_ext]; omega)))) HSD.out.low (by omega) zwr'); have zw9 : wc.heap.size ≤ w9.heap.size := (by have := ha9.grown.size; simp at this; omega); have ROW9 := hid row9; have HL9 := hid hl9; have KX9 := hid kx9; have KZ9 := hid kz9; clear row9 ha9 kx9 kz9 hl9 tk9)
          have kz2 : Blk (w9.setCell ⟨w.heap.size, 14, none⟩ (.slice A9 (nz1 + 1) c9)) (w.heap.size + 2) 28 (msgC hd0 (.slice none 0 0) (.slice none 0 0) (.slice none 0 0) (.slice none 0 0)) := KZ9.out.far (by simp only; omega) _
          have hrec : recO ⟨size, code, ver, dob, z⟩ os = ([], 41, size, T2, dataO os, ()) := by unfold recO; rw [HT2.out]
          rw [hrec]
          refine bodyPost_ret (res_set rfl rfl (msg_over h _ _ _ _ kz2)) rfl ⟨Aq1, cq1, Ax1, cx1, Ay1, cy1, A9, nz1 + 1, c9, rfl, set_end ?_ KX9.out KZ9.out BQ.out BX.out BY.out ROW9.out HSD.out.lq HSD.out.lx HSD.out.ly ⟨HL9.out, by have := HLZ.out; omega⟩ (by omega) (by omega) LOW9.out⟩
          repeat (first | (with_reducible exact grown_refl _ _) | (with_reducible refine World.grownBy.trans ?_ (grown_set _ _)))
end Go.Proofs.YtfihedcobopbcaaDoor
