/- edns.Set of what may not be told: what is wrong. -/
import Derived.Test.YtfihedcobopbcaaDoorK10
namespace Go.Proofs.YtfihedcobopbcaaDoor
open Go.RowKit
set_option linter.unusedVariables false
set_option linter.unusedSimpArgs false

theorem setErr_zero {x : OptX} {os : List OT} (h : setErr x os = 0) : OptOk x ∧ optsErr os = 0 ∧ (dataO os).length ≤ 65535 := by
  unfold setErr at h
  split at h
  · rename_i h1
    split at h
    · rename_i h2
      split at h
      · rename_i h3; exact ⟨h1, h2, h3⟩
      · cases h
    · rename_i h2; exact absurd h h2
  · cases h
set_option maxRecDepth 100000 in
set_option maxHeartbeats 3000000 in
theorem set_range {w : World} {h : Hd} {Aq Ax Ay Az : Option Addr} {nq cq nx cx ny cy nz cz : Nat} {size code ver z : Int} {dob : Bool} {Ao : Option Addr} {no co : Nat} (hk : ¬ OptOk ⟨size, code, ver, dob, z⟩) :
    Calls Tryd.prog 20 #[.agg (msgC h (.slice Aq nq cq) (.slice Ax nx cx) (.slice Ay ny cy) (.slice Az nz cz)), .agg (optC ⟨size, code, ver, dob, z⟩ (.slice Ao no co))] w fun e w' => e = .returned (.tuple #[.agg (msgC hd0 (.slice none 0 0) (.slice none 0 0) (.slice none 0 0) (.slice none 0 0)), .iface 29 (.int .i64 6)]) ∧ Below w.heap.size w w' := by
  have hways : ¬ (0 ≤ size ∧ size ≤ 65535) ∨ ((0 ≤ size ∧ size ≤ 65535) ∧ ¬ (0 ≤ code ∧ code ≤ 255)) ∨ ((0 ≤ size ∧ size ≤ 65535) ∧ (0 ≤ code ∧ code ≤ 255) ∧ ¬ (0 ≤ ver ∧ ver ≤ 255)) ∨ ((0 ≤ size ∧ size ≤ 65535) ∧ (0 ≤ code ∧ code ≤ 255) ∧ (0 ≤ ver ∧ ver ≤ 255) ∧ ¬ (0 ≤ z ∧ z ≤ 32767)) := by
    by_cases h1 : 0 ≤ size ∧ size ≤ 65535
    · by_cases h2 : 0 ≤ code ∧ code ≤ 255
      · by_cases h3 : 0 ≤ ver ∧ ver ≤ 255
        · exact .inr (.inr (.inr ⟨h1, h2, h3, fun h4 => hk ⟨h1, h2, h3, h4⟩⟩))
        · exact .inr (.inr (.inl ⟨h1, h2, h3⟩))
      · exact .inr (.inl ⟨h1, h2⟩)
    · exact .inl h1
  clear hk
  have tk0 : True := trivial; have tk1 : True := trivial; have tk2 : True := trivial; have tk3 : True := trivial; have tk4 : True := trivial; have tk5 : True := trivial; have tk6 : True := trivial; have tk7 : True := trivial; have tk8 : True := trivial; have tk9 : True := trivial; have tk10 : True := trivial; have tk11 : True := trivial; have tk12 : True := trivial
  rcases hways with h1 | ⟨h1, h2⟩ | ⟨h1, h2, h3⟩ | ⟨h1, h2, h3, h4⟩
  · have W1 := hid (within_no h1)
    clear h1
    go_enter Tryd.func20, Tryd.ntmps20
    go_wp2_with (first
      | (go_at_call 54; have _t := tk1; (with_reducible refine (W1.out _).mono ?_); rintro e w1 ⟨rfl, hb⟩; obtain ⟨otk1, dtk1, rfl⟩ := ext_of_below hb; clear hb tk1))
    refine bodyPost_ret (res_set (h := hd0) (Q := .slice none 0 0) (X := .slice none 0 0) (Y := .slice none 0 0) (Z := .slice none 0 0) (T := 28) rfl rfl ?_) rfl ⟨rfl, ?_⟩
    · ((repeat' (first | (with_reducible assumption) | (with_reducible refine Blk.drew ?_) | exact Blk.new' _ _ (by first | rfl | (simp [size_ext]; done) | (simp [size_ext]; omega)) | (with_reducible refine Blk.ext ?_ _ _) | (with_reducible refine Blk.alloc ?_ _))); (all_goals fail))
    (repeat' (first | (with_reducible exact Below.refl _ _) | (with_reducible assumption) | (with_reducible refine below_ext0 ?_ _ _) | (with_reducible refine below_alloc0 ?_ _) | (with_reducible refine Below.ext ?_ ?_ _ _) | (with_reducible refine Below.alloc ?_ ?_ _) | (with_reducible refine Below.setCell ?_ ?_ _) | (with_reducible refine Below.drew ?_) | (with_reducible refine below_draws ?_ _) | go_size | (simp [size_ext]; done) | (simp [size_ext]; omega)))
  · have W1 := hid (within_yes h1)
    have W2 := hid (within_no h2)
    clear h1 h2
    go_enter Tryd.func20, Tryd.ntmps20
    go_wp2_with (first
      | (go_at_call 54; have _t := tk1; (with_reducible refine (W1.out _).mono ?_); rintro e w1 ⟨rfl, hb⟩; obtain ⟨otk1, dtk1, rfl⟩ := ext_of_below hb; clear hb tk1)
      | (go_at_call 54; have _t := tk2; (with_reducible refine (W2.out _).mono ?_); rintro e w1 ⟨rfl, hb⟩; obtain ⟨otk2, dtk2, rfl⟩ := ext_of_below hb; clear hb tk2))
    refine bodyPost_ret (res_set (h := hd0) (Q := .slice none 0 0) (X := .slice none 0 0) (Y := .slice none 0 0) (Z := .slice none 0 0) (T := 28) rfl rfl ?_) rfl ⟨rfl, ?_⟩
    · ((repeat' (first | (with_reducible assumption) | (with_reducible refine Blk.drew ?_) | exact Blk.new' _ _ (by first | rfl | (simp [size_ext]; done) | (simp [size_ext]; omega)) | (with_reducible refine Blk.ext ?_ _ _) | (with_reducible refine Blk.alloc ?_ _))); (all_goals fail))
    (repeat' (first | (with_reducible exact Below.refl _ _) | (with_reducible assumption) | (with_reducible refine below_ext0 ?_ _ _) | (with_reducible refine below_alloc0 ?_ _) | (with_reducible refine Below.ext ?_ ?_ _ _) | (with_reducible refine Below.alloc ?_ ?_ _) | (with_reducible refine Below.setCell ?_ ?_ _) | (with_reducible refine Below.drew ?_) | (with_reducible refine below_draws ?_ _) | go_size | (simp [size_ext]; done) | (simp [size_ext]; omega)))
  · have W1 := hid (within_yes h1)
    have W2 := hid (within_yes h2)
    have W3 := hid (within_no h3)
    clear h1 h2 h3
    go_enter Tryd.func20, Tryd.ntmps20
    go_wp2_with (first
      | (go_at_call 54; have _t := tk1; (with_reducible refine (W1.out _).mono ?_); rintro e w1 ⟨rfl, hb⟩; obtain ⟨otk1, dtk1, rfl⟩ := ext_of_below hb; clear hb tk1)
      | (go_at_call 54; have _t := tk2; (with_reducible refine (W2.out _).mono ?_); rintro e w1 ⟨rfl, hb⟩; obtain ⟨otk2, dtk2, rfl⟩ := ext_of_below hb; clear hb tk2)
      | (go_at_call 54; have _t := tk3; (with_reducible refine (W3.out _).mono ?_); rintro e w1 ⟨rfl, hb⟩; obtain ⟨otk3, dtk3, rfl⟩ := ext_of_below hb; clear hb tk3))
    refine bodyPost_ret (res_set (h := hd0) (Q := .slice none 0 0) (X := .slice none 0 0) (Y := .slice none 0 0) (Z := .slice none 0 0) (T := 28) rfl rfl ?_) rfl ⟨rfl, ?_⟩
    · ((repeat' (first | (with_reducible assumption) | (with_reducible refine Blk.drew ?_) | exact Blk.new' _ _ (by first | rfl | (simp [size_ext]; done) | (simp [size_ext]; omega)) | (with_reducible refine Blk.ext ?_ _ _) | (with_reducible refine Blk.alloc ?_ _))); (all_goals fail))
    (repeat' (first | (with_reducible exact Below.refl _ _) | (with_reducible assumption) | (with_reducible refine below_ext0 ?_ _ _) | (with_reducible refine below_alloc0 ?_ _) | (with_reducible refine Below.ext ?_ ?_ _ _) | (with_reducible refine Below.alloc ?_ ?_ _) | (with_reducible refine Below.setCell ?_ ?_ _) | (with_reducible refine Below.drew ?_) | (with_reducible refine below_draws ?_ _) | go_size | (simp [size_ext]; done) | (simp [size_ext]; omega)))
  · have W1 := hid (within_yes h1)
    have W2 := hid (within_yes h2)
    have W3 := hid (within_yes h3)
    have W4 := hid (within_no h4)
    clear h1 h2 h3 h4
    go_enter Tryd.func20, Tryd.ntmps20
    go_wp2_with (first
      | (go_at_call 54; have _t := tk1; (with_reducible refine (W1.out _).mono ?_); rintro e w1 ⟨rfl, hb⟩; obtain ⟨otk1, dtk1, rfl⟩ := ext_of_below hb; clear hb tk1)
      | (go_at_call 54; have _t := tk2; (with_reducible refine (W2.out _).mono ?_); rintro e w1 ⟨rfl, hb⟩; obtain ⟨otk2, dtk2, rfl⟩ := ext_of_below hb; clear hb tk2)
      | (go_at_call 54; have _t := tk3; (with_reducible refine (W3.out _).mono ?_); rintro e w1 ⟨rfl, hb⟩; obtain ⟨otk3, dtk3, rfl⟩ := ext_of_below hb; clear hb tk3)
      | (go_at_call 54; have _t := tk4; (with_reducible refine (W4.out _).mono ?_); rintro e w1 ⟨rfl, hb⟩; obtain ⟨otk4, dtk4, rfl⟩ := ext_of_below hb; clear hb tk4))
    refine bodyPost_ret (res_set (h := hd0) (Q := .slice none 0 0) (X := .slice none 0 0) (Y := .slice none 0 0) (Z := .slice none 0 0) (T := 28) rfl rfl ?_) rfl ⟨rfl, ?_⟩
    · ((repeat' (first | (with_reducible assumption) | (with_reducible refine Blk.drew ?_) | exact Blk.new' _ _ (by first | rfl | (simp [size_ext]; done) | (simp [size_ext]; omega)) | (with_reducible refine Blk.ext ?_ _ _) | (with_reducible refine Blk.alloc ?_ _))); (all_goals fail))
    (repeat' (first | (with_reducible exact Below.refl _ _) | (with_reducible assumption) | (with_reducible refine below_ext0 ?_ _ _) | (with_reducible refine below_alloc0 ?_ _) | (with_reducible refine Below.ext ?_ ?_ _ _) | (with_reducible refine Below.alloc ?_ ?_ _) | (with_reducible refine Below.setCell ?_ ?_ _) | (with_reducible refine Below.drew ?_) | (with_reducible refine below_draws ?_ _) | go_size | (simp [size_ext]; done) | (simp [size_ext]; omega)))
set_option maxRecDepth 100000 in
set_option maxHeartbeats 3000000 in
theorem set_opts {w : World} {h : Hd} {Aq Ax Ay Az : Option Addr} {nq cq nx cx ny cy nz cz : Nat}
    {size code ver z : Int} {dob : Bool} {Ao : Option Addr} {no co : Nat} {os : List OT} (hO : Rd oR w w.heap.size Ao no co os) (hk : OptOk ⟨size, code, ver, dob, z⟩) (hd : (dataO os).length ≤ 1073741824) {kk : Int} (hse : setErr ⟨size, code, ver, dob, z⟩ os = kk) (hkk : kk ≠ 0) :
    Calls Tryd.prog 20 #[.agg (msgC h (.slice Aq nq cq) (.slice Ax nx cx) (.slice Ay ny cy) (.slice Az nz cz)), .agg (optC ⟨size, code, ver, dob, z⟩ (.slice Ao no co))] w fun e w' => e = .returned (.tuple #[.agg (msgC hd0 (.slice none 0 0) (.slice none 0 0) (.slice none 0 0) (.slice none 0 0)), .iface 29 (.int .i64 kk)]) ∧ Below w.heap.size w w' := by
  have HSE := hid hse
  have hk0 := hid hkk
  clear hse hkk
  have HOK := hid hk
  have b1 := ttl1_bits hk
  obtain ⟨T1, hT1⟩ : ∃ T1, ttl1 ⟨size, code, ver, dob, z⟩ = T1 := ⟨_, rfl⟩
  obtain ⟨T2, hT2⟩ : ∃ T2, ttl2 ⟨size, code, ver, dob, z⟩ = T2 := ⟨_, rfl⟩
  rw [hT1] at b1
  simp only at b1
  have HT2 := hid hT2
  obtain ⟨⟨k0, k1⟩, ⟨k2, k3⟩, ⟨k4, k5⟩, ⟨k6, k7⟩⟩ := hk
  simp only at k0 k1 k2 k3 k4 k5 k6 k7
  have hT2b : 0 ≤ T2 ∧ T2 ≤ 4294967295 := by rw [← hT2]; unfold ttl2; cases dob <;> simp <;> omega
  obtain ⟨t2lo, t2hi⟩ := hT2b
  have W1 := hid (within_yes (n := size) (m := 65535) ⟨k0, k1⟩)
  have W2 := hid (within_yes (n := code) (m := 255) ⟨k2, k3⟩)
  have W3 := hid (within_yes (n := ver) (m := 255) ⟨k4, k5⟩)
  have W4 := hid (within_yes (n := z) (m := 32767) ⟨k6, k7⟩)
  have v1 : IntKind.i64.wrap (code * 16777216) = code * 16777216 := IntWalk.i64_in _ (by omega)
  have v2 : IntKind.i64.wrap (ver * 65536) = ver * 65536 := IntWalk.i64_in _ (by omega)
  have hb2 : dob = true → bits .or .i64 T1 32768 = T2 := fun hd => by rw [← hT1, ← hT2]; exact ttl2_bits HOK.out hd
  have hb3 : dob = false → T1 = T2 := fun hd => by rw [← hT1, ← hT2]; unfold ttl1 ttl2; simp [hd]
  have HB2 := hid hb2
  have HB3 := hid hb3
  have HO := hid hO
  clear hO hT1 hT2 hb2 hb3
  have tk0 : True := trivial; have tk1 : True := trivial; have tk2 : True := trivial; have tk3 : True := trivial; have tk4 : True := trivial; have tk5 : True := trivial; have tk6 : True := trivial; have tk7 : True := trivial; have tk8 : True := trivial; have tk9 : True := trivial; have tk10 : True := trivial; have tk11 : True := trivial; have tk12 : True := trivial
  go_enter Tryd.func20, Tryd.ntmps20
  go_upto_if 48 with (first
    | (go_at_call 54; have _t := tk1; (with_reducible refine (W1.out _).mono ?_); rintro e w1 ⟨rfl, hb⟩; obtain ⟨otk1, dtk1, rfl⟩ := ext_of_below hb; clear hb tk1)
    | (go_at_call 54; have _t := tk2; (with_reducible refine (W2.out _).mono ?_); rintro e w1 ⟨rfl, hb⟩; obtain ⟨otk2, dtk2, rfl⟩ := ext_of_below hb; clear hb tk2)
    | (go_at_call 54; have _t := tk3; (with_reducible refine (W3.out _).mono ?_); rintro e w1 ⟨rfl, hb⟩; obtain ⟨otk3, dtk3, rfl⟩ := ext_of_below hb; clear hb tk3)
    | (go_at_call 54; have _t := tk4; (with_reducible refine (W4.out _).mono ?_); rintro e w1 ⟨rfl, hb⟩; obtain ⟨otk4, dtk4, rfl⟩ := ext_of_below hb; clear hb tk4))
  go_cut [6] from 6 to 56 (fun s6 wx => ∃ gr, s6 = .pointer (some ⟨gr, 0, none⟩) ∧ w.heap.size + 3 ≤ gr ∧ Blk wx gr 67 #[.slice none 0 0, .int .i64 41, .int .i64 size, .int .i64 T2, .slice none 0 0] ∧ Blk wx w.heap.size 28 (msgC h (.slice Aq nq cq) (.slice Ax nx cx) (.slice Ay ny cy) (.slice Az nz cz)) ∧ Blk wx (w.heap.size + 1) 46 (optC ⟨size, code, ver, dob, z⟩ (.slice Ao no co)) ∧ Blk wx (w.heap.size + 2) 28 (msgC hd0 (.slice none 0 0) (.slice none 0 0) (.slice none 0 0) (.slice none 0 0)) ∧ Below w.heap.size w wx)
  case first =>
    cases dob
    · have b3 := HB3.out rfl
      subst b3
      clear HB2 HB3
      go_wp2_with fail
      go_meet
      exact ⟨_, rfl, (by first | omega | (simp [size_ext]; done) | (simp [size_ext]; omega)), (by ((repeat' (first | (with_reducible assumption) | (with_reducible refine Blk.drew ?_) | exact Blk.new' _ _ (by first | rfl | (simp [size_ext]; done) | (simp [size_ext]; omega)) | (with_reducible refine Blk.ext ?_ _ _) | (with_reducible refine Blk.alloc ?_ _))); (all_goals fail))), (by ((repeat' (first | (with_reducible assumption) | (with_reducible refine Blk.drew ?_) | exact Blk.new' _ _ (by first | rfl | (simp [size_ext]; done) | (simp [size_ext]; omega)) | (with_reducible refine Blk.ext ?_ _ _) | (with_reducible refine Blk.alloc ?_ _))); (all_goals fail))), (by ((repeat' (first | (with_reducible assumption) | (with_reducible refine Blk.drew ?_) | exact Blk.new' _ _ (by first | rfl | (simp [size_ext]; done) | (simp [size_ext]; omega)) | (with_reducible refine Blk.ext ?_ _ _) | (with_reducible refine Blk.alloc ?_ _))); (all_goals fail))), (by ((repeat' (first | (with_reducible assumption) | (with_reducible refine Blk.drew ?_) | exact Blk.new' _ _ (by first | rfl | (simp [size_ext]; done) | (simp [size_ext]; omega)) | (with_reducible refine Blk.ext ?_ _ _) | (with_reducible refine Blk.alloc ?_ _))); (all_goals fail))), (by (repeat' (first | (with_reducible exact Below.refl _ _) | (with_reducible assumption) | (with_reducible refine below_ext0 ?_ _ _) | (with_reducible refine below_alloc0 ?_ _) | (with_reducible refine Below.ext ?_ ?_ _ _) | (with_reducible refine Below.alloc ?_ ?_ _) | (with_reducible refine Below.setCell ?_ ?_ _) | (with_reducible refine Below.drew ?_) | (with_reducible refine below_draws ?_ _) | go_size | (simp [size_ext]; done) | (simp [size_ext]; omega))))⟩
    · have b2 := HB2.out rfl
      clear HB2 HB3
      go_wp2_with fail
      go_meet
      exact ⟨_, rfl, (by first | omega | (simp [size_ext]; done) | (simp [size_ext]; omega)), (by ((repeat' (first | (with_reducible assumption) | (with_reducible refine Blk.drew ?_) | exact Blk.new' _ _ (by first | rfl | (simp [size_ext]; done) | (simp [size_ext]; omega)) | (with_reducible refine Blk.ext ?_ _ _) | (with_reducible refine Blk.alloc ?_ _))); (all_goals fail))), (by ((repeat' (first | (with_reducible assumption) | (with_reducible refine Blk.drew ?_) | exact Blk.new' _ _ (by first | rfl | (simp [size_ext]; done) | (simp [size_ext]; omega)) | (with_reducible refine Blk.ext ?_ _ _) | (with_reducible refine Blk.alloc ?_ _))); (all_goals fail))), (by ((repeat' (first | (with_reducible assumption) | (with_reducible refine Blk.drew ?_) | exact Blk.new' _ _ (by first | rfl | (simp [size_ext]; done) | (simp [size_ext]; omega)) | (with_reducible refine Blk.ext ?_ _ _) | (with_reducible refine Blk.alloc ?_ _))); (all_goals fail))), (by ((repeat' (first | (with_reducible assumption) | (with_reducible refine Blk.drew ?_) | exact Blk.new' _ _ (by first | rfl | (simp [size_ext]; done) | (simp [size_ext]; omega)) | (with_reducible refine Blk.ext ?_ _ _) | (with_reducible refine Blk.alloc ?_ _))); (all_goals fail))), (by (repeat' (first | (with_reducible exact Below.refl _ _) | (with_reducible assumption) | (with_reducible refine below_ext0 ?_ _ _) | (with_reducible refine below_alloc0 ?_ _) | (with_reducible refine Below.ext ?_ ?_ _ _) | (with_reducible refine Below.alloc ?_ ?_ _) | (with_reducible refine Below.setCell ?_ ?_ _) | (with_reducible refine Below.drew ?_) | (with_reducible refine below_draws ?_ _) | go_size | (simp [size_ext]; done) | (simp [size_ext]; omega))))⟩
  case rest =>
    obtain ⟨gr, rfl, hgr, kr, kx, ko, kz, hlow⟩ := hcut
    have q5 : wc.cell? ⟨w.heap.size + 1, 5, none⟩ = some (.slice Ao no co) := ko.cell 5
    have HI : Hid (SetI w gr (msgC h (.slice Aq nq cq) (.slice Ax nx cx) (.slice Ay ny cy) (.slice Az nz cz)) #[] (msgC hd0 (.slice none 0 0) (.slice none 0 0) (.slice none 0 0) (.slice none 0 0)) size T2 [] wc (.slice none 0 0)) := hid ⟨kr, OwnR.nil (by omega) kr.lt, kx, kz, hlow⟩
    clear kr kx ko kz hlow
    go_wp2_with fail
    go_loopg [5, 56] no (fun gk s5 s56 wi => ∃ (k : Nat) (V : Value), k ≤ no ∧ gk = no - k ∧ s5 = .nilIface ∧ s56 = .int .i64 (k : Int) ∧ SetI w gr (msgC h (.slice Aq nq cq) (.slice Ax nx cx) (.slice Ay ny cy) (.slice Az nz cz)) #[] (msgC hd0 (.slice none 0 0) (.slice none 0 0) (.slice none 0 0) (.slice none 0 0)) size T2 (dataO (os.take k)) wi V ∧ Hid (optsErr os = optsErr (os.drop k)))
    case atStart => exact ⟨0, _, Nat.zero_le _, rfl, rfl, rfl, HI.out, hid rfl⟩
    case round =>
      obtain ⟨k, V, hk, rfl, rfl, rfl, hI, HE⟩ := hrel
      have HS := hid hI
      obtain ⟨AV, cV, hV⟩ := hI.own.slice
      subst hV
      obtain ⟨nV, hnV⟩ : ∃ nV, (dataO (os.take k)).length = nV := ⟨_, rfl⟩
      rw [hnV] at HS
      have zr := hI.recd.lt
      have q4 : wr.cell? ⟨gr, 4, none⟩ = some (.slice AV (dataO (os.take k)).length cV) := hI.recd.cell 4
      have f4 : wr.frozen? ⟨gr, 4, none⟩ = false := hI.recd.frozen 4
      have hlo := hI.low.size
      have lo := HO.out.len
      rw [hnV] at q4
      by_cases hlt : k < no
      · obtain ⟨b, o, C, A3, n3, c3, d, rfl, hb1, e1, x0, x1, r1, hC⟩ := HO.out.opt k hlt
        have hk' : k < os.length := by rw [lo]; exact hlt
        have hst : optsErr os = if 0 ≤ C ∧ C ≤ 65535 then (if d.length ≤ 65535 then optsErr (os.drop (k + 1)) else 7) else 6 := by
          rw [HE.out, List.drop_eq_getElem_cons hk', e1]
          rfl
        rw [r1.len] at hst
        have hdt := dataO_take os hk'
        rw [e1] at hdt
        have hle := dataO_le os (k + 1)
        have hl3 := r1.len
        have hle2 : nV + 4 + n3 ≤ 1073741824 := by
          rw [hdt, List.length_append, hnV] at hle
          unfold optB at hle
          simp only [List.length_append, two2_len] at hle
          omega
        have limo := HO.out.lim
        rw [show oR.bs = 32 from rfl] at limo
        have y0 : wr.cell? ⟨b, o + k * 2, none⟩ = some (.int .i64 C) := (hI.low.cell (p := ⟨b, o + k * 2, none⟩) hb1).trans x0
        have y1 : wr.cell? ⟨b, o + k * 2 + 1, none⟩ = some (.slice A3 n3 c3) := (hI.low.cell (p := ⟨b, o + k * 2 + 1, none⟩) hb1).trans x1
        have hbw : b < wr.heap.size := by omega
        have HNV := hid hnV
        have ab1 : ((dataO (os.take k)).length + 4) * 1 ≤ 140737488355328 := by rw [hnV]; omega
        have ab2 : (dataO (os.take k)).length + 4 ≤ maxLen := by rw [hnV]; unfold maxLen; omega
        have ab3 : ((dataO (os.take k) ++ (two2 C ++ two2 (n3 : Int))).length + n3) * 1 ≤ 140737488355328 := by simp only [List.length_append, two2_len]; rw [hnV]; omega
        have ab4 : (dataO (os.take k) ++ (two2 C ++ two2 (n3 : Int))).length + n3 ≤ maxLen := by simp only [List.length_append, two2_len]; rw [hnV]; unfold maxLen; omega
        have R1 := hid r1
        have g1 : ¬ gr = wr.heap.size := by omega
        have g2 : ¬ wr.heap.size = gr := by omega
        have HDT := hid hdt
        have HL3 := hid hl3
        have HST := hid hst
        clear x0 x1 e1 hC hdt hle r1 hl3 hI hnV hst
        have t0 : (k : Int) < (no : Int) := by omega
        have t1 : decide ((k : Int) < (no : Int)) = true := decide_eq_true t0
        have t2 : (0 : Int) ≤ (k : Int) := by omega
        have v3 : IntKind.i64.wrap ((k : Int) + 1) = (k : Int) + 1 := IntWalk.i64_in _ (by omega)
        by_cases hC0 : 0 ≤ C ∧ C ≤ 65535
        · obtain ⟨C0, C1⟩ := hC0
          have W5 := hid (within_yes (n := C) (m := 65535) ⟨C0, C1⟩)
          by_cases hd5 : n3 ≤ 65535
          · have HC4 := hid (four_cells C0 C1 (n := (n3 : Int)) (by omega) (by omega))
            have HDT2 := hid (show dataO (os.take (k + 1)) = dataO (os.take k) ++ (two2 C ++ two2 (n3 : Int)) ++ d by rw [HDT.out, ← HL3.out]; simp [optB])
            have HE2 := hid (show optsErr os = optsErr (os.drop (k + 1)) by rw [HST.out, if_pos ⟨C0, C1⟩, if_pos hd5])
            have u0 : ¬ (65535 : Int) < (n3 : Int) := by omega
            have u1 : decide ((65535 : Int) < (n3 : Int)) = false := decide_eq_false u0
            go_wp2_with (first
              | (go_at_call 54; have _t := tk5; (with_reducible refine (W5.out _).mono ?_); rintro e w1 ⟨rfl, hb⟩; obtain ⟨otk5, dtk5, rfl⟩ := ext_of_below hb; clear hb tk5)
              | (at_builtin; have _t := tk6; go_must (refine wpList_ownT (R := u8R) (B := w.heap.size) (base := gr + 1) el_u8 rfl _ _ rfl rfl (HS.out.own.below (by (repeat' (first | (with_reducible exact Below.refl _ _) | (with_reducible assumption) | (with_reducible refine below_ext0 ?_ _ _) | (with_reducible refine below_alloc0 ?_ _) | (with_reducible refine Below.ext ?_ ?_ _ _) | (with_reducible refine Below.alloc ?_ ?_ _) | (with_reducible refine Below.setCell ?_ ?_ _) | (with_reducible refine Below.drew ?_) | (with_reducible refine below_draws ?_ _) | go_size | (simp [size_ext]; done) | (simp [size_ext]; omega))))) rfl (SrcR.lit8 (Blk.new' _ _ (by first | rfl | (simp [size_ext]; done) | (simp [size_ext]; omega))) HC4.out rfl) ab1 ab2 ?_); intro v2 w2 ho hb ha; have kb := ha.keepB (k := wr.heap.size) (T := 105) (cs := #[.int .i64 C, .slice A3 n3 c3]) (by ((repeat' (first | (with_reducible assumption) | (with_reducible refine Blk.drew ?_) | exact Blk.new' _ _ (by first | rfl | (simp [size_ext]; done) | (simp [size_ext]; omega)) | (with_reducible refine Blk.ext ?_ _ _) | (with_reducible refine Blk.alloc ?_ _))); (all_goals fail))) (fun g hg => by have := HS.out.own.blk hg; omega); have kg := (HS.out.recd.below (w' := w2) (Below.trans (Below.mono (by (repeat' (first | (with_reducible exact Below.refl _ _) | (with_reducible assumption) | (with_reducible refine below_ext0 ?_ _ _) | (with_reducible refine below_alloc0 ?_ _) | (with_reducible refine Below.ext ?_ ?_ _ _) | (with_reducible refine Below.alloc ?_ ?_ _) | (with_reducible refine Below.setCell ?_ ?_ _) | (with_reducible refine Below.drew ?_) | (with_reducible refine below_draws ?_ _) | go_size | (simp [size_ext]; done) | (simp [size_ext]; omega))) : Below wr.heap.size wr _) (by omega)) hb : Below (gr + 1) wr w2) (by omega)); have hs2 := SetI.step HS.out hgr (by (repeat' (first | (with_reducible exact Below.refl _ _) | (with_reducible assumption) | (with_reducible refine below_ext0 ?_ _ _) | (with_reducible refine below_alloc0 ?_ _) | (with_reducible refine Below.ext ?_ ?_ _ _) | (with_reducible refine Below.alloc ?_ ?_ _) | (with_reducible refine Below.setCell ?_ ?_ _) | (with_reducible refine Below.drew ?_) | (with_reducible refine below_draws ?_ _) | go_size | (simp [size_ext]; done) | (simp [size_ext]; omega)))) ho hb; have hl : (dataO (os.take k) ++ (two2 C ++ two2 (n3 : Int))).length = nV + 4 := (by simp only [List.length_append, two2_len]; rw [HNV.out]); obtain ⟨A2, c2, rfl⟩ := ho.slice' hl; have b1' : w2.cell? ⟨wr.heap.size, 1, none⟩ = some (.slice A3 n3 c3) := kb.cell 1; have z2 := kb.lt; have b4 : w2.cell? ⟨gr, 4, none⟩ = some (.slice AV nV cV) := kg.cell 4; have c4' : w2.frozen? ⟨gr, 4, none⟩ = false := kg.frozen 4; have HS2 := hid hs2; clear ho hb ha kb kg hs2 hl tk6)
              | (at_builtin; have _t := tk7; have hs2x := HS2.out; go_must (refine wpList_ownT (R := u8R) (B := w.heap.size) (base := gr + 1) el_u8 rfl _ _ rfl rfl HS2.out.own rfl (SrcR.u8 (R1.out.below HS2.out.low)) ab3 ab4 ?_); intro v3 w3 ho hb ha; have kg := HS2.out.recd.below hb (by omega); have hs3 := SetI.step HS2.out hgr (Below.refl _ _) ho hb; have b5 : w3.cell? ⟨gr, 4, none⟩ = some (.slice A2 (nV + 4) c2) := kg.cell 4; have hl3 : (dataO (os.take k) ++ (two2 C ++ two2 (n3 : Int)) ++ d).length = nV + 4 + n3 := (by have := R1.out.len; simp only [List.length_append, two2_len]; rw [HNV.out]; omega); obtain ⟨A5, c5, rfl⟩ := ho.slice' hl3; have c5' : w3.frozen? ⟨gr, 4, none⟩ = false := kg.frozen 4; have HS3 := hid hs3; clear ho hb ha kg hs3 hl3 tk7))
            go_roundg (no - (k + 1))
            case measure => omega
            case rel => exact ⟨k + 1, _, by omega, rfl, rfl, by go_num, by rw [HDT2.out]; exact HS3.out, HE2⟩
          · have u0 : (65535 : Int) < (n3 : Int) := by omega
            have u1 : decide ((65535 : Int) < (n3 : Int)) = true := decide_eq_true u0
            have h7 : optsErr os = 7 := by rw [HST.out, if_pos ⟨C0, C1⟩, if_neg hd5]
            have HK := hid (show kk = 7 by rw [← HSE.out]; unfold setErr; rw [if_pos HOK.out, h7, if_neg (by decide)])
            clear h7
            clear hd5
            go_wp2_with (first | (go_at_call 54; have _t := tk5; (with_reducible refine (W5.out _).mono ?_); rintro e w5 ⟨rfl, hb⟩; have kz : Blk w5 (w.heap.size + 1 + 1) 28 (msgC hd0 (.slice none 0 0) (.slice none 0 0) (.slice none 0 0) (.slice none 0 0)) := Blk.below (Blk.alloc HS.out.z _) hb (by simp; omega); have HB5 := hid (HS.out.low.trans (Below.trans (by (repeat' (first | (with_reducible exact Below.refl _ _) | (with_reducible assumption) | (with_reducible refine below_ext0 ?_ _ _) | (with_reducible refine below_alloc0 ?_ _) | (with_reducible refine Below.ext ?_ ?_ _ _) | (with_reducible refine Below.alloc ?_ ?_ _) | (with_reducible refine Below.setCell ?_ ?_ _) | (with_reducible refine Below.drew ?_) | (with_reducible refine below_draws ?_ _) | go_size | (simp [size_ext]; done) | (simp [size_ext]; omega))) : Below w.heap.size wr _) (hb.mono (by first | omega | (simp [size_ext]; done) | (simp [size_ext]; omega))))); have zlt : w.heap.size + 1 + 1 < w5.heap.size := kz.lt; have zc0 : (w5).cell? ⟨w.heap.size + 1 + 1, 0, none⟩ = some (.int .i64 hd0.id) := (kz).cell 0; have zc1 : (w5).cell? ⟨w.heap.size + 1 + 1, 1, none⟩ = some (.bool hd0.an) := (kz).cell 1; have zc2 : (w5).cell? ⟨w.heap.size + 1 + 1, 2, none⟩ = some (.int .i64 hd0.op) := (kz).cell 2; have zc3 : (w5).cell? ⟨w.heap.size + 1 + 1, 3, none⟩ = some (.bool hd0.aa) := (kz).cell 3; have zc4 : (w5).cell? ⟨w.heap.size + 1 + 1, 4, none⟩ = some (.bool hd0.tc) := (kz).cell 4; have zc5 : (w5).cell? ⟨w.heap.size + 1 + 1, 5, none⟩ = some (.bool hd0.rd) := (kz).cell 5; have zc6 : (w5).cell? ⟨w.heap.size + 1 + 1, 6, none⟩ = some (.bool hd0.ra) := (kz).cell 6; have zc7 : (w5).cell? ⟨w.heap.size + 1 + 1, 7, none⟩ = some (.bool hd0.z) := (kz).cell 7; have zc8 : (w5).cell? ⟨w.heap.size + 1 + 1, 8, none⟩ = some (.bool hd0.ad) := (kz).cell 8; have zc9 : (w5).cell? ⟨w.heap.size + 1 + 1, 9, none⟩ = some (.bool hd0.cd) := (kz).cell 9; have zc10 : (w5).cell? ⟨w.heap.size + 1 + 1, 10, none⟩ = some (.int .i64 hd0.code) := (kz).cell 10; have zc11 : (w5).cell? ⟨w.heap.size + 1 + 1, 11, none⟩ = some (.slice none 0 0) := (kz).cell 11; have zc12 : (w5).cell? ⟨w.heap.size + 1 + 1, 12, none⟩ = some (.slice none 0 0) := (kz).cell 12; have zc13 : (w5).cell? ⟨w.heap.size + 1 + 1, 13, none⟩ = some (.slice none 0 0) := (kz).cell 13; have zc14 : (w5).cell? ⟨w.heap.size + 1 + 1, 14, none⟩ = some (.slice none 0 0) := (kz).cell 14; have zf0 : (w5).frozen? ⟨w.heap.size + 1 + 1, 0, none⟩ = false := (kz).frozen 0; have zf1 : (w5).frozen? ⟨w.heap.size + 1 + 1, 1, none⟩ = false := (kz).frozen 1; have zf2 : (w5).frozen? ⟨w.heap.size + 1 + 1, 2, none⟩ = false := (kz).frozen 2; have zf3 : (w5).frozen? ⟨w.heap.size + 1 + 1, 3, none⟩ = false := (kz).frozen 3; have zf4 : (w5).frozen? ⟨w.heap.size + 1 + 1, 4, none⟩ = false := (kz).frozen 4; have zf5 : (w5).frozen? ⟨w.heap.size + 1 + 1, 5, none⟩ = false := (kz).frozen 5; have zf6 : (w5).frozen? ⟨w.heap.size + 1 + 1, 6, none⟩ = false := (kz).frozen 6; have zf7 : (w5).frozen? ⟨w.heap.size + 1 + 1, 7, none⟩ = false := (kz).frozen 7; have zf8 : (w5).frozen? ⟨w.heap.size + 1 + 1, 8, none⟩ = false := (kz).frozen 8; have zf9 : (w5).frozen? ⟨w.heap.size + 1 + 1, 9, none⟩ = false := (kz).frozen 9; have zf10 : (w5).frozen? ⟨w.heap.size + 1 + 1, 10, none⟩ = false := (kz).frozen 10; have zf11 : (w5).frozen? ⟨w.heap.size + 1 + 1, 11, none⟩ = false := (kz).frozen 11; have zf12 : (w5).frozen? ⟨w.heap.size + 1 + 1, 12, none⟩ = false := (kz).frozen 12; have zf13 : (w5).frozen? ⟨w.heap.size + 1 + 1, 13, none⟩ = false := (kz).frozen 13; have zf14 : (w5).frozen? ⟨w.heap.size + 1 + 1, 14, none⟩ = false := (kz).frozen 14; have kb1 : w5.cell? ⟨wr.heap.size, 1, none⟩ = some (.slice A3 n3 c3) := (Blk.below (Blk.new wr 105 #[.int .i64 C, .slice A3 n3 c3]) hb (by simp)).cell 1; have KZ := hid kz; clear hb kz tk5))
            (try simp only [Exit.inBlock, Exit.then])
            refine bodyPost_ret (res_set (h := hd0) (Q := .slice none 0 0) (X := .slice none 0 0) (Y := .slice none 0 0) (Z := .slice none 0 0) (T := 28) rfl rfl ?_) rfl ⟨by rw [HK.out]; rfl, ?_⟩
            · have kzz : Blk (((((((((((((((w5.setCell ⟨w.heap.size + 1 + 1, 0, none⟩ (.int .i64 0)).setCell ⟨w.heap.size + 1 + 1, 1, none⟩ (.bool false)).setCell ⟨w.heap.size + 1 + 1, 2, none⟩ (.int .i64 0)).setCell ⟨w.heap.size + 1 + 1, 3, none⟩ (.bool false)).setCell ⟨w.heap.size + 1 + 1, 4, none⟩ (.bool false)).setCell ⟨w.heap.size + 1 + 1, 5, none⟩ (.bool false)).setCell ⟨w.heap.size + 1 + 1, 6, none⟩ (.bool false)).setCell ⟨w.heap.size + 1 + 1, 7, none⟩ (.bool false)).setCell ⟨w.heap.size + 1 + 1, 8, none⟩ (.bool false)).setCell ⟨w.heap.size + 1 + 1, 9, none⟩ (.bool false)).setCell ⟨w.heap.size + 1 + 1, 10, none⟩ (.int .i64 0)).setCell ⟨w.heap.size + 1 + 1, 11, none⟩ (.slice none 0 0)).setCell ⟨w.heap.size + 1 + 1, 12, none⟩ (.slice none 0 0)).setCell ⟨w.heap.size + 1 + 1, 13, none⟩ (.slice none 0 0)).setCell ⟨w.heap.size + 1 + 1, 14, none⟩ (.slice none 0 0)) (w.heap.size + 1 + 1) 28 (msgC hd0 (.slice none 0 0) (.slice none 0 0) (.slice none 0 0) (.slice none 0 0)) := msg_over hd0 (.slice none 0 0) (.slice none 0 0) (.slice none 0 0) (.slice none 0 0) KZ.out
              exact kzz
            have hlw := HB5.out
            (repeat' (first | (with_reducible exact Below.refl _ _) | (with_reducible assumption) | (with_reducible refine below_ext0 ?_ _ _) | (with_reducible refine below_alloc0 ?_ _) | (with_reducible refine Below.ext ?_ ?_ _ _) | (with_reducible refine Below.alloc ?_ ?_ _) | (with_reducible refine Below.setCell ?_ ?_ _) | (with_reducible refine Below.drew ?_) | (with_reducible refine below_draws ?_ _) | go_size | (simp [size_ext]; done) | (simp [size_ext]; omega)))
        · have W5 := hid (within_no (n := C) (m := 65535) hC0)
          have h6 : optsErr os = 6 := by rw [HST.out, if_neg hC0]
          have HK := hid (show kk = 6 by rw [← HSE.out]; unfold setErr; rw [if_pos HOK.out, h6, if_neg (by decide)])
          clear h6
          clear hC0
          go_wp2_with (first | (go_at_call 54; have _t := tk5; (with_reducible refine (W5.out _).mono ?_); rintro e w5 ⟨rfl, hb⟩; have kz : Blk w5 (w.heap.size + 1 + 1) 28 (msgC hd0 (.slice none 0 0) (.slice none 0 0) (.slice none 0 0) (.slice none 0 0)) := Blk.below (Blk.alloc HS.out.z _) hb (by simp; omega); have HB5 := hid (HS.out.low.trans (Below.trans (by (repeat' (first | (with_reducible exact Below.refl _ _) | (with_reducible assumption) | (with_reducible refine below_ext0 ?_ _ _) | (with_reducible refine below_alloc0 ?_ _) | (with_reducible refine Below.ext ?_ ?_ _ _) | (with_reducible refine Below.alloc ?_ ?_ _) | (with_reducible refine Below.setCell ?_ ?_ _) | (with_reducible refine Below.drew ?_) | (with_reducible refine below_draws ?_ _) | go_size | (simp [size_ext]; done) | (simp [size_ext]; omega))) : Below w.heap.size wr _) (hb.mono (by first | omega | (simp [size_ext]; done) | (simp [size_ext]; omega))))); have zlt : w.heap.size + 1 + 1 < w5.heap.size := kz.lt; have zc0 : (w5).cell? ⟨w.heap.size + 1 + 1, 0, none⟩ = some (.int .i64 hd0.id) := (kz).cell 0; have zc1 : (w5).cell? ⟨w.heap.size + 1 + 1, 1, none⟩ = some (.bool hd0.an) := (kz).cell 1; have zc2 : (w5).cell? ⟨w.heap.size + 1 + 1, 2, none⟩ = some (.int .i64 hd0.op) := (kz).cell 2; have zc3 : (w5).cell? ⟨w.heap.size + 1 + 1, 3, none⟩ = some (.bool hd0.aa) := (kz).cell 3; have zc4 : (w5).cell? ⟨w.heap.size + 1 + 1, 4, none⟩ = some (.bool hd0.tc) := (kz).cell 4; have zc5 : (w5).cell? ⟨w.heap.size + 1 + 1, 5, none⟩ = some (.bool hd0.rd) := (kz).cell 5; have zc6 : (w5).cell? ⟨w.heap.size + 1 + 1, 6, none⟩ = some (.bool hd0.ra) := (kz).cell 6; have zc7 : (w5).cell? ⟨w.heap.size + 1 + 1, 7, none⟩ = some (.bool hd0.z) := (kz).cell 7; have zc8 : (w5).cell? ⟨w.heap.size + 1 + 1, 8, none⟩ = some (.bool hd0.ad) := (kz).cell 8; have zc9 : (w5).cell? ⟨w.heap.size + 1 + 1, 9, none⟩ = some (.bool hd0.cd) := (kz).cell 9; have zc10 : (w5).cell? ⟨w.heap.size + 1 + 1, 10, none⟩ = some (.int .i64 hd0.code) := (kz).cell 10; have zc11 : (w5).cell? ⟨w.heap.size + 1 + 1, 11, none⟩ = some (.slice none 0 0) := (kz).cell 11; have zc12 : (w5).cell? ⟨w.heap.size + 1 + 1, 12, none⟩ = some (.slice none 0 0) := (kz).cell 12; have zc13 : (w5).cell? ⟨w.heap.size + 1 + 1, 13, none⟩ = some (.slice none 0 0) := (kz).cell 13; have zc14 : (w5).cell? ⟨w.heap.size + 1 + 1, 14, none⟩ = some (.slice none 0 0) := (kz).cell 14; have zf0 : (w5).frozen? ⟨w.heap.size + 1 + 1, 0, none⟩ = false := (kz).frozen 0; have zf1 : (w5).frozen? ⟨w.heap.size + 1 + 1, 1, none⟩ = false := (kz).frozen 1; have zf2 : (w5).frozen? ⟨w.heap.size + 1 + 1, 2, none⟩ = false := (kz).frozen 2; have zf3 : (w5).frozen? ⟨w.heap.size + 1 + 1, 3, none⟩ = false := (kz).frozen 3; have zf4 : (w5).frozen? ⟨w.heap.size + 1 + 1, 4, none⟩ = false := (kz).frozen 4; have zf5 : (w5).frozen? ⟨w.heap.size + 1 + 1, 5, none⟩ = false := (kz).frozen 5; have zf6 : (w5).frozen? ⟨w.heap.size + 1 + 1, 6, none⟩ = false := (kz).frozen 6; have zf7 : (w5).frozen? ⟨w.heap.size + 1 + 1, 7, none⟩ = false := (kz).frozen 7; have zf8 : (w5).frozen? ⟨w.heap.size + 1 + 1, 8, none⟩ = false := (kz).frozen 8; have zf9 : (w5).frozen? ⟨w.heap.size + 1 + 1, 9, none⟩ = false := (kz).frozen 9; have zf10 : (w5).frozen? ⟨w.heap.size + 1 + 1, 10, none⟩ = false := (kz).frozen 10; have zf11 : (w5).frozen? ⟨w.heap.size + 1 + 1, 11, none⟩ = false := (kz).frozen 11; have zf12 : (w5).frozen? ⟨w.heap.size + 1 + 1, 12, none⟩ = false := (kz).frozen 12; have zf13 : (w5).frozen? ⟨w.heap.size + 1 + 1, 13, none⟩ = false := (kz).frozen 13; have zf14 : (w5).frozen? ⟨w.heap.size + 1 + 1, 14, none⟩ = false := (kz).frozen 14; have KZ := hid kz; clear hb kz tk5))
          (try simp only [Exit.inBlock, Exit.then])
          refine bodyPost_ret (res_set (h := hd0) (Q := .slice none 0 0) (X := .slice none 0 0) (Y := .slice none 0 0) (Z := .slice none 0 0) (T := 28) rfl rfl ?_) rfl ⟨by rw [HK.out]; rfl, ?_⟩
          · have kzz : Blk (((((((((((((((w5.setCell ⟨w.heap.size + 1 + 1, 0, none⟩ (.int .i64 0)).setCell ⟨w.heap.size + 1 + 1, 1, none⟩ (.bool false)).setCell ⟨w.heap.size + 1 + 1, 2, none⟩ (.int .i64 0)).setCell ⟨w.heap.size + 1 + 1, 3, none⟩ (.bool false)).setCell ⟨w.heap.size + 1 + 1, 4, none⟩ (.bool false)).setCell ⟨w.heap.size + 1 + 1, 5, none⟩ (.bool false)).setCell ⟨w.heap.size + 1 + 1, 6, none⟩ (.bool false)).setCell ⟨w.heap.size + 1 + 1, 7, none⟩ (.bool false)).setCell ⟨w.heap.size + 1 + 1, 8, none⟩ (.bool false)).setCell ⟨w.heap.size + 1 + 1, 9, none⟩ (.bool false)).setCell ⟨w.heap.size + 1 + 1, 10, none⟩ (.int .i64 0)).setCell ⟨w.heap.size + 1 + 1, 11, none⟩ (.slice none 0 0)).setCell ⟨w.heap.size + 1 + 1, 12, none⟩ (.slice none 0 0)).setCell ⟨w.heap.size + 1 + 1, 13, none⟩ (.slice none 0 0)).setCell ⟨w.heap.size + 1 + 1, 14, none⟩ (.slice none 0 0)) (w.heap.size + 1 + 1) 28 (msgC hd0 (.slice none 0 0) (.slice none 0 0) (.slice none 0 0) (.slice none 0 0)) := msg_over hd0 (.slice none 0 0) (.slice none 0 0) (.slice none 0 0) (.slice none 0 0) KZ.out
            exact kzz
          have hlw := HB5.out
          (repeat' (first | (with_reducible exact Below.refl _ _) | (with_reducible assumption) | (with_reducible refine below_ext0 ?_ _ _) | (with_reducible refine below_alloc0 ?_ _) | (with_reducible refine Below.ext ?_ ?_ _ _) | (with_reducible refine Below.alloc ?_ ?_ _) | (with_reducible refine Below.setCell ?_ ?_ _) | (with_reducible refine Below.drew ?_) | (with_reducible refine below_draws ?_ _) | go_size | (simp [size_ext]; done) | (simp [size_ext]; omega)))
      · have t0 : ¬ (k : Int) < (no : Int) := by omega
        have t1 : decide ((k : Int) < (no : Int)) = false := decide_eq_false t0
        obtain rfl : k = no := by omega
        have hall : os.take k = os := List.take_of_length_le (by omega)
        have he0 : optsErr os = 0 := by rw [HE.out, List.drop_eq_nil_of_le (by omega)]; rfl
        rw [hall] at hnV
        have hn5 : 65535 < nV := by
          apply Decidable.of_not_not
          intro hh
          apply hk0.out
          rw [← HSE.out]
          unfold setErr
          rw [if_pos HOK.out, he0, if_pos rfl, if_pos (by omega)]
        have HK := hid (show kk = 7 by rw [← HSE.out]; unfold setErr; rw [if_pos HOK.out, he0, if_pos rfl, if_neg (by omega)])
        have u0 : (65535 : Int) < (nV : Int) := by omega
        have u1 : decide ((65535 : Int) < (nV : Int)) = true := decide_eq_true u0
        clear hI he0 hall hnV
        have kz : Blk wr (w.heap.size + 1 + 1) 28 (msgC hd0 (.slice none 0 0) (.slice none 0 0) (.slice none 0 0) (.slice none 0 0)) := HS.out.z
        have zc0 : (wr).cell? ⟨w.heap.size + 1 + 1, 0, none⟩ = some (.int .i64 hd0.id) := (kz).cell 0; have zc1 : (wr).cell? ⟨w.heap.size + 1 + 1, 1, none⟩ = some (.bool hd0.an) := (kz).cell 1; have zc2 : (wr).cell? ⟨w.heap.size + 1 + 1, 2, none⟩ = some (.int .i64 hd0.op) := (kz).cell 2; have zc3 : (wr).cell? ⟨w.heap.size + 1 + 1, 3, none⟩ = some (.bool hd0.aa) := (kz).cell 3; have zc4 : (wr).cell? ⟨w.heap.size + 1 + 1, 4, none⟩ = some (.bool hd0.tc) := (kz).cell 4; have zc5 : (wr).cell? ⟨w.heap.size + 1 + 1, 5, none⟩ = some (.bool hd0.rd) := (kz).cell 5; have zc6 : (wr).cell? ⟨w.heap.size + 1 + 1, 6, none⟩ = some (.bool hd0.ra) := (kz).cell 6; have zc7 : (wr).cell? ⟨w.heap.size + 1 + 1, 7, none⟩ = some (.bool hd0.z) := (kz).cell 7; have zc8 : (wr).cell? ⟨w.heap.size + 1 + 1, 8, none⟩ = some (.bool hd0.ad) := (kz).cell 8; have zc9 : (wr).cell? ⟨w.heap.size + 1 + 1, 9, none⟩ = some (.bool hd0.cd) := (kz).cell 9; have zc10 : (wr).cell? ⟨w.heap.size + 1 + 1, 10, none⟩ = some (.int .i64 hd0.code) := (kz).cell 10; have zc11 : (wr).cell? ⟨w.heap.size + 1 + 1, 11, none⟩ = some (.slice none 0 0) := (kz).cell 11; have zc12 : (wr).cell? ⟨w.heap.size + 1 + 1, 12, none⟩ = some (.slice none 0 0) := (kz).cell 12; have zc13 : (wr).cell? ⟨w.heap.size + 1 + 1, 13, none⟩ = some (.slice none 0 0) := (kz).cell 13; have zc14 : (wr).cell? ⟨w.heap.size + 1 + 1, 14, none⟩ = some (.slice none 0 0) := (kz).cell 14
        have zf0 : (wr).frozen? ⟨w.heap.size + 1 + 1, 0, none⟩ = false := (kz).frozen 0; have zf1 : (wr).frozen? ⟨w.heap.size + 1 + 1, 1, none⟩ = false := (kz).frozen 1; have zf2 : (wr).frozen? ⟨w.heap.size + 1 + 1, 2, none⟩ = false := (kz).frozen 2; have zf3 : (wr).frozen? ⟨w.heap.size + 1 + 1, 3, none⟩ = false := (kz).frozen 3; have zf4 : (wr).frozen? ⟨w.heap.size + 1 + 1, 4, none⟩ = false := (kz).frozen 4; have zf5 : (wr).frozen? ⟨w.heap.size + 1 + 1, 5, none⟩ = false := (kz).frozen 5; have zf6 : (wr).frozen? ⟨w.heap.size + 1 + 1, 6, none⟩ = false := (kz).frozen 6; have zf7 : (wr).frozen? ⟨w.heap.size + 1 + 1, 7, none⟩ = false := (kz).frozen 7; have zf8 : (wr).frozen? ⟨w.heap.size + 1 + 1, 8, none⟩ = false := (kz).frozen 8; have zf9 : (wr).frozen? ⟨w.heap.size + 1 + 1, 9, none⟩ = false := (kz).frozen 9; have zf10 : (wr).frozen? ⟨w.heap.size + 1 + 1, 10, none⟩ = false := (kz).frozen 10; have zf11 : (wr).frozen? ⟨w.heap.size + 1 + 1, 11, none⟩ = false := (kz).frozen 11; have zf12 : (wr).frozen? ⟨w.heap.size + 1 + 1, 12, none⟩ = false := (kz).frozen 12; have zf13 : (wr).frozen? ⟨w.heap.size + 1 + 1, 13, none⟩ = false := (kz).frozen 13; have zf14 : (wr).frozen? ⟨w.heap.size + 1 + 1, 14, none⟩ = false := (kz).frozen 14
        have zlt : w.heap.size + 1 + 1 < wr.heap.size := kz.lt
        go_wp2_with fail
        (try simp only [Exit.inBlock, Exit.then])
        refine bodyPost_ret (res_set (h := hd0) (Q := .slice none 0 0) (X := .slice none 0 0) (Y := .slice none 0 0) (Z := .slice none 0 0) (T := 28) rfl rfl ?_) rfl ⟨by rw [HK.out]; rfl, ?_⟩
        · have kzz : Blk (((((((((((((((wr.setCell ⟨w.heap.size + 1 + 1, 0, none⟩ (.int .i64 0)).setCell ⟨w.heap.size + 1 + 1, 1, none⟩ (.bool false)).setCell ⟨w.heap.size + 1 + 1, 2, none⟩ (.int .i64 0)).setCell ⟨w.heap.size + 1 + 1, 3, none⟩ (.bool false)).setCell ⟨w.heap.size + 1 + 1, 4, none⟩ (.bool false)).setCell ⟨w.heap.size + 1 + 1, 5, none⟩ (.bool false)).setCell ⟨w.heap.size + 1 + 1, 6, none⟩ (.bool false)).setCell ⟨w.heap.size + 1 + 1, 7, none⟩ (.bool false)).setCell ⟨w.heap.size + 1 + 1, 8, none⟩ (.bool false)).setCell ⟨w.heap.size + 1 + 1, 9, none⟩ (.bool false)).setCell ⟨w.heap.size + 1 + 1, 10, none⟩ (.int .i64 0)).setCell ⟨w.heap.size + 1 + 1, 11, none⟩ (.slice none 0 0)).setCell ⟨w.heap.size + 1 + 1, 12, none⟩ (.slice none 0 0)).setCell ⟨w.heap.size + 1 + 1, 13, none⟩ (.slice none 0 0)).setCell ⟨w.heap.size + 1 + 1, 14, none⟩ (.slice none 0 0)) (w.heap.size + 1 + 1) 28 (msgC hd0 (.slice none 0 0) (.slice none 0 0) (.slice none 0 0) (.slice none 0 0)) := msg_over hd0 (.slice none 0 0) (.slice none 0 0) (.slice none 0 0) (.slice none 0 0) HS.out.z
          exact kzz
        have hlw := HS.out.low
        (repeat' (first | (with_reducible exact Below.refl _ _) | (with_reducible assumption) | (with_reducible refine below_ext0 ?_ _ _) | (with_reducible refine below_alloc0 ?_ _) | (with_reducible refine Below.ext ?_ ?_ _ _) | (with_reducible refine Below.alloc ?_ ?_ _) | (with_reducible refine Below.setCell ?_ ?_ _) | (with_reducible refine Below.drew ?_) | (with_reducible refine below_draws ?_ _) | go_size | (simp [size_ext]; done) | (simp [size_ext]; omega)))
theorem set_no {w : World} {h : Hd} {Aq Ax Ay Az : Option Addr} {nq cq nx cx ny cy nz cz : Nat} {qs : List QT} {xs ys zs : List RecT} (hQ : Rd qR w w.heap.size Aq nq cq qs) (hX : Rd recR w w.heap.size Ax nx cx xs) (hY : Rd recR w w.heap.size Ay ny cy ys) (hZ : Rd recR w w.heap.size Az nz cz zs) {x : OptX} {Ao : Option Addr} {no co : Nat} {os : List OT} (hO : Rd oR w w.heap.size Ao no co os) (hlen : (dataO os).length ≤ 1073741824) {k : Int} (hk : setErr x os = k) (hk0 : k ≠ 0) :
    Calls Tryd.prog 20 #[.agg (msgC h (.slice Aq nq cq) (.slice Ax nx cx) (.slice Ay ny cy) (.slice Az nz cz)), .agg (optC x (.slice Ao no co))] w fun e w' => e = .returned (.tuple #[.agg (msgC hd0 (.slice none 0 0) (.slice none 0 0) (.slice none 0 0) (.slice none 0 0)), .iface 29 (.int .i64 k)]) ∧ Below w.heap.size w w' := by
  obtain ⟨size, code, ver, dob, z⟩ := x
  by_cases ho : OptOk ⟨size, code, ver, dob, z⟩
  · exact set_opts hO ho hlen hk hk0
  · obtain rfl : k = 6 := by rw [← hk]; unfold setErr; rw [if_neg ho]
    exact set_range ho
end Go.Proofs.YtfihedcobopbcaaDoor
