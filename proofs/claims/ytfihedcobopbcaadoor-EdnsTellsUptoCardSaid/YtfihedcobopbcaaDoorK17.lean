/- edns.Find, of whatever message: what is told, what is wrong. -/
import Derived.Test.YtfihedcobopbcaaDoorK12
import Derived.Test.YtfihedcobopbcaaDoorK10
namespace Go.Proofs.YtfihedcobopbcaaDoor
open Go.RowKit
set_option linter.unusedVariables false
set_option linter.unusedSimpArgs false

def recNo : RecT := ([], 0, 0, 0, [], ())
/-- may the record tell -/
def TellOk (r : RecT) : Prop := r.1 = [] ∧ (0 ≤ r.2.2.1 ∧ r.2.2.1 ≤ 65535) ∧ (0 ≤ r.2.2.2.1 ∧ r.2.2.2.1 ≤ 4294967295)
open Classical in
/-- what is wrong, does it tell, what -/
noncomputable def optF (zs : List RecT) : Int × Bool × OptX × List OT :=
  if idxO zs 0 < 0 then (0, false, opt0, [])
  else if (zs.drop ((idxO zs 0).toNat + 1)).any isOpt = true then (10, false, opt0, [])
  else if TellOk (zs.getD (idxO zs 0).toNat recNo) then
    match optsP (zs.getD (idxO zs 0).toNat recNo).2.2.2.2.1 with
    | none => (1, false, opt0, [])
    | some os => (0, true, ttlX (zs.getD (idxO zs 0).toNat recNo).2.2.1 (zs.getD (idxO zs 0).toNat recNo).2.2.2.1, os)
  else (1, false, opt0, [])
theorem options_no {w : World} {A0 : Option Addr} {n0 c0 : Nat} {m0 : List UInt8} (hM : Rd u8R w w.heap.size A0 n0 c0 m0) (hlim : n0 * 8 ≤ 140737488355328) (ho : optsP m0 = none) :
    Calls Tryd.prog 48 #[.slice A0 n0 c0] w fun e w' => e = .returned (.tuple #[.slice none 0 0, .iface 29 (.int .i64 1)]) ∧ Below w.heap.size w w' := by
  refine (options_any hM hlim).mono ?_
  rintro e w' ⟨hb, ⟨_, h2⟩ | ⟨os', A, c, h1, h2, h3, _⟩⟩
  · exact ⟨h2, hb⟩
  · rw [ho] at h1; cases h1
set_option maxRecDepth 100000 in
set_option maxHeartbeats 2000000 in
theorem find_twice {w : World} {h : Hd} {Aq Ax Ay Az : Option Addr} {nq cq nx cx ny cy nz cz : Nat} {zs : List RecT} (hZ : Rd recR w w.heap.size Az nz cz zs) {i : Nat} (hi : i < nz) (hx : idxO zs 0 = (i : Int)) (hno : (zs.drop (i + 1)).any isOpt = true) :
    Calls Tryd.prog 14 #[.agg (msgC h (.slice Aq nq cq) (.slice Ax nx cx) (.slice Ay ny cy) (.slice Az nz cz))] w fun e w' => e = .returned (.tuple #[.agg (optC opt0 (.slice none 0 0)), .bool false, .iface 29 (.int .i64 10)]) ∧ Below w.heap.size w w' := by
  have CI := fun w' (hb : Below w.heap.size w w') => indexFunc_any w' Az nz cz zs (hZ.later hb)
  rw [hx] at CI
  replace CI := hid CI
  obtain ⟨b, o, A3, n3, c3, A4, n4, c4, l1, T1, C1, L1, d1, rfl, hb1, e1, x0, x1, x2, x3, x4, r1, _, s1⟩ := hZ.recd i hi
  clear e1
  have hcap := hZ.cap
  have hmx := hZ.max
  unfold maxLen at hmx
  obtain ⟨o4, C4, hs4, r4⟩ := slice_lowR hZ (i := i + 1) (by omega) (a := (i : Int) + 1) (by omega)
  have CC := fun w' (hb : Below w.heap.size w w') => containsFunc_any w' _ _ _ _ (r4.later hb)
  rw [hno] at CC
  replace CC := hid CC
  clear hx hno r1 r4 s1 hZ
  have s0 : ¬ (i : Int) < 0 := by omega
  have s1 : decide ((i : Int) < 0) = false := decide_eq_false s0
  have v1 : IntKind.i64.wrap ((i : Int) + 1) = (i : Int) + 1 := IntWalk.i64_in _ (by omega)
  have i0 : (0 : Int) ≤ (i : Int) := by omega
  have i1 : (i : Int) < (nz : Int) := by omega
  have tk0 : True := trivial; have tk1 : True := trivial; have tk2 : True := trivial; have tk3 : True := trivial; have tk4 : True := trivial; have tk5 : True := trivial; have tk6 : True := trivial; have tk7 : True := trivial; have tk8 : True := trivial; have tk9 : True := trivial; have tk10 : True := trivial; have tk11 : True := trivial; have tk12 : True := trivial
  go_enter Tryd.func14, Tryd.ntmps14
  go_wp2_with (first
    | (go_at_call 45; have _t := tk1; (with_reducible refine (CI.out _ (by (repeat' (first | (with_reducible exact Below.refl _ _) | (with_reducible assumption) | (with_reducible refine below_ext0 ?_ _ _) | (with_reducible refine below_alloc0 ?_ _) | (with_reducible refine Below.ext ?_ ?_ _ _) | (with_reducible refine Below.alloc ?_ ?_ _) | (with_reducible refine Below.setCell ?_ ?_ _) | (with_reducible refine Below.drew ?_) | (with_reducible refine below_draws ?_ _) | go_size | (simp [size_ext]; done) | (simp [size_ext]; omega))))).mono ?_); rintro e w1 ⟨rfl, hb⟩; have kx := (Blk.below (by ((repeat' (first | (with_reducible assumption) | (with_reducible refine Blk.drew ?_) | exact Blk.new' _ _ (by first | rfl | (simp [size_ext]; done) | (simp [size_ext]; omega)) | (with_reducible refine Blk.ext ?_ _ _) | (with_reducible refine Blk.alloc ?_ _))); (all_goals fail))) hb (by first | omega | (simp [size_ext]; done) | (simp [size_ext]; omega)) : Blk w1 w.heap.size 28 (msgC h (.slice Aq nq cq) (.slice Ax nx cx) (.slice Ay ny cy) (.slice (some ⟨b, o, none⟩) nz cz))); have kz := (Blk.below (Blk.new' _ _ (by first | rfl | (simp [size_ext]; done) | (simp [size_ext]; omega))) hb (by first | omega | (simp [size_ext]; done) | (simp [size_ext]; omega)) : Blk w1 (w.heap.size + 1) 46 (optC opt0 (.slice none 0 0))); have q14 : w1.cell? ⟨w.heap.size, 14, none⟩ = some (.slice (some ⟨b, o, none⟩) nz cz) := kx.cell 14; have KX := hid kx; have KZ := hid kz; have HB1 := hid (Below.trans (by (repeat' (first | (with_reducible exact Below.refl _ _) | (with_reducible assumption) | (with_reducible refine below_ext0 ?_ _ _) | (with_reducible refine below_alloc0 ?_ _) | (with_reducible refine Below.ext ?_ ?_ _ _) | (with_reducible refine Below.alloc ?_ ?_ _) | (with_reducible refine Below.setCell ?_ ?_ _) | (with_reducible refine Below.drew ?_) | (with_reducible refine below_draws ?_ _) | go_size | (simp [size_ext]; done) | (simp [size_ext]; omega)))) (hb.mono (by first | omega | (simp [size_ext]; done) | (simp [size_ext]; omega))) : Below w.heap.size w w1); have zz := kz.lt; clear hb kx kz tk1)
    | (go_at_call 47; have _t := tk2; (with_reducible refine (CC.out _ HB1.out).mono ?_); rintro e w2 ⟨rfl, hb⟩; have kx := KX.out.below hb (by omega); have kz := KZ.out.below hb zz; have HB2 := hid (HB1.out.trans (hb.mono HB1.out.size)); have q14 : w2.cell? ⟨w.heap.size, 14, none⟩ = some (.slice (some ⟨b, o, none⟩) nz cz) := kx.cell 14; have y0 := (HB2.out.cell (p := ⟨b, o + i * 5, none⟩) hb1).trans x0; have y1 := (HB2.out.cell (p := ⟨b, o + i * 5 + 1, none⟩) hb1).trans x1; have y2 := (HB2.out.cell (p := ⟨b, o + i * 5 + 2, none⟩) hb1).trans x2; have y3 := (HB2.out.cell (p := ⟨b, o + i * 5 + 3, none⟩) hb1).trans x3; have y4 := (HB2.out.cell (p := ⟨b, o + i * 5 + 4, none⟩) hb1).trans x4; have z0 : (w2).cell? ⟨w.heap.size + 1, 0, none⟩ = some (.int .i64 (opt0).size) := (kz).cell 0; have z1 : (w2).cell? ⟨w.heap.size + 1, 1, none⟩ = some (.int .i64 (opt0).code) := (kz).cell 1; have z2 : (w2).cell? ⟨w.heap.size + 1, 2, none⟩ = some (.int .i64 (opt0).ver) := (kz).cell 2; have z3 : (w2).cell? ⟨w.heap.size + 1, 3, none⟩ = some (.bool (opt0).dob) := (kz).cell 3; have z4 : (w2).cell? ⟨w.heap.size + 1, 4, none⟩ = some (.int .i64 (opt0).z) := (kz).cell 4; have z5 : (w2).cell? ⟨w.heap.size + 1, 5, none⟩ = some (.slice none 0 0) := (kz).cell 5; have f0 : (w2).frozen? ⟨w.heap.size + 1, 0, none⟩ = false := (kz).frozen 0; have f1 : (w2).frozen? ⟨w.heap.size + 1, 1, none⟩ = false := (kz).frozen 1; have f2 : (w2).frozen? ⟨w.heap.size + 1, 2, none⟩ = false := (kz).frozen 2; have f3 : (w2).frozen? ⟨w.heap.size + 1, 3, none⟩ = false := (kz).frozen 3; have f4 : (w2).frozen? ⟨w.heap.size + 1, 4, none⟩ = false := (kz).frozen 4; have f5 : (w2).frozen? ⟨w.heap.size + 1, 5, none⟩ = false := (kz).frozen 5; have ne1 : ¬ w.heap.size + 1 = w2.heap.size := (by have := kz.lt; omega); have ne2 : ¬ w2.heap.size = w.heap.size + 1 := (by have := kz.lt; omega); have KZ2 := hid kz; have zz2 := kz.lt; clear hb kx kz tk2))
  refine bodyPost_ret (res_find rfl rfl rfl (opt_over opt0 (.slice none 0 0) KZ2.out)) rfl ⟨rfl, ?_⟩
  have hlw := HB2.out
  have hlz := HB2.out.size
  (repeat' (first | (with_reducible exact Below.refl _ _) | (with_reducible assumption) | (with_reducible refine below_ext0 ?_ _ _) | (with_reducible refine below_alloc0 ?_ _) | (with_reducible refine Below.ext ?_ ?_ _ _) | (with_reducible refine Below.alloc ?_ ?_ _) | (with_reducible refine Below.setCell ?_ ?_ _) | (with_reducible refine Below.drew ?_) | (with_reducible refine below_draws ?_ _) | go_size | (simp [size_ext]; done) | (simp [size_ext]; omega)))
set_option maxRecDepth 100000 in
set_option maxHeartbeats 2000000 in
theorem find_short {w : World} {h : Hd} {Aq Ax Ay Az : Option Addr} {nq cq nx cx ny cy nz cz : Nat} {zs : List RecT} (hZ : Rd recR w w.heap.size Az nz cz zs) {i : Nat} (hi : i < nz) (hx : idxO zs 0 = (i : Int)) (hno : (zs.drop (i + 1)).any isOpt = false) {T C L : Int} {d : List UInt8} (hr : zs[i]'(by rw [hZ.len]; exact hi) = ([], T, C, L, d, ())) (hC : 0 ≤ C ∧ C ≤ 65535) (hL : 0 ≤ L ∧ L ≤ 4294967295) (ho : optsP d = none) (hd : d.length * 8 ≤ 140737488355328) :
    Calls Tryd.prog 14 #[.agg (msgC h (.slice Aq nq cq) (.slice Ax nx cx) (.slice Ay ny cy) (.slice Az nz cz))] w fun e w' => e = .returned (.tuple #[.agg (optC opt0 (.slice none 0 0)), .bool false, .iface 29 (.int .i64 1)]) ∧ Below w.heap.size w w' := by
  have CI := fun w' (hb : Below w.heap.size w w') => indexFunc_any w' Az nz cz zs (hZ.later hb)
  rw [hx] at CI
  replace CI := hid CI
  obtain ⟨b, o, A3, n3, c3, A4, n4, c4, l1, T1, C1, L1, d1, rfl, hb1, e1, x0, x1, x2, x3, x4, r1, _, s1⟩ := hZ.recd i hi
  rw [hr] at e1
  cases e1
  have hcap := hZ.cap
  have hmx := hZ.max
  unfold maxLen at hmx
  obtain ⟨o4, C4, hs4, r4⟩ := slice_lowR hZ (i := i + 1) (by omega) (a := (i : Int) + 1) (by omega)
  have CC := fun w' (hb : Below w.heap.size w w') => containsFunc_any w' _ _ _ _ (r4.later hb)
  rw [hno] at CC
  replace CC := hid CC
  have CO := hid fun w' (hb : Below w.heap.size w w') => options_no (s1.later hb) (by rw [← s1.len]; exact hd) ho
  obtain rfl : n3 = 0 := by rw [← r1.len]; rfl
  obtain ⟨c0, c1⟩ := hC
  obtain ⟨l0, l1⟩ := hL
  clear hx hr hno ho hd r1 r4 s1 hZ
  have s0 : ¬ (i : Int) < 0 := by omega
  have s1 : decide ((i : Int) < 0) = false := decide_eq_false s0
  have v1 : IntKind.i64.wrap ((i : Int) + 1) = (i : Int) + 1 := IntWalk.i64_in _ (by omega)
  have i0 : (0 : Int) ≤ (i : Int) := by omega
  have i1 : (i : Int) < (nz : Int) := by omega
  have u0 : ¬ C < 0 := by omega
  have u2 : ¬ 65535 < C := by omega
  have u4 : ¬ L < 0 := by omega
  have u6 : ¬ 0 < L / 4294967296 := by omega
  have tk0 : True := trivial; have tk1 : True := trivial; have tk2 : True := trivial; have tk3 : True := trivial; have tk4 : True := trivial; have tk5 : True := trivial; have tk6 : True := trivial; have tk7 : True := trivial; have tk8 : True := trivial; have tk9 : True := trivial; have tk10 : True := trivial; have tk11 : True := trivial; have tk12 : True := trivial
  go_enter Tryd.func14, Tryd.ntmps14
  go_wp2_with (first
    | (go_at_call 45; have _t := tk1; (with_reducible refine (CI.out _ (by (repeat' (first | (with_reducible exact Below.refl _ _) | (with_reducible assumption) | (with_reducible refine below_ext0 ?_ _ _) | (with_reducible refine below_alloc0 ?_ _) | (with_reducible refine Below.ext ?_ ?_ _ _) | (with_reducible refine Below.alloc ?_ ?_ _) | (with_reducible refine Below.setCell ?_ ?_ _) | (with_reducible refine Below.drew ?_) | (with_reducible refine below_draws ?_ _) | go_size | (simp [size_ext]; done) | (simp [size_ext]; omega))))).mono ?_); rintro e w1 ⟨rfl, hb⟩; have kx := (Blk.below (by ((repeat' (first | (with_reducible assumption) | (with_reducible refine Blk.drew ?_) | exact Blk.new' _ _ (by first | rfl | (simp [size_ext]; done) | (simp [size_ext]; omega)) | (with_reducible refine Blk.ext ?_ _ _) | (with_reducible refine Blk.alloc ?_ _))); (all_goals fail))) hb (by first | omega | (simp [size_ext]; done) | (simp [size_ext]; omega)) : Blk w1 w.heap.size 28 (msgC h (.slice Aq nq cq) (.slice Ax nx cx) (.slice Ay ny cy) (.slice (some ⟨b, o, none⟩) nz cz))); have kz := (Blk.below (Blk.new' _ _ (by first | rfl | (simp [size_ext]; done) | (simp [size_ext]; omega))) hb (by first | omega | (simp [size_ext]; done) | (simp [size_ext]; omega)) : Blk w1 (w.heap.size + 1) 46 (optC opt0 (.slice none 0 0))); have q14 : w1.cell? ⟨w.heap.size, 14, none⟩ = some (.slice (some ⟨b, o, none⟩) nz cz) := kx.cell 14; have KX := hid kx; have KZ := hid kz; have HB1 := hid (Below.trans (by (repeat' (first | (with_reducible exact Below.refl _ _) | (with_reducible assumption) | (with_reducible refine below_ext0 ?_ _ _) | (with_reducible refine below_alloc0 ?_ _) | (with_reducible refine Below.ext ?_ ?_ _ _) | (with_reducible refine Below.alloc ?_ ?_ _) | (with_reducible refine Below.setCell ?_ ?_ _) | (with_reducible refine Below.drew ?_) | (with_reducible refine below_draws ?_ _) | go_size | (simp [size_ext]; done) | (simp [size_ext]; omega)))) (hb.mono (by first | omega | (simp [size_ext]; done) | (simp [size_ext]; omega))) : Below w.heap.size w w1); have zz := kz.lt; clear hb kx kz tk1)
    | (go_at_call 47; have _t := tk2; (with_reducible refine (CC.out _ HB1.out).mono ?_); rintro e w2 ⟨rfl, hb⟩; have kx := KX.out.below hb (by omega); have kz := KZ.out.below hb zz; have HB2 := hid (HB1.out.trans (hb.mono HB1.out.size)); have q14 : w2.cell? ⟨w.heap.size, 14, none⟩ = some (.slice (some ⟨b, o, none⟩) nz cz) := kx.cell 14; have y0 := (HB2.out.cell (p := ⟨b, o + i * 5, none⟩) hb1).trans x0; have y1 := (HB2.out.cell (p := ⟨b, o + i * 5 + 1, none⟩) hb1).trans x1; have y2 := (HB2.out.cell (p := ⟨b, o + i * 5 + 2, none⟩) hb1).trans x2; have y3 := (HB2.out.cell (p := ⟨b, o + i * 5 + 3, none⟩) hb1).trans x3; have y4 := (HB2.out.cell (p := ⟨b, o + i * 5 + 4, none⟩) hb1).trans x4; have KZ2 := hid kz; have zz2 := kz.lt; clear hb kx kz tk2)
    | (go_at_call 48; have _t := tk3; (with_reducible refine (CO.out _ (by have := HB2.out; (repeat' (first | (with_reducible exact Below.refl _ _) | (with_reducible assumption) | (with_reducible refine below_ext0 ?_ _ _) | (with_reducible refine below_alloc0 ?_ _) | (with_reducible refine Below.ext ?_ ?_ _ _) | (with_reducible refine Below.alloc ?_ ?_ _) | (with_reducible refine Below.setCell ?_ ?_ _) | (with_reducible refine Below.drew ?_) | (with_reducible refine below_draws ?_ _) | go_size | (simp [size_ext]; done) | (simp [size_ext]; omega))))).mono ?_); rintro e w3 ⟨rfl, hb⟩; have kz := (Blk.below (by have := KZ2.out; ((repeat' (first | (with_reducible assumption) | (with_reducible refine Blk.drew ?_) | exact Blk.new' _ _ (by first | rfl | (simp [size_ext]; done) | (simp [size_ext]; omega)) | (with_reducible refine Blk.ext ?_ _ _) | (with_reducible refine Blk.alloc ?_ _))); (all_goals fail))) hb (by first | omega | (simp [size_ext]; done) | (simp [size_ext]; omega)) : Blk w3 (w.heap.size + 1) 46 (optC opt0 (.slice none 0 0))); have HB3 := hid (Below.trans (by have := HB2.out; (repeat' (first | (with_reducible exact Below.refl _ _) | (with_reducible assumption) | (with_reducible refine below_ext0 ?_ _ _) | (with_reducible refine below_alloc0 ?_ _) | (with_reducible refine Below.ext ?_ ?_ _ _) | (with_reducible refine Below.alloc ?_ ?_ _) | (with_reducible refine Below.setCell ?_ ?_ _) | (with_reducible refine Below.drew ?_) | (with_reducible refine below_draws ?_ _) | go_size | (simp [size_ext]; done) | (simp [size_ext]; omega)))) (hb.mono (by have := HB2.out.size; simp; omega)) : Below w.heap.size w w3); have KZ3 := hid kz; have zz3 := kz.lt; have z0 : (w3).cell? ⟨w.heap.size + 1, 0, none⟩ = some (.int .i64 (opt0).size) := (kz).cell 0; have z1 : (w3).cell? ⟨w.heap.size + 1, 1, none⟩ = some (.int .i64 (opt0).code) := (kz).cell 1; have z2 : (w3).cell? ⟨w.heap.size + 1, 2, none⟩ = some (.int .i64 (opt0).ver) := (kz).cell 2; have z3 : (w3).cell? ⟨w.heap.size + 1, 3, none⟩ = some (.bool (opt0).dob) := (kz).cell 3; have z4 : (w3).cell? ⟨w.heap.size + 1, 4, none⟩ = some (.int .i64 (opt0).z) := (kz).cell 4; have z5 : (w3).cell? ⟨w.heap.size + 1, 5, none⟩ = some (.slice none 0 0) := (kz).cell 5; have f0 : (w3).frozen? ⟨w.heap.size + 1, 0, none⟩ = false := (kz).frozen 0; have f1 : (w3).frozen? ⟨w.heap.size + 1, 1, none⟩ = false := (kz).frozen 1; have f2 : (w3).frozen? ⟨w.heap.size + 1, 2, none⟩ = false := (kz).frozen 2; have f3 : (w3).frozen? ⟨w.heap.size + 1, 3, none⟩ = false := (kz).frozen 3; have f4 : (w3).frozen? ⟨w.heap.size + 1, 4, none⟩ = false := (kz).frozen 4; have f5 : (w3).frozen? ⟨w.heap.size + 1, 5, none⟩ = false := (kz).frozen 5; clear hb kz tk3))
  refine bodyPost_ret (res_find rfl rfl rfl (opt_over opt0 (.slice none 0 0) KZ3.out)) rfl ⟨rfl, ?_⟩
  have hlw := HB3.out
  have hlz := HB3.out.size
  (repeat' (first | (with_reducible exact Below.refl _ _) | (with_reducible assumption) | (with_reducible refine below_ext0 ?_ _ _) | (with_reducible refine below_alloc0 ?_ _) | (with_reducible refine Below.ext ?_ ?_ _ _) | (with_reducible refine Below.alloc ?_ ?_ _) | (with_reducible refine Below.setCell ?_ ?_ _) | (with_reducible refine Below.drew ?_) | (with_reducible refine below_draws ?_ _) | go_size | (simp [size_ext]; done) | (simp [size_ext]; omega)))
set_option maxRecDepth 100000 in
set_option maxHeartbeats 2000000 in
theorem find_bad {w : World} {h : Hd} {Aq Ax Ay Az : Option Addr} {nq cq nx cx ny cy nz cz : Nat} {zs : List RecT} (hZ : Rd recR w w.heap.size Az nz cz zs) {i : Nat} (hi : i < nz) (hx : idxO zs 0 = (i : Int)) (hno : (zs.drop (i + 1)).any isOpt = false) {l : List ByteArray} {T C L : Int} {d : List UInt8} (hr : zs[i]'(by rw [hZ.len]; exact hi) = (l, T, C, L, d, ())) (hb : ¬ TellOk (l, T, C, L, d, ())) :
    Calls Tryd.prog 14 #[.agg (msgC h (.slice Aq nq cq) (.slice Ax nx cx) (.slice Ay ny cy) (.slice Az nz cz))] w fun e w' => e = .returned (.tuple #[.agg (optC opt0 (.slice none 0 0)), .bool false, .iface 29 (.int .i64 1)]) ∧ Below w.heap.size w w' := by
  have CI := fun w' (hb : Below w.heap.size w w') => indexFunc_any w' Az nz cz zs (hZ.later hb)
  rw [hx] at CI
  replace CI := hid CI
  obtain ⟨b, o, A3, n3, c3, A4, n4, c4, l1, T1, C1, L1, d1, rfl, hb1, e1, x0, x1, x2, x3, x4, r1, _, s1⟩ := hZ.recd i hi
  rw [hr] at e1
  cases e1
  have hcap := hZ.cap
  have hmx := hZ.max
  unfold maxLen at hmx
  obtain ⟨o4, C4, hs4, r4⟩ := slice_lowR hZ (i := i + 1) (by omega) (a := (i : Int) + 1) (by omega)
  have CC := fun w' (hb : Below w.heap.size w w') => containsFunc_any w' _ _ _ _ (r4.later hb)
  rw [hno] at CC
  replace CC := hid CC
  have hn3 := r1.len
  have hways : 0 < n3 ∨ (¬ 0 < n3 ∧ C < 0) ∨ (¬ 0 < n3 ∧ ¬ C < 0 ∧ 65535 < C) ∨ (¬ 0 < n3 ∧ ¬ C < 0 ∧ ¬ 65535 < C ∧ L < 0) ∨ (¬ 0 < n3 ∧ ¬ C < 0 ∧ ¬ 65535 < C ∧ ¬ L < 0 ∧ 0 < L / 4294967296) := by
    by_cases g1 : 0 < n3
    · exact .inl g1
    · have hl : l = [] := List.eq_nil_of_length_eq_zero (by omega)
      have g2 : ¬ ((0 ≤ C ∧ C ≤ 65535) ∧ (0 ≤ L ∧ L ≤ 4294967295)) := fun g => hb ⟨hl, g.1, g.2⟩
      omega
  clear hx hr hno hb r1 r4 s1 hZ hn3
  have s0 : ¬ (i : Int) < 0 := by omega
  have s1 : decide ((i : Int) < 0) = false := decide_eq_false s0
  have v1 : IntKind.i64.wrap ((i : Int) + 1) = (i : Int) + 1 := IntWalk.i64_in _ (by omega)
  have i0 : (0 : Int) ≤ (i : Int) := by omega
  have i1 : (i : Int) < (nz : Int) := by omega
  have tk0 : True := trivial; have tk1 : True := trivial; have tk2 : True := trivial; have tk3 : True := trivial; have tk4 : True := trivial; have tk5 : True := trivial; have tk6 : True := trivial; have tk7 : True := trivial; have tk8 : True := trivial; have tk9 : True := trivial; have tk10 : True := trivial; have tk11 : True := trivial; have tk12 : True := trivial
  rcases hways with g1 | ⟨g1, g2⟩ | ⟨g1, g2, g3⟩ | ⟨g1, g2, g3, g4⟩ | ⟨g1, g2, g3, g4, g5⟩
  · have u0 : (0 : Int) < (n3 : Int) := by omega
    go_enter Tryd.func14, Tryd.ntmps14
    go_upto_if 52 with (first
    | (go_at_call 45; have _t := tk1; (with_reducible refine (CI.out _ (by (repeat' (first | (with_reducible exact Below.refl _ _) | (with_reducible assumption) | (with_reducible refine below_ext0 ?_ _ _) | (with_reducible refine below_alloc0 ?_ _) | (with_reducible refine Below.ext ?_ ?_ _ _) | (with_reducible refine Below.alloc ?_ ?_ _) | (with_reducible refine Below.setCell ?_ ?_ _) | (with_reducible refine Below.drew ?_) | (with_reducible refine below_draws ?_ _) | go_size | (simp [size_ext]; done) | (simp [size_ext]; omega))))).mono ?_); rintro e w1 ⟨rfl, hb⟩; have kx := (Blk.below (by ((repeat' (first | (with_reducible assumption) | (with_reducible refine Blk.drew ?_) | exact Blk.new' _ _ (by first | rfl | (simp [size_ext]; done) | (simp [size_ext]; omega)) | (with_reducible refine Blk.ext ?_ _ _) | (with_reducible refine Blk.alloc ?_ _))); (all_goals fail))) hb (by first | omega | (simp [size_ext]; done) | (simp [size_ext]; omega)) : Blk w1 w.heap.size 28 (msgC h (.slice Aq nq cq) (.slice Ax nx cx) (.slice Ay ny cy) (.slice (some ⟨b, o, none⟩) nz cz))); have kz := (Blk.below (Blk.new' _ _ (by first | rfl | (simp [size_ext]; done) | (simp [size_ext]; omega))) hb (by first | omega | (simp [size_ext]; done) | (simp [size_ext]; omega)) : Blk w1 (w.heap.size + 1) 46 (optC opt0 (.slice none 0 0))); have q14 : w1.cell? ⟨w.heap.size, 14, none⟩ = some (.slice (some ⟨b, o, none⟩) nz cz) := kx.cell 14; have KX := hid kx; have KZ := hid kz; have HB1 := hid (Below.trans (by (repeat' (first | (with_reducible exact Below.refl _ _) | (with_reducible assumption) | (with_reducible refine below_ext0 ?_ _ _) | (with_reducible refine below_alloc0 ?_ _) | (with_reducible refine Below.ext ?_ ?_ _ _) | (with_reducible refine Below.alloc ?_ ?_ _) | (with_reducible refine Below.setCell ?_ ?_ _) | (with_reducible refine Below.drew ?_) | (with_reducible refine below_draws ?_ _) | go_size | (simp [size_ext]; done) | (simp [size_ext]; omega)))) (hb.mono (by first | omega | (simp [size_ext]; done) | (simp [size_ext]; omega))) : Below w.heap.size w w1); have zz := kz.lt; clear hb kx kz tk1)
    | (go_at_call 47; have _t := tk2; (with_reducible refine (CC.out _ HB1.out).mono ?_); rintro e w2 ⟨rfl, hb⟩; have kx := KX.out.below hb (by omega); have kz := KZ.out.below hb zz; have HB2 := hid (HB1.out.trans (hb.mono HB1.out.size)); have q14 : w2.cell? ⟨w.heap.size, 14, none⟩ = some (.slice (some ⟨b, o, none⟩) nz cz) := kx.cell 14; have y0 := (HB2.out.cell (p := ⟨b, o + i * 5, none⟩) hb1).trans x0; have y1 := (HB2.out.cell (p := ⟨b, o + i * 5 + 1, none⟩) hb1).trans x1; have y2 := (HB2.out.cell (p := ⟨b, o + i * 5 + 2, none⟩) hb1).trans x2; have y3 := (HB2.out.cell (p := ⟨b, o + i * 5 + 3, none⟩) hb1).trans x3; have y4 := (HB2.out.cell (p := ⟨b, o + i * 5 + 4, none⟩) hb1).trans x4; have z0 : (w2).cell? ⟨w.heap.size + 1, 0, none⟩ = some (.int .i64 (opt0).size) := (kz).cell 0; have z1 : (w2).cell? ⟨w.heap.size + 1, 1, none⟩ = some (.int .i64 (opt0).code) := (kz).cell 1; have z2 : (w2).cell? ⟨w.heap.size + 1, 2, none⟩ = some (.int .i64 (opt0).ver) := (kz).cell 2; have z3 : (w2).cell? ⟨w.heap.size + 1, 3, none⟩ = some (.bool (opt0).dob) := (kz).cell 3; have z4 : (w2).cell? ⟨w.heap.size + 1, 4, none⟩ = some (.int .i64 (opt0).z) := (kz).cell 4; have z5 : (w2).cell? ⟨w.heap.size + 1, 5, none⟩ = some (.slice none 0 0) := (kz).cell 5; have f0 : (w2).frozen? ⟨w.heap.size + 1, 0, none⟩ = false := (kz).frozen 0; have f1 : (w2).frozen? ⟨w.heap.size + 1, 1, none⟩ = false := (kz).frozen 1; have f2 : (w2).frozen? ⟨w.heap.size + 1, 2, none⟩ = false := (kz).frozen 2; have f3 : (w2).frozen? ⟨w.heap.size + 1, 3, none⟩ = false := (kz).frozen 3; have f4 : (w2).frozen? ⟨w.heap.size + 1, 4, none⟩ = false := (kz).frozen 4; have f5 : (w2).frozen? ⟨w.heap.size + 1, 5, none⟩ = false := (kz).frozen 5; have ne1 : ¬ w.heap.size + 1 = w2.heap.size := (by have := kz.lt; omega); have ne2 : ¬ w2.heap.size = w.heap.size + 1 := (by have := kz.lt; omega); have KZ2 := hid kz; have zz2 := kz.lt; clear hb kx kz tk2))
    obtain ⟨w3, hw3⟩ : ∃ w3, w2.alloc (.cells #[.slice A3 n3 c3, .int .i64 T, .int .i64 C, .int .i64 L, .slice A4 n4 c4] 67) = w3 := ⟨_, rfl⟩
    have kz : Blk w3 (w.heap.size + 1) 46 (optC opt0 (.slice none 0 0)) := by rw [← hw3]; exact KZ2.out.alloc _
    have HB3 := hid (show Below w.heap.size w w3 by rw [← hw3]; exact HB2.out.alloc (by have := HB2.out.size; omega) _)
    have zz3 := kz.lt
    have z0 : (w3).cell? ⟨w.heap.size + 1, 0, none⟩ = some (.int .i64 (opt0).size) := (kz).cell 0; have z1 : (w3).cell? ⟨w.heap.size + 1, 1, none⟩ = some (.int .i64 (opt0).code) := (kz).cell 1; have z2 : (w3).cell? ⟨w.heap.size + 1, 2, none⟩ = some (.int .i64 (opt0).ver) := (kz).cell 2; have z3 : (w3).cell? ⟨w.heap.size + 1, 3, none⟩ = some (.bool (opt0).dob) := (kz).cell 3; have z4 : (w3).cell? ⟨w.heap.size + 1, 4, none⟩ = some (.int .i64 (opt0).z) := (kz).cell 4; have z5 : (w3).cell? ⟨w.heap.size + 1, 5, none⟩ = some (.slice none 0 0) := (kz).cell 5
    have f0 : (w3).frozen? ⟨w.heap.size + 1, 0, none⟩ = false := (kz).frozen 0; have f1 : (w3).frozen? ⟨w.heap.size + 1, 1, none⟩ = false := (kz).frozen 1; have f2 : (w3).frozen? ⟨w.heap.size + 1, 2, none⟩ = false := (kz).frozen 2; have f3 : (w3).frozen? ⟨w.heap.size + 1, 3, none⟩ = false := (kz).frozen 3; have f4 : (w3).frozen? ⟨w.heap.size + 1, 4, none⟩ = false := (kz).frozen 4; have f5 : (w3).frozen? ⟨w.heap.size + 1, 5, none⟩ = false := (kz).frozen 5
    have KZ3 := hid kz
    rw [hw3]
    clear hw3 kz
    go_wp2_with fail
    refine bodyPost_ret (res_find rfl rfl rfl (opt_over opt0 (.slice none 0 0) KZ3.out)) rfl ⟨rfl, ?_⟩
    have hlw := HB3.out
    have hlz := HB3.out.size
    (repeat' (first | (with_reducible exact Below.refl _ _) | (with_reducible assumption) | (with_reducible refine below_ext0 ?_ _ _) | (with_reducible refine below_alloc0 ?_ _) | (with_reducible refine Below.ext ?_ ?_ _ _) | (with_reducible refine Below.alloc ?_ ?_ _) | (with_reducible refine Below.setCell ?_ ?_ _) | (with_reducible refine Below.drew ?_) | (with_reducible refine below_draws ?_ _) | go_size | (simp [size_ext]; done) | (simp [size_ext]; omega)))
  · obtain rfl : n3 = 0 := by omega
    go_enter Tryd.func14, Tryd.ntmps14
    go_upto_if 52 with (first
    | (go_at_call 45; have _t := tk1; (with_reducible refine (CI.out _ (by (repeat' (first | (with_reducible exact Below.refl _ _) | (with_reducible assumption) | (with_reducible refine below_ext0 ?_ _ _) | (with_reducible refine below_alloc0 ?_ _) | (with_reducible refine Below.ext ?_ ?_ _ _) | (with_reducible refine Below.alloc ?_ ?_ _) | (with_reducible refine Below.setCell ?_ ?_ _) | (with_reducible refine Below.drew ?_) | (with_reducible refine below_draws ?_ _) | go_size | (simp [size_ext]; done) | (simp [size_ext]; omega))))).mono ?_); rintro e w1 ⟨rfl, hb⟩; have kx := (Blk.below (by ((repeat' (first | (with_reducible assumption) | (with_reducible refine Blk.drew ?_) | exact Blk.new' _ _ (by first | rfl | (simp [size_ext]; done) | (simp [size_ext]; omega)) | (with_reducible refine Blk.ext ?_ _ _) | (with_reducible refine Blk.alloc ?_ _))); (all_goals fail))) hb (by first | omega | (simp [size_ext]; done) | (simp [size_ext]; omega)) : Blk w1 w.heap.size 28 (msgC h (.slice Aq nq cq) (.slice Ax nx cx) (.slice Ay ny cy) (.slice (some ⟨b, o, none⟩) nz cz))); have kz := (Blk.below (Blk.new' _ _ (by first | rfl | (simp [size_ext]; done) | (simp [size_ext]; omega))) hb (by first | omega | (simp [size_ext]; done) | (simp [size_ext]; omega)) : Blk w1 (w.heap.size + 1) 46 (optC opt0 (.slice none 0 0))); have q14 : w1.cell? ⟨w.heap.size, 14, none⟩ = some (.slice (some ⟨b, o, none⟩) nz cz) := kx.cell 14; have KX := hid kx; have KZ := hid kz; have HB1 := hid (Below.trans (by (repeat' (first | (with_reducible exact Below.refl _ _) | (with_reducible assumption) | (with_reducible refine below_ext0 ?_ _ _) | (with_reducible refine below_alloc0 ?_ _) | (with_reducible refine Below.ext ?_ ?_ _ _) | (with_reducible refine Below.alloc ?_ ?_ _) | (with_reducible refine Below.setCell ?_ ?_ _) | (with_reducible refine Below.drew ?_) | (with_reducible refine below_draws ?_ _) | go_size | (simp [size_ext]; done) | (simp [size_ext]; omega)))) (hb.mono (by first | omega | (simp [size_ext]; done) | (simp [size_ext]; omega))) : Below w.heap.size w w1); have zz := kz.lt; clear hb kx kz tk1)
    | (go_at_call 47; have _t := tk2; (with_reducible refine (CC.out _ HB1.out).mono ?_); rintro e w2 ⟨rfl, hb⟩; have kx := KX.out.below hb (by omega); have kz := KZ.out.below hb zz; have HB2 := hid (HB1.out.trans (hb.mono HB1.out.size)); have q14 : w2.cell? ⟨w.heap.size, 14, none⟩ = some (.slice (some ⟨b, o, none⟩) nz cz) := kx.cell 14; have y0 := (HB2.out.cell (p := ⟨b, o + i * 5, none⟩) hb1).trans x0; have y1 := (HB2.out.cell (p := ⟨b, o + i * 5 + 1, none⟩) hb1).trans x1; have y2 := (HB2.out.cell (p := ⟨b, o + i * 5 + 2, none⟩) hb1).trans x2; have y3 := (HB2.out.cell (p := ⟨b, o + i * 5 + 3, none⟩) hb1).trans x3; have y4 := (HB2.out.cell (p := ⟨b, o + i * 5 + 4, none⟩) hb1).trans x4; have z0 : (w2).cell? ⟨w.heap.size + 1, 0, none⟩ = some (.int .i64 (opt0).size) := (kz).cell 0; have z1 : (w2).cell? ⟨w.heap.size + 1, 1, none⟩ = some (.int .i64 (opt0).code) := (kz).cell 1; have z2 : (w2).cell? ⟨w.heap.size + 1, 2, none⟩ = some (.int .i64 (opt0).ver) := (kz).cell 2; have z3 : (w2).cell? ⟨w.heap.size + 1, 3, none⟩ = some (.bool (opt0).dob) := (kz).cell 3; have z4 : (w2).cell? ⟨w.heap.size + 1, 4, none⟩ = some (.int .i64 (opt0).z) := (kz).cell 4; have z5 : (w2).cell? ⟨w.heap.size + 1, 5, none⟩ = some (.slice none 0 0) := (kz).cell 5; have f0 : (w2).frozen? ⟨w.heap.size + 1, 0, none⟩ = false := (kz).frozen 0; have f1 : (w2).frozen? ⟨w.heap.size + 1, 1, none⟩ = false := (kz).frozen 1; have f2 : (w2).frozen? ⟨w.heap.size + 1, 2, none⟩ = false := (kz).frozen 2; have f3 : (w2).frozen? ⟨w.heap.size + 1, 3, none⟩ = false := (kz).frozen 3; have f4 : (w2).frozen? ⟨w.heap.size + 1, 4, none⟩ = false := (kz).frozen 4; have f5 : (w2).frozen? ⟨w.heap.size + 1, 5, none⟩ = false := (kz).frozen 5; have ne1 : ¬ w.heap.size + 1 = w2.heap.size := (by have := kz.lt; omega); have ne2 : ¬ w2.heap.size = w.heap.size + 1 := (by have := kz.lt; omega); have KZ2 := hid kz; have zz2 := kz.lt; clear hb kx kz tk2))
    obtain ⟨w3, hw3⟩ : ∃ w3, w2.alloc (.cells #[.slice A3 0 c3, .int .i64 T, .int .i64 C, .int .i64 L, .slice A4 n4 c4] 67) = w3 := ⟨_, rfl⟩
    have kz : Blk w3 (w.heap.size + 1) 46 (optC opt0 (.slice none 0 0)) := by rw [← hw3]; exact KZ2.out.alloc _
    have HB3 := hid (show Below w.heap.size w w3 by rw [← hw3]; exact HB2.out.alloc (by have := HB2.out.size; omega) _)
    have zz3 := kz.lt
    have z0 : (w3).cell? ⟨w.heap.size + 1, 0, none⟩ = some (.int .i64 (opt0).size) := (kz).cell 0; have z1 : (w3).cell? ⟨w.heap.size + 1, 1, none⟩ = some (.int .i64 (opt0).code) := (kz).cell 1; have z2 : (w3).cell? ⟨w.heap.size + 1, 2, none⟩ = some (.int .i64 (opt0).ver) := (kz).cell 2; have z3 : (w3).cell? ⟨w.heap.size + 1, 3, none⟩ = some (.bool (opt0).dob) := (kz).cell 3; have z4 : (w3).cell? ⟨w.heap.size + 1, 4, none⟩ = some (.int .i64 (opt0).z) := (kz).cell 4; have z5 : (w3).cell? ⟨w.heap.size + 1, 5, none⟩ = some (.slice none 0 0) := (kz).cell 5
    have f0 : (w3).frozen? ⟨w.heap.size + 1, 0, none⟩ = false := (kz).frozen 0; have f1 : (w3).frozen? ⟨w.heap.size + 1, 1, none⟩ = false := (kz).frozen 1; have f2 : (w3).frozen? ⟨w.heap.size + 1, 2, none⟩ = false := (kz).frozen 2; have f3 : (w3).frozen? ⟨w.heap.size + 1, 3, none⟩ = false := (kz).frozen 3; have f4 : (w3).frozen? ⟨w.heap.size + 1, 4, none⟩ = false := (kz).frozen 4; have f5 : (w3).frozen? ⟨w.heap.size + 1, 5, none⟩ = false := (kz).frozen 5
    have KZ3 := hid kz
    rw [hw3]
    clear hw3 kz
    go_wp2_with fail
    refine bodyPost_ret (res_find rfl rfl rfl (opt_over opt0 (.slice none 0 0) KZ3.out)) rfl ⟨rfl, ?_⟩
    have hlw := HB3.out
    have hlz := HB3.out.size
    (repeat' (first | (with_reducible exact Below.refl _ _) | (with_reducible assumption) | (with_reducible refine below_ext0 ?_ _ _) | (with_reducible refine below_alloc0 ?_ _) | (with_reducible refine Below.ext ?_ ?_ _ _) | (with_reducible refine Below.alloc ?_ ?_ _) | (with_reducible refine Below.setCell ?_ ?_ _) | (with_reducible refine Below.drew ?_) | (with_reducible refine below_draws ?_ _) | go_size | (simp [size_ext]; done) | (simp [size_ext]; omega)))
  · obtain rfl : n3 = 0 := by omega
    go_enter Tryd.func14, Tryd.ntmps14
    go_upto_if 52 with (first
    | (go_at_call 45; have _t := tk1; (with_reducible refine (CI.out _ (by (repeat' (first | (with_reducible exact Below.refl _ _) | (with_reducible assumption) | (with_reducible refine below_ext0 ?_ _ _) | (with_reducible refine below_alloc0 ?_ _) | (with_reducible refine Below.ext ?_ ?_ _ _) | (with_reducible refine Below.alloc ?_ ?_ _) | (with_reducible refine Below.setCell ?_ ?_ _) | (with_reducible refine Below.drew ?_) | (with_reducible refine below_draws ?_ _) | go_size | (simp [size_ext]; done) | (simp [size_ext]; omega))))).mono ?_); rintro e w1 ⟨rfl, hb⟩; have kx := (Blk.below (by ((repeat' (first | (with_reducible assumption) | (with_reducible refine Blk.drew ?_) | exact Blk.new' _ _ (by first | rfl | (simp [size_ext]; done) | (simp [size_ext]; omega)) | (with_reducible refine Blk.ext ?_ _ _) | (with_reducible refine Blk.alloc ?_ _))); (all_goals fail))) hb (by first | omega | (simp [size_ext]; done) | (simp [size_ext]; omega)) : Blk w1 w.heap.size 28 (msgC h (.slice Aq nq cq) (.slice Ax nx cx) (.slice Ay ny cy) (.slice (some ⟨b, o, none⟩) nz cz))); have kz := (Blk.below (Blk.new' _ _ (by first | rfl | (simp [size_ext]; done) | (simp [size_ext]; omega))) hb (by first | omega | (simp [size_ext]; done) | (simp [size_ext]; omega)) : Blk w1 (w.heap.size + 1) 46 (optC opt0 (.slice none 0 0))); have q14 : w1.cell? ⟨w.heap.size, 14, none⟩ = some (.slice (some ⟨b, o, none⟩) nz cz) := kx.cell 14; have KX := hid kx; have KZ := hid kz; have HB1 := hid (Below.trans (by (repeat' (first | (with_reducible exact Below.refl _ _) | (with_reducible assumption) | (with_reducible refine below_ext0 ?_ _ _) | (with_reducible refine below_alloc0 ?_ _) | (with_reducible refine Below.ext ?_ ?_ _ _) | (with_reducible refine Below.alloc ?_ ?_ _) | (with_reducible refine Below.setCell ?_ ?_ _) | (with_reducible refine Below.drew ?_) | (with_reducible refine below_draws ?_ _) | go_size | (simp [size_ext]; done) | (simp [size_ext]; omega)))) (hb.mono (by first | omega | (simp [size_ext]; done) | (simp [size_ext]; omega))) : Below w.heap.size w w1); have zz := kz.lt; clear hb kx kz tk1)
    | (go_at_call 47; have _t := tk2; (with_reducible refine (CC.out _ HB1.out).mono ?_); rintro e w2 ⟨rfl, hb⟩; have kx := KX.out.below hb (by omega); have kz := KZ.out.below hb zz; have HB2 := hid (HB1.out.trans (hb.mono HB1.out.size)); have q14 : w2.cell? ⟨w.heap.size, 14, none⟩ = some (.slice (some ⟨b, o, none⟩) nz cz) := kx.cell 14; have y0 := (HB2.out.cell (p := ⟨b, o + i * 5, none⟩) hb1).trans x0; have y1 := (HB2.out.cell (p := ⟨b, o + i * 5 + 1, none⟩) hb1).trans x1; have y2 := (HB2.out.cell (p := ⟨b, o + i * 5 + 2, none⟩) hb1).trans x2; have y3 := (HB2.out.cell (p := ⟨b, o + i * 5 + 3, none⟩) hb1).trans x3; have y4 := (HB2.out.cell (p := ⟨b, o + i * 5 + 4, none⟩) hb1).trans x4; have z0 : (w2).cell? ⟨w.heap.size + 1, 0, none⟩ = some (.int .i64 (opt0).size) := (kz).cell 0; have z1 : (w2).cell? ⟨w.heap.size + 1, 1, none⟩ = some (.int .i64 (opt0).code) := (kz).cell 1; have z2 : (w2).cell? ⟨w.heap.size + 1, 2, none⟩ = some (.int .i64 (opt0).ver) := (kz).cell 2; have z3 : (w2).cell? ⟨w.heap.size + 1, 3, none⟩ = some (.bool (opt0).dob) := (kz).cell 3; have z4 : (w2).cell? ⟨w.heap.size + 1, 4, none⟩ = some (.int .i64 (opt0).z) := (kz).cell 4; have z5 : (w2).cell? ⟨w.heap.size + 1, 5, none⟩ = some (.slice none 0 0) := (kz).cell 5; have f0 : (w2).frozen? ⟨w.heap.size + 1, 0, none⟩ = false := (kz).frozen 0; have f1 : (w2).frozen? ⟨w.heap.size + 1, 1, none⟩ = false := (kz).frozen 1; have f2 : (w2).frozen? ⟨w.heap.size + 1, 2, none⟩ = false := (kz).frozen 2; have f3 : (w2).frozen? ⟨w.heap.size + 1, 3, none⟩ = false := (kz).frozen 3; have f4 : (w2).frozen? ⟨w.heap.size + 1, 4, none⟩ = false := (kz).frozen 4; have f5 : (w2).frozen? ⟨w.heap.size + 1, 5, none⟩ = false := (kz).frozen 5; have ne1 : ¬ w.heap.size + 1 = w2.heap.size := (by have := kz.lt; omega); have ne2 : ¬ w2.heap.size = w.heap.size + 1 := (by have := kz.lt; omega); have KZ2 := hid kz; have zz2 := kz.lt; clear hb kx kz tk2))
    obtain ⟨w3, hw3⟩ : ∃ w3, w2.alloc (.cells #[.slice A3 0 c3, .int .i64 T, .int .i64 C, .int .i64 L, .slice A4 n4 c4] 67) = w3 := ⟨_, rfl⟩
    have kz : Blk w3 (w.heap.size + 1) 46 (optC opt0 (.slice none 0 0)) := by rw [← hw3]; exact KZ2.out.alloc _
    have HB3 := hid (show Below w.heap.size w w3 by rw [← hw3]; exact HB2.out.alloc (by have := HB2.out.size; omega) _)
    have zz3 := kz.lt
    have z0 : (w3).cell? ⟨w.heap.size + 1, 0, none⟩ = some (.int .i64 (opt0).size) := (kz).cell 0; have z1 : (w3).cell? ⟨w.heap.size + 1, 1, none⟩ = some (.int .i64 (opt0).code) := (kz).cell 1; have z2 : (w3).cell? ⟨w.heap.size + 1, 2, none⟩ = some (.int .i64 (opt0).ver) := (kz).cell 2; have z3 : (w3).cell? ⟨w.heap.size + 1, 3, none⟩ = some (.bool (opt0).dob) := (kz).cell 3; have z4 : (w3).cell? ⟨w.heap.size + 1, 4, none⟩ = some (.int .i64 (opt0).z) := (kz).cell 4; have z5 : (w3).cell? ⟨w.heap.size + 1, 5, none⟩ = some (.slice none 0 0) := (kz).cell 5
    have f0 : (w3).frozen? ⟨w.heap.size + 1, 0, none⟩ = false := (kz).frozen 0; have f1 : (w3).frozen? ⟨w.heap.size + 1, 1, none⟩ = false := (kz).frozen 1; have f2 : (w3).frozen? ⟨w.heap.size + 1, 2, none⟩ = false := (kz).frozen 2; have f3 : (w3).frozen? ⟨w.heap.size + 1, 3, none⟩ = false := (kz).frozen 3; have f4 : (w3).frozen? ⟨w.heap.size + 1, 4, none⟩ = false := (kz).frozen 4; have f5 : (w3).frozen? ⟨w.heap.size + 1, 5, none⟩ = false := (kz).frozen 5
    have KZ3 := hid kz
    rw [hw3]
    clear hw3 kz
    go_wp2_with fail
    refine bodyPost_ret (res_find rfl rfl rfl (opt_over opt0 (.slice none 0 0) KZ3.out)) rfl ⟨rfl, ?_⟩
    have hlw := HB3.out
    have hlz := HB3.out.size
    (repeat' (first | (with_reducible exact Below.refl _ _) | (with_reducible assumption) | (with_reducible refine below_ext0 ?_ _ _) | (with_reducible refine below_alloc0 ?_ _) | (with_reducible refine Below.ext ?_ ?_ _ _) | (with_reducible refine Below.alloc ?_ ?_ _) | (with_reducible refine Below.setCell ?_ ?_ _) | (with_reducible refine Below.drew ?_) | (with_reducible refine below_draws ?_ _) | go_size | (simp [size_ext]; done) | (simp [size_ext]; omega)))
  · obtain rfl : n3 = 0 := by omega
    go_enter Tryd.func14, Tryd.ntmps14
    go_upto_if 52 with (first
    | (go_at_call 45; have _t := tk1; (with_reducible refine (CI.out _ (by (repeat' (first | (with_reducible exact Below.refl _ _) | (with_reducible assumption) | (with_reducible refine below_ext0 ?_ _ _) | (with_reducible refine below_alloc0 ?_ _) | (with_reducible refine Below.ext ?_ ?_ _ _) | (with_reducible refine Below.alloc ?_ ?_ _) | (with_reducible refine Below.setCell ?_ ?_ _) | (with_reducible refine Below.drew ?_) | (with_reducible refine below_draws ?_ _) | go_size | (simp [size_ext]; done) | (simp [size_ext]; omega))))).mono ?_); rintro e w1 ⟨rfl, hb⟩; have kx := (Blk.below (by ((repeat' (first | (with_reducible assumption) | (with_reducible refine Blk.drew ?_) | exact Blk.new' _ _ (by first | rfl | (simp [size_ext]; done) | (simp [size_ext]; omega)) | (with_reducible refine Blk.ext ?_ _ _) | (with_reducible refine Blk.alloc ?_ _))); (all_goals fail))) hb (by first | omega | (simp [size_ext]; done) | (simp [size_ext]; omega)) : Blk w1 w.heap.size 28 (msgC h (.slice Aq nq cq) (.slice Ax nx cx) (.slice Ay ny cy) (.slice (some ⟨b, o, none⟩) nz cz))); have kz := (Blk.below (Blk.new' _ _ (by first | rfl | (simp [size_ext]; done) | (simp [size_ext]; omega))) hb (by first | omega | (simp [size_ext]; done) | (simp [size_ext]; omega)) : Blk w1 (w.heap.size + 1) 46 (optC opt0 (.slice none 0 0))); have q14 : w1.cell? ⟨w.heap.size, 14, none⟩ = some (.slice (some ⟨b, o, none⟩) nz cz) := kx.cell 14; have KX := hid kx; have KZ := hid kz; have HB1 := hid (Below.trans (by (repeat' (first | (with_reducible exact Below.refl _ _) | (with_reducible assumption) | (with_reducible refine below_ext0 ?_ _ _) | (with_reducible refine below_alloc0 ?_ _) | (with_reducible refine Below.ext ?_ ?_ _ _) | (with_reducible refine Below.alloc ?_ ?_ _) | (with_reducible refine Below.setCell ?_ ?_ _) | (with_reducible refine Below.drew ?_) | (with_reducible refine below_draws ?_ _) | go_size | (simp [size_ext]; done) | (simp [size_ext]; omega)))) (hb.mono (by first | omega | (simp [size_ext]; done) | (simp [size_ext]; omega))) : Below w.heap.size w w1); have zz := kz.lt; clear hb kx kz tk1)
    | (go_at_call 47; have _t := tk2; (with_reducible refine (CC.out _ HB1.out).mono ?_); rintro e w2 ⟨rfl, hb⟩; have kx := KX.out.below hb (by omega); have kz := KZ.out.below hb zz; have HB2 := hid (HB1.out.trans (hb.mono HB1.out.size)); have q14 : w2.cell? ⟨w.heap.size, 14, none⟩ = some (.slice (some ⟨b, o, none⟩) nz cz) := kx.cell 14; have y0 := (HB2.out.cell (p := ⟨b, o + i * 5, none⟩) hb1).trans x0; have y1 := (HB2.out.cell (p := ⟨b, o + i * 5 + 1, none⟩) hb1).trans x1; have y2 := (HB2.out.cell (p := ⟨b, o + i * 5 + 2, none⟩) hb1).trans x2; have y3 := (HB2.out.cell (p := ⟨b, o + i * 5 + 3, none⟩) hb1).trans x3; have y4 := (HB2.out.cell (p := ⟨b, o + i * 5 + 4, none⟩) hb1).trans x4; have z0 : (w2).cell? ⟨w.heap.size + 1, 0, none⟩ = some (.int .i64 (opt0).size) := (kz).cell 0; have z1 : (w2).cell? ⟨w.heap.size + 1, 1, none⟩ = some (.int .i64 (opt0).code) := (kz).cell 1; have z2 : (w2).cell? ⟨w.heap.size + 1, 2, none⟩ = some (.int .i64 (opt0).ver) := (kz).cell 2; have z3 : (w2).cell? ⟨w.heap.size + 1, 3, none⟩ = some (.bool (opt0).dob) := (kz).cell 3; have z4 : (w2).cell? ⟨w.heap.size + 1, 4, none⟩ = some (.int .i64 (opt0).z) := (kz).cell 4; have z5 : (w2).cell? ⟨w.heap.size + 1, 5, none⟩ = some (.slice none 0 0) := (kz).cell 5; have f0 : (w2).frozen? ⟨w.heap.size + 1, 0, none⟩ = false := (kz).frozen 0; have f1 : (w2).frozen? ⟨w.heap.size + 1, 1, none⟩ = false := (kz).frozen 1; have f2 : (w2).frozen? ⟨w.heap.size + 1, 2, none⟩ = false := (kz).frozen 2; have f3 : (w2).frozen? ⟨w.heap.size + 1, 3, none⟩ = false := (kz).frozen 3; have f4 : (w2).frozen? ⟨w.heap.size + 1, 4, none⟩ = false := (kz).frozen 4; have f5 : (w2).frozen? ⟨w.heap.size + 1, 5, none⟩ = false := (kz).frozen 5; have ne1 : ¬ w.heap.size + 1 = w2.heap.size := (by have := kz.lt; omega); have ne2 : ¬ w2.heap.size = w.heap.size + 1 := (by have := kz.lt; omega); have KZ2 := hid kz; have zz2 := kz.lt; clear hb kx kz tk2))
    obtain ⟨w3, hw3⟩ : ∃ w3, w2.alloc (.cells #[.slice A3 0 c3, .int .i64 T, .int .i64 C, .int .i64 L, .slice A4 n4 c4] 67) = w3 := ⟨_, rfl⟩
    have kz : Blk w3 (w.heap.size + 1) 46 (optC opt0 (.slice none 0 0)) := by rw [← hw3]; exact KZ2.out.alloc _
    have HB3 := hid (show Below w.heap.size w w3 by rw [← hw3]; exact HB2.out.alloc (by have := HB2.out.size; omega) _)
    have zz3 := kz.lt
    have z0 : (w3).cell? ⟨w.heap.size + 1, 0, none⟩ = some (.int .i64 (opt0).size) := (kz).cell 0; have z1 : (w3).cell? ⟨w.heap.size + 1, 1, none⟩ = some (.int .i64 (opt0).code) := (kz).cell 1; have z2 : (w3).cell? ⟨w.heap.size + 1, 2, none⟩ = some (.int .i64 (opt0).ver) := (kz).cell 2; have z3 : (w3).cell? ⟨w.heap.size + 1, 3, none⟩ = some (.bool (opt0).dob) := (kz).cell 3; have z4 : (w3).cell? ⟨w.heap.size + 1, 4, none⟩ = some (.int .i64 (opt0).z) := (kz).cell 4; have z5 : (w3).cell? ⟨w.heap.size + 1, 5, none⟩ = some (.slice none 0 0) := (kz).cell 5
    have f0 : (w3).frozen? ⟨w.heap.size + 1, 0, none⟩ = false := (kz).frozen 0; have f1 : (w3).frozen? ⟨w.heap.size + 1, 1, none⟩ = false := (kz).frozen 1; have f2 : (w3).frozen? ⟨w.heap.size + 1, 2, none⟩ = false := (kz).frozen 2; have f3 : (w3).frozen? ⟨w.heap.size + 1, 3, none⟩ = false := (kz).frozen 3; have f4 : (w3).frozen? ⟨w.heap.size + 1, 4, none⟩ = false := (kz).frozen 4; have f5 : (w3).frozen? ⟨w.heap.size + 1, 5, none⟩ = false := (kz).frozen 5
    have KZ3 := hid kz
    rw [hw3]
    clear hw3 kz
    go_wp2_with fail
    refine bodyPost_ret (res_find rfl rfl rfl (opt_over opt0 (.slice none 0 0) KZ3.out)) rfl ⟨rfl, ?_⟩
    have hlw := HB3.out
    have hlz := HB3.out.size
    (repeat' (first | (with_reducible exact Below.refl _ _) | (with_reducible assumption) | (with_reducible refine below_ext0 ?_ _ _) | (with_reducible refine below_alloc0 ?_ _) | (with_reducible refine Below.ext ?_ ?_ _ _) | (with_reducible refine Below.alloc ?_ ?_ _) | (with_reducible refine Below.setCell ?_ ?_ _) | (with_reducible refine Below.drew ?_) | (with_reducible refine below_draws ?_ _) | go_size | (simp [size_ext]; done) | (simp [size_ext]; omega)))
  · obtain rfl : n3 = 0 := by omega
    go_enter Tryd.func14, Tryd.ntmps14
    go_upto_if 52 with (first
    | (go_at_call 45; have _t := tk1; (with_reducible refine (CI.out _ (by (repeat' (first | (with_reducible exact Below.refl _ _) | (with_reducible assumption) | (with_reducible refine below_ext0 ?_ _ _) | (with_reducible refine below_alloc0 ?_ _) | (with_reducible refine Below.ext ?_ ?_ _ _) | (with_reducible refine Below.alloc ?_ ?_ _) | (with_reducible refine Below.setCell ?_ ?_ _) | (with_reducible refine Below.drew ?_) | (with_reducible refine below_draws ?_ _) | go_size | (simp [size_ext]; done) | (simp [size_ext]; omega))))).mono ?_); rintro e w1 ⟨rfl, hb⟩; have kx := (Blk.below (by ((repeat' (first | (with_reducible assumption) | (with_reducible refine Blk.drew ?_) | exact Blk.new' _ _ (by first | rfl | (simp [size_ext]; done) | (simp [size_ext]; omega)) | (with_reducible refine Blk.ext ?_ _ _) | (with_reducible refine Blk.alloc ?_ _))); (all_goals fail))) hb (by first | omega | (simp [size_ext]; done) | (simp [size_ext]; omega)) : Blk w1 w.heap.size 28 (msgC h (.slice Aq nq cq) (.slice Ax nx cx) (.slice Ay ny cy) (.slice (some ⟨b, o, none⟩) nz cz))); have kz := (Blk.below (Blk.new' _ _ (by first | rfl | (simp [size_ext]; done) | (simp [size_ext]; omega))) hb (by first | omega | (simp [size_ext]; done) | (simp [size_ext]; omega)) : Blk w1 (w.heap.size + 1) 46 (optC opt0 (.slice none 0 0))); have q14 : w1.cell? ⟨w.heap.size, 14, none⟩ = some (.slice (some ⟨b, o, none⟩) nz cz) := kx.cell 14; have KX := hid kx; have KZ := hid kz; have HB1 := hid (Below.trans (by (repeat' (first | (with_reducible exact Below.refl _ _) | (with_reducible assumption) | (with_reducible refine below_ext0 ?_ _ _) | (with_reducible refine below_alloc0 ?_ _) | (with_reducible refine Below.ext ?_ ?_ _ _) | (with_reducible refine Below.alloc ?_ ?_ _) | (with_reducible refine Below.setCell ?_ ?_ _) | (with_reducible refine Below.drew ?_) | (with_reducible refine below_draws ?_ _) | go_size | (simp [size_ext]; done) | (simp [size_ext]; omega)))) (hb.mono (by first | omega | (simp [size_ext]; done) | (simp [size_ext]; omega))) : Below w.heap.size w w1); have zz := kz.lt; clear hb kx kz tk1)
    | (go_at_call 47; have _t := tk2; (with_reducible refine (CC.out _ HB1.out).mono ?_); rintro e w2 ⟨rfl, hb⟩; have kx := KX.out.below hb (by omega); have kz := KZ.out.below hb zz; have HB2 := hid (HB1.out.trans (hb.mono HB1.out.size)); have q14 : w2.cell? ⟨w.heap.size, 14, none⟩ = some (.slice (some ⟨b, o, none⟩) nz cz) := kx.cell 14; have y0 := (HB2.out.cell (p := ⟨b, o + i * 5, none⟩) hb1).trans x0; have y1 := (HB2.out.cell (p := ⟨b, o + i * 5 + 1, none⟩) hb1).trans x1; have y2 := (HB2.out.cell (p := ⟨b, o + i * 5 + 2, none⟩) hb1).trans x2; have y3 := (HB2.out.cell (p := ⟨b, o + i * 5 + 3, none⟩) hb1).trans x3; have y4 := (HB2.out.cell (p := ⟨b, o + i * 5 + 4, none⟩) hb1).trans x4; have z0 : (w2).cell? ⟨w.heap.size + 1, 0, none⟩ = some (.int .i64 (opt0).size) := (kz).cell 0; have z1 : (w2).cell? ⟨w.heap.size + 1, 1, none⟩ = some (.int .i64 (opt0).code) := (kz).cell 1; have z2 : (w2).cell? ⟨w.heap.size + 1, 2, none⟩ = some (.int .i64 (opt0).ver) := (kz).cell 2; have z3 : (w2).cell? ⟨w.heap.size + 1, 3, none⟩ = some (.bool (opt0).dob) := (kz).cell 3; have z4 : (w2).cell? ⟨w.heap.size + 1, 4, none⟩ = some (.int .i64 (opt0).z) := (kz).cell 4; have z5 : (w2).cell? ⟨w.heap.size + 1, 5, none⟩ = some (.slice none 0 0) := (kz).cell 5; have f0 : (w2).frozen? ⟨w.heap.size + 1, 0, none⟩ = false := (kz).frozen 0; have f1 : (w2).frozen? ⟨w.heap.size + 1, 1, none⟩ = false := (kz).frozen 1; have f2 : (w2).frozen? ⟨w.heap.size + 1, 2, none⟩ = false := (kz).frozen 2; have f3 : (w2).frozen? ⟨w.heap.size + 1, 3, none⟩ = false := (kz).frozen 3; have f4 : (w2).frozen? ⟨w.heap.size + 1, 4, none⟩ = false := (kz).frozen 4; have f5 : (w2).frozen? ⟨w.heap.size + 1, 5, none⟩ = false := (kz).frozen 5; have ne1 : ¬ w.heap.size + 1 = w2.heap.size := (by have := kz.lt; omega); have ne2 : ¬ w2.heap.size = w.heap.size + 1 := (by have := kz.lt; omega); have KZ2 := hid kz; have zz2 := kz.lt; clear hb kx kz tk2))
    obtain ⟨w3, hw3⟩ : ∃ w3, w2.alloc (.cells #[.slice A3 0 c3, .int .i64 T, .int .i64 C, .int .i64 L, .slice A4 n4 c4] 67) = w3 := ⟨_, rfl⟩
    have kz : Blk w3 (w.heap.size + 1) 46 (optC opt0 (.slice none 0 0)) := by rw [← hw3]; exact KZ2.out.alloc _
    have HB3 := hid (show Below w.heap.size w w3 by rw [← hw3]; exact HB2.out.alloc (by have := HB2.out.size; omega) _)
    have zz3 := kz.lt
    have z0 : (w3).cell? ⟨w.heap.size + 1, 0, none⟩ = some (.int .i64 (opt0).size) := (kz).cell 0; have z1 : (w3).cell? ⟨w.heap.size + 1, 1, none⟩ = some (.int .i64 (opt0).code) := (kz).cell 1; have z2 : (w3).cell? ⟨w.heap.size + 1, 2, none⟩ = some (.int .i64 (opt0).ver) := (kz).cell 2; have z3 : (w3).cell? ⟨w.heap.size + 1, 3, none⟩ = some (.bool (opt0).dob) := (kz).cell 3; have z4 : (w3).cell? ⟨w.heap.size + 1, 4, none⟩ = some (.int .i64 (opt0).z) := (kz).cell 4; have z5 : (w3).cell? ⟨w.heap.size + 1, 5, none⟩ = some (.slice none 0 0) := (kz).cell 5
    have f0 : (w3).frozen? ⟨w.heap.size + 1, 0, none⟩ = false := (kz).frozen 0; have f1 : (w3).frozen? ⟨w.heap.size + 1, 1, none⟩ = false := (kz).frozen 1; have f2 : (w3).frozen? ⟨w.heap.size + 1, 2, none⟩ = false := (kz).frozen 2; have f3 : (w3).frozen? ⟨w.heap.size + 1, 3, none⟩ = false := (kz).frozen 3; have f4 : (w3).frozen? ⟨w.heap.size + 1, 4, none⟩ = false := (kz).frozen 4; have f5 : (w3).frozen? ⟨w.heap.size + 1, 5, none⟩ = false := (kz).frozen 5
    have KZ3 := hid kz
    rw [hw3]
    clear hw3 kz
    go_wp2_with fail
    refine bodyPost_ret (res_find rfl rfl rfl (opt_over opt0 (.slice none 0 0) KZ3.out)) rfl ⟨rfl, ?_⟩
    have hlw := HB3.out
    have hlz := HB3.out.size
    (repeat' (first | (with_reducible exact Below.refl _ _) | (with_reducible assumption) | (with_reducible refine below_ext0 ?_ _ _) | (with_reducible refine below_alloc0 ?_ _) | (with_reducible refine Below.ext ?_ ?_ _ _) | (with_reducible refine Below.alloc ?_ ?_ _) | (with_reducible refine Below.setCell ?_ ?_ _) | (with_reducible refine Below.drew ?_) | (with_reducible refine below_draws ?_ _) | go_size | (simp [size_ext]; done) | (simp [size_ext]; omega)))
theorem findN_any {w : World} {h : Hd} {Aq Ax Ay Az : Option Addr} {nq cq nx cx ny cy nz cz : Nat} {zs : List RecT} (hZ : Rd recR w w.heap.size Az nz cz zs) (hd : ∀ r ∈ zs, r.2.2.2.2.1.length * 8 ≤ 140737488355328) {E : Int} {B : Bool} {x : OptX} {os : List OT} (hf : optF zs = (E, B, x, os)) {k : Nat} (hk : os.length = k) :
    Calls Tryd.prog 14 #[.agg (msgC h (.slice Aq nq cq) (.slice Ax nx cx) (.slice Ay ny cy) (.slice Az nz cz))] w fun e w' => ∃ A c, e = .returned (.tuple #[.agg (optC x (.slice A k c)), .bool B, errV E]) ∧ Rd oR w' w'.heap.size A k c os ∧ Below w.heap.size w w' := by
  have none_ : ∀ {E' : Int} {v : Value} {w' : World}, (E', false, opt0, []) = (E, B, x, os) → v = errV E' → ∀ hb : Below w.heap.size w w', ∃ A c, Ending.returned (.tuple #[.agg (optC opt0 (.slice none 0 0)), .bool false, v]) = .returned (.tuple #[.agg (optC x (.slice A k c)), .bool B, errV E]) ∧ Rd oR w' w'.heap.size A k c os ∧ Below w.heap.size w w' := by
    intro E' v w' e hv hb
    cases e
    obtain rfl : k = 0 := hk.symm
    exact ⟨none, 0, by rw [hv], rd_nil _ _, hb⟩
  unfold optF at hf
  rcases idxO_or zs 0 with ⟨h1, h2⟩ | ⟨i, hi, h1, h2, _⟩
  · rw [h1, if_pos (by decide)] at hf
    refine (find_none (h := h) hZ h2).mono ?_
    rintro e w' ⟨rfl, hb⟩
    exact none_ hf rfl hb
  · rw [Nat.zero_add] at h1
    have hi' : i < nz := by rw [← hZ.len]; exact hi
    have hg : zs.getD i recNo = zs[i] := by rw [List.getD_eq_getElem?_getD, List.getElem?_eq_getElem hi]; rfl
    rw [h1, if_neg (by omega), Int.toNat_natCast, hg] at hf
    have hdi := hd _ (List.getElem_mem hi)
    rcases hr : zs[i] with ⟨l, T, C, L, d, u⟩
    rw [hr] at hf hdi
    simp only at hf hdi
    by_cases hno : (zs.drop (i + 1)).any isOpt = true
    · rw [if_pos hno] at hf
      refine (find_twice (h := h) hZ hi' h1 hno).mono ?_
      rintro e w' ⟨rfl, hb⟩
      exact none_ hf rfl hb
    · rw [if_neg hno] at hf
      have hno' : (zs.drop (i + 1)).any isOpt = false := by simpa using hno
      by_cases ht : TellOk (l, T, C, L, d, u)
      · rw [if_pos ht] at hf
        obtain ⟨t1, t2, t3⟩ := ht
        simp only at t1 t2 t3
        subst t1
        cases ho : optsP d with
        | none =>
          rw [ho] at hf
          refine (find_short (h := h) hZ hi' h1 hno' hr t2 t3 ho hdi).mono ?_
          rintro e w' ⟨rfl, hb⟩
          exact none_ hf rfl hb
        | some os' =>
          rw [ho] at hf
          cases hf
          exact find_ok (h := h) hZ hi' h1 hr t2 t3 hno' ho hdi hk
      · rw [if_neg ht] at hf
        refine (find_bad (h := h) hZ hi' h1 hno' hr ht).mono ?_
        rintro e w' ⟨rfl, hb⟩
        exact none_ hf rfl hb
end Go.Proofs.YtfihedcobopbcaaDoor
