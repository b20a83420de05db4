/- edns: the options of bytes. -/
import Derived.Test.YtfihedcobopbcaaDoorK9
import Derived.Test.YtfihedcobopbcaaDoorK7
import Derived.Test.YtfihedcobopbcaaDoorK2
import Derived.Test.YtfihedcobopbcaaDoorK6
import Derived.Deep.DeepCutAuto
namespace Go.Proofs.YtfihedcobopbcaaDoor
open Go.RowKit
set_option linter.unusedVariables false
set_option linter.unusedSimpArgs false

abbrev OT := Int × List UInt8 × Unit
abbrev oR : Rep OT := pairR intR (pairR (sliceR u8R) unitR)
/-- what is wrong, the options -/
def optsP (b : List UInt8) : Option (List OT) :=
  if h0 : b.length = 0 then some []
  else if h : b.length < 4 then none
  else if h2 : b.length < 4 + at2 b 2 then none
  else match optsP (b.drop (4 + at2 b 2)) with
    | none => none
    | some os => some ((((at2 b 0 : Nat) : Int), (b.drop 4).take (at2 b 2), ()) :: os)
termination_by b.length
decreasing_by rw [List.length_drop]; omega
theorem optsP_nil : optsP [] = some [] := by rw [optsP]; rfl
theorem optsP_short {b : List UInt8} (h0 : b.length ≠ 0) (h : b.length < 4) : optsP b = none := by rw [optsP, dif_neg h0, dif_pos h]
theorem optsP_long {b : List UInt8} (h : ¬ b.length < 4) (h2 : b.length < 4 + at2 b 2) : optsP b = none := by rw [optsP, dif_neg (by omega), dif_neg h, dif_pos h2]
theorem optsP_step {b : List UInt8} (h : ¬ b.length < 4 + at2 b 2) : optsP b = (optsP (b.drop (4 + at2 b 2))).map fun os => (((at2 b 0 : Nat) : Int), (b.drop 4).take (at2 b 2), ()) :: os := by
  rw [optsP, dif_neg (by omega), dif_neg (by omega), dif_neg h]
  cases optsP (b.drop (4 + at2 b 2)) <;> rfl
theorem el_o : El Tryd.prog 44 105 2 32 := el_of (z := .agg #[.int .i64 0, .slice none 0 0]) Tryd.underlying44 (by kernel_rfl) rfl (by decide)
theorem zo_d : ∀ z, (Tryd.prog.info? 105).bind (·.zero) = some z → ∀ u ∈ z.cells.toList, ¬ IsD u := by
  have e : (Tryd.prog.info? 105).bind (·.zero) = some (.agg #[.int .i64 0, .slice none 0 0]) := by kernel_rfl
  intro z hz
  rw [e] at hz
  cases hz
  intro u hu
  simp [Value.cells] at hu
  rcases hu with rfl | rfl
  · exact not_d_int _
  · exact not_d_slice _ _ _
theorem near_o : Near IsD oR := near_pair (near_int _) (near_pair near_bytes (near_unit _))
theorem rel_o {w : World} {A : Option Addr} {n c : Nat} {d : List UInt8} {C : Int} (hC : I64 C) (h : Rd u8R w w.heap.size A n c d) : oR.rel w w.heap.size (C, d, ()) [.int .i64 C, .slice A n c] :=
  ⟨[_], _, rfl, ⟨rfl, hC⟩, [_], _, rfl, ⟨A, n, c, rfl, h⟩, rfl⟩

theorem slice_lowB {w : World} {B n c i g o : Nat} {m : List UInt8} (hM : Rd u8R w B (some ⟨g, o, none⟩) n c m) (hi : i ≤ n) {a : Int} (ha : a = (i : Int)) :
    ∃ o' C, (∀ w' : World, (Instr.slice 22 (.slice (some ⟨g, o, none⟩) n c) (some (.int .i64 a)) none none).run Tryd.prog w' = .ok (.slice (some ⟨g, o', none⟩) (n - i) C) w') ∧ Rd u8R w B (some ⟨g, o', none⟩) (n - i) C (m.drop i) := by
  subst ha
  have hcap := hM.cap
  have hsz : (Tryd.prog.info? 5).map (·.size) = some 1 := by kernel_rfl
  by_cases hc : c = i
  · refine ⟨o, 0, ?_, ?_⟩
    · intro w'
      obtain rfl : n = i := by omega
      subst hc
      simp [Instr.slice, Instr.sliceBounds, Instr.sliceBound, go_sem, Tryd.underlying22]
    · have e : n - i = 0 := by omega
      have hl := hM.len
      rw [e]
      exact ⟨by rw [List.length_drop]; omega, Nat.le_refl _, by simp [maxLen], by simp, fun e => (by cases e), fun i hi => by rw [List.length_drop] at hi; omega⟩
  · refine ⟨o + i, c - i, ?_, hM.dropB hi⟩
    intro w'
    simp [Instr.slice, Instr.sliceBounds, Instr.sliceBound, go_sem, Tryd.underlying22, hi, hc]
def OptO (w : World) (r : Option (List OT)) (e : Ending) (w' : World) : Prop :=
  Below w.heap.size w w' ∧ ((r = none ∧ e = .returned (.tuple #[.slice none 0 0, .iface 29 (.int .i64 1)])) ∨ ∃ os A c, r = some os ∧ e = .returned (.tuple #[.slice A os.length c, .nilIface]) ∧ Row oR 105 w' w.heap.size (.slice A os.length c) os ∧ os.length * 32 ≤ 140737488355328)
set_option maxRecDepth 100000 in
set_option maxHeartbeats 8000000 in
theorem options_any {w : World} {A0 : Option Addr} {n0 c0 : Nat} {m0 : List UInt8} (hM : Rd u8R w w.heap.size A0 n0 c0 m0) (hlim : n0 * 8 ≤ 140737488355328) :
    Calls Tryd.prog 48 #[.slice A0 n0 c0] w (OptO w (optsP m0)) := by
  have tk0 : True := trivial; have tk1 : True := trivial; have tk2 : True := trivial; have tk3 : True := trivial; have tk4 : True := trivial; have tk5 : True := trivial; have tk6 : True := trivial; have tk7 : True := trivial; have tk8 : True := trivial; have tk9 : True := trivial; have tk10 : True := trivial; have tk11 : True := trivial; have tk12 : True := trivial
  have HM0 := hid hM
  go_enter Tryd.func48, Tryd.ntmps48
  go_wp2
  go_loopg [0, 4] n0 (fun gk s0 s4 wi => ∃ (A : Option Addr) (n c : Nat) (m : List UInt8) (os : List OT) (V : Value), n = gk ∧ s0 = .slice A n c ∧ s4 = V ∧ Rd u8R w w.heap.size A n c m ∧ Hid (optsP m0 = (optsP m).map (os ++ ·)) ∧ os.length * 4 + n ≤ n0 ∧ Row oR 105 wi w.heap.size V os ∧ Below w.heap.size w wi)
  case atStart => exact ⟨A0, n0, c0, m0, [], _, rfl, rfl, rfl, HM0.out, hid (by cases optsP m0 <;> rfl), by simp, Row.nil _ _ _ _, (by (repeat' (first | (with_reducible exact Below.refl _ _) | (with_reducible assumption) | (with_reducible refine below_ext0 ?_ _ _) | (with_reducible refine below_alloc0 ?_ _) | (with_reducible refine Below.ext ?_ ?_ _ _) | (with_reducible refine Below.alloc ?_ ?_ _) | (with_reducible refine Below.setCell ?_ ?_ _) | (with_reducible refine Below.drew ?_) | (with_reducible refine below_draws ?_ _) | go_size | (simp [size_ext]; done) | (simp [size_ext]; omega))))⟩
  case round =>
    obtain ⟨A, n, c, m, os, V, rfl, rfl, rfl, hR, hO, hos, hrow, hlow⟩ := hrel
    have hl := hR.len
    have hcap := hR.cap
    have hmx := hR.max
    unfold maxLen at hmx
    have HR := hid hR
    have HLOW := hid hlow
    have HROW := hid hrow
    have HL := hid hl
    have zw := hlow.size
    obtain ⟨AV, cV, hV⟩ := hrow.slice
    subst hV
    clear hlow hrow hM
    by_cases hn : n = 0
    · subst hn
      have hm : m = [] := List.eq_nil_of_length_eq_zero hl
      have hfin : optsP m0 = some os := by rw [hO.out, hm, optsP_nil]; simp
      have HF := hid hfin
      have lim32 : os.length * 32 ≤ 140737488355328 := by omega
      clear hfin hm hl hR
      go_wp2
      go_ret2
      exact ⟨HLOW.out, .inr ⟨os, AV, cV, HF.out, rfl, HROW.out, lim32⟩⟩
    · have t0 : (0 : Int) < (n : Int) := by omega
      have t1 : decide ((0 : Int) < (n : Int)) = true := decide_eq_true t0
      by_cases hn4 : n < 4
      · have s0 : (n : Int) < 4 := by omega
        have s1 : decide ((n : Int) < 4) = true := decide_eq_true s0
        have hfin : optsP m0 = none := by rw [hO.out, optsP_short (by omega) (by omega)]; rfl
        have HF := hid hfin
        clear hfin hl hR
        go_wp2
        go_ret2
        exact ⟨HLOW.out, .inl ⟨HF.out, rfl⟩⟩
      · have s0 : ¬ (n : Int) < 4 := by omega
        have s1 : decide ((n : Int) < 4) = false := decide_eq_false s0
        obtain ⟨b, o, rfl, lb⟩ := hR.addr (by omega)
        obtain ⟨x0, x1, h01, d0, d1, _⟩ := hR.two 0 (by omega)
        obtain ⟨x2, x3, h23, d2, d3, _⟩ := hR.two 2 (by omega)
        obtain ⟨K, hK⟩ : ∃ K, at2 m 0 = K := ⟨_, rfl⟩
        obtain ⟨L, hL⟩ : ∃ L, at2 m 2 = L := ⟨_, rfl⟩
        rw [hK] at h01
        rw [hL] at h23
        have c0 : wr.cell? ⟨b, o, none⟩ = some (.int .u8 (x0.toNat : Int)) := (HLOW.out.cell (p := ⟨b, o, none⟩) lb).trans (by simpa using d0)
        have c1 : wr.cell? ⟨b, o + 1, none⟩ = some (.int .u8 (x1.toNat : Int)) := (HLOW.out.cell (p := ⟨b, o + 1, none⟩) lb).trans (by simpa using d1)
        have c2 : wr.cell? ⟨b, o + 2, none⟩ = some (.int .u8 (x2.toNat : Int)) := (HLOW.out.cell (p := ⟨b, o + 2, none⟩) lb).trans (by simpa using d2)
        have c3 : wr.cell? ⟨b, o + 3, none⟩ = some (.int .u8 (x3.toNat : Int)) := (HLOW.out.cell (p := ⟨b, o + 3, none⟩) lb).trans (by simpa using d3)
        have tw := two_or x0 x1
        have tx := two_or x2 x3
        have l0 := x0.toNat_lt
        have l1 := x1.toNat_lt
        have l2 := x2.toNat_lt
        have l3 := x3.toNat_lt
        have hkk : (x0.toNat : Int) * 256 + (x1.toNat : Int) = (K : Int) := by omega
        have hll : (x2.toNat : Int) * 256 + (x3.toNat : Int) = (L : Int) := by omega
        rw [hkk] at tw
        rw [hll] at tx
        have p0 : (0 : Int) ≤ (x0.toNat : Int) := by omega
        have p1 : (0 : Int) ≤ (x1.toNat : Int) := by omega
        have p2 : (0 : Int) ≤ (x2.toNat : Int) := by omega
        have p3 : (0 : Int) ≤ (x3.toNat : Int) := by omega
        have lt0 : (x0.toNat : Int) ≤ 255 := by omega
        have lt1 : (x1.toNat : Int) ≤ 255 := by omega
        have lt2 : (x2.toNat : Int) ≤ 255 := by omega
        have lt3 : (x3.toNat : Int) ≤ 255 := by omega
        have hK5 : K ≤ 65535 := by omega
        have hL5 : L ≤ 65535 := by omega
        have HK := hid hK
        have HLL := hid hL
        clear h01 h23 d0 d1 d2 d3 hkk hll l0 l1 l2 l3 hK hL
        generalize (x0.toNat : Int) = y0 at *
        generalize (x1.toNat : Int) = y1 at *
        generalize (x2.toNat : Int) = y2 at *
        generalize (x3.toNat : Int) = y3 at *
        have v0 : IntKind.i64.wrap y0 = y0 := IntWalk.i64_in _ (by omega)
        have v01 : IntKind.i64.wrap (y0 * 256) = y0 * 256 := IntWalk.i64_in _ (by omega)
        have v1 : IntKind.i64.wrap y1 = y1 := IntWalk.i64_in _ (by omega)
        have v2 : IntKind.i64.wrap y2 = y2 := IntWalk.i64_in _ (by omega)
        have v21 : IntKind.i64.wrap (y2 * 256) = y2 * 256 := IntWalk.i64_in _ (by omega)
        have v3 : IntKind.i64.wrap y3 = y3 := IntWalk.i64_in _ (by omega)
        have j0 : (0 : Int) < (n : Int) := by omega
        have j1 : (1 : Int) < (n : Int) := by omega
        have j2 : (2 : Int) < (n : Int) := by omega
        have j3 : (3 : Int) < (n : Int) := by omega
        have k0 : 0 < n := by omega
        have k1 : 1 < n := by omega
        have k2 : 2 < n := by omega
        have k3 : 3 < n := by omega
        obtain ⟨o4, C4, hs4, r4⟩ := slice_lowB hR (i := 4) (by omega) (a := 4) rfl
        have R4 := hid r4
        clear hR hl r4
        by_cases hLn : n - 4 < L
        · have q0 : ((n - 4 : Nat) : Int) < (L : Int) := by omega
          have q1 : decide (((n - 4 : Nat) : Int) < (L : Int)) = true := decide_eq_true q0
          have hfin : optsP m0 = none := by rw [hO.out, optsP_long (by rw [HL.out]; omega) (by rw [HL.out, HLL.out]; omega)]; rfl
          have HF := hid hfin
          clear hfin
          go_wp2_with fail
          go_region_held3 (fun w' => w'.cell? ⟨b, o, none⟩ = some (.int .u8 y0) ∧ w'.cell? ⟨b, o + 1, none⟩ = some (.int .u8 y1) ∧ w'.cell? ⟨b, o + 2, none⟩ = some (.int .u8 y2) ∧ w'.cell? ⟨b, o + 3, none⟩ = some (.int .u8 y3)) (go_keep) (fail)
          all_goals go_wp2
          all_goals go_ret2
          all_goals exact ⟨by have := HLOW.out; (repeat' (first | (with_reducible exact Below.refl _ _) | (with_reducible assumption) | (with_reducible refine below_ext0 ?_ _ _) | (with_reducible refine below_alloc0 ?_ _) | (with_reducible refine Below.ext ?_ ?_ _ _) | (with_reducible refine Below.alloc ?_ ?_ _) | (with_reducible refine Below.setCell ?_ ?_ _) | (with_reducible refine Below.drew ?_) | (with_reducible refine below_draws ?_ _) | go_size | (simp [size_ext]; done) | (simp [size_ext]; omega))), .inl ⟨HF.out, rfl⟩⟩
        · have q0 : ¬ ((n - 4 : Nat) : Int) < (L : Int) := by omega
          have q1 : decide (((n - 4 : Nat) : Int) < (L : Int)) = false := decide_eq_false q0
          have hc4 := R4.out.cap
          obtain ⟨o5, C5, hs5, r5⟩ := slice_lowB R4.out (i := L) (by omega) (a := (L : Int)) rfl
          have r6 := R4.out.take (k := L) (by omega)
          have CB := hid fun w' (hb : Below w.heap.size w w') => clone_rd (r6.below hb) (by omega)
          have hst := optsP_step (b := m) (by rw [HL.out, HLL.out]; omega)
          rw [HK.out, HLL.out] at hst
          have hO2 : optsP m0 = (optsP (m.drop (4 + L))).map ((os ++ [((K : Int), (m.drop 4).take L, ())]) ++ ·) := by
            rw [hO.out, hst]
            cases optsP (m.drop (4 + L)) <;> simp
          have HO2 := hid hO2
          have R5 := hid (show Rd u8R w w.heap.size (some ⟨b, o5, none⟩) (n - 4 - L) C5 (m.drop (4 + L)) by rw [← List.drop_drop]; exact r5)
          obtain ⟨cs, hro, hrr, hrf⟩ := HROW.out
          have HRO := hid hro
          have HRR := hid hrr
          have HRF := hid hrf
          have ab1 : (os.length + 1) * 32 ≤ 140737488355328 := by omega
          have ab2 : os.length + 1 ≤ maxLen := by unfold maxLen; omega
          have u0 : (0 : Int) ≤ (L : Int) := by omega
          have u1 : (L : Int) ≤ (C4 : Int) := by omega
          have u2 : L ≤ C4 := by omega
          clear hst hO2 r5 r6 hro hrr hrf
          go_wp2_with fail
          go_region_held3 (fun w' => w'.cell? ⟨b, o, none⟩ = some (.int .u8 y0) ∧ w'.cell? ⟨b, o + 1, none⟩ = some (.int .u8 y1) ∧ w'.cell? ⟨b, o + 2, none⟩ = some (.int .u8 y2) ∧ w'.cell? ⟨b, o + 3, none⟩ = some (.int .u8 y3)) (go_keep) (fail)
          all_goals
            go_wp2_with (first
              | (go_at_call 62; have _t := tk1; (with_reducible refine (CB.out _ (by have := HLOW.out; (repeat' (first | (with_reducible exact Below.refl _ _) | (with_reducible assumption) | (with_reducible refine below_ext0 ?_ _ _) | (with_reducible refine below_alloc0 ?_ _) | (with_reducible refine Below.ext ?_ ?_ _ _) | (with_reducible refine Below.alloc ?_ ?_ _) | (with_reducible refine Below.setCell ?_ ?_ _) | (with_reducible refine Below.drew ?_) | (with_reducible refine below_draws ?_ _) | go_size | (simp [size_ext]; done) | (simp [size_ext]; omega))))).mono ?_); rintro e w1 ⟨A1, c1', rfl, hr, hb⟩; have HB1 := hid (Below.trans (by (repeat' (first | (with_reducible exact Below.refl _ _) | (with_reducible assumption) | (with_reducible refine below_ext0 ?_ _ _) | (with_reducible refine below_alloc0 ?_ _) | (with_reducible refine Below.ext ?_ ?_ _ _) | (with_reducible refine Below.alloc ?_ ?_ _) | (with_reducible refine Below.setCell ?_ ?_ _) | (with_reducible refine Below.drew ?_) | (with_reducible refine below_draws ?_ _) | go_size | (simp [size_ext]; done) | (simp [size_ext]; omega)))) hb : Below wr.heap.size wr w1); have z1 := hb.size; have RD := hid hr; clear hr hb tk1)
              | (at_builtin; have _t := tk2; go_must (refine wpList_row near_o el_o zo_d HRO.out HRR.out HRF.out (((K : Int), (m.drop 4).take L, ()) : OT) [.int .i64 (K : Int), .slice A1 L c1'] rfl _ _ rfl rfl rfl (by have := HB1.out; (repeat' (first | (with_reducible exact Below.refl _ _) | (with_reducible assumption) | (with_reducible refine below_ext0 ?_ _ _) | (with_reducible refine below_alloc0 ?_ _) | (with_reducible refine Below.ext ?_ ?_ _ _) | (with_reducible refine Below.alloc ?_ ?_ _) | (with_reducible refine Below.setCell ?_ ?_ _) | (with_reducible refine Below.drew ?_) | (with_reducible refine below_draws ?_ _) | go_size | (simp [size_ext]; done) | (simp [size_ext]; omega)))) (src_blk (m := 1) (size := 2) (t := 105) (cs := #[.int .i64 (K : Int), .slice A1 L c1']) (Blk.new' _ _ (by first | rfl | (simp [size_ext]; done) | (simp [size_ext]; omega))) rfl (by simp [Value.oneCell'])) (rel_o (by unfold I64; omega) (RD.out.later (by (repeat' (first | (with_reducible exact Below.refl _ _) | (with_reducible assumption) | (with_reducible refine below_ext0 ?_ _ _) | (with_reducible refine below_alloc0 ?_ _) | (with_reducible refine Below.ext ?_ ?_ _ _) | (with_reducible refine Below.alloc ?_ ?_ _) | (with_reducible refine Below.setCell ?_ ?_ _) | (with_reducible refine Below.drew ?_) | (with_reducible refine below_draws ?_ _) | go_size | (simp [size_ext]; done) | (simp [size_ext]; omega)))))) (by simp [not_d_slice, not_d_int]) ab1 ab2 zw ?_); intro v9 w9 row9 ha9; have HL9 := hid (app_low HRO.out ha9 (by have := HB1.out; (repeat' (first | (with_reducible exact Below.refl _ _) | (with_reducible assumption) | (with_reducible refine below_ext0 ?_ _ _) | (with_reducible refine below_alloc0 ?_ _) | (with_reducible refine Below.ext ?_ ?_ _ _) | (with_reducible refine Below.alloc ?_ ?_ _) | (with_reducible refine Below.setCell ?_ ?_ _) | (with_reducible refine Below.drew ?_) | (with_reducible refine below_draws ?_ _) | go_size | (simp [size_ext]; done) | (simp [size_ext]; omega)))) HLOW.out (Nat.le_refl _) zw); have ROW9 := hid row9; clear row9 ha9 tk2))
            go_roundg (n - 4 - L)
            case measure => omega
            case rel => exact ⟨some ⟨b, o5, none⟩, n - 4 - L, C5, m.drop (4 + L), os ++ [((K : Int), (m.drop 4).take L, ())], v9, rfl, rfl, rfl, R5.out, HO2, by simp; omega, ROW9.out, HL9.out⟩
end Go.Proofs.YtfihedcobopbcaaDoor
/- edns.Find: where nothing is told, where something is. -/
namespace Go.Proofs.YtfihedcobopbcaaDoor
open Go.RowKit
set_option linter.unusedVariables false
set_option linter.unusedSimpArgs false

/-- what a message tells: size, code, version, do, z, options -/
structure OptX where
  size : Int
  code : Int
  ver : Int
  dob : Bool
  z : Int
@[reducible] def optC (x : OptX) (V : Value) : Array Value := #[.int .i64 x.size, .int .i64 x.code, .int .i64 x.ver, .bool x.dob, .int .i64 x.z, V]
abbrev opt0 : OptX := ⟨0, 0, 0, false, 0⟩
def ttlX (c L : Int) : OptX := ⟨c, L / 16777216, L / 65536 % 256, L / 32768 % 2 == 1, L % 32768⟩
theorem slice_lowR {w : World} {B n c i g o : Nat} {m : List RecT} (hM : Rd recR w B (some ⟨g, o, none⟩) n c m) (hi : i ≤ n) {a : Int} (ha : a = (i : Int)) :
    ∃ o' C, (∀ w' : World, (Instr.slice 26 (.slice (some ⟨g, o, none⟩) n c) (some (.int .i64 a)) none none).run Tryd.prog w' = .ok (.slice (some ⟨g, o', none⟩) (n - i) C) w') ∧ Rd recR w B (some ⟨g, o', none⟩) (n - i) C (m.drop i) := by
  subst ha
  have hcap := hM.cap
  have hlim := hM.lim
  have hmx := hM.max
  rw [show recR.bs = 72 from rfl] at hlim
  have hsz : (Tryd.prog.info? 67).map (·.size) = some 5 := by kernel_rfl
  have hl := hM.len
  by_cases hc : c = i
  · refine ⟨o, 0, ?_, ?_⟩
    · intro w'
      obtain rfl : n = i := by omega
      subst hc
      simp [Instr.slice, Instr.sliceBounds, Instr.sliceBound, go_sem, Tryd.underlying26]
    · have e : n - i = 0 := by omega
      rw [e]
      exact ⟨by rw [List.length_drop]; omega, Nat.le_refl _, by simp [maxLen], by simp, fun e => (by cases e), fun i hi => by rw [List.length_drop] at hi; omega⟩
  · refine ⟨o + i * 5, c - i, ?_, ⟨by rw [List.length_drop, hl], by omega, by omega, by rw [show recR.bs = 72 from rfl]; omega, fun e => (by cases e), fun j hj => ?_⟩⟩
    · intro w'
      simp [Instr.slice, Instr.sliceBounds, Instr.sliceBound, go_sem, Tryd.underlying26, hi, hc]
    · rw [List.length_drop] at hj
      obtain ⟨b, off, vs, e, hb, hr, hcl⟩ := hM.at_ (i + j) (by omega)
      cases e
      refine ⟨g, o + i * 5, vs, rfl, hb, by rw [List.getElem_drop]; exact hr, fun k u hu => ?_⟩
      have := hcl k u hu
      rw [show recR.k = 5 from rfl] at this ⊢
      rw [show o + i * 5 + j * 5 + k = o + (i + j) * 5 + k by rw [Nat.add_mul]; omega]
      exact this
theorem res_find {tmps : Array Value} {W : World} {r : Nat} {T : TypeId} {x : OptX} {V b e : Value} (h2 : tmps[2]? = some (.pointer (some ⟨r, 0, none⟩))) (h3 : tmps[3]? = some b) (h4 : tmps[4]? = some e) (hB : Blk W r T (optC x V)) :
    (results Tryd.f14 tmps).run Tryd.prog W = .ok (.tuple #[.agg (optC x V), b, e]) W := by
  have k0 : W.cell? ⟨r, 0, none⟩ = some (.int .i64 x.size) := hB.cell 0
  have k1 : W.cell? ⟨r, 1, none⟩ = some (.int .i64 x.code) := hB.cell 1
  have k2 : W.cell? ⟨r, 2, none⟩ = some (.int .i64 x.ver) := hB.cell 2
  have k3 : W.cell? ⟨r, 3, none⟩ = some (.bool x.dob) := hB.cell 3
  have k4 : W.cell? ⟨r, 4, none⟩ = some (.int .i64 x.z) := hB.cell 4
  have k5 : W.cell? ⟨r, 5, none⟩ = some V := hB.cell 5
  simp [results, Tryd.results14, go_sem, h2, h3, h4, k0, k1, k2, k3, k4, k5]
theorem opt_over {w : World} {g : Nat} {T : TypeId} {x : OptX} {V : Value} (y : OptX) (V2 : Value) (hB : Blk w g T (optC x V)) : Blk ((((((w.setCell ⟨g, 0, none⟩ (.int .i64 y.size)).setCell ⟨g, 1, none⟩ (.int .i64 y.code)).setCell ⟨g, 2, none⟩ (.int .i64 y.ver)).setCell ⟨g, 3, none⟩ (.bool y.dob)).setCell ⟨g, 4, none⟩ (.int .i64 y.z)).setCell ⟨g, 5, none⟩ V2) g T (optC y V2) := by
  have := (((((hB.set 0 (.int .i64 y.size)).set 1 (.int .i64 y.code)).set 2 (.int .i64 y.ver)).set 3 (.bool y.dob)).set 4 (.int .i64 y.z)).set 5 V2
  simpa [optC] using this
theorem and_lowI {L : Int} (h0 : 0 ≤ L) (h1 : L ≤ 4294967295) : bits .and .i64 (L / 65536) 255 = L / 65536 % 256 ∧ bits .and .i64 (L / 32768) 1 = L / 32768 % 2 ∧ bits .and .i64 L 32767 = L % 32768 := by
  obtain ⟨t, rfl⟩ : ∃ t : Nat, L = t := ⟨L.toNat, by omega⟩
  have a1 := and64 (t / 65536) 255 (by omega) (by omega)
  have a2 := and64 (t / 32768) 1 (by omega) (by omega)
  have a3 := and64 t 32767 (by omega) (by omega)
  rw [show (255 : Nat) = 2 ^ 8 - 1 from rfl, and_low] at a1
  rw [show (1 : Nat) = 2 ^ 1 - 1 from rfl, and_low] at a2
  rw [show (32767 : Nat) = 2 ^ 15 - 1 from rfl, and_low] at a3
  simp only [Int.natCast_ediv, Int.natCast_emod] at a1 a2 a3
  exact ⟨a1, a2, a3⟩

/-- nothing is told -/
theorem find_none {w : World} {h : Hd} {Aq Ax Ay Az : Option Addr} {nq cq nx cx ny cy nz cz : Nat} {zs : List RecT} (hZ : Rd recR w w.heap.size Az nz cz zs) (hn : ∀ r ∈ zs, isOpt r = false) :
    Calls Tryd.prog 14 #[.agg (msgC h (.slice Aq nq cq) (.slice Ax nx cx) (.slice Ay ny cy) (.slice Az nz cz))] w fun e w' => e = .returned (.tuple #[.agg (optC opt0 (.slice none 0 0)), .bool false, .nilIface]) ∧ Below w.heap.size w w' := by
  have CI : ∀ w', Below w.heap.size w w' → _ := fun w' (hb : Below w.heap.size w w') => indexFunc_any w' Az nz cz zs (hZ.later hb)
  have hi : idxO zs 0 = -1 := by
    rcases idxO_or zs 0 with ⟨h1, _⟩ | ⟨i, hi, _, h2, _⟩
    · exact h1
    · rw [hn _ (List.getElem_mem hi)] at h2; cases h2
  rw [hi] at CI
  have CI := hid CI
  clear hi hn hZ
  have tk0 : True := trivial; have tk1 : True := trivial; have tk2 : True := trivial; have tk3 : True := trivial; have tk4 : True := trivial; have tk5 : True := trivial; have tk6 : True := trivial; have tk7 : True := trivial; have tk8 : True := trivial; have tk9 : True := trivial; have tk10 : True := trivial; have tk11 : True := trivial; have tk12 : True := trivial
  go_enter Tryd.func14, Tryd.ntmps14
  go_wp2_with (first
    | (go_at_call 45; have _t := tk1; (with_reducible refine (CI.out _ (by (repeat' (first | (with_reducible exact Below.refl _ _) | (with_reducible assumption) | (with_reducible refine below_ext0 ?_ _ _) | (with_reducible refine below_alloc0 ?_ _) | (with_reducible refine Below.ext ?_ ?_ _ _) | (with_reducible refine Below.alloc ?_ ?_ _) | (with_reducible refine Below.setCell ?_ ?_ _) | (with_reducible refine Below.drew ?_) | (with_reducible refine below_draws ?_ _) | go_size | (simp [size_ext]; done) | (simp [size_ext]; omega))))).mono ?_); rintro e w1 ⟨rfl, hb⟩; have kz := (Blk.below (Blk.new' _ _ (by first | rfl | (simp [size_ext]; done) | (simp [size_ext]; omega))) hb (by first | omega | (simp [size_ext]; done) | (simp [size_ext]; omega)) : Blk w1 (w.heap.size + 1) 46 (optC opt0 (.slice none 0 0))); have KZ := hid kz; have HB1 := hid (Below.trans (by (repeat' (first | (with_reducible exact Below.refl _ _) | (with_reducible assumption) | (with_reducible refine below_ext0 ?_ _ _) | (with_reducible refine below_alloc0 ?_ _) | (with_reducible refine Below.ext ?_ ?_ _ _) | (with_reducible refine Below.alloc ?_ ?_ _) | (with_reducible refine Below.setCell ?_ ?_ _) | (with_reducible refine Below.drew ?_) | (with_reducible refine below_draws ?_ _) | go_size | (simp [size_ext]; done) | (simp [size_ext]; omega)))) (hb.mono (by first | omega | (simp [size_ext]; done) | (simp [size_ext]; omega))) : Below w.heap.size w w1); have zz := kz.lt; have z0 : (w1).cell? ⟨w.heap.size + 1, 0, none⟩ = some (.int .i64 (opt0).size) := (kz).cell 0; have z1 : (w1).cell? ⟨w.heap.size + 1, 1, none⟩ = some (.int .i64 (opt0).code) := (kz).cell 1; have z2 : (w1).cell? ⟨w.heap.size + 1, 2, none⟩ = some (.int .i64 (opt0).ver) := (kz).cell 2; have z3 : (w1).cell? ⟨w.heap.size + 1, 3, none⟩ = some (.bool (opt0).dob) := (kz).cell 3; have z4 : (w1).cell? ⟨w.heap.size + 1, 4, none⟩ = some (.int .i64 (opt0).z) := (kz).cell 4; have z5 : (w1).cell? ⟨w.heap.size + 1, 5, none⟩ = some (.slice none 0 0) := (kz).cell 5; have f0 : (w1).frozen? ⟨w.heap.size + 1, 0, none⟩ = false := (kz).frozen 0; have f1 : (w1).frozen? ⟨w.heap.size + 1, 1, none⟩ = false := (kz).frozen 1; have f2 : (w1).frozen? ⟨w.heap.size + 1, 2, none⟩ = false := (kz).frozen 2; have f3 : (w1).frozen? ⟨w.heap.size + 1, 3, none⟩ = false := (kz).frozen 3; have f4 : (w1).frozen? ⟨w.heap.size + 1, 4, none⟩ = false := (kz).frozen 4; have f5 : (w1).frozen? ⟨w.heap.size + 1, 5, none⟩ = false := (kz).frozen 5; clear hb kz tk1))
  refine bodyPost_ret (res_find rfl rfl rfl (opt_over opt0 (.slice none 0 0) KZ.out)) rfl ⟨rfl, ?_⟩
  have hlw := HB1.out
  (repeat' (first | (with_reducible exact Below.refl _ _) | (with_reducible assumption) | (with_reducible refine below_ext0 ?_ _ _) | (with_reducible refine below_alloc0 ?_ _) | (with_reducible refine Below.ext ?_ ?_ _ _) | (with_reducible refine Below.alloc ?_ ?_ _) | (with_reducible refine Below.setCell ?_ ?_ _) | (with_reducible refine Below.drew ?_) | (with_reducible refine below_draws ?_ _) | go_size | (simp [size_ext]; done) | (simp [size_ext]; omega)))

theorem optsP_len : ∀ (b : List UInt8) (os : List OT), optsP b = some os → os.length * 4 ≤ b.length := by
  intro b
  induction b using optsP.induct with
  | case1 b h0 => intro os h; rw [optsP, dif_pos h0] at h; cases h; simp
  | case2 b h0 h1 => intro os h; rw [optsP_short h0 h1] at h; cases h
  | case3 b h0 h1 h2 => intro os h; rw [optsP_long h1 h2] at h; cases h
  | case4 b h0 h1 h2 h3 ih => intro os h; rw [optsP_step h2, h3] at h; cases h
  | case5 b h0 h1 h2 os' h3 ih =>
    intro os h
    rw [optsP_step h2, h3] at h
    simp only [Option.map_some, Option.some.injEq] at h
    subst h
    have := ih os' h3
    rw [List.length_drop] at this
    simp only [List.length_cons]
    omega
theorem options_yes {w : World} {A0 : Option Addr} {n0 c0 : Nat} {m0 : List UInt8} (hM : Rd u8R w w.heap.size A0 n0 c0 m0) (hlim : n0 * 8 ≤ 140737488355328) {os : List OT} (ho : optsP m0 = some os) {k : Nat} (hk : os.length = k) :
    Calls Tryd.prog 48 #[.slice A0 n0 c0] w fun e w' => ∃ A c, e = .returned (.tuple #[.slice A k c, .nilIface]) ∧ Row oR 105 w' w.heap.size (.slice A k c) os ∧ Below w.heap.size w w' := by
  refine (options_any hM hlim).mono ?_
  rintro e w' ⟨hb, ⟨h1, _⟩ | ⟨os', A, c, h1, h2, h3, _⟩⟩
  · rw [ho] at h1; cases h1
  · rw [ho] at h1
    cases h1
    subst hk
    exact ⟨A, c, h2, h3, hb⟩
theorem find_end {w w3 wf : World} {v : Value → Value} {A5 : Option Addr} {k c5 : Nat} {os : List OT} (hg : w3.grownBy wf (some (w.heap.size + 1))) (hz : Blk w3 (w.heap.size + 1) 46 (optC opt0 (.slice none 0 0))) (hrow : Row oR 105 w3 (w.heap.size + 2) (.slice A5 k c5) os) (hk : os.length = k) (hl : k * 32 ≤ 140737488355328) (hlow : Below w.heap.size w w3) :
    ∃ A c, Ending.returned (v (.slice A5 k c5)) = .returned (v (.slice A k c)) ∧ Rd oR wf wf.heap.size A k c os ∧ Below w.heap.size w wf := by
  have hzl := hz.lt
  have hf : FreeB IsD w3 (w.heap.size + 1) := FreeB.of_blk hz (by simp [not_d_slice, not_d_int, not_d_bool])
  obtain ⟨A', c', e, hr⟩ := (hrow.grown near_o hg hf (by omega)).rd (Nat.le_trans hzl hg.size) (by rw [hk, show oR.bs = 32 from rfl]; exact hl) (by decide)
  rw [hk] at e hr
  cases e
  exact ⟨_, _, rfl, hr, hlow.trans ((grown_belowB hg (by omega)).mono (by omega))⟩
set_option maxRecDepth 100000 in
set_option maxHeartbeats 8000000 in
theorem find_ok {w : World} {h : Hd} {Aq Ax Ay Az : Option Addr} {nq cq nx cx ny cy nz cz : Nat} {zs : List RecT} (hZ : Rd recR w w.heap.size Az nz cz zs) {i : Nat} (hi : i < nz) (hx : idxO zs 0 = (i : Int)) {T C L : Int} {d : List UInt8} (hr : zs[i]'(by rw [hZ.len]; exact hi) = ([], T, C, L, d, ())) (hC : 0 ≤ C ∧ C ≤ 65535) (hL : 0 ≤ L ∧ L ≤ 4294967295)
    (hno : (zs.drop (i + 1)).any isOpt = false) {os : List OT} (ho : optsP d = some os) (hd : d.length * 8 ≤ 140737488355328) {k : Nat} (hk : os.length = k) :
    Calls Tryd.prog 14 #[.agg (msgC h (.slice Aq nq cq) (.slice Ax nx cx) (.slice Ay ny cy) (.slice Az nz cz))] w fun e w' => ∃ A c, e = .returned (.tuple #[.agg (optC (ttlX C L) (.slice A k c)), .bool true, .nilIface]) ∧ Rd oR w' w'.heap.size A k c os ∧ Below w.heap.size w w' := by
  have CI := fun w' (hb : Below w.heap.size w w') => indexFunc_any w' Az nz cz zs (hZ.later hb)
  rw [hx] at CI
  replace CI := hid CI
  obtain ⟨b, o, A3, n3, c3, A4, n4, c4, l1, T1, C1, L1, d1, rfl, hb1, e1, x0, x1, x2, x3, x4, r1, _, s1⟩ := hZ.recd i hi
  rw [hr] at e1
  cases e1
  have hcap := hZ.cap
  have hmx := hZ.max
  unfold maxLen at hmx
  obtain ⟨o4, C4, hs4, r4⟩ := slice_lowR hZ (i := i + 1) (by omega) (a := (i : Int) + 1) (by omega)
  have CC := fun w' (hb : Below w.heap.size w w') => containsFunc_any w' _ _ _ _ (r4.later hb)
  rw [hno] at CC
  replace CC := hid CC
  have CO := hid fun w' (hb : Below w.heap.size w w') => options_yes (s1.later hb) (by rw [← s1.len]; exact hd) ho hk
  obtain rfl : n3 = 0 := by rw [← r1.len]; rfl
  have HOS := hid (show os.length = k ∧ k * 32 ≤ 140737488355328 from ⟨hk, by have := optsP_len _ _ ho; omega⟩)
  obtain ⟨a1, a2, a3⟩ := and_lowI hL.1 hL.2
  obtain ⟨c0, c1⟩ := hC
  obtain ⟨l0, l1⟩ := hL
  clear hx hr hno ho hd hk r1 r4 s1 hZ
  have s0 : ¬ (i : Int) < 0 := by omega
  have s1 : decide ((i : Int) < 0) = false := decide_eq_false s0
  have v1 : IntKind.i64.wrap ((i : Int) + 1) = (i : Int) + 1 := IntWalk.i64_in _ (by omega)
  have i0 : (0 : Int) ≤ (i : Int) := by omega
  have i1 : (i : Int) < (nz : Int) := by omega
  have u0 : ¬ C < 0 := by omega
  have u1 : decide (C < 0) = false := decide_eq_false u0
  have u2 : ¬ 65535 < C := by omega
  have u3 : decide (65535 < C) = false := decide_eq_false u2
  have u4 : ¬ L < 0 := by omega
  have u5 : decide (L < 0) = false := decide_eq_false u4
  have u6 : ¬ 0 < L / 4294967296 := by omega
  have u7 : decide (0 < L / 4294967296) = false := decide_eq_false u6
  have tk0 : True := trivial; have tk1 : True := trivial; have tk2 : True := trivial; have tk3 : True := trivial; have tk4 : True := trivial; have tk5 : True := trivial; have tk6 : True := trivial; have tk7 : True := trivial; have tk8 : True := trivial; have tk9 : True := trivial; have tk10 : True := trivial; have tk11 : True := trivial; have tk12 : True := trivial
  go_enter Tryd.func14, Tryd.ntmps14
  go_wp2_with (first
    | (go_at_call 45; have _t := tk1; (with_reducible refine (CI.out _ (by (repeat' (first | (with_reducible exact Below.refl _ _) | (with_reducible assumption) | (with_reducible refine below_ext0 ?_ _ _) | (with_reducible refine below_alloc0 ?_ _) | (with_reducible refine Below.ext ?_ ?_ _ _) | (with_reducible refine Below.alloc ?_ ?_ _) | (with_reducible refine Below.setCell ?_ ?_ _) | (with_reducible refine Below.drew ?_) | (with_reducible refine below_draws ?_ _) | go_size | (simp [size_ext]; done) | (simp [size_ext]; omega))))).mono ?_); rintro e w1 ⟨rfl, hb⟩; have kx := (Blk.below (by ((repeat' (first | (with_reducible assumption) | (with_reducible refine Blk.drew ?_) | exact Blk.new' _ _ (by first | rfl | (simp [size_ext]; done) | (simp [size_ext]; omega)) | (with_reducible refine Blk.ext ?_ _ _) | (with_reducible refine Blk.alloc ?_ _))); (all_goals fail))) hb (by first | omega | (simp [size_ext]; done) | (simp [size_ext]; omega)) : Blk w1 w.heap.size 28 (msgC h (.slice Aq nq cq) (.slice Ax nx cx) (.slice Ay ny cy) (.slice (some ⟨b, o, none⟩) nz cz))); have kz := (Blk.below (Blk.new' _ _ (by first | rfl | (simp [size_ext]; done) | (simp [size_ext]; omega))) hb (by first | omega | (simp [size_ext]; done) | (simp [size_ext]; omega)) : Blk w1 (w.heap.size + 1) 46 (optC opt0 (.slice none 0 0))); have q14 : w1.cell? ⟨w.heap.size, 14, none⟩ = some (.slice (some ⟨b, o, none⟩) nz cz) := kx.cell 14; have KX := hid kx; have KZ := hid kz; have HB1 := hid (Below.trans (by (repeat' (first | (with_reducible exact Below.refl _ _) | (with_reducible assumption) | (with_reducible refine below_ext0 ?_ _ _) | (with_reducible refine below_alloc0 ?_ _) | (with_reducible refine Below.ext ?_ ?_ _ _) | (with_reducible refine Below.alloc ?_ ?_ _) | (with_reducible refine Below.setCell ?_ ?_ _) | (with_reducible refine Below.drew ?_) | (with_reducible refine below_draws ?_ _) | go_size | (simp [size_ext]; done) | (simp [size_ext]; omega)))) (hb.mono (by first | omega | (simp [size_ext]; done) | (simp [size_ext]; omega))) : Below w.heap.size w w1); have zz := kz.lt; clear hb kx kz tk1)
    | (go_at_call 47; have _t := tk2; (with_reducible refine (CC.out _ HB1.out).mono ?_); rintro e w2 ⟨rfl, hb⟩; have kx := KX.out.below hb (by omega); have kz := KZ.out.below hb zz; have HB2 := hid (HB1.out.trans (hb.mono HB1.out.size)); have q14 : w2.cell? ⟨w.heap.size, 14, none⟩ = some (.slice (some ⟨b, o, none⟩) nz cz) := kx.cell 14; have y0 := (HB2.out.cell (p := ⟨b, o + i * 5, none⟩) hb1).trans x0; have y1 := (HB2.out.cell (p := ⟨b, o + i * 5 + 1, none⟩) hb1).trans x1; have y2 := (HB2.out.cell (p := ⟨b, o + i * 5 + 2, none⟩) hb1).trans x2; have y3 := (HB2.out.cell (p := ⟨b, o + i * 5 + 3, none⟩) hb1).trans x3; have y4 := (HB2.out.cell (p := ⟨b, o + i * 5 + 4, none⟩) hb1).trans x4; have KZ2 := hid kz; have zz2 := kz.lt; clear hb kx kz tk2)
    | (go_at_call 48; have _t := tk3; (with_reducible refine (CO.out _ (by have := HB2.out; (repeat' (first | (with_reducible exact Below.refl _ _) | (with_reducible assumption) | (with_reducible refine below_ext0 ?_ _ _) | (with_reducible refine below_alloc0 ?_ _) | (with_reducible refine Below.ext ?_ ?_ _ _) | (with_reducible refine Below.alloc ?_ ?_ _) | (with_reducible refine Below.setCell ?_ ?_ _) | (with_reducible refine Below.drew ?_) | (with_reducible refine below_draws ?_ _) | go_size | (simp [size_ext]; done) | (simp [size_ext]; omega))))).mono ?_); rintro e w3 ⟨A5, c5, rfl, hrd, hb⟩; have kr := (Blk.below (Blk.new _ _ _) hb (by first | omega | (simp [size_ext]; done) | (simp [size_ext]; omega)) : Blk w3 w2.heap.size 67 #[.slice A3 0 c3, .int .i64 T, .int .i64 C, .int .i64 L, .slice A4 n4 c4]); have kz := (Blk.below (by have := KZ2.out; ((repeat' (first | (with_reducible assumption) | (with_reducible refine Blk.drew ?_) | exact Blk.new' _ _ (by first | rfl | (simp [size_ext]; done) | (simp [size_ext]; omega)) | (with_reducible refine Blk.ext ?_ _ _) | (with_reducible refine Blk.alloc ?_ _))); (all_goals fail))) hb (by first | omega | (simp [size_ext]; done) | (simp [size_ext]; omega)) : Blk w3 (w.heap.size + 1) 46 (optC opt0 (.slice none 0 0))); have HB3 := hid (Below.trans (by have := HB2.out; (repeat' (first | (with_reducible exact Below.refl _ _) | (with_reducible assumption) | (with_reducible refine below_ext0 ?_ _ _) | (with_reducible refine below_alloc0 ?_ _) | (with_reducible refine Below.ext ?_ ?_ _ _) | (with_reducible refine Below.alloc ?_ ?_ _) | (with_reducible refine Below.setCell ?_ ?_ _) | (with_reducible refine Below.drew ?_) | (with_reducible refine below_draws ?_ _) | go_size | (simp [size_ext]; done) | (simp [size_ext]; omega)))) (hb.mono (by have := HB2.out.size; simp; omega)) : Below w.heap.size w w3); have k2 : w3.cell? ⟨w2.heap.size, 2, none⟩ = some (.int .i64 C) := kr.cell 2; have k3 : w3.cell? ⟨w2.heap.size, 3, none⟩ = some (.int .i64 L) := kr.cell 3; have RO := hid (hrd.less (base' := w.heap.size + 2) (by first | omega | (simp [size_ext]; done) | (simp [size_ext]; omega))); have KZ3 := hid kz; have zz3 := kz.lt; have z0 : (w3).cell? ⟨w.heap.size + 1, 0, none⟩ = some (.int .i64 (opt0).size) := (kz).cell 0; have z1 : (w3).cell? ⟨w.heap.size + 1, 1, none⟩ = some (.int .i64 (opt0).code) := (kz).cell 1; have z2 : (w3).cell? ⟨w.heap.size + 1, 2, none⟩ = some (.int .i64 (opt0).ver) := (kz).cell 2; have z3 : (w3).cell? ⟨w.heap.size + 1, 3, none⟩ = some (.bool (opt0).dob) := (kz).cell 3; have z4 : (w3).cell? ⟨w.heap.size + 1, 4, none⟩ = some (.int .i64 (opt0).z) := (kz).cell 4; have z5 : (w3).cell? ⟨w.heap.size + 1, 5, none⟩ = some (.slice none 0 0) := (kz).cell 5; have f0 : (w3).frozen? ⟨w.heap.size + 1, 0, none⟩ = false := (kz).frozen 0; have f1 : (w3).frozen? ⟨w.heap.size + 1, 1, none⟩ = false := (kz).frozen 1; have f2 : (w3).frozen? ⟨w.heap.size + 1, 2, none⟩ = false := (kz).frozen 2; have f3 : (w3).frozen? ⟨w.heap.size + 1, 3, none⟩ = false := (kz).frozen 3; have f4 : (w3).frozen? ⟨w.heap.size + 1, 4, none⟩ = false := (kz).frozen 4; have f5 : (w3).frozen? ⟨w.heap.size + 1, 5, none⟩ = false := (kz).frozen 5; clear hb kr kz hrd tk3))
  refine bodyPost_ret (res_find rfl rfl rfl (opt_over (ttlX C L) (.slice A5 k c5) KZ3.out)) rfl (find_end (v := fun V => .tuple #[.agg (optC (ttlX C L) V), .bool true, .nilIface]) ?_ KZ3.out RO.out HOS.out.1 HOS.out.2 HB3.out)
  repeat (first | (with_reducible exact grown_refl _ _) | (with_reducible refine World.grownBy.trans ?_ (grown_set _ _)))
end Go.Proofs.YtfihedcobopbcaaDoor
/- edns.Set, plain: what is wrong, the record that tells; is a number within. -/
namespace Go.Proofs.YtfihedcobopbcaaDoor
open Go.RowKit
set_option linter.unusedVariables false
set_option linter.unusedSimpArgs false

theorem within_any (n m : Int) (w : World) : Calls Tryd.prog 54 #[.int .i64 n, .int .i64 m] w fun e w' => e = .returned (.bool (decide (0 ≤ n ∧ n ≤ m))) ∧ Below w.heap.size w w' := by
  by_cases h1 : 0 ≤ n
  · have d1 : decide (0 ≤ n) = true := decide_eq_true h1
    by_cases h2 : n ≤ m
    · have d2 : decide (n ≤ m) = true := decide_eq_true h2
      have HD := hid (decide_eq_true (And.intro h1 h2))
      go_enter Tryd.func54, Tryd.ntmps54
      go_wp2
      go_ret
      exact ⟨by first | rfl | (rw [HD.out]; rfl), (by (repeat' (first | (with_reducible exact Below.refl _ _) | (with_reducible assumption) | (with_reducible refine below_ext0 ?_ _ _) | (with_reducible refine below_alloc0 ?_ _) | (with_reducible refine Below.ext ?_ ?_ _ _) | (with_reducible refine Below.alloc ?_ ?_ _) | (with_reducible refine Below.setCell ?_ ?_ _) | (with_reducible refine Below.drew ?_) | (with_reducible refine below_draws ?_ _) | go_size | (simp [size_ext]; done) | (simp [size_ext]; omega))))⟩
    · have d2 : decide (n ≤ m) = false := decide_eq_false h2
      have HD := hid (decide_eq_false (fun h : 0 ≤ n ∧ n ≤ m => h2 h.2))
      go_enter Tryd.func54, Tryd.ntmps54
      go_wp2
      go_ret
      exact ⟨by first | rfl | (rw [HD.out]; rfl), (by (repeat' (first | (with_reducible exact Below.refl _ _) | (with_reducible assumption) | (with_reducible refine below_ext0 ?_ _ _) | (with_reducible refine below_alloc0 ?_ _) | (with_reducible refine Below.ext ?_ ?_ _ _) | (with_reducible refine Below.alloc ?_ ?_ _) | (with_reducible refine Below.setCell ?_ ?_ _) | (with_reducible refine Below.drew ?_) | (with_reducible refine below_draws ?_ _) | go_size | (simp [size_ext]; done) | (simp [size_ext]; omega))))⟩
  · have d1 : decide (0 ≤ n) = false := decide_eq_false h1
    have HD := hid (decide_eq_false (fun h : 0 ≤ n ∧ n ≤ m => h1 h.1))
    go_enter Tryd.func54, Tryd.ntmps54
    go_wp2
    go_ret
    exact ⟨by first | rfl | (rw [HD.out]; rfl), (by (repeat' (first | (with_reducible exact Below.refl _ _) | (with_reducible assumption) | (with_reducible refine below_ext0 ?_ _ _) | (with_reducible refine below_alloc0 ?_ _) | (with_reducible refine Below.ext ?_ ?_ _ _) | (with_reducible refine Below.alloc ?_ ?_ _) | (with_reducible refine Below.setCell ?_ ?_ _) | (with_reducible refine Below.drew ?_) | (with_reducible refine below_draws ?_ _) | go_size | (simp [size_ext]; done) | (simp [size_ext]; omega))))⟩
theorem within_yes {n m : Int} (h : 0 ≤ n ∧ n ≤ m) (w : World) : Calls Tryd.prog 54 #[.int .i64 n, .int .i64 m] w fun e w' => e = .returned (.bool true) ∧ Below w.heap.size w w' := by
  have := within_any n m w
  rwa [decide_eq_true h] at this
theorem within_no {n m : Int} (h : ¬ (0 ≤ n ∧ n ≤ m)) (w : World) : Calls Tryd.prog 54 #[.int .i64 n, .int .i64 m] w fun e w' => e = .returned (.bool false) ∧ Below w.heap.size w w' := by
  have := within_any n m w
  rwa [decide_eq_false h] at this

def optB (o : OT) : List UInt8 := two2 o.1 ++ (two2 (o.2.1.length : Int) ++ o.2.1)
def dataO (os : List OT) : List UInt8 := (os.map optB).flatten
def optsErr : List OT → Int
  | [] => 0
  | o :: os => if 0 ≤ o.1 ∧ o.1 ≤ 65535 then (if o.2.1.length ≤ 65535 then optsErr os else 7) else 6
structure OptOk (x : OptX) : Prop where
  size : 0 ≤ x.size ∧ x.size ≤ 65535
  code : 0 ≤ x.code ∧ x.code ≤ 255
  ver : 0 ≤ x.ver ∧ x.ver ≤ 255
  z : 0 ≤ x.z ∧ x.z ≤ 32767
open Classical in
noncomputable def setErr (x : OptX) (os : List OT) : Int :=
  if OptOk x then (if optsErr os = 0 then (if (dataO os).length ≤ 65535 then 0 else 7) else optsErr os) else 6
/-- the TTL -/
def ttl1 (x : OptX) : Int := x.code * 16777216 + x.ver * 65536 + x.z
def ttl2 (x : OptX) : Int := x.code * 16777216 + x.ver * 65536 + (if x.dob then 32768 else 0) + x.z
def recO (x : OptX) (os : List OT) : RecT := ([], 41, x.size, ttl2 x, dataO os, ())
theorem or_disj (a b k : Nat) (hb : b < 2 ^ k) : a * 2 ^ k ||| b = a * 2 ^ k + b := by
  rw [Nat.mul_comm, ← Nat.two_pow_add_eq_or_of_lt hb]
theorem ttl1_bits {x : OptX} (h : OptOk x) : bits .or .i64 (bits .or .i64 (x.code * 16777216) (x.ver * 65536)) x.z = ttl1 x := by
  obtain ⟨_, ⟨c0, c1⟩, ⟨v0, v1⟩, ⟨z0, z1⟩⟩ := h
  obtain ⟨c, hc⟩ : ∃ c : Nat, x.code = c := ⟨x.code.toNat, by omega⟩
  obtain ⟨v, hv⟩ : ∃ v : Nat, x.ver = v := ⟨x.ver.toNat, by omega⟩
  obtain ⟨z, hz⟩ : ∃ z : Nat, x.z = z := ⟨x.z.toNat, by omega⟩
  unfold ttl1
  rw [hc, hv, hz]
  have e1 : ((c : Int) * 16777216) = ((c * 16777216 : Nat) : Int) := by omega
  have e2 : ((v : Int) * 65536) = ((v * 65536 : Nat) : Int) := by omega
  rw [e1, e2, or64 _ _ (by omega) (by omega)]
  have h1 : c * 16777216 ||| v * 65536 = (c * 256 + v) * 65536 := by
    have := or_disj c (v * 65536) 24 (by omega)
    rw [show (2 : Nat) ^ 24 = 16777216 from rfl] at this
    rw [this]; omega
  have h2 : (c * 256 + v) * 65536 ||| z = (c * 256 + v) * 65536 + z := by
    have := or_disj (c * 256 + v) z 16 (by omega)
    rwa [show (2 : Nat) ^ 16 = 65536 from rfl] at this
  rw [h1, or64 _ _ (by omega) (by omega), h2]
  omega
theorem ttl2_bits {x : OptX} (h : OptOk x) (hd : x.dob = true) : bits .or .i64 (ttl1 x) 32768 = ttl2 x := by
  obtain ⟨_, ⟨c0, c1⟩, ⟨v0, v1⟩, ⟨z0, z1⟩⟩ := h
  obtain ⟨c, hc⟩ : ∃ c : Nat, x.code = c := ⟨x.code.toNat, by omega⟩
  obtain ⟨v, hv⟩ : ∃ v : Nat, x.ver = v := ⟨x.ver.toNat, by omega⟩
  obtain ⟨z, hz⟩ : ∃ z : Nat, x.z = z := ⟨x.z.toNat, by omega⟩
  unfold ttl1 ttl2
  rw [hc, hv, hz, hd, if_pos rfl]
  have e1 : (c : Int) * 16777216 + (v : Int) * 65536 + (z : Int) = (((c * 256 + v) * 65536 + z : Nat) : Int) := by omega
  rw [e1, show (32768 : Int) = ((32768 : Nat) : Int) from rfl, or64 _ _ (by omega) (by omega)]
  have h1 : (c * 256 + v) * 65536 + z ||| 32768 = (c * 256 + v) * 65536 + 32768 + z := by
    have a1 := or_disj (c * 256 + v) z 16 (by omega)
    have a2 := or_disj (c * 256 + v) (32768 + z) 16 (by omega)
    have a3 := or_disj 1 z 15 (by omega)
    rw [show (2 : Nat) ^ 16 = 65536 from rfl] at a1 a2
    rw [show 1 * (2 : Nat) ^ 15 = 32768 from rfl] at a3
    rw [← a1, Nat.or_assoc, Nat.or_comm z 32768, a3, a2]
    omega
  rw [h1]
  omega
end Go.Proofs.YtfihedcobopbcaaDoor
/- edns.Set: what it hands back. -/
namespace Go.Proofs.YtfihedcobopbcaaDoor
open Go.RowKit
set_option linter.unusedVariables false
set_option linter.unusedSimpArgs false
theorem set_end {w w9 wf : World} {h : Hd} {qs : List QT} {xs ys zs : List RecT} {Aq Ax Ay Az A9 : Option Addr} {nq cq nx cx ny cy nz cz n9 c9 base : Nat} (hg : (w9.setCell ⟨w.heap.size, 14, none⟩ (.slice A9 n9 c9)).grownBy wf (some (w.heap.size + 2)))
    (kx : Blk w9 w.heap.size 28 (msgC h (.slice Aq nq cq) (.slice Ax nx cx) (.slice Ay ny cy) (.slice Az nz cz))) (kz : Blk w9 (w.heap.size + 2) 28 (msgC hd0 (.slice none 0 0) (.slice none 0 0) (.slice none 0 0) (.slice none 0 0)))
    (rq : Row qR 65 w9 base (.slice Aq nq cq) qs) (rx : Row recR 67 w9 base (.slice Ax nx cx) xs) (ry : Row recR 67 w9 base (.slice Ay ny cy) ys) (rz : Row recR 67 w9 base (.slice A9 n9 c9) zs)
    (lq : qs.length = nq ∧ nq * 40 ≤ 140737488355328) (lx : xs.length = nx ∧ nx * 72 ≤ 140737488355328) (ly : ys.length = ny ∧ ny * 72 ≤ 140737488355328) (lz : zs.length = n9 ∧ n9 * 72 ≤ 140737488355328) (bb : w.heap.size + 3 ≤ base) (hb : base ≤ w9.heap.size) (low : Below w.heap.size w w9) :
    (Rd qR wf wf.heap.size Aq nq cq qs ∧ Rd recR wf wf.heap.size Ax nx cx xs ∧ Rd recR wf wf.heap.size Ay ny cy ys ∧ Rd recR wf wf.heap.size A9 n9 c9 zs) ∧ Below w.heap.size w wf := by
  have hz4 := kz.lt
  have hf1 := FreeB.grown_msg kx (not_d_slice _ _ _) (not_d_slice _ _ _) (not_d_slice _ _ _) (not_d_slice _ _ _)
  have kz2 : Blk (w9.setCell ⟨w.heap.size, 14, none⟩ (.slice A9 n9 c9)) (w.heap.size + 2) 28 (msgC hd0 (.slice none 0 0) (.slice none 0 0) (.slice none 0 0) (.slice none 0 0)) := kz.far (by simp only; omega) _
  have hf2 := FreeB.grown_msg kz2 (not_d_slice _ _ _) (not_d_slice _ _ _) (not_d_slice _ _ _) (not_d_slice _ _ _)
  have gs := grown_set (w := w9) (g := w.heap.size) 14 (.slice A9 n9 c9)
  have hbf : base ≤ wf.heap.size := Nat.le_trans (by simpa using hb) hg.size
  obtain ⟨_, _, eq, r1⟩ := ((rq.grown near_q gs hf1 (by omega)).grown near_q hg hf2 (by omega)).rd hbf (by rw [lq.1, show qR.bs = 40 from rfl]; exact lq.2) (by decide)
  obtain ⟨_, _, ex, r2⟩ := ((rx.grown near_rec gs hf1 (by omega)).grown near_rec hg hf2 (by omega)).rd hbf (by rw [lx.1, show recR.bs = 72 from rfl]; exact lx.2) (by decide)
  obtain ⟨_, _, ey, r3⟩ := ((ry.grown near_rec gs hf1 (by omega)).grown near_rec hg hf2 (by omega)).rd hbf (by rw [ly.1, show recR.bs = 72 from rfl]; exact ly.2) (by decide)
  obtain ⟨_, _, ez, r4⟩ := ((rz.grown near_rec gs hf1 (by omega)).grown near_rec hg hf2 (by omega)).rd hbf (by rw [lz.1, show recR.bs = 72 from rfl]; exact lz.2) (by decide)
  rw [lq.1] at eq r1
  rw [lx.1] at ex r2
  rw [ly.1] at ey r3
  rw [lz.1] at ez r4
  cases eq
  cases ex
  cases ey
  cases ez
  exact ⟨⟨r1, r2, r3, r4⟩, (low.setCell (Nat.le_refl _) _).trans ((grown_belowB hg (by simp; omega)).mono (by omega))⟩
end Go.Proofs.YtfihedcobopbcaaDoor
/- Rows of the call's own whose elements lead to what lay there before: appends of rows and of literals, in plain regions and in such as draw. -/
namespace Go.Proofs.YtfihedcobopbcaaDoor
open Go.RowKit
set_option linter.unusedVariables false
set_option linter.unusedSimpArgs false

/-- a row that lies at the base or behind it; its elements lead below B -/
structure OwnR {α : Type} (R : Rep α) (e : TypeId) (B base : Nat) (w : World) (v : Value) (l : List α) : Prop where
  ex : ∃ xs, w.ownsRow base e R.k v l.length xs ∧ Rels R w B l xs
  lo : B ≤ base
  le : base ≤ w.heap.size
/-- a source: it reads as m, below B -/
structure SrcR {α : Type} (R : Rep α) (B : Nat) (w : World) (A : Option Addr) (n c : Nat) (m : List α) : Prop where
  ex : ∃ ys, Src w A n c R.k ys ∧ Rels R w B m ys
  len : m.length = n
section
variable {α : Type} {P : Program} {R : Rep α} {e t : TypeId} {bytes B base : Nat} {w w' : World} {v v' : Value} {l m : List α}
theorem OwnR.nil (hB : B ≤ base) (h : base ≤ w.heap.size) : OwnR R e B base w (.slice none 0 0) [] := ⟨⟨[], World.ownsRow_nil w base e R.k, Rels.nil⟩, hB, h⟩
theorem OwnR.empty {g : Nat} (hg : g = w.heap.size) (hB : B ≤ base) (hb : base ≤ g) : OwnR R e B base (w.alloc (.cells #[] e)) (.slice (some ⟨g, 0, none⟩) 0 0) ([] : List α) :=
  ⟨⟨[], own_lit #[] [] hg hb (by simp) (by decide) rfl, Rels.nil⟩, hB, by subst hg; simp; omega⟩
theorem OwnR.ofBlk {g : Nat} (hg : Blk w g e #[]) (hB : B ≤ base) (hb : base ≤ g) : OwnR R e B base w (.slice (some ⟨g, 0, none⟩) 0 0) ([] : List α) :=
  ⟨⟨[], ⟨by simp, .inr ⟨g, 0, #[], rfl, hb, hg, Nat.le_refl _, by decide, by simp, by simp⟩⟩, Rels.nil⟩, hB, by have := hg.lt; omega⟩
theorem OwnR.below (h : OwnR R e B base w v l) (hb : Below w.heap.size w w') : OwnR R e B base w' v l := by
  obtain ⟨⟨xs, h1, h2⟩, h0, h3⟩ := h
  exact ⟨⟨xs, own_low h1 hb (Nat.le_refl _), h2.below (hb.mono (Nat.le_trans h0 h3))⟩, h0, Nat.le_trans h3 hb.size⟩
theorem OwnR.drew (h : OwnR R e B base w v l) : OwnR R e B base w.drew v l := by
  obtain ⟨⟨xs, h1, h2⟩, h0, h3⟩ := h
  exact ⟨⟨xs, h1.drew, h2.keep (w' := w.drew) (Nat.le_refl _) (fun _ _ => rfl)⟩, h0, h3⟩
/-- a store between what the elements lead to and the row -/
theorem OwnR.set (h : OwnR R e B base w v l) {k : Nat} (h1 : B ≤ k) (h2 : k < base) (i : Nat) (s : Option Nat) (u : Value) : OwnR R e B base (w.setCell ⟨k, i, s⟩ u) v l := by
  obtain ⟨⟨xs, h4, h5⟩, h0, h3⟩ := h
  refine ⟨⟨xs, own_far h4 h2 u, h5.keep (Nat.le_refl _) fun p hp => World.cell?_of_block (Below.heap_setCell w _ u p.block (by simp only; omega))⟩, h0, by simpa using h3⟩
theorem OwnR.app {xs ys : List Value} (h2 : Rels R w B l xs) (h1 : w.ownsRow base e R.k v l.length xs) (hB : B ≤ base) (hle : base ≤ w.heap.size) (hm : Rels R w B m ys) (ho : w'.ownsRow base e R.k v' (l.length + m.length) (xs ++ ys)) (ha : AppTo w w' v v') : OwnR R e B base w' v' (l ++ m) := by
  have hb := (ha.below h1 hle).mono hB
  exact ⟨⟨xs ++ ys, by rw [List.length_append]; exact ho, (h2.below hb).append (hm.below hb)⟩, hB, Nat.le_trans hle ha.grown.size⟩
theorem OwnR.rd (h : OwnR R e B base w v l) (hlim : l.length * R.bs ≤ 140737488355328) (hk : 0 < R.k) : ∃ A c, v = .slice A l.length c ∧ Rd R w w.heap.size A l.length c l := by
  obtain ⟨⟨xs, h1, h2⟩, h0, h3⟩ := h
  exact rd_of_own h1 h2 rfl (Nat.le_trans h0 h3) hlim hk
theorem OwnR.slice (h : OwnR R e B base w v l) : ∃ A c, v = .slice A l.length c := by
  obtain ⟨⟨xs, h1, h2⟩, h3⟩ := h
  obtain ⟨A, c, e, _⟩ := own_slice h1
  exact ⟨A, c, e⟩
theorem OwnR.slice' {n : Nat} (h : OwnR R e B base w v l) (hn : l.length = n) : ∃ A c, v = .slice A n c := by subst hn; exact h.slice
theorem OwnR.rd' {n : Nat} {A : Option Addr} {c : Nat} (h : OwnR R e B base w (.slice A n c) l) (hn : l.length = n) (hlim : n * R.bs ≤ 140737488355328) (hk : 0 < R.k) : Rd R w w.heap.size A n c l := by
  subst hn
  obtain ⟨A', c', e, hr⟩ := h.rd hlim hk
  cases e
  exact hr
theorem SrcR.below {A : Option Addr} {n c : Nat} (h : SrcR R B w A n c m) (hb : Below w.heap.size w w') (hle : B ≤ w.heap.size) : SrcR R B w' A n c m := by
  obtain ⟨⟨ys, h1, h2⟩, h3⟩ := h
  exact ⟨⟨ys, h1.later hb, h2.below (hb.mono hle)⟩, h3⟩
theorem SrcR.of {A : Option Addr} {n c : Nat} (h : Rd R w B A n c m) (h1 : ∀ (a : α) vs, R.rel w B a vs → ∀ u ∈ vs, u.oneCell' = true) : SrcR R B w A n c m := by
  obtain ⟨ys, h2, h3⟩ := h.src h1
  exact ⟨⟨ys, h3, h2⟩, h.len⟩
theorem SrcR.u8 {A : Option Addr} {n c : Nat} {m : List UInt8} (h : Rd u8R w B A n c m) : SrcR u8R B w A n c m :=
  SrcR.of h (by rintro a vs rfl u hu; simp at hu; subst hu; rfl)
theorem SrcR.lit {g : Nat} {cs : Array Value} {a : α} {ty : TypeId} (hg : Blk w g ty cs) (hr : R.rel w B a cs.toList) (hu : ∀ u ∈ cs.toList, u.oneCell' = true) : SrcR R B w (some ⟨g, 0, none⟩) 1 1 [a] := by
  have hl := R.len hr
  refine ⟨⟨cs.toList, ⟨by rw [hl]; omega, fun ad ha j u h => ?_, fun h => (by cases h), hu⟩, Rels.one hr⟩, rfl⟩
  cases ha
  have := hg.cell j
  rw [add_none, Nat.zero_add, this]
  simpa using h
theorem wpList_own {w : World} {ops : Array Oper} {rest : List Oper} {o : Oper} {a : Act} {Q : Exit → Act → World → Prop} (E : El P t e R.k bytes) (hgd : o.guard = none) (s x : Operand) (hop : o.op = .call { callee := .builtin .append, args := #[s, x], argTypes := #[t, t] })
    (hs : a.eval s = v) (hv : OwnR R e B base w v l) {A : Option Addr} {n c : Nat} (hx : a.eval x = .slice A n c) (hm : SrcR R B w A n c m) (hbytes : (l.length + n) * bytes ≤ 140737488355328) (h63 : l.length + n ≤ maxLen)
    (h : ∀ v' w', OwnR R e B base w' v' (l ++ m) → Below base w w' → wpList P ops Q rest (a.put o.dst v') w') : wpList P ops Q (o :: rest) a w := by
  obtain ⟨⟨xs, h1, h2⟩, h0, h3⟩ := hv
  obtain ⟨⟨ys, h4, h5⟩, rfl⟩ := hm
  exact wpList_appT hgd s x t hop base e R.k bytes E v l.length xs hs h1 A _ c ys hx h4 hbytes h63 h3 fun v' w' ho ha => h v' w' (OwnR.app h2 h1 h0 h3 h5 ho ha) (ha.below h1 h3)
theorem step_own {w : World} {ops : Array Oper} {o : Oper} {a : Act} {Q : Exit → Act → World → Prop} {K : Act → World → Prop} {F : Prop} (E : El P t e R.k bytes) (hgd : o.guard = none) (s x : Operand) (hop : o.op = .call { callee := .builtin .append, args := #[s, x], argTypes := #[t, t] })
    (hs : a.eval s = v) (hv : OwnR R e B base w v l) {A : Option Addr} {n c : Nat} (hx : a.eval x = .slice A n c) (hm : SrcR R B w A n c m) (hbytes : (l.length + n) * bytes ≤ 140737488355328) (h63 : l.length + n ≤ maxLen)
    (h : ∀ v' w', OwnR R e B base w' v' (l ++ m) → Below base w w' → AppTo w w' v v' → K (a.put o.dst v') w') : if Region.wanted o (yielded ops a.tmps) = true then Oper.wp P o a w K Q else F := by
  obtain ⟨⟨xs, h1, h2⟩, h0, h3⟩ := hv
  obtain ⟨⟨ys, h4, h5⟩, rfl⟩ := hm
  exact step_app hgd s x t hop base e R.k bytes E v l.length xs hs h1 A _ c ys hx h4 hbytes h63 h3 fun v' w' ho hg hv =>
    have ha : AppTo w w' v v' := ⟨hg, hv.imp id fun e => ⟨_, e, Nat.le_refl _⟩⟩
    h v' w' (OwnR.app h2 h1 h0 h3 h5 ho ha) (ha.below h1 h3) ha
/-- a block beside the row -/
theorem AppTo.beside {k g : Nat} {T : TypeId} {cs : Array Value} (ha : AppTo w w' v v') (hk : Blk w k T cs) (hv : v.ownBlock = some g) (hne : k ≠ g) : Blk w' k T cs :=
  (ha.grown.block k hk.lt (fun e => hne (by rw [hv] at e; cases e; rfl))).trans hk
end
end Go.Proofs.YtfihedcobopbcaaDoor
/- Appends onto own rows: what lies beside the row is kept. -/
namespace Go.Proofs.YtfihedcobopbcaaDoor
open Go.RowKit
set_option linter.unusedVariables false
set_option linter.unusedSimpArgs false
section
variable {α : Type} {P : Program} {R : Rep α} {e t : TypeId} {bytes B base : Nat} {w w' : World} {v v' : Value} {l m : List α}
theorem OwnR.blk (h : OwnR R e B base w v l) {g : Nat} (hg : v.ownBlock = some g) : base ≤ g ∧ g < w.heap.size := by
  obtain ⟨⟨xs, h1, h2⟩, _⟩ := h
  exact h1.lt g hg
theorem AppTo.keepB {k : Nat} {T : TypeId} {cs : Array Value} (ha : AppTo w w' v v') (hk : Blk w k T cs) (h : ∀ g, v.ownBlock = some g → g ≠ k) : Blk w' k T cs :=
  (ha.grown.block k hk.lt (fun e => h k e.symm rfl)).trans hk
theorem wpList_ownT {w : World} {ops : Array Oper} {rest : List Oper} {o : Oper} {a : Act} {Q : Exit → Act → World → Prop} (E : El P t e R.k bytes) (hgd : o.guard = none) (s x : Operand) (hop : o.op = .call { callee := .builtin .append, args := #[s, x], argTypes := #[t, t] })
    (hs : a.eval s = v) (hv : OwnR R e B base w v l) {A : Option Addr} {n c : Nat} (hx : a.eval x = .slice A n c) (hm : SrcR R B w A n c m) (hbytes : (l.length + n) * bytes ≤ 140737488355328) (h63 : l.length + n ≤ maxLen)
    (h : ∀ v' w', OwnR R e B base w' v' (l ++ m) → Below base w w' → AppTo w w' v v' → wpList P ops Q rest (a.put o.dst v') w') : wpList P ops Q (o :: rest) a w := by
  obtain ⟨⟨xs, h1, h2⟩, h0, h3⟩ := hv
  obtain ⟨⟨ys, h4, h5⟩, rfl⟩ := hm
  exact wpList_appT hgd s x t hop base e R.k bytes E v l.length xs hs h1 A _ c ys hx h4 hbytes h63 h3 fun v' w' ho ha => h v' w' (OwnR.app h2 h1 h0 h3 h5 ho ha) (ha.below h1 h3) ha
theorem SrcR.lit8 {g n : Nat} {T : TypeId} {cs : Array Value} {l : List UInt8} (hg : Blk w g T cs) (hl : cs.toList = bytesV l) (hn : l.length = n) : SrcR u8R B w (some ⟨g, 0, none⟩) n n l := by
  subst hn
  refine ⟨⟨bytesV l, ⟨by show (bytesV l).length = l.length * 1; simp [bytesV], fun ad ha j u h => ?_, fun h => (by cases h), one_u8 l⟩, rels_u8.2 rfl⟩, rfl⟩
  cases ha
  have := hg.cell j
  rw [add_none, Nat.zero_add, this, ← Array.getElem?_toList, hl]
  exact h
end
end Go.Proofs.YtfihedcobopbcaaDoor
/- edns.Set: its loop's frame, what lies behind Drop. -/
namespace Go.Proofs.YtfihedcobopbcaaDoor
open Go.RowKit
set_option linter.unusedVariables false
set_option linter.unusedSimpArgs false

theorem Rd.opt {w : World} {B n c : Nat} {A : Option Addr} {os : List OT} (h : Rd oR w B A n c os) (k : Nat) (hk : k < n) :
    ∃ b o C A3 n3 c3 d, A = some ⟨b, o, none⟩ ∧ b < B ∧ os[k]'(by rw [h.len]; exact hk) = (C, d, ()) ∧ w.cell? ⟨b, o + k * 2, none⟩ = some (.int .i64 C) ∧ w.cell? ⟨b, o + k * 2 + 1, none⟩ = some (.slice A3 n3 c3) ∧ Rd u8R w B A3 n3 c3 d ∧ I64 C := by
  have hk' : k < os.length := by rw [h.len]; exact hk
  obtain ⟨b, o, vs, e, hb, hr, hc⟩ := h.at_ k hk'
  rcases hq : os[k] with ⟨C, d, u⟩
  rw [hq] at hr
  obtain ⟨_, _, rfl, ⟨rfl, h2⟩, _, _, rfl, ⟨A3, n3, c3, rfl, h1⟩, rfl⟩ := hr
  exact ⟨b, o, C, A3, n3, c3, d, e, hb, rfl, hc 0 _ rfl, hc 1 _ rfl, h1, h2⟩
theorem dataO_take (os : List OT) {k : Nat} (hk : k < os.length) : dataO (os.take (k + 1)) = dataO (os.take k) ++ optB os[k] := by
  unfold dataO
  rw [List.take_succ_eq_append_getElem hk, List.map_append, List.flatten_append]
  simp
theorem dataO_le (os : List OT) (k : Nat) : (dataO (os.take k)).length ≤ (dataO os).length := by
  have : dataO os = dataO (os.take k) ++ dataO (os.drop k) := by unfold dataO; rw [← List.flatten_append, ← List.map_append, List.take_append_drop]
  rw [this, List.length_append]; omega
theorem optsErr_at : ∀ (os : List OT), optsErr os = 0 → ∀ o ∈ os, (0 ≤ o.1 ∧ o.1 ≤ 65535) ∧ o.2.1.length ≤ 65535
  | [], _, o, h => by cases h
  | a :: os, he, o, h => by
    rw [optsErr] at he
    by_cases h1 : 0 ≤ a.1 ∧ a.1 ≤ 65535
    · rw [if_pos h1] at he
      by_cases h2 : a.2.1.length ≤ 65535
      · rw [if_pos h2] at he
        rcases List.mem_cons.1 h with h | h
        · rw [h]; exact ⟨h1, h2⟩
        · exact optsErr_at os he o h
      · rw [if_neg h2] at he; cases he
    · rw [if_neg h1] at he; cases he
theorem four_cells {C n : Int} (h0 : 0 ≤ C) (h1 : C ≤ 65535) (h2 : 0 ≤ n) (h3 : n ≤ 65535) : [Value.int .u8 (C / 256), .int .u8 (C % 256), .int .u8 (n / 256), .int .u8 (n % 256)] = bytesV (two2 C ++ two2 n) := by
  have := q_cells [] C n ⟨h0, h1⟩ ⟨h2, h3⟩
  simpa [bytesV] using this
/-- Set, so many options laid -/
structure SetI (w : World) (gr : Nat) (M O Z : Array Value) (size T2 : Int) (q : List UInt8) (wi : World) (V : Value) : Prop where
  recd : Blk wi gr 67 #[.slice none 0 0, .int .i64 41, .int .i64 size, .int .i64 T2, V]
  own : OwnR u8R 5 w.heap.size (gr + 1) wi V q
  x : Blk wi w.heap.size 28 M
  z : Blk wi (w.heap.size + 2) 28 Z
  low : Below w.heap.size w wi
theorem SetI.step {w wi W w2 : World} {gr : Nat} {M O Z : Array Value} {size T2 : Int} {q q' : List UInt8} {V V2 : Value} (h : SetI w gr M O Z size T2 q wi V) (hgr : w.heap.size + 3 ≤ gr) (hb : Below wi.heap.size wi W) (ho : OwnR u8R 5 w.heap.size (gr + 1) w2 V2 q') (hw : Below (gr + 1) W w2) : SetI w gr M O Z size T2 q' (w2.setCell ⟨gr, 4, none⟩ V2) V2 := by
  have hlt := h.recd.lt
  have hW : Below (gr + 1) wi w2 := (hb.mono (by omega)).trans hw
  refine ⟨?_, ho.set (by omega) (by omega) _ _ _, (h.x.below hW (by omega)).far (by simp only; omega) _, (h.z.below hW (by omega)).far (by simp only; omega) _, ?_⟩
  · simpa using (h.recd.below hW (by omega)).set 4 V2
  · exact (h.low.trans (hW.mono (by omega))).setCell (by simp only; omega) _

theorem OwnR.grown {α : Type} {R : Rep α} {e : TypeId} {B base g : Nat} {w w' : World} {v : Value} {l : List α} (h : OwnR R e B base w v l) (hg : w.grownBy w' (some g)) (h1 : B ≤ g) (h2 : g < base) : OwnR R e B base w' v l := by
  have hne : v.ownBlock = none ∨ v.ownBlock ≠ some g := by
    cases hv : v.ownBlock with
    | none => exact .inl rfl
    | some k => right; have := h.blk hv; intro e; cases e; omega
  obtain ⟨⟨xs, h3, h4⟩, h0, h5⟩ := h
  exact ⟨⟨xs, h3.kept hg hne, h4.keep (Nat.le_refl _) fun p hp => World.cell?_of_block (hg.block p.block (by omega) (fun e => by cases e; omega))⟩, h0, Nat.le_trans h5 hg.size⟩
/-- Set, behind Drop -/
structure SetD (w : World) (gr base : Nat) (h : Hd) (qs : List QT) (xs ys zs : List RecT) (size T2 : Int) (q : List UInt8) (nq nx ny : Nat) (wx : World) (Aq : Option Addr) (cq : Nat) (Ax : Option Addr) (cx : Nat) (Ay : Option Addr) (cy : Nat) (Az : Option Addr) (nz cz : Nat) (V : Value) : Prop where
  x : Blk wx w.heap.size 28 (msgC h (.slice Aq nq cq) (.slice Ax nx cx) (.slice Ay ny cy) (.slice Az nz cz))
  recd : Blk wx gr 67 #[.slice none 0 0, .int .i64 41, .int .i64 size, .int .i64 T2, V]
  z : Blk wx (w.heap.size + 2) 28 (msgC hd0 (.slice none 0 0) (.slice none 0 0) (.slice none 0 0) (.slice none 0 0))
  d : OwnR u8R 5 w.heap.size (gr + 1) wx V q
  rq : Row qR 65 wx base (.slice Aq nq cq) qs
  rx : Row recR 67 wx base (.slice Ax nx cx) xs
  ry : Row recR 67 wx base (.slice Ay ny cy) ys
  rz : Row recR 67 wx base (.slice Az nz cz) (silent zs)
  lq : qs.length = nq ∧ nq * 40 ≤ 140737488355328
  lx : xs.length = nx ∧ nx * 72 ≤ 140737488355328
  ly : ys.length = ny ∧ ny * 72 ≤ 140737488355328
  lz : (silent zs).length = nz
  ap : ∀ g, (Value.slice Az nz cz).ownBlock = some g → (Value.slice Aq nq cq).ownBlock ≠ some g ∧ (Value.slice Ax nx cx).ownBlock ≠ some g ∧ (Value.slice Ay ny cy).ownBlock ≠ some g
  le : base ≤ wx.heap.size
  low : Below w.heap.size w wx
theorem set_drop {w wr w4 wx : World} {gr : Nat} {M : Array Value} {h : Hd} {Q X Y Z' : Value} {qs : List QT} {xs ys zs : List RecT} {size T2 : Int} {q : List UInt8} {nq nx ny nz cq cx cy cz : Nat} {Aq Ax Ay Az : Option Addr} {V : Value} {e : Ending} (hs : SetI w gr M #[] (msgC hd0 (.slice none 0 0) (.slice none 0 0) (.slice none 0 0) (.slice none 0 0)) size T2 q wr V) (hgr : w.heap.size + 3 ≤ gr) (hM : M = msgC h Q X Y Z') (hQ : ∃ a n c, Q = .slice a n c) (hX : ∃ a n c, X = .slice a n c) (hY : ∃ a n c, Y = .slice a n c) (hZ : ∃ a n c, Z' = .slice a n c)
    (hd : DropO wr h qs xs ys zs nq nx ny e w4 Aq cq Ax cx Ay cy Az nz cz) (hg : w4.grownBy wx (some w.heap.size)) (hx : Blk wx w.heap.size 28 (msgC h (.slice Aq nq cq) (.slice Ax nx cx) (.slice Ay ny cy) (.slice Az nz cz))) :
    SetD w gr wr.heap.size h qs xs ys zs size T2 q nq nx ny wx Aq cq Ax cx Ay cy Az nz cz V := by
  obtain ⟨_, rfl⟩ : ∃ u : Unit, M = msgC h Q X Y Z' := ⟨(), hM⟩
  obtain ⟨_, _, _, rfl⟩ := hQ
  obtain ⟨_, _, _, rfl⟩ := hX
  obtain ⟨_, _, _, rfl⟩ := hY
  obtain ⟨_, _, _, rfl⟩ := hZ
  have hb := hd.low
  have l1 := hs.recd.lt
  have l2 := hs.x.lt
  have hf := FreeB.grown_msg (hs.x.below hb l2) (not_d_slice _ _ _) (not_d_slice _ _ _) (not_d_slice _ _ _) (not_d_slice _ _ _)
  exact ⟨hx, blk_grown (hs.recd.below hb l1) hg (by omega), blk_grown (hs.z.below hb (by omega)) hg (by omega), (hs.own.below hb).grown hg (Nat.le_refl _) (by omega), hd.q.grown near_q hg hf l2, hd.x.grown near_rec hg hf l2, hd.y.grown near_rec hg hf l2, hd.z.grown near_rec hg hf l2, hd.lq, hd.lx, hd.ly, hd.lz, hd.ap, Nat.le_trans hb.size hg.size, (hs.low.trans (hb.mono hs.low.size)).trans ((grown_belowB hg (by have := hb.size; omega)))⟩
theorem Row.beside {α β : Type} {R : Rep α} {S : Rep β} (hR : Near IsD R) {t t' : TypeId} {w W w9 : World} {base : Nat} {v V v9 : Value} {l : List α} {m : List β} {cs : List Value} (h : Row R t w base v l) (ho : w.ownsRow base t' S.k V m.length cs) (hf : FreeV IsD w V) (hb : Below w.heap.size w W) (ha : AppTo W w9 V v9) (hne : ∀ g, V.ownBlock = some g → v.ownBlock ≠ some g) : Row R t w9 base v l := by
  have h1 := h.below hR hb
  refine h1.near hR ha.grown ?_ (ha.near (hf.below ho hb))
  cases hv : v.ownBlock with
  | none => exact .inl rfl
  | some k => right; intro e; exact hne k e.symm hv
theorem res_set {tmps : Array Value} {W : World} {r : Nat} {T : TypeId} {h : Hd} {Q X Y Z e : Value} (h2 : tmps[4]? = some (.pointer (some ⟨r, 0, none⟩))) (h3 : tmps[5]? = some e) (hB : Blk W r T (msgC h Q X Y Z)) :
    (results Tryd.f20 tmps).run Tryd.prog W = .ok (.tuple #[.agg (msgC h Q X Y Z), e]) W := by
  have k0 : (W).cell? ⟨r, 0, none⟩ = some (.int .i64 h.id) := (hB).cell 0; have k1 : (W).cell? ⟨r, 1, none⟩ = some (.bool h.an) := (hB).cell 1; have k2 : (W).cell? ⟨r, 2, none⟩ = some (.int .i64 h.op) := (hB).cell 2; have k3 : (W).cell? ⟨r, 3, none⟩ = some (.bool h.aa) := (hB).cell 3; have k4 : (W).cell? ⟨r, 4, none⟩ = some (.bool h.tc) := (hB).cell 4; have k5 : (W).cell? ⟨r, 5, none⟩ = some (.bool h.rd) := (hB).cell 5; have k6 : (W).cell? ⟨r, 6, none⟩ = some (.bool h.ra) := (hB).cell 6; have k7 : (W).cell? ⟨r, 7, none⟩ = some (.bool h.z) := (hB).cell 7; have k8 : (W).cell? ⟨r, 8, none⟩ = some (.bool h.ad) := (hB).cell 8; have k9 : (W).cell? ⟨r, 9, none⟩ = some (.bool h.cd) := (hB).cell 9; have k10 : (W).cell? ⟨r, 10, none⟩ = some (.int .i64 h.code) := (hB).cell 10; have k11 : (W).cell? ⟨r, 11, none⟩ = some (Q) := (hB).cell 11; have k12 : (W).cell? ⟨r, 12, none⟩ = some (X) := (hB).cell 12; have k13 : (W).cell? ⟨r, 13, none⟩ = some (Y) := (hB).cell 13; have k14 : (W).cell? ⟨r, 14, none⟩ = some (Z) := (hB).cell 14
  simp [results, Tryd.results20, go_sem, h2, h3, k0, k1, k2, k3, k4, k5, k6, k7, k8, k9, k10, k11, k12, k13, k14]
end Go.Proofs.YtfihedcobopbcaaDoor
