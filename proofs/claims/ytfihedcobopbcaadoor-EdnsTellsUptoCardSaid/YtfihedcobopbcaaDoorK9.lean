/- edns.Drop: questions cloned. -/
import Derived.Test.YtfihedcobopbcaaDoorK8
import Derived.Lib.SliceRun
import Derived.Deep.DeepCutAuto
namespace Go.Proofs.YtfihedcobopbcaaDoor
open Go.RowKit
set_option linter.unusedVariables false
set_option linter.unusedSimpArgs false

theorem q_one {w : World} {B : Nat} (a : QT) (vs : List Value) (h : qR.rel w B a vs) : ∀ u ∈ vs, u.oneCell' = true ∧ ¬ IsD u := by
  obtain ⟨_, _, rfl, ⟨A, n, c, rfl, h1⟩, _, _, rfl, ⟨rfl, h2⟩, _, _, rfl, ⟨rfl, h3⟩, rfl⟩ := h
  intro u hu
  simp at hu
  rcases hu with rfl | rfl | rfl
  · exact ⟨rfl, not_d_slice _ _ _⟩
  · exact ⟨rfl, not_d_int _⟩
  · exact ⟨rfl, not_d_int _⟩
theorem set_same {w : World} {g i : Nat} {v : Value} {t : TypeId} {cs : Array Value} (hb : Blk w g t cs) (h : cs[i]? = some v) : w.setCell ⟨g, i, none⟩ v = w := by
  have hb' : w.heap[g]? = some (.cells cs t (0, 0)) := hb
  have hi : i < cs.size := by
    rcases Nat.lt_or_ge i cs.size with h1 | h1
    · exact h1
    · rw [Array.getElem?_eq_none h1] at h; cases h
  have hc : cs.setIfInBounds i v = cs := by
    apply Array.ext_getElem?
    intro j
    rw [Array.getElem?_setIfInBounds]
    split
    · rename_i e; subst e; first | rw [if_pos hi, h] | rw [h]
    · rfl
  unfold World.setCell
  congr 1
  apply Array.ext_getElem?
  intro k
  rw [Array.getElem?_modify]
  split
  · rename_i e
    simp only at e
    subst e
    rw [hb']
    simp [hc]
  · rfl
set_option maxRecDepth 100000 in
set_option maxHeartbeats 2000000 in
theorem clone_q {w : World} {A : Option Addr} {n c : Nat} {qs : List QT} (hR : Rd qR w w.heap.size A n c qs) :
    Calls Tryd.prog 49 #[.slice A n c] w fun e w' => ∃ A' c', e = .returned (.slice A' n c') ∧ Row qR 65 w' w.heap.size (.slice A' n c') qs ∧ Below w.heap.size w w' := by
  have he := fun w a n c => Lib.run_eql_slice_nil (P := Tryd.prog) w 25 65 a n c 0 0 Tryd.underlying25
  obtain ⟨ys, hr, hs⟩ := hR.src fun a vs h u hu => (q_one a vs h u hu).1
  have hyd : ∀ u ∈ ys, ¬ IsD u := by
    obtain ⟨vss, hl, rfl, hv⟩ := hr
    intro u hu
    obtain ⟨vs, hvs, hu'⟩ := List.mem_flatten.1 hu
    obtain ⟨i, hi, rfl⟩ := List.getElem_of_mem hvs
    exact (q_one _ _ (hv i (by omega) hi) u hu').2
  have lim := hR.lim
  rw [show qR.bs = 40 from rfl] at lim
  have hlen := hR.len
  have HS := hid hs
  have HRR := hid hr
  have HY := hid hyd
  rcases A with _ | ad
  · have hn : n = 0 ∧ c = 0 := hs.nil rfl
    obtain ⟨rfl, rfl⟩ := hn
    have hl : qs = [] := List.eq_nil_of_length_eq_zero hlen
    subst hl
    clear hR hr hs hyd
    go_enter Tryd.func49, Tryd.ntmps49
    go_wp2
    go_ret
    exact ⟨none, 0, rfl, Row.nil _ _ _ _, Below.refl _ _⟩
  · clear hR hr hs hyd
    subst hlen
    go_enter Tryd.func49, Tryd.ntmps49
    go_wp2_with (at_builtin; refine wpList_appF (K := IsD) rfl _ _ 25 rfl w.heap.size 65 3 40 el_q zq_d (.slice (some ⟨w.heap.size, 0, none⟩) 0 0) 0 [] rfl (own_lit #[] [] rfl (Nat.le_refl _) rfl (by decide) rfl) (FreeV.lit (FreeB.of_blk (Blk.new _ _ _) (by simp))) _ qs.length c ys rfl (HS.out.later ((Below.refl _ _).alloc (Nat.le_refl _) _)) HY.out (by omega) (by unfold maxLen; omega) (by simp) ?_; intro v' w1 ho ha hf)
    obtain ⟨A', c', rfl, _⟩ := own_slice ho
    rw [Nat.zero_add] at *
    go_ret
    have hb : Below w.heap.size w w1 := ((Below.refl _ w).alloc (Nat.le_refl _) _).grown ha.grown (by simp) (by simp [Value.ownBlock])
    exact ⟨A', c', rfl, ⟨ys, (show w1.ownsRow w.heap.size 65 3 (.slice A' qs.length c') qs.length ys by simpa using ho), HRR.out.later hb, hf⟩, hb⟩

theorem store_name {w : World} {g : Nat} {t : TypeId} {cur : Array Value} (hb : Blk w g t cur) {k : Nat} (u : Value) {T C : Int} (h1 : w.cell? ⟨g, k * 3 + 1, none⟩ = some (.int .i64 T)) (h2 : w.cell? ⟨g, k * 3 + 2, none⟩ = some (.int .i64 C)) : w.setCells g (k * 3) [u, .int .i64 T, .int .i64 C] = w.setCell ⟨g, k * 3, none⟩ u := by
  rw [hb.cell] at h1 h2
  have hb1 := hb.set (k * 3) u
  have a1 : (cur.setIfInBounds (k * 3) u)[k * 3 + 1]? = some (.int .i64 T) := by rw [Array.getElem?_setIfInBounds, if_neg (by omega)]; exact h1
  have a2 : (cur.setIfInBounds (k * 3) u)[k * 3 + 1 + 1]? = some (.int .i64 C) := by rw [Array.getElem?_setIfInBounds, if_neg (by omega)]; exact h2
  simp only [World.setCells]
  rw [set_same hb1 a1, set_same hb1 a2]
theorem row_blk {α : Type} {R : Rep α} {t : TypeId} {w : World} {base n c : Nat} {A : Option Addr} {l : List α} (h : Row R t w base (.slice A n c) l) (hn : 0 < n) (hl : l.length = n) : ∃ g cur, A = some ⟨g, 0, none⟩ ∧ base ≤ g ∧ Blk w g t cur := by
  subst hl
  obtain ⟨cs, ho, _, _⟩ := h
  rcases ho.2 with ⟨e, _⟩ | ⟨g', cap', cur, e, hb, hh, _⟩
  · injection e with _ e2 _; omega
  · cases e; exact ⟨g', cur, rfl, hb, hh⟩
theorem Row.blk {α : Type} {R : Rep α} {t : TypeId} {w : World} {base g : Nat} {v : Value} {l : List α} (h : Row R t w base v l) (hg : v.ownBlock = some g) : base ≤ g ∧ g < w.heap.size := by
  obtain ⟨cs, ho, _, _⟩ := h
  exact ho.lt g hg
/-- what Drop hands back -/
structure DropO (w : World) (h : Hd) (qs : List QT) (xs ys zs : List RecT) (nq nx ny : Nat) (e : Ending) (w' : World) (Aq : Option Addr) (cq : Nat) (Ax : Option Addr) (cx : Nat) (Ay : Option Addr) (cy : Nat) (Az : Option Addr) (nz cz : Nat) : Prop where
  ret : e = .returned (.agg (msgC h (.slice Aq nq cq) (.slice Ax nx cx) (.slice Ay ny cy) (.slice Az nz cz)))
  q : Row qR 65 w' w.heap.size (.slice Aq nq cq) qs
  x : Row recR 67 w' w.heap.size (.slice Ax nx cx) xs
  y : Row recR 67 w' w.heap.size (.slice Ay ny cy) ys
  z : Row recR 67 w' w.heap.size (.slice Az nz cz) (silent zs)
  lq : qs.length = nq ∧ nq * 40 ≤ 140737488355328
  lx : xs.length = nx ∧ nx * 72 ≤ 140737488355328
  ly : ys.length = ny ∧ ny * 72 ≤ 140737488355328
  lz : (silent zs).length = nz
  ap : ∀ g, (Value.slice Az nz cz).ownBlock = some g → (Value.slice Aq nq cq).ownBlock ≠ some g ∧ (Value.slice Ax nx cx).ownBlock ≠ some g ∧ (Value.slice Ay ny cy).ownBlock ≠ some g
  low : Below w.heap.size w w'

theorem drop_end {w w4 wf : World} {h : Hd} {qs : List QT} {xs ys zs : List RecT} {A1 AX AY A4 : Option Addr} {k c1 nx cX ny cY n4 c4 nz cz : Nat} {Az : Option Addr} {bz : Nat} (hg : (w4.setCell ⟨w.heap.size, 14, none⟩ (.slice A4 n4 c4)).grownBy wf (some (w.heap.size + 1)))
    (hkx : Blk w4 w.heap.size 28 (msgC h (.slice A1 k c1) (.slice AX nx cX) (.slice AY ny cY) (.slice Az nz cz))) (hkz : Blk w4 (w.heap.size + 1) 28 (msgC hd0 (.slice none 0 0) (.slice none 0 0) (.slice none 0 0) (.slice none 0 0)))
    (hq : Row qR 65 w4 (w.heap.size + 2) (.slice A1 k c1) qs) (hx : Row recR 67 w4 (w.heap.size + 2) (.slice AX nx cX) xs) (hy : Row recR 67 w4 (w.heap.size + 2) (.slice AY ny cY) ys) (hz : Row recR 67 w4 bz (.slice A4 n4 c4) (silent zs))
    (lq : qs.length = k) (lx : xs.length = nx) (ly : ys.length = ny) (lz : (silent zs).length = n4) (bb : w.heap.size + 2 ≤ bz) (aq : ∀ g, (Value.slice A1 k c1).ownBlock = some g → g < bz) (ax : ∀ g, (Value.slice AX nx cX).ownBlock = some g → g < bz) (ay : ∀ g, (Value.slice AY ny cY).ownBlock = some g → g < bz) (mq : k * 40 ≤ 140737488355328) (mx : nx * 72 ≤ 140737488355328) (my : ny * 72 ≤ 140737488355328) (hlow : Below w.heap.size w w4) :
    DropO w h qs xs ys zs k nx ny (.returned (.agg (msgC h (.slice A1 k c1) (.slice AX nx cX) (.slice AY ny cY) (.slice A4 n4 c4)))) wf A1 c1 AX cX AY cY A4 n4 c4 := by
  have hz4 := hkz.lt
  have hf1 := FreeB.grown_msg hkx (not_d_slice _ _ _) (not_d_slice _ _ _) (not_d_slice _ _ _) (not_d_slice _ _ _)
  have hkz2 : Blk (w4.setCell ⟨w.heap.size, 14, none⟩ (.slice A4 n4 c4)) (w.heap.size + 1) 28 (msgC hd0 (.slice none 0 0) (.slice none 0 0) (.slice none 0 0) (.slice none 0 0)) := hkz.far (by simp only; omega) _
  have hf2 := FreeB.grown_msg hkz2 (not_d_slice _ _ _) (not_d_slice _ _ _) (not_d_slice _ _ _) (not_d_slice _ _ _)
  have gs := grown_set (w := w4) (g := w.heap.size) 14 (.slice A4 n4 c4)
  have hbf : w.heap.size + 2 ≤ wf.heap.size := Nat.le_trans (by simp; omega) hg.size
  exact ⟨rfl, ((hq.grown near_q gs hf1 (by omega)).grown near_q hg hf2 (by omega)).less (by omega), ((hx.grown near_rec gs hf1 (by omega)).grown near_rec hg hf2 (by omega)).less (by omega), ((hy.grown near_rec gs hf1 (by omega)).grown near_rec hg hf2 (by omega)).less (by omega), ((hz.grown near_rec gs hf1 (by omega)).grown near_rec hg hf2 (by omega)).less (by omega), ⟨lq, mq⟩, ⟨lx, mx⟩, ⟨ly, my⟩, lz, fun g e => ⟨fun e2 => by have := (hz.blk e).1; have := aq g e2; omega, fun e2 => by have := (hz.blk e).1; have := ax g e2; omega, fun e2 => by have := (hz.blk e).1; have := ay g e2; omega⟩, (hlow.setCell (Nat.le_refl _) _).trans ((grown_belowB hg (by simp; omega)).mono (by omega))⟩
theorem res_drop {tmps : Array Value} {W : World} {r : Nat} {T : TypeId} {h : Hd} {Q X Y Z : Value} (h2 : tmps[2]? = some (.pointer (some ⟨r, 0, none⟩))) (hB : Blk W r T (msgC h Q X Y Z)) :
    (results Tryd.f16 tmps).run Tryd.prog W = .ok (.agg (msgC h Q X Y Z)) W := by
  have k0 : (W).cell? ⟨r, 0, none⟩ = some (.int .i64 h.id) := (hB).cell 0; have k1 : (W).cell? ⟨r, 1, none⟩ = some (.bool h.an) := (hB).cell 1; have k2 : (W).cell? ⟨r, 2, none⟩ = some (.int .i64 h.op) := (hB).cell 2; have k3 : (W).cell? ⟨r, 3, none⟩ = some (.bool h.aa) := (hB).cell 3; have k4 : (W).cell? ⟨r, 4, none⟩ = some (.bool h.tc) := (hB).cell 4; have k5 : (W).cell? ⟨r, 5, none⟩ = some (.bool h.rd) := (hB).cell 5; have k6 : (W).cell? ⟨r, 6, none⟩ = some (.bool h.ra) := (hB).cell 6; have k7 : (W).cell? ⟨r, 7, none⟩ = some (.bool h.z) := (hB).cell 7; have k8 : (W).cell? ⟨r, 8, none⟩ = some (.bool h.ad) := (hB).cell 8; have k9 : (W).cell? ⟨r, 9, none⟩ = some (.bool h.cd) := (hB).cell 9; have k10 : (W).cell? ⟨r, 10, none⟩ = some (.int .i64 h.code) := (hB).cell 10; have k11 : (W).cell? ⟨r, 11, none⟩ = some (Q) := (hB).cell 11; have k12 : (W).cell? ⟨r, 12, none⟩ = some (X) := (hB).cell 12; have k13 : (W).cell? ⟨r, 13, none⟩ = some (Y) := (hB).cell 13; have k14 : (W).cell? ⟨r, 14, none⟩ = some (Z) := (hB).cell 14
  simp [results, Tryd.results16, go_sem, h2, k0, k1, k2, k3, k4, k5, k6, k7, k8, k9, k10, k11, k12, k13, k14]

set_option maxRecDepth 100000 in
set_option maxHeartbeats 8000000 in
theorem drop_any {w : World} {h : Hd} {Aq Ax Ay Az : Option Addr} {nq cq nx cx ny cy nz cz : Nat} {qs : List QT} {xs ys zs : List RecT} (hQ : Rd qR w w.heap.size Aq nq cq qs) (hX : Rd recR w w.heap.size Ax nx cx xs) (hY : Rd recR w w.heap.size Ay ny cy ys) (hZ : Rd recR w w.heap.size Az nz cz zs) :
    Calls Tryd.prog 16 #[.agg (msgC h (.slice Aq nq cq) (.slice Ax nx cx) (.slice Ay ny cy) (.slice Az nz cz))] w fun e w' => ∃ Aq' cq' Ax' cx' Ay' cy' Az' nz' cz', DropO w h qs xs ys zs nq nx ny e w' Aq' cq' Ax' cx' Ay' cy' Az' nz' cz' := by
  have lq := hQ.len
  have limq := hQ.lim
  rw [show qR.bs = 40 from rfl] at limq
  have CQ := hid fun w' (hb : Below w.heap.size w w') => clone_q (hQ.later hb)
  have CX := hid fun w' (hb : Below w.heap.size w w') => copied_any (hX.later hb)
  have CY := hid fun w' (hb : Below w.heap.size w w') => copied_any (hY.later hb)
  have CZ := hid fun w' (hb : Below w.heap.size w w') => copied_any (hZ.later hb)
  have HLQ := hid lq
  have limz := hZ.lim
  have limx := hX.lim
  have limy := hY.lim
  rw [show recR.bs = 72 from rfl] at limz limx limy
  have HLEN := hid (And.intro hX.len (And.intro hY.len hZ.len))
  clear hQ hX hY hZ lq
  have tk0 : True := trivial; have tk1 : True := trivial; have tk2 : True := trivial; have tk3 : True := trivial; have tk4 : True := trivial; have tk5 : True := trivial; have tk6 : True := trivial; have tk7 : True := trivial; have tk8 : True := trivial; have tk9 : True := trivial; have tk10 : True := trivial; have tk11 : True := trivial; have tk12 : True := trivial
  go_enter Tryd.func16, Tryd.ntmps16
  go_wp2_with (first
    | (go_at_call 49; have _t := tk1; (with_reducible refine (CQ.out _ (by (repeat' (first | (with_reducible exact Below.refl _ _) | (with_reducible assumption) | (with_reducible refine below_ext0 ?_ _ _) | (with_reducible refine below_alloc0 ?_ _) | (with_reducible refine Below.ext ?_ ?_ _ _) | (with_reducible refine Below.alloc ?_ ?_ _) | (with_reducible refine Below.setCell ?_ ?_ _) | (with_reducible refine Below.drew ?_) | (with_reducible refine below_draws ?_ _) | go_size | (simp [size_ext]; done) | (simp [size_ext]; omega))))).mono ?_); rintro e w1 ⟨A1, c1, rfl, hrow, hb⟩; have kx := (Blk.below (by ((repeat' (first | (with_reducible assumption) | (with_reducible refine Blk.drew ?_) | exact Blk.new' _ _ (by first | rfl | (simp [size_ext]; done) | (simp [size_ext]; omega)) | (with_reducible refine Blk.ext ?_ _ _) | (with_reducible refine Blk.alloc ?_ _))); (all_goals fail))) hb (by first | omega | (simp [size_ext]; done) | (simp [size_ext]; omega)) : Blk w1 w.heap.size 28 (msgC h (.slice Aq nq cq) (.slice Ax nx cx) (.slice Ay ny cy) (.slice Az nz cz))); have HB1 := hid (Below.trans (by (repeat' (first | (with_reducible exact Below.refl _ _) | (with_reducible assumption) | (with_reducible refine below_ext0 ?_ _ _) | (with_reducible refine below_alloc0 ?_ _) | (with_reducible refine Below.ext ?_ ?_ _ _) | (with_reducible refine Below.alloc ?_ ?_ _) | (with_reducible refine Below.setCell ?_ ?_ _) | (with_reducible refine Below.drew ?_) | (with_reducible refine below_draws ?_ _) | go_size | (simp [size_ext]; done) | (simp [size_ext]; omega)))) (hb.mono (by first | omega | (simp [size_ext]; done) | (simp [size_ext]; omega))) : Below w.heap.size w w1); have ROW := hid (hrow.less (base' := w.heap.size + 2) (by first | omega | (simp [size_ext]; done) | (simp [size_ext]; omega))); have z1 := hb.size; have kz := (Blk.below (by first | exact Blk.new' _ _ (by first | rfl | (simp [size_ext]; done) | (simp [size_ext]; omega)) | ((repeat' (first | (with_reducible assumption) | (with_reducible refine Blk.drew ?_) | exact Blk.new' _ _ (by first | rfl | (simp [size_ext]; done) | (simp [size_ext]; omega)) | (with_reducible refine Blk.ext ?_ _ _) | (with_reducible refine Blk.alloc ?_ _))); (all_goals fail))) hb (by first | omega | (simp [size_ext]; done) | (simp [size_ext]; omega)) : Blk w1 (w.heap.size + 1) 28 (msgC hd0 (.slice none 0 0) (.slice none 0 0) (.slice none 0 0) (.slice none 0 0))); have KX := hid kx; have KZ := hid kz; clear hb kx kz hrow tk1))
  have kz : Blk w1 (w.heap.size + 1) 28 (msgC hd0 (.slice none 0 0) (.slice none 0 0) (.slice none 0 0) (.slice none 0 0)) := KZ.out
  go_loopg [10] nq (fun gk s10 wi => ∃ k : Nat, k ≤ nq ∧ gk = nq - k ∧ s10 = .int .i64 (k : Int) ∧ Row qR 65 wi (w.heap.size + 2) (.slice A1 nq c1) qs ∧ Blk wi w.heap.size 28 (msgC h (.slice Aq nq cq) (.slice Ax nx cx) (.slice Ay ny cy) (.slice Az nz cz)) ∧ Blk wi (w.heap.size + 1) 28 (msgC hd0 (.slice none 0 0) (.slice none 0 0) (.slice none 0 0) (.slice none 0 0)) ∧ Below w.heap.size w wi)
  case atStart => exact ⟨0, Nat.zero_le _, rfl, rfl, ROW.out, KX.out, kz, HB1.out⟩
  case round =>
    obtain ⟨k, hk, rfl, rfl, hrow, hkx, hkz, hlow⟩ := hrel
    have HROW := hid hrow
    have HKX := hid hkx
    have HKZ := hid hkz
    have HLOW := hid hlow
    have zz := hkz.lt
    clear hkx hkz hlow kz KX KZ ROW HB1
    by_cases hlt : k < nq
    · obtain ⟨g, cur, rfl, hbg, hblk⟩ := row_blk hrow (by omega) HLQ.out
      obtain ⟨A', c', e, hR⟩ := hrow.rd (by omega) (by rw [HLQ.out, show qR.bs = 40 from rfl]; exact limq) (by decide)
      rw [HLQ.out] at e hR
      cases e
      obtain ⟨b1, o1, A3, n3, c3, l1, T, C, ea, hb1, e1, x0, x1, x2, r1, i1, i2⟩ := hR.quest k hlt
      cases ea
      simp only [Nat.zero_add] at x0 x1 x2
      have lim3 := r1.lim
      rw [show strR.bs = 16 from rfl] at lim3
      have hset : qs.set k (l1, T, C, ()) = qs := by rw [← e1]; exact List.set_getElem_self _
      have HSET := hid hset
      have HS := hid r1.strs
      have HI := hid (And.intro i1 i2)
      have CS := hid (clone_strs wr A3 n3 c3 l1 _ r1)
      have HBLK := hid hblk
      have f0 := hblk.frozen (k * 3)
      have zg := hblk.lt
      clear hrow hR e1 r1 i1 i2 hset hblk
      have t0 : (k : Int) < (nq : Int) := by omega
      have t1 : decide ((k : Int) < (nq : Int)) = true := decide_eq_true t0
      have t2 : (0 : Int) ≤ (k : Int) := by omega
      have v3 : IntKind.i64.wrap ((k : Int) + 1) = (k : Int) + 1 := IntWalk.i64_in _ (by omega)
      go_wp2_with (first
        | (go_at_call 50; have _t := tk2; (with_reducible refine (CS.out).mono ?_); rintro e w2 ⟨v2, rfl, ho, hb⟩; obtain ⟨A2, c2, rfl, _⟩ := own_slice ho; have RN := hid (rd_own_str ho HS.out hb.size (by omega)); have HB2 := hid hb; have y0 : w2.cell? ⟨g, k * 3, none⟩ = some (.slice A3 n3 c3) := (hb.cell (p := ⟨g, k * 3, none⟩) zg).trans x0; have y1 : w2.cell? ⟨g, k * 3 + 1, none⟩ = some (.int .i64 T) := (hb.cell (p := ⟨g, k * 3 + 1, none⟩) zg).trans x1; have y2 : w2.cell? ⟨g, k * 3 + 2, none⟩ = some (.int .i64 C) := (hb.cell (p := ⟨g, k * 3 + 2, none⟩) zg).trans x2; have g0 : w2.frozen? ⟨g, k * 3, none⟩ = false := (hb.frozen (p := ⟨g, k * 3, none⟩) zg).trans f0; clear ho hb tk2))
      go_roundg (nq - (k + 1))
      case measure => omega
      case rel =>
        have hst := (HROW.out.below near_q HB2.out).store near_q HLQ.out (i := k) hlt (rel_q RN.out HI.out.1 HI.out.2) (by simp [not_d_slice, not_d_int])
        rw [show qR.k = 3 from rfl, store_name (HBLK.out.below HB2.out zg) _ y1 y2, HSET.out] at hst
        refine ⟨k + 1, by omega, rfl, by go_num, hst, ((HKX.out.below HB2.out (by omega)).far (by simp only; omega) _), ((HKZ.out.below HB2.out (by omega)).far (by simp only; omega) _), ?_⟩
        have h1 := HLOW.out.trans (HB2.out.mono HLOW.out.size)
        exact h1.setCell (by simp only; omega) _
    · have t0 : ¬ (k : Int) < (nq : Int) := by omega
      have t1 : decide ((k : Int) < (nq : Int)) = false := decide_eq_false t0
      obtain rfl : k = nq := by omega
      clear hrow
      go_upto_region 7 with fail
      have kx := HKX.out
      have a11 : wr.cell? ⟨w.heap.size, 11, none⟩ = some (.slice Aq k cq) := kx.cell 11
      have a12 : wr.cell? ⟨w.heap.size, 12, none⟩ = some (.slice Ax nx cx) := kx.cell 12
      have a13 : wr.cell? ⟨w.heap.size, 13, none⟩ = some (.slice Ay ny cy) := kx.cell 13
      have zx := kx.lt
      clear kx
      go_cut [3] (fun s3 wx => ∃ AX cX AY cY, s3 = .slice A1 k c1 ∧ Row qR 65 wx (w.heap.size + 2) (.slice A1 k c1) qs ∧ Row recR 67 wx (w.heap.size + 2) (.slice AX nx cX) xs ∧ Row recR 67 wx (w.heap.size + 2) (.slice AY ny cY) ys ∧ Blk wx w.heap.size 28 (msgC h (.slice A1 k c1) (.slice AX nx cX) (.slice AY ny cY) (.slice Az nz cz)) ∧ Blk wx (w.heap.size + 1) 28 (msgC hd0 (.slice none 0 0) (.slice none 0 0) (.slice none 0 0) (.slice none 0 0)) ∧ Below w.heap.size w wx)
      case first =>
        go_region_with (first
          | (go_at_call 51; have _t := tk3; (with_reducible refine (CX.out _ (by first | (have := HBY.out; (repeat' (first | (with_reducible exact Below.refl _ _) | (with_reducible assumption) | (with_reducible refine below_ext0 ?_ _ _) | (with_reducible refine below_alloc0 ?_ _) | (with_reducible refine Below.ext ?_ ?_ _ _) | (with_reducible refine Below.alloc ?_ ?_ _) | (with_reducible refine Below.setCell ?_ ?_ _) | (with_reducible refine Below.drew ?_) | (with_reducible refine below_draws ?_ _) | go_size | (simp [size_ext]; done) | (simp [size_ext]; omega))); done) | (have := HLOW.out; (repeat' (first | (with_reducible exact Below.refl _ _) | (with_reducible assumption) | (with_reducible refine below_ext0 ?_ _ _) | (with_reducible refine below_alloc0 ?_ _) | (with_reducible refine Below.ext ?_ ?_ _ _) | (with_reducible refine Below.alloc ?_ ?_ _) | (with_reducible refine Below.setCell ?_ ?_ _) | (with_reducible refine Below.drew ?_) | (with_reducible refine below_draws ?_ _) | go_size | (simp [size_ext]; done) | (simp [size_ext]; omega))); done))).mono ?_); rintro e wX ⟨AX, cX, rfl, hrow, hb⟩; have kx := (Blk.below (by first | (have := KXY.out; ((repeat' (first | (with_reducible assumption) | (with_reducible refine Blk.drew ?_) | exact Blk.new' _ _ (by first | rfl | (simp [size_ext]; done) | (simp [size_ext]; omega)) | (with_reducible refine Blk.ext ?_ _ _) | (with_reducible refine Blk.alloc ?_ _))); (all_goals fail))) | (have := HKX.out; ((repeat' (first | (with_reducible assumption) | (with_reducible refine Blk.drew ?_) | exact Blk.new' _ _ (by first | rfl | (simp [size_ext]; done) | (simp [size_ext]; omega)) | (with_reducible refine Blk.ext ?_ _ _) | (with_reducible refine Blk.alloc ?_ _))); (all_goals fail)))) hb (by first | omega | (simp [size_ext]; done) | (simp [size_ext]; omega)) : Blk wX w.heap.size 28 (msgC h (.slice Aq k cq) (.slice Ax nx cx) (.slice Ay ny cy) (.slice Az nz cz))); have kz := (Blk.below (by first | (have := KZY.out; ((repeat' (first | (with_reducible assumption) | (with_reducible refine Blk.drew ?_) | exact Blk.new' _ _ (by first | rfl | (simp [size_ext]; done) | (simp [size_ext]; omega)) | (with_reducible refine Blk.ext ?_ _ _) | (with_reducible refine Blk.alloc ?_ _))); (all_goals fail))) | (have := HKZ.out; ((repeat' (first | (with_reducible assumption) | (with_reducible refine Blk.drew ?_) | exact Blk.new' _ _ (by first | rfl | (simp [size_ext]; done) | (simp [size_ext]; omega)) | (with_reducible refine Blk.ext ?_ _ _) | (with_reducible refine Blk.alloc ?_ _))); (all_goals fail)))) hb (by first | omega | (simp [size_ext]; done) | (simp [size_ext]; omega)) : Blk wX (w.heap.size + 1) 28 (msgC hd0 (.slice none 0 0) (.slice none 0 0) (.slice none 0 0) (.slice none 0 0))); have HBX := hid (Below.trans (by first | (have := HBY.out; (repeat' (first | (with_reducible exact Below.refl _ _) | (with_reducible assumption) | (with_reducible refine below_ext0 ?_ _ _) | (with_reducible refine below_alloc0 ?_ _) | (with_reducible refine Below.ext ?_ ?_ _ _) | (with_reducible refine Below.alloc ?_ ?_ _) | (with_reducible refine Below.setCell ?_ ?_ _) | (with_reducible refine Below.drew ?_) | (with_reducible refine below_draws ?_ _) | go_size | (simp [size_ext]; done) | (simp [size_ext]; omega))); done) | (have := HLOW.out; (repeat' (first | (with_reducible exact Below.refl _ _) | (with_reducible assumption) | (with_reducible refine below_ext0 ?_ _ _) | (with_reducible refine below_alloc0 ?_ _) | (with_reducible refine Below.ext ?_ ?_ _ _) | (with_reducible refine Below.alloc ?_ ?_ _) | (with_reducible refine Below.setCell ?_ ?_ _) | (with_reducible refine Below.drew ?_) | (with_reducible refine below_draws ?_ _) | go_size | (simp [size_ext]; done) | (simp [size_ext]; omega))); done)) (hb.mono (by first | omega | (simp [size_ext]; done) | (simp [size_ext]; omega))) : Below w.heap.size w wX); have HAX := hid (Below.trans (by first | (have := HAY.out; (repeat' (first | (with_reducible exact Below.refl _ _) | (with_reducible assumption) | (with_reducible refine below_ext0 ?_ _ _) | (with_reducible refine below_alloc0 ?_ _) | (with_reducible refine Below.ext ?_ ?_ _ _) | (with_reducible refine Below.alloc ?_ ?_ _) | (with_reducible refine Below.setCell ?_ ?_ _) | (with_reducible refine Below.drew ?_) | (with_reducible refine below_draws ?_ _) | go_size | (simp [size_ext]; done) | (simp [size_ext]; omega))); done) | ((repeat' (first | (with_reducible exact Below.refl _ _) | (with_reducible assumption) | (with_reducible refine below_ext0 ?_ _ _) | (with_reducible refine below_alloc0 ?_ _) | (with_reducible refine Below.ext ?_ ?_ _ _) | (with_reducible refine Below.alloc ?_ ?_ _) | (with_reducible refine Below.setCell ?_ ?_ _) | (with_reducible refine Below.drew ?_) | (with_reducible refine below_draws ?_ _) | go_size | (simp [size_ext]; done) | (simp [size_ext]; omega))); done)) (hb.mono (by first | omega | (simp [size_ext]; done) | (simp [size_ext]; omega))) : Below wr.heap.size wr wX); have szX := HAX.out.size; (first | (have HD := hid (Below.trans (by (repeat' (first | (with_reducible exact Below.refl _ _) | (with_reducible assumption) | (with_reducible refine below_ext0 ?_ _ _) | (with_reducible refine below_alloc0 ?_ _) | (with_reducible refine Below.ext ?_ ?_ _ _) | (with_reducible refine Below.alloc ?_ ?_ _) | (with_reducible refine Below.setCell ?_ ?_ _) | (with_reducible refine Below.drew ?_) | (with_reducible refine below_draws ?_ _) | go_size | (simp [size_ext]; done) | (simp [size_ext]; omega))); done) hb : Below wY.heap.size wY wX)) | skip); have ROX := hid (hrow.less (base' := w.heap.size + 2) (by first | omega | (simp [size_ext]; done) | (simp [size_ext]; omega))); have qX11 : wX.cell? ⟨w.heap.size, 11, none⟩ = some (.slice Aq k cq) := kx.cell 11; have pX11 : wX.frozen? ⟨w.heap.size, 11, none⟩ = false := kx.frozen 11; have qX12 : wX.cell? ⟨w.heap.size, 12, none⟩ = some (.slice Ax nx cx) := kx.cell 12; have pX12 : wX.frozen? ⟨w.heap.size, 12, none⟩ = false := kx.frozen 12; have qX13 : wX.cell? ⟨w.heap.size, 13, none⟩ = some (.slice Ay ny cy) := kx.cell 13; have pX13 : wX.frozen? ⟨w.heap.size, 13, none⟩ = false := kx.frozen 13; have zX := kz.lt; have KXX := hid kx; have KZX := hid kz; clear hb hrow kx kz tk3)
          | (go_at_call 51; have _t := tk4; (with_reducible refine (CY.out _ (by first | (have := HBX.out; (repeat' (first | (with_reducible exact Below.refl _ _) | (with_reducible assumption) | (with_reducible refine below_ext0 ?_ _ _) | (with_reducible refine below_alloc0 ?_ _) | (with_reducible refine Below.ext ?_ ?_ _ _) | (with_reducible refine Below.alloc ?_ ?_ _) | (with_reducible refine Below.setCell ?_ ?_ _) | (with_reducible refine Below.drew ?_) | (with_reducible refine below_draws ?_ _) | go_size | (simp [size_ext]; done) | (simp [size_ext]; omega))); done) | (have := HLOW.out; (repeat' (first | (with_reducible exact Below.refl _ _) | (with_reducible assumption) | (with_reducible refine below_ext0 ?_ _ _) | (with_reducible refine below_alloc0 ?_ _) | (with_reducible refine Below.ext ?_ ?_ _ _) | (with_reducible refine Below.alloc ?_ ?_ _) | (with_reducible refine Below.setCell ?_ ?_ _) | (with_reducible refine Below.drew ?_) | (with_reducible refine below_draws ?_ _) | go_size | (simp [size_ext]; done) | (simp [size_ext]; omega))); done))).mono ?_); rintro e wY ⟨AY, cY, rfl, hrow, hb⟩; have kx := (Blk.below (by first | (have := KXX.out; ((repeat' (first | (with_reducible assumption) | (with_reducible refine Blk.drew ?_) | exact Blk.new' _ _ (by first | rfl | (simp [size_ext]; done) | (simp [size_ext]; omega)) | (with_reducible refine Blk.ext ?_ _ _) | (with_reducible refine Blk.alloc ?_ _))); (all_goals fail))) | (have := HKX.out; ((repeat' (first | (with_reducible assumption) | (with_reducible refine Blk.drew ?_) | exact Blk.new' _ _ (by first | rfl | (simp [size_ext]; done) | (simp [size_ext]; omega)) | (with_reducible refine Blk.ext ?_ _ _) | (with_reducible refine Blk.alloc ?_ _))); (all_goals fail)))) hb (by first | omega | (simp [size_ext]; done) | (simp [size_ext]; omega)) : Blk wY w.heap.size 28 (msgC h (.slice Aq k cq) (.slice Ax nx cx) (.slice Ay ny cy) (.slice Az nz cz))); have kz := (Blk.below (by first | (have := KZX.out; ((repeat' (first | (with_reducible assumption) | (with_reducible refine Blk.drew ?_) | exact Blk.new' _ _ (by first | rfl | (simp [size_ext]; done) | (simp [size_ext]; omega)) | (with_reducible refine Blk.ext ?_ _ _) | (with_reducible refine Blk.alloc ?_ _))); (all_goals fail))) | (have := HKZ.out; ((repeat' (first | (with_reducible assumption) | (with_reducible refine Blk.drew ?_) | exact Blk.new' _ _ (by first | rfl | (simp [size_ext]; done) | (simp [size_ext]; omega)) | (with_reducible refine Blk.ext ?_ _ _) | (with_reducible refine Blk.alloc ?_ _))); (all_goals fail)))) hb (by first | omega | (simp [size_ext]; done) | (simp [size_ext]; omega)) : Blk wY (w.heap.size + 1) 28 (msgC hd0 (.slice none 0 0) (.slice none 0 0) (.slice none 0 0) (.slice none 0 0))); have HBY := hid (Below.trans (by first | (have := HBX.out; (repeat' (first | (with_reducible exact Below.refl _ _) | (with_reducible assumption) | (with_reducible refine below_ext0 ?_ _ _) | (with_reducible refine below_alloc0 ?_ _) | (with_reducible refine Below.ext ?_ ?_ _ _) | (with_reducible refine Below.alloc ?_ ?_ _) | (with_reducible refine Below.setCell ?_ ?_ _) | (with_reducible refine Below.drew ?_) | (with_reducible refine below_draws ?_ _) | go_size | (simp [size_ext]; done) | (simp [size_ext]; omega))); done) | (have := HLOW.out; (repeat' (first | (with_reducible exact Below.refl _ _) | (with_reducible assumption) | (with_reducible refine below_ext0 ?_ _ _) | (with_reducible refine below_alloc0 ?_ _) | (with_reducible refine Below.ext ?_ ?_ _ _) | (with_reducible refine Below.alloc ?_ ?_ _) | (with_reducible refine Below.setCell ?_ ?_ _) | (with_reducible refine Below.drew ?_) | (with_reducible refine below_draws ?_ _) | go_size | (simp [size_ext]; done) | (simp [size_ext]; omega))); done)) (hb.mono (by first | omega | (simp [size_ext]; done) | (simp [size_ext]; omega))) : Below w.heap.size w wY); have HAY := hid (Below.trans (by first | (have := HAX.out; (repeat' (first | (with_reducible exact Below.refl _ _) | (with_reducible assumption) | (with_reducible refine below_ext0 ?_ _ _) | (with_reducible refine below_alloc0 ?_ _) | (with_reducible refine Below.ext ?_ ?_ _ _) | (with_reducible refine Below.alloc ?_ ?_ _) | (with_reducible refine Below.setCell ?_ ?_ _) | (with_reducible refine Below.drew ?_) | (with_reducible refine below_draws ?_ _) | go_size | (simp [size_ext]; done) | (simp [size_ext]; omega))); done) | ((repeat' (first | (with_reducible exact Below.refl _ _) | (with_reducible assumption) | (with_reducible refine below_ext0 ?_ _ _) | (with_reducible refine below_alloc0 ?_ _) | (with_reducible refine Below.ext ?_ ?_ _ _) | (with_reducible refine Below.alloc ?_ ?_ _) | (with_reducible refine Below.setCell ?_ ?_ _) | (with_reducible refine Below.drew ?_) | (with_reducible refine below_draws ?_ _) | go_size | (simp [size_ext]; done) | (simp [size_ext]; omega))); done)) (hb.mono (by first | omega | (simp [size_ext]; done) | (simp [size_ext]; omega))) : Below wr.heap.size wr wY); have szY := HAY.out.size; (first | (have HD := hid (Below.trans (by (repeat' (first | (with_reducible exact Below.refl _ _) | (with_reducible assumption) | (with_reducible refine below_ext0 ?_ _ _) | (with_reducible refine below_alloc0 ?_ _) | (with_reducible refine Below.ext ?_ ?_ _ _) | (with_reducible refine Below.alloc ?_ ?_ _) | (with_reducible refine Below.setCell ?_ ?_ _) | (with_reducible refine Below.drew ?_) | (with_reducible refine below_draws ?_ _) | go_size | (simp [size_ext]; done) | (simp [size_ext]; omega))); done) hb : Below wX.heap.size wX wY)) | skip); have ROY := hid (hrow.less (base' := w.heap.size + 2) (by first | omega | (simp [size_ext]; done) | (simp [size_ext]; omega))); have qY11 : wY.cell? ⟨w.heap.size, 11, none⟩ = some (.slice Aq k cq) := kx.cell 11; have pY11 : wY.frozen? ⟨w.heap.size, 11, none⟩ = false := kx.frozen 11; have qY12 : wY.cell? ⟨w.heap.size, 12, none⟩ = some (.slice Ax nx cx) := kx.cell 12; have pY12 : wY.frozen? ⟨w.heap.size, 12, none⟩ = false := kx.frozen 12; have qY13 : wY.cell? ⟨w.heap.size, 13, none⟩ = some (.slice Ay ny cy) := kx.cell 13; have pY13 : wY.frozen? ⟨w.heap.size, 13, none⟩ = false := kx.frozen 13; have zY := kz.lt; have KXY := hid kx; have KZY := hid kz; clear hb hrow kx kz tk4)
          | fail)
        all_goals
          go_wp2_with fail
          go_meet
          (first
            | (have e1 := ROX.out.below near_rec HD.out; have e2 := ROY.out; have e0 := HROW.out.below near_q HAY.out; have k := KXY.out; have kz := KZY.out; have hlw := HBY.out)
            | (have e2 := ROY.out.below near_rec HD.out; have e1 := ROX.out; have e0 := HROW.out.below near_q HAX.out; have k := KXX.out; have kz := KZX.out; have hlw := HBX.out))
          have hf := FreeB.grown_msg k (not_d_slice _ _ _) (not_d_slice _ _ _) (not_d_slice _ _ _) (not_d_slice _ _ _)
          refine ⟨AX, cX, AY, cY, rfl, e0.grown near_q ?_ hf (by omega), e1.grown near_rec ?_ hf (by omega), e2.grown near_rec ?_ hf (by omega), ?_, ?_, (by (repeat' (first | (with_reducible exact Below.refl _ _) | (with_reducible assumption) | (with_reducible refine below_ext0 ?_ _ _) | (with_reducible refine below_alloc0 ?_ _) | (with_reducible refine Below.ext ?_ ?_ _ _) | (with_reducible refine Below.alloc ?_ ?_ _) | (with_reducible refine Below.setCell ?_ ?_ _) | (with_reducible refine Below.drew ?_) | (with_reducible refine below_draws ?_ _) | go_size | (simp [size_ext]; done) | (simp [size_ext]; omega))))⟩
          · repeat (first | (with_reducible exact grown_refl _ _) | (with_reducible refine World.grownBy.trans ?_ (grown_set _ _)))
          · repeat (first | (with_reducible exact grown_refl _ _) | (with_reducible refine World.grownBy.trans ?_ (grown_set _ _)))
          · repeat (first | (with_reducible exact grown_refl _ _) | (with_reducible refine World.grownBy.trans ?_ (grown_set _ _)))
          · first | exact ((k.set 11 _).set 12 _).set 13 _ | exact ((k.set 11 _).set 13 _).set 12 _ | exact ((k.set 12 _).set 11 _).set 13 _ | exact ((k.set 12 _).set 13 _).set 11 _ | exact ((k.set 13 _).set 11 _).set 12 _ | exact ((k.set 13 _).set 12 _).set 11 _
          · exact ((kz.far (by simp only; omega) _).far (by simp only; omega) _).far (by simp only; omega) _
      case rest =>
        obtain ⟨AX, cX, AY, cY, rfl, rq, rx, ry, kx, kz, hlow⟩ := hcut
        have zc := kz.lt
        have b14 : wc.cell? ⟨w.heap.size, 14, none⟩ = some (.slice Az nz cz) := kx.cell 14
        have RQ := hid rq
        have RX := hid rx
        have RY := hid ry
        have KXc := hid kx
        have KZc := hid kz
        have HLc := hid hlow
        clear rq rx ry kx kz hlow a11 a12 a13
        go_wp2_with (first
          | (go_at_call 51; have _t := tk5; (with_reducible refine (CZ.out _ HLc.out).mono ?_); rintro e w3 ⟨A3, c3, rfl, hrow, hb⟩; have HC3 := hid hb; have RO3 := hid hrow; have z3 := hb.size; clear hb hrow tk5)
          | (go_at_call 52; have _t := tk6; (with_reducible refine (deleteFunc_any RO3.out HLEN.out.2.2 z3 limz).mono ?_); rintro e w4 ⟨A4, n4, c4, rfl, hl4, hrow, hb⟩; have hb4 := HC3.out.trans hb; have kx := KXc.out.below hb4 (by omega); have kz := KZc.out.below hb4 zc; have z4 := hb4.size; have x0 : (w4).cell? ⟨w.heap.size, 0, none⟩ = some (.int .i64 h.id) := (kx).cell 0; have x1 : (w4).cell? ⟨w.heap.size, 1, none⟩ = some (.bool h.an) := (kx).cell 1; have x2 : (w4).cell? ⟨w.heap.size, 2, none⟩ = some (.int .i64 h.op) := (kx).cell 2; have x3 : (w4).cell? ⟨w.heap.size, 3, none⟩ = some (.bool h.aa) := (kx).cell 3; have x4 : (w4).cell? ⟨w.heap.size, 4, none⟩ = some (.bool h.tc) := (kx).cell 4; have x5 : (w4).cell? ⟨w.heap.size, 5, none⟩ = some (.bool h.rd) := (kx).cell 5; have x6 : (w4).cell? ⟨w.heap.size, 6, none⟩ = some (.bool h.ra) := (kx).cell 6; have x7 : (w4).cell? ⟨w.heap.size, 7, none⟩ = some (.bool h.z) := (kx).cell 7; have x8 : (w4).cell? ⟨w.heap.size, 8, none⟩ = some (.bool h.ad) := (kx).cell 8; have x9 : (w4).cell? ⟨w.heap.size, 9, none⟩ = some (.bool h.cd) := (kx).cell 9; have x10 : (w4).cell? ⟨w.heap.size, 10, none⟩ = some (.int .i64 h.code) := (kx).cell 10; have x11 : (w4).cell? ⟨w.heap.size, 11, none⟩ = some (.slice A1 k c1) := (kx).cell 11; have x12 : (w4).cell? ⟨w.heap.size, 12, none⟩ = some (.slice AX nx cX) := (kx).cell 12; have x13 : (w4).cell? ⟨w.heap.size, 13, none⟩ = some (.slice AY ny cY) := (kx).cell 13; have x14 : (w4).cell? ⟨w.heap.size, 14, none⟩ = some (.slice Az nz cz) := (kx).cell 14; have x14f : w4.frozen? ⟨w.heap.size, 14, none⟩ = false := kx.frozen 14; have z0 : (w4).cell? ⟨w.heap.size + 1, 0, none⟩ = some (.int .i64 hd0.id) := (kz).cell 0; have z1 : (w4).cell? ⟨w.heap.size + 1, 1, none⟩ = some (.bool hd0.an) := (kz).cell 1; have z2 : (w4).cell? ⟨w.heap.size + 1, 2, none⟩ = some (.int .i64 hd0.op) := (kz).cell 2; have z3 : (w4).cell? ⟨w.heap.size + 1, 3, none⟩ = some (.bool hd0.aa) := (kz).cell 3; have z4 : (w4).cell? ⟨w.heap.size + 1, 4, none⟩ = some (.bool hd0.tc) := (kz).cell 4; have z5 : (w4).cell? ⟨w.heap.size + 1, 5, none⟩ = some (.bool hd0.rd) := (kz).cell 5; have z6 : (w4).cell? ⟨w.heap.size + 1, 6, none⟩ = some (.bool hd0.ra) := (kz).cell 6; have z7 : (w4).cell? ⟨w.heap.size + 1, 7, none⟩ = some (.bool hd0.z) := (kz).cell 7; have z8 : (w4).cell? ⟨w.heap.size + 1, 8, none⟩ = some (.bool hd0.ad) := (kz).cell 8; have z9 : (w4).cell? ⟨w.heap.size + 1, 9, none⟩ = some (.bool hd0.cd) := (kz).cell 9; have z10 : (w4).cell? ⟨w.heap.size + 1, 10, none⟩ = some (.int .i64 hd0.code) := (kz).cell 10; have z11 : (w4).cell? ⟨w.heap.size + 1, 11, none⟩ = some (.slice none 0 0) := (kz).cell 11; have z12 : (w4).cell? ⟨w.heap.size + 1, 12, none⟩ = some (.slice none 0 0) := (kz).cell 12; have z13 : (w4).cell? ⟨w.heap.size + 1, 13, none⟩ = some (.slice none 0 0) := (kz).cell 13; have z14 : (w4).cell? ⟨w.heap.size + 1, 14, none⟩ = some (.slice none 0 0) := (kz).cell 14; have f0 : (w4).frozen? ⟨w.heap.size + 1, 0, none⟩ = false := (kz).frozen 0; have f1 : (w4).frozen? ⟨w.heap.size + 1, 1, none⟩ = false := (kz).frozen 1; have f2 : (w4).frozen? ⟨w.heap.size + 1, 2, none⟩ = false := (kz).frozen 2; have f3 : (w4).frozen? ⟨w.heap.size + 1, 3, none⟩ = false := (kz).frozen 3; have f4 : (w4).frozen? ⟨w.heap.size + 1, 4, none⟩ = false := (kz).frozen 4; have f5 : (w4).frozen? ⟨w.heap.size + 1, 5, none⟩ = false := (kz).frozen 5; have f6 : (w4).frozen? ⟨w.heap.size + 1, 6, none⟩ = false := (kz).frozen 6; have f7 : (w4).frozen? ⟨w.heap.size + 1, 7, none⟩ = false := (kz).frozen 7; have f8 : (w4).frozen? ⟨w.heap.size + 1, 8, none⟩ = false := (kz).frozen 8; have f9 : (w4).frozen? ⟨w.heap.size + 1, 9, none⟩ = false := (kz).frozen 9; have f10 : (w4).frozen? ⟨w.heap.size + 1, 10, none⟩ = false := (kz).frozen 10; have f11 : (w4).frozen? ⟨w.heap.size + 1, 11, none⟩ = false := (kz).frozen 11; have f12 : (w4).frozen? ⟨w.heap.size + 1, 12, none⟩ = false := (kz).frozen 12; have f13 : (w4).frozen? ⟨w.heap.size + 1, 13, none⟩ = false := (kz).frozen 13; have f14 : (w4).frozen? ⟨w.heap.size + 1, 14, none⟩ = false := (kz).frozen 14; have HB4 := hid hb4; have RO4 := hid hrow; have HL4 := hid hl4; have KX4 := hid kx; have KZ4 := hid kz; clear hb hb4 hrow hl4 kx kz tk6))
        have hkz2 : Blk (w4.setCell ⟨w.heap.size, 14, none⟩ (.slice A4 n4 c4)) (w.heap.size + 1) 28 (msgC hd0 (.slice none 0 0) (.slice none 0 0) (.slice none 0 0) (.slice none 0 0)) := KZ4.out.far (by simp only; omega) _
        refine bodyPost_ret (res_drop rfl (msg_over h _ _ _ _ hkz2)) rfl ⟨A1, c1, AX, cX, AY, cY, A4, n4, c4, drop_end ?_ KX4.out KZ4.out (RQ.out.below near_q HB4.out) (RX.out.below near_rec HB4.out) (RY.out.below near_rec HB4.out) RO4.out HLQ.out HLEN.out.1 HLEN.out.2.1 HL4.out (by omega) (fun g e => (RQ.out.blk e).2) (fun g e => (RX.out.blk e).2) (fun g e => (RY.out.blk e).2) limq limx limy (HLc.out.trans (HB4.out.mono HLc.out.size))⟩
        repeat (first | (with_reducible exact grown_refl _ _) | (with_reducible refine World.grownBy.trans ?_ (grown_set _ _)))
end Go.Proofs.YtfihedcobopbcaaDoor
