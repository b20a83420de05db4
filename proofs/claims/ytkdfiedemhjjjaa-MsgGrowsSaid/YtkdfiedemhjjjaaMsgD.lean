/- msg: Write, whatever it is to write. -/
import Derived.Test.YtkdfiedemhjjjaaMsgC
namespace Go.Proofs.Ytkdfiedemhjjjaa
open Go.RowKit
set_option linter.unusedVariables false

set_option maxRecDepth 100000 in
set_option maxHeartbeats 8000000 in
theorem msgwrite_many {w : World} {h : Hd} (hh : HOk h) {Aq : Option Addr} {nq cq : Nat} {qs : List QT} (hQ : Rd qR w w.heap.size Aq nq cq qs) {Ax : Option Addr} {nx cx : Nat} {xs : List RecT} (hX : Rd recR w w.heap.size Ax nx cx xs) {Ay : Option Addr} {ny cy : Nat} {ys : List RecT} (hY : Rd recR w w.heap.size Ay ny cy ys) {Az : Option Addr} {nz cz : Nat} {zs : List RecT} (hZ : Rd recR w w.heap.size Az nz cz zs)
    (l1 : ¬ (nq ≤ 65535 ∧ nx ≤ 65535 ∧ ny ≤ 65535 ∧ nz ≤ 65535)) :
    Calls Try.prog 12 #[.agg (msgC h (.slice Aq nq cq) (.slice Ax nx cx) (.slice Ay ny cy) (.slice Az nz cz))] w fun e w' => e = .returned (.tuple #[.slice none 0 0, .iface 65 (.int .i64 7)]) ∧ Below w.heap.size w w' := by
  have CH := hid fun w' => hwrite_ok h hh w'
  obtain ⟨_, wd0, wd1⟩ := back_head h hh
  have HDC := hid (hd_cells h hh wd0 wd1)
  have HL1 := hid l1
  have m1 := hQ.lim
  have m2 := hX.lim
  have m3 := hY.lim
  have m4 := hZ.lim
  simp only [show qR.bs = 40 from rfl, show recR.bs = 72 from rfl] at m1 m2 m3 m4
  clear hh l1 hQ hX hY hZ
  have tk0 : True := trivial; have tk1 : True := trivial; have tk2 : True := trivial; have tk3 : True := trivial; have tk4 : True := trivial; have tk5 : True := trivial; have tk6 : True := trivial; have tk7 : True := trivial; have tk8 : True := trivial; have tk9 : True := trivial; have tk10 : True := trivial; have tk11 : True := trivial; have tk12 : True := trivial
  go_enter Try.func12, Try.ntmps12
  go_wp2_with (go_at_call 33; have _t := tk1; (with_reducible refine (CH.out _).mono ?_); rintro e w1 ⟨g, rfl, hg, hk, hb⟩; have kx := (Blk.below (by (repeat' (first | (with_reducible exact Blk.new _ _ _) | (with_reducible assumption) | (with_reducible refine Blk.ext ?_ _ _) | (with_reducible refine Blk.drew ?_) | (with_reducible refine Blk.alloc ?_ _)))) hb (by simp) : Blk w1 w.heap.size 43 (msgC h (.slice Aq nq cq) (.slice Ax nx cx) (.slice Ay ny cy) (.slice Az nz cz))); have x11 : w1.cell? ⟨w.heap.size, 11, none⟩ = some (.slice Aq nq cq) := kx.cell 11; have x12 : w1.cell? ⟨w.heap.size, 12, none⟩ = some (.slice Ax nx cx) := kx.cell 12; have x13 : w1.cell? ⟨w.heap.size, 13, none⟩ = some (.slice Ay ny cy) := kx.cell 13; have x14 : w1.cell? ⟨w.heap.size, 14, none⟩ = some (.slice Az nz cz) := kx.cell 14; have HB1 := hid (Below.trans (by (repeat' (first | (with_reducible exact Below.refl _ _) | (with_reducible assumption) | (with_reducible refine below_ext0 ?_ _ _) | (with_reducible refine below_alloc0 ?_ _) | (with_reducible refine Below.ext ?_ ?_ _ _) | (with_reducible refine Below.alloc ?_ ?_ _) | (with_reducible refine Below.setCell ?_ ?_ _) | (with_reducible refine Below.drew ?_) | (with_reducible refine below_draws ?_ _) | go_size | (simp [size_ext]; done) | (simp [size_ext]; omega)))) (hb.mono (by simp)) : Below w.heap.size w w1); have z1 := hb.size; simp at z1 hg; have zw : w.heap.size < w1.heap.size := (by omega); have KX := hid kx; have KG := hid hk; clear hb kx hk tk1)
  go_loopg [42] 4 (fun gk v wi => ∃ (k : Nat) (A : Option Addr) (n c : Nat), k ≤ 4 ∧ gk = 4 - k ∧ v = .int .i64 (k : Int) ∧ CntS w w1.heap.size (msgC h (.slice Aq nq cq) (.slice Ax nx cx) (.slice Ay ny cy) (.slice Az nz cz)) (hdB h ++ cntB nq nx ny nz k) wi A n c ∧ ((1 ≤ k → nq ≤ 65535) ∧ (2 ≤ k → nx ≤ 65535) ∧ (3 ≤ k → ny ≤ 65535) ∧ (4 ≤ k → nz ≤ 65535)))
  case atStart =>
    refine ⟨0, _, _, _, Nat.zero_le _, rfl, rfl, ⟨Blk.new _ _ _, ?_, ?_, ?_, ?_, ?_, zw⟩, by omega⟩
    · refine (World.ownsRow.alloc (w := w1) ?_ _)
      refine ⟨by simp [bytesV, hdB, cntB], .inr ⟨g, 4, _, rfl, by omega, KG.out, Nat.le_refl _, by simp [maxLen], rfl, ?_⟩⟩
      rw [HDC.out]
      simp [cntB]
      rfl
    · simp [Value.ownBlock]
      have := KG.out.lt
      omega
    · exact Below.alloc HB1.out (by omega) _
    · exact KX.out.alloc _
    · simp
  case round =>
    obtain ⟨k, A, n, c, hk, rfl, rfl, hs, hcn⟩ := hrel
    have hnl := hs.own.1
    have hz := hs.lt
    have HS := hid hs
    have x0 : wr.cell? ⟨w1.heap.size, 0, none⟩ = some (.slice A n c) := hs.wr.cell 0
    have x1 : wr.cell? ⟨w1.heap.size, 1, none⟩ = some (.slice none 0 0) := hs.wr.cell 1
    have y0 : wr.frozen? ⟨w1.heap.size, 0, none⟩ = false := hs.wr.frozen 0
    have y11 : wr.cell? ⟨w.heap.size, 11, none⟩ = some (.slice Aq nq cq) := hs.box.cell 11
    have hn12 : n = 4 + 2 * k := by
      have hc : (cntB nq nx ny nz k).length = 2 * k := by
        have hk' : k = 0 ∨ k = 1 ∨ k = 2 ∨ k = 3 ∨ k = 4 := by omega
        rcases hk' with rfl | rfl | rfl | rfl | rfl <;> rfl
      simp only [bytesV, List.length_map, List.length_append, hc, Nat.mul_one] at hnl
      have : (hdB h).length = 4 := rfl
      omega
    have ab1 : (n + 2) * 1 ≤ 140737488355328 := by omega
    have ab2 : n + 2 ≤ maxLen := by unfold maxLen; omega
    have HN12 := hid hn12
    clear hs hn12 hnl
    by_cases hk4 : k < 4
    · have hk' : k = 0 ∨ k = 1 ∨ k = 2 ∨ k = 3 := by omega
      rcases hk' with rfl | rfl | rfl | rfl
      · have ix : ∀ w', (Instr.index 89 (.agg #[.int .i64 (nq : Int), .int .i64 (nx : Int), .int .i64 (ny : Int), .int .i64 (nz : Int)]) (.int .i64 0)).run Try.prog w' = .ok (.int .i64 (nq : Int)) w' := fun _ => by first | kernel_rfl | (simp [Instr.index, go_sem]; done)
        by_cases hc : nq ≤ 65535
        · have q0 : ¬ (65535 : Int) < (nq : Int) := by omega
          have q1 : decide ((65535 : Int) < (nq : Int)) = false := decide_eq_false q0
          go_wp2_with (at_builtin; refine wpList_appT rfl _ _ 22 rfl (w.heap.size + 1) 5 1 1 el_u8 (.slice A n c) n _ rfl (HS.out.own.alloc _) _ 2 2 _ rfl (src_lit _ rfl (by simp [Value.oneCell']) rfl) ab1 ab2 (by simp; omega) ?_; intro v2 w2 ho2 ha2; obtain ⟨A2, c2, rfl, _⟩ := own_slice ho2; have hs2 := HS.out.step (nq : Int) (by omega) (by omega) ho2 ha2; have hk2 := (HS.out.wr.alloc _).grown ha2.grown (Ne.symm HS.out.ne); have x20 : w2.cell? ⟨w1.heap.size, 0, none⟩ = some (.slice A n c) := hk2.cell 0; have f20 : w2.frozen? ⟨w1.heap.size, 0, none⟩ = false := hk2.frozen 0; have z2 := ha2.grown.size; simp only [World.size_alloc] at z2; have HS2 := hid hs2; clear ho2 ha2 hs2 hk2)
          go_roundg (4 - (0 + 1))
          case measure => omega
          case rel => exact ⟨0 + 1, _, _, _, by omega, rfl, by go_num, by have := HS2.out; simpa [cntB] using this, ⟨fun _ => hc, fun h => absurd h (by decide), fun h => absurd h (by decide), fun h => absurd h (by decide)⟩⟩
        · have q0 : (65535 : Int) < (nq : Int) := by omega
          have q1 : decide ((65535 : Int) < (nq : Int)) = true := decide_eq_true q0
          go_wp2
          go_ret2
          exact ⟨rfl, HS.out.low⟩
      · have ix : ∀ w', (Instr.index 89 (.agg #[.int .i64 (nq : Int), .int .i64 (nx : Int), .int .i64 (ny : Int), .int .i64 (nz : Int)]) (.int .i64 1)).run Try.prog w' = .ok (.int .i64 (nx : Int)) w' := fun _ => by first | kernel_rfl | (simp [Instr.index, go_sem]; done)
        by_cases hc : nx ≤ 65535
        · have q0 : ¬ (65535 : Int) < (nx : Int) := by omega
          have q1 : decide ((65535 : Int) < (nx : Int)) = false := decide_eq_false q0
          go_wp2_with (at_builtin; refine wpList_appT rfl _ _ 22 rfl (w.heap.size + 1) 5 1 1 el_u8 (.slice A n c) n _ rfl (HS.out.own.alloc _) _ 2 2 _ rfl (src_lit _ rfl (by simp [Value.oneCell']) rfl) ab1 ab2 (by simp; omega) ?_; intro v2 w2 ho2 ha2; obtain ⟨A2, c2, rfl, _⟩ := own_slice ho2; have hs2 := HS.out.step (nx : Int) (by omega) (by omega) ho2 ha2; have hk2 := (HS.out.wr.alloc _).grown ha2.grown (Ne.symm HS.out.ne); have x20 : w2.cell? ⟨w1.heap.size, 0, none⟩ = some (.slice A n c) := hk2.cell 0; have f20 : w2.frozen? ⟨w1.heap.size, 0, none⟩ = false := hk2.frozen 0; have z2 := ha2.grown.size; simp only [World.size_alloc] at z2; have HS2 := hid hs2; clear ho2 ha2 hs2 hk2)
          go_roundg (4 - (1 + 1))
          case measure => omega
          case rel => exact ⟨1 + 1, _, _, _, by omega, rfl, by go_num, by have := HS2.out; simpa [cntB] using this, ⟨fun _ => hcn.1 (by decide), fun _ => hc, fun h => absurd h (by decide), fun h => absurd h (by decide)⟩⟩
        · have q0 : (65535 : Int) < (nx : Int) := by omega
          have q1 : decide ((65535 : Int) < (nx : Int)) = true := decide_eq_true q0
          go_wp2
          go_ret2
          exact ⟨rfl, HS.out.low⟩
      · have ix : ∀ w', (Instr.index 89 (.agg #[.int .i64 (nq : Int), .int .i64 (nx : Int), .int .i64 (ny : Int), .int .i64 (nz : Int)]) (.int .i64 2)).run Try.prog w' = .ok (.int .i64 (ny : Int)) w' := fun _ => by first | kernel_rfl | (simp [Instr.index, go_sem]; done)
        by_cases hc : ny ≤ 65535
        · have q0 : ¬ (65535 : Int) < (ny : Int) := by omega
          have q1 : decide ((65535 : Int) < (ny : Int)) = false := decide_eq_false q0
          go_wp2_with (at_builtin; refine wpList_appT rfl _ _ 22 rfl (w.heap.size + 1) 5 1 1 el_u8 (.slice A n c) n _ rfl (HS.out.own.alloc _) _ 2 2 _ rfl (src_lit _ rfl (by simp [Value.oneCell']) rfl) ab1 ab2 (by simp; omega) ?_; intro v2 w2 ho2 ha2; obtain ⟨A2, c2, rfl, _⟩ := own_slice ho2; have hs2 := HS.out.step (ny : Int) (by omega) (by omega) ho2 ha2; have hk2 := (HS.out.wr.alloc _).grown ha2.grown (Ne.symm HS.out.ne); have x20 : w2.cell? ⟨w1.heap.size, 0, none⟩ = some (.slice A n c) := hk2.cell 0; have f20 : w2.frozen? ⟨w1.heap.size, 0, none⟩ = false := hk2.frozen 0; have z2 := ha2.grown.size; simp only [World.size_alloc] at z2; have HS2 := hid hs2; clear ho2 ha2 hs2 hk2)
          go_roundg (4 - (2 + 1))
          case measure => omega
          case rel => exact ⟨2 + 1, _, _, _, by omega, rfl, by go_num, by have := HS2.out; simpa [cntB] using this, ⟨fun _ => hcn.1 (by decide), fun _ => hcn.2.1 (by decide), fun _ => hc, fun h => absurd h (by decide)⟩⟩
        · have q0 : (65535 : Int) < (ny : Int) := by omega
          have q1 : decide ((65535 : Int) < (ny : Int)) = true := decide_eq_true q0
          go_wp2
          go_ret2
          exact ⟨rfl, HS.out.low⟩
      · have ix : ∀ w', (Instr.index 89 (.agg #[.int .i64 (nq : Int), .int .i64 (nx : Int), .int .i64 (ny : Int), .int .i64 (nz : Int)]) (.int .i64 3)).run Try.prog w' = .ok (.int .i64 (nz : Int)) w' := fun _ => by first | kernel_rfl | (simp [Instr.index, go_sem]; done)
        by_cases hc : nz ≤ 65535
        · have q0 : ¬ (65535 : Int) < (nz : Int) := by omega
          have q1 : decide ((65535 : Int) < (nz : Int)) = false := decide_eq_false q0
          go_wp2_with (at_builtin; refine wpList_appT rfl _ _ 22 rfl (w.heap.size + 1) 5 1 1 el_u8 (.slice A n c) n _ rfl (HS.out.own.alloc _) _ 2 2 _ rfl (src_lit _ rfl (by simp [Value.oneCell']) rfl) ab1 ab2 (by simp; omega) ?_; intro v2 w2 ho2 ha2; obtain ⟨A2, c2, rfl, _⟩ := own_slice ho2; have hs2 := HS.out.step (nz : Int) (by omega) (by omega) ho2 ha2; have hk2 := (HS.out.wr.alloc _).grown ha2.grown (Ne.symm HS.out.ne); have x20 : w2.cell? ⟨w1.heap.size, 0, none⟩ = some (.slice A n c) := hk2.cell 0; have f20 : w2.frozen? ⟨w1.heap.size, 0, none⟩ = false := hk2.frozen 0; have z2 := ha2.grown.size; simp only [World.size_alloc] at z2; have HS2 := hid hs2; clear ho2 ha2 hs2 hk2)
          go_roundg (4 - (3 + 1))
          case measure => omega
          case rel => exact ⟨3 + 1, _, _, _, by omega, rfl, by go_num, by have := HS2.out; simpa [cntB] using this, ⟨fun _ => hcn.1 (by decide), fun _ => hcn.2.1 (by decide), fun _ => hcn.2.2.1 (by decide), fun _ => hc⟩⟩
        · have q0 : (65535 : Int) < (nz : Int) := by omega
          have q1 : decide ((65535 : Int) < (nz : Int)) = true := decide_eq_true q0
          go_wp2
          go_ret2
          exact ⟨rfl, HS.out.low⟩
    · exfalso
      exact HL1.out ⟨hcn.1 (by omega), hcn.2.1 (by omega), hcn.2.2.1 (by omega), hcn.2.2.2 (by omega)⟩

/-- what Write tells of a message -/
def msgT (h : Hd) (qs : List QT) (xs ys zs : List RecT) : Int × List UInt8 :=
  if 0 ≤ h.id ∧ h.id ≤ 65535 ∧ 0 ≤ h.op ∧ h.op ≤ 15 ∧ 0 ≤ h.code ∧ h.code ≤ 15 then
    if qs.length ≤ 65535 ∧ xs.length ≤ 65535 ∧ ys.length ≤ 65535 ∧ zs.length ≤ 65535 then mwR qs (xs ++ (ys ++ zs)) (hdB h ++ cntB qs.length xs.length ys.length zs.length 4)
    else (7, [])
  else (6, [])
theorem msgwrite_any {w : World} {h : Hd} {Aq : Option Addr} {nq cq : Nat} {qs : List QT} (hQ : Rd qR w w.heap.size Aq nq cq qs) {Ax : Option Addr} {nx cx : Nat} {xs : List RecT} (hX : Rd recR w w.heap.size Ax nx cx xs) {Ay : Option Addr} {ny cy : Nat} {ys : List RecT} (hY : Rd recR w w.heap.size Ay ny cy ys) {Az : Option Addr} {nz cz : Nat} {zs : List RecT} (hZ : Rd recR w w.heap.size Az nz cz zs) :
    Calls Try.prog 12 #[.agg (msgC h (.slice Aq nq cq) (.slice Ax nx cx) (.slice Ay ny cy) (.slice Az nz cz))] w (MwO w (msgT h qs xs ys zs)) := by
  unfold msgT
  have e1 := hQ.len
  have e2 := hX.len
  have e3 := hY.len
  have e4 := hZ.len
  by_cases hh : 0 ≤ h.id ∧ h.id ≤ 65535 ∧ 0 ≤ h.op ∧ h.op ≤ 15 ∧ 0 ≤ h.code ∧ h.code ≤ 15
  · have hk : HOk h := ⟨hh.1, hh.2.1, hh.2.2.1, hh.2.2.2.1, hh.2.2.2.2.1, hh.2.2.2.2.2⟩
    rw [if_pos hh, e1, e2, e3, e4]
    by_cases hc : nq ≤ 65535 ∧ nx ≤ 65535 ∧ ny ≤ 65535 ∧ nz ≤ 65535
    · rw [if_pos hc]
      exact msgwrite_few hk hQ hX hY hZ hc.1 hc.2.1 hc.2.2.1 hc.2.2.2
    · rw [if_neg hc]
      refine (msgwrite_many hk hQ hX hY hZ hc).mono ?_
      rintro e w' ⟨rfl, hb⟩
      exact ⟨hb, by rw [if_neg (by decide)]⟩
  · rw [if_neg hh]
    have CH := hid fun w' => hwrite_bad h (fun k => hh ⟨k.i0, k.i1, k.o0, k.o1, k.c0, k.c1⟩) w'
    clear hh hQ hX hY hZ e1 e2 e3 e4
    have tk0 : True := trivial; have tk1 : True := trivial; have tk2 : True := trivial; have tk3 : True := trivial; have tk4 : True := trivial; have tk5 : True := trivial; have tk6 : True := trivial; have tk7 : True := trivial; have tk8 : True := trivial; have tk9 : True := trivial; have tk10 : True := trivial; have tk11 : True := trivial; have tk12 : True := trivial
    go_enter Try.func12, Try.ntmps12
    go_wp2_with (go_at_call 33; have _t := tk1; (with_reducible refine (CH.out _).mono ?_); rintro e w1 ⟨rfl, hb⟩; obtain ⟨otk1, dtk1, rfl⟩ := ext_of_below hb; clear hb tk1)
    go_ret2
    exact ⟨(by (repeat' (first | (with_reducible exact Below.refl _ _) | (with_reducible assumption) | (with_reducible refine below_ext0 ?_ _ _) | (with_reducible refine below_alloc0 ?_ _) | (with_reducible refine Below.ext ?_ ?_ _ _) | (with_reducible refine Below.alloc ?_ ?_ _) | (with_reducible refine Below.setCell ?_ ?_ _) | (with_reducible refine Below.drew ?_) | (with_reducible refine below_draws ?_ _) | go_size | (simp [size_ext]; done) | (simp [size_ext]; omega)))), by rw [if_neg (by decide)]; rfl⟩
end Go.Proofs.Ytkdfiedemhjjjaa
