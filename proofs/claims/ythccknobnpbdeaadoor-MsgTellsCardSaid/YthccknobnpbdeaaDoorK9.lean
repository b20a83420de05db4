/- msg: Write, whatever it is to write. -/
import Derived.Test.YthccknobnpbdeaaDoorK6
import Derived.Test.YthccknobnpbdeaaDoorK8
namespace Go.Proofs.YthccknobnpbdeaaDoor
open Go.RowKit
set_option linter.unusedVariables false
set_option linter.unusedSimpArgs false

set_option maxRecDepth 100000 in
set_option maxHeartbeats 8000000 in
theorem msgwrite_many {w : World} {h : Hd} (hh : HOk h) {Aq : Option Addr} {nq cq : Nat} {qs : List QT} (hQ : Rd qR w w.heap.size Aq nq cq qs) {Ax : Option Addr} {nx cx : Nat} {xs : List RecT} (hX : Rd recR w w.heap.size Ax nx cx xs) {Ay : Option Addr} {ny cy : Nat} {ys : List RecT} (hY : Rd recR w w.heap.size Ay ny cy ys) {Az : Option Addr} {nz cz : Nat} {zs : List RecT} (hZ : Rd recR w w.heap.size Az nz cz zs)
    (l1 : ¬ (nq ≤ 65535 ∧ nx ≤ 65535 ∧ ny ≤ 65535 ∧ nz ≤ 65535)) :
    Calls Tryd.prog 9 #[.agg (msgC h (.slice Aq nq cq) (.slice Ax nx cx) (.slice Ay ny cy) (.slice Az nz cz))] w fun e w' => e = .returned (.tuple #[.slice none 0 0, .iface 29 (.int .i64 7)]) ∧ Below w.heap.size w w' := by
  have CH := hid fun w' => hwrite_ok h hh w'
  obtain ⟨_, wd0, wd1⟩ := back_head h hh
  have HDC := hid (hd_cells h hh wd0 wd1)
  have HL1 := hid l1
  have m1 := hQ.lim
  have m2 := hX.lim
  have m3 := hY.lim
  have m4 := hZ.lim
  simp only [show qR.bs = 40 from rfl, show recR.bs = 72 from rfl] at m1 m2 m3 m4
  clear hh l1 hQ hX hY hZ
  have tk0 : True := trivial; have tk1 : True := trivial; have tk2 : True := trivial; have tk3 : True := trivial; have tk4 : True := trivial; have tk5 : True := trivial; have tk6 : True := trivial; have tk7 : True := trivial; have tk8 : True := trivial; have tk9 : True := trivial; have tk10 : True := trivial; have tk11 : True := trivial; have tk12 : True := trivial
  go_enter Tryd.func9, Tryd.ntmps9
  go_wp2_with (go_at_call 32; have _t := tk1; (with_reducible refine (CH.out _).mono ?_); rintro e w1 ⟨g, rfl, hg, hk, hb⟩; have kx := (Blk.below (by (repeat' (first | (with_reducible exact Blk.new _ _ _) | (with_reducible assumption) | (with_reducible refine Blk.ext ?_ _ _) | (with_reducible refine Blk.drew ?_) | (with_reducible refine Blk.alloc ?_ _)))) hb (by simp) : Blk w1 w.heap.size 28 (msgC h (.slice Aq nq cq) (.slice Ax nx cx) (.slice Ay ny cy) (.slice Az nz cz))); have x11 : w1.cell? ⟨w.heap.size, 11, none⟩ = some (.slice Aq nq cq) := kx.cell 11; have x12 : w1.cell? ⟨w.heap.size, 12, none⟩ = some (.slice Ax nx cx) := kx.cell 12; have x13 : w1.cell? ⟨w.heap.size, 13, none⟩ = some (.slice Ay ny cy) := kx.cell 13; have x14 : w1.cell? ⟨w.heap.size, 14, none⟩ = some (.slice Az nz cz) := kx.cell 14; have HB1 := hid (Below.trans (by (repeat' (first | (with_reducible exact Below.refl _ _) | (with_reducible assumption) | (with_reducible refine below_ext0 ?_ _ _) | (with_reducible refine below_alloc0 ?_ _) | (with_reducible refine Below.ext ?_ ?_ _ _) | (with_reducible refine Below.alloc ?_ ?_ _) | (with_reducible refine Below.setCell ?_ ?_ _) | (with_reducible refine Below.drew ?_) | (with_reducible refine below_draws ?_ _) | go_size | (simp [size_ext]; done) | (simp [size_ext]; omega)))) (hb.mono (by simp)) : Below w.heap.size w w1); have z1 := hb.size; simp at z1 hg; have zw : w.heap.size < w1.heap.size := (by omega); have KX := hid kx; have KG := hid hk; clear hb kx hk tk1)
  go_loopg [42] 4 (fun gk v wi => ∃ (k : Nat) (A : Option Addr) (n c : Nat), k ≤ 4 ∧ gk = 4 - k ∧ v = .int .i64 (k : Int) ∧ CntS w w1.heap.size (msgC h (.slice Aq nq cq) (.slice Ax nx cx) (.slice Ay ny cy) (.slice Az nz cz)) (hdB h ++ cntB nq nx ny nz k) wi A n c ∧ ((1 ≤ k → nq ≤ 65535) ∧ (2 ≤ k → nx ≤ 65535) ∧ (3 ≤ k → ny ≤ 65535) ∧ (4 ≤ k → nz ≤ 65535)))
  case atStart =>
    refine ⟨0, _, _, _, Nat.zero_le _, rfl, rfl, ⟨Blk.new _ _ _, ?_, ?_, ?_, ?_, ?_, zw⟩, by omega⟩
    · refine (World.ownsRow.alloc (w := w1) ?_ _)
      refine ⟨by simp [bytesV, hdB, cntB], .inr ⟨g, 4, _, rfl, by omega, KG.out, Nat.le_refl _, by simp [maxLen], rfl, ?_⟩⟩
      rw [HDC.out]
      simp [cntB]
      rfl
    · simp [Value.ownBlock]
      have := KG.out.lt
      omega
    · exact Below.alloc HB1.out (by omega) _
    · exact KX.out.alloc _
    · simp
  case round =>
    obtain ⟨k, A, n, c, hk, rfl, rfl, hs, hcn⟩ := hrel
    have hnl := hs.own.1
    have hz := hs.lt
    have HS := hid hs
    have x0 : wr.cell? ⟨w1.heap.size, 0, none⟩ = some (.slice A n c) := hs.wr.cell 0
    have x1 : wr.cell? ⟨w1.heap.size, 1, none⟩ = some (.slice none 0 0) := hs.wr.cell 1
    have y0 : wr.frozen? ⟨w1.heap.size, 0, none⟩ = false := hs.wr.frozen 0
    have y11 : wr.cell? ⟨w.heap.size, 11, none⟩ = some (.slice Aq nq cq) := hs.box.cell 11
    have hn12 : n = 4 + 2 * k := by
      have hc : (cntB nq nx ny nz k).length = 2 * k := by
        have hk' : k = 0 ∨ k = 1 ∨ k = 2 ∨ k = 3 ∨ k = 4 := by omega
        rcases hk' with rfl | rfl | rfl | rfl | rfl <;> rfl
      simp only [bytesV, List.length_map, List.length_append, hc, Nat.mul_one] at hnl
      have : (hdB h).length = 4 := rfl
      omega
    have ab1 : (n + 2) * 1 ≤ 140737488355328 := by omega
    have ab2 : n + 2 ≤ maxLen := by unfold maxLen; omega
    have HN12 := hid hn12
    clear hs hn12 hnl
    by_cases hk4 : k < 4
    · have hk' : k = 0 ∨ k = 1 ∨ k = 2 ∨ k = 3 := by omega
      rcases hk' with rfl | rfl | rfl | rfl
      · have ix : ∀ w', (Instr.index 86 (.agg #[.int .i64 (nq : Int), .int .i64 (nx : Int), .int .i64 (ny : Int), .int .i64 (nz : Int)]) (.int .i64 0)).run Tryd.prog w' = .ok (.int .i64 (nq : Int)) w' := fun _ => by first | kernel_rfl | (simp [Instr.index, go_sem]; done)
        by_cases hc : nq ≤ 65535
        · have q0 : ¬ (65535 : Int) < (nq : Int) := by omega
          have q1 : decide ((65535 : Int) < (nq : Int)) = false := decide_eq_false q0
          go_wp2_with (at_builtin; refine wpList_appT rfl _ _ 22 rfl (w.heap.size + 1) 5 1 1 el_u8 (.slice A n c) n _ rfl (HS.out.own.alloc _) _ 2 2 _ rfl (src_lit _ rfl (by simp [Value.oneCell']) rfl) ab1 ab2 (by simp; omega) ?_; intro v2 w2 ho2 ha2; obtain ⟨A2, c2, rfl, _⟩ := own_slice ho2; have hs2 := HS.out.step (nq : Int) (by omega) (by omega) ho2 ha2; have hk2 := (HS.out.wr.alloc _).grown ha2.grown (Ne.symm HS.out.ne); have x20 : w2.cell? ⟨w1.heap.size, 0, none⟩ = some (.slice A n c) := hk2.cell 0; have f20 : w2.frozen? ⟨w1.heap.size, 0, none⟩ = false := hk2.frozen 0; have z2 := ha2.grown.size; simp only [World.size_alloc] at z2; have HS2 := hid hs2; clear ho2 ha2 hs2 hk2)
          go_roundg (4 - (0 + 1))
          case measure => omega
          case rel => exact ⟨0 + 1, _, _, _, by omega, rfl, by go_num, by have := HS2.out; simpa [cntB] using this, ⟨fun _ => hc, fun h => absurd h (by decide), fun h => absurd h (by decide), fun h => absurd h (by decide)⟩⟩
        · have q0 : (65535 : Int) < (nq : Int) := by omega
          have q1 : decide ((65535 : Int) < (nq : Int)) = true := decide_eq_true q0
          go_wp2
          go_ret2
          exact ⟨rfl, HS.out.low⟩
      · have ix : ∀ w', (Instr.index 86 (.agg #[.int .i64 (nq : Int), .int .i64 (nx : Int), .int .i64 (ny : Int), .int .i64 (nz : Int)]) (.int .i64 1)).run Tryd.prog w' = .ok (.int .i64 (nx : Int)) w' := fun _ => by first | kernel_rfl | (simp [Instr.index, go_sem]; done)
        by_cases hc : nx ≤ 65535
        · have q0 : ¬ (65535 : Int) < (nx : Int) := by omega
          have q1 : decide ((65535 : Int) < (nx : Int)) = false := decide_eq_false q0
          go_wp2_with (at_builtin; refine wpList_appT rfl _ _ 22 rfl (w.heap.size + 1) 5 1 1 el_u8 (.slice A n c) n _ rfl (HS.out.own.alloc _) _ 2 2 _ rfl (src_lit _ rfl (by simp [Value.oneCell']) rfl) ab1 ab2 (by simp; omega) ?_; intro v2 w2 ho2 ha2; obtain ⟨A2, c2, rfl, _⟩ := own_slice ho2; have hs2 := HS.out.step (nx : Int) (by omega) (by omega) ho2 ha2; have hk2 := (HS.out.wr.alloc _).grown ha2.grown (Ne.symm HS.out.ne); have x20 : w2.cell? ⟨w1.heap.size, 0, none⟩ = some (.slice A n c) := hk2.cell 0; have f20 : w2.frozen? ⟨w1.heap.size, 0, none⟩ = false := hk2.frozen 0; have z2 := ha2.grown.size; simp only [World.size_alloc] at z2; have HS2 := hid hs2; clear ho2 ha2 hs2 hk2)
          go_roundg (4 - (1 + 1))
          case measure => omega
          case rel => exact ⟨1 + 1, _, _, _, by omega, rfl, by go_num, by have := HS2.out; simpa [cntB] using this, ⟨fun _ => hcn.1 (by decide), fun _ => hc, fun h => absurd h (by decide), fun h => absurd h (by decide)⟩⟩
        · have q0 : (65535 : Int) < (nx : Int) := by omega
          have q1 : decide ((65535 : Int) < (nx : Int)) = true := decide_eq_true q0
          go_wp2
          go_ret2
          exact ⟨rfl, HS.out.low⟩
      · have ix : ∀ w', (Instr.index 86 (.agg #[.int .i64 (nq : Int), .int .i64 (nx : Int), .int .i64 (ny : Int), .int .i64 (nz : Int)]) (.int .i64 2)).run Tryd.prog w' = .ok (.int .i64 (ny : Int)) w' := fun _ => by first | kernel_rfl | (simp [Instr.index, go_sem]; done)
        by_cases hc : ny ≤ 65535
        · have q0 : ¬ (65535 : Int) < (ny : Int) := by omega
          have q1 : decide ((65535 : Int) < (ny : Int)) = false := decide_eq_false q0
          go_wp2_with (at_builtin; refine wpList_appT rfl _ _ 22 rfl (w.heap.size + 1) 5 1 1 el_u8 (.slice A n c) n _ rfl (HS.out.own.alloc _) _ 2 2 _ rfl (src_lit _ rfl (by simp [Value.oneCell']) rfl) ab1 ab2 (by simp; omega) ?_; intro v2 w2 ho2 ha2; obtain ⟨A2, c2, rfl, _⟩ := own_slice ho2; have hs2 := HS.out.step (ny : Int) (by omega) (by omega) ho2 ha2; have hk2 := (HS.out.wr.alloc _).grown ha2.grown (Ne.symm HS.out.ne); have x20 : w2.cell? ⟨w1.heap.size, 0, none⟩ = some (.slice A n c) := hk2.cell 0; have f20 : w2.frozen? ⟨w1.heap.size, 0, none⟩ = false := hk2.frozen 0; have z2 := ha2.grown.size; simp only [World.size_alloc] at z2; have HS2 := hid hs2; clear ho2 ha2 hs2 hk2)
          go_roundg (4 - (2 + 1))
          case measure => omega
          case rel => exact ⟨2 + 1, _, _, _, by omega, rfl, by go_num, by have := HS2.out; simpa [cntB] using this, ⟨fun _ => hcn.1 (by decide), fun _ => hcn.2.1 (by decide), fun _ => hc, fun h => absurd h (by decide)⟩⟩
        · have q0 : (65535 : Int) < (ny : Int) := by omega
          have q1 : decide ((65535 : Int) < (ny : Int)) = true := decide_eq_true q0
          go_wp2
          go_ret2
          exact ⟨rfl, HS.out.low⟩
      · have ix : ∀ w', (Instr.index 86 (.agg #[.int .i64 (nq : Int), .int .i64 (nx : Int), .int .i64 (ny : Int), .int .i64 (nz : Int)]) (.int .i64 3)).run Tryd.prog w' = .ok (.int .i64 (nz : Int)) w' := fun _ => by first | kernel_rfl | (simp [Instr.index, go_sem]; done)
        by_cases hc : nz ≤ 65535
        · have q0 : ¬ (65535 : Int) < (nz : Int) := by omega
          have q1 : decide ((65535 : Int) < (nz : Int)) = false := decide_eq_false q0
          go_wp2_with (at_builtin; refine wpList_appT rfl _ _ 22 rfl (w.heap.size + 1) 5 1 1 el_u8 (.slice A n c) n _ rfl (HS.out.own.alloc _) _ 2 2 _ rfl (src_lit _ rfl (by simp [Value.oneCell']) rfl) ab1 ab2 (by simp; omega) ?_; intro v2 w2 ho2 ha2; obtain ⟨A2, c2, rfl, _⟩ := own_slice ho2; have hs2 := HS.out.step (nz : Int) (by omega) (by omega) ho2 ha2; have hk2 := (HS.out.wr.alloc _).grown ha2.grown (Ne.symm HS.out.ne); have x20 : w2.cell? ⟨w1.heap.size, 0, none⟩ = some (.slice A n c) := hk2.cell 0; have f20 : w2.frozen? ⟨w1.heap.size, 0, none⟩ = false := hk2.frozen 0; have z2 := ha2.grown.size; simp only [World.size_alloc] at z2; have HS2 := hid hs2; clear ho2 ha2 hs2 hk2)
          go_roundg (4 - (3 + 1))
          case measure => omega
          case rel => exact ⟨3 + 1, _, _, _, by omega, rfl, by go_num, by have := HS2.out; simpa [cntB] using this, ⟨fun _ => hcn.1 (by decide), fun _ => hcn.2.1 (by decide), fun _ => hcn.2.2.1 (by decide), fun _ => hc⟩⟩
        · have q0 : (65535 : Int) < (nz : Int) := by omega
          have q1 : decide ((65535 : Int) < (nz : Int)) = true := decide_eq_true q0
          go_wp2
          go_ret2
          exact ⟨rfl, HS.out.low⟩
    · exfalso
      exact HL1.out ⟨hcn.1 (by omega), hcn.2.1 (by omega), hcn.2.2.1 (by omega), hcn.2.2.2 (by omega)⟩

/-- what Write tells of a message -/
def msgT (h : Hd) (qs : List QT) (xs ys zs : List RecT) : Int × List UInt8 :=
  if 0 ≤ h.id ∧ h.id ≤ 65535 ∧ 0 ≤ h.op ∧ h.op ≤ 15 ∧ 0 ≤ h.code ∧ h.code ≤ 15 then
    if qs.length ≤ 65535 ∧ xs.length ≤ 65535 ∧ ys.length ≤ 65535 ∧ zs.length ≤ 65535 then mwR qs (xs ++ (ys ++ zs)) (hdB h ++ cntB qs.length xs.length ys.length zs.length 4)
    else (7, [])
  else (6, [])
theorem msgwrite_any {w : World} {h : Hd} {Aq : Option Addr} {nq cq : Nat} {qs : List QT} (hQ : Rd qR w w.heap.size Aq nq cq qs) {Ax : Option Addr} {nx cx : Nat} {xs : List RecT} (hX : Rd recR w w.heap.size Ax nx cx xs) {Ay : Option Addr} {ny cy : Nat} {ys : List RecT} (hY : Rd recR w w.heap.size Ay ny cy ys) {Az : Option Addr} {nz cz : Nat} {zs : List RecT} (hZ : Rd recR w w.heap.size Az nz cz zs) :
    Calls Tryd.prog 9 #[.agg (msgC h (.slice Aq nq cq) (.slice Ax nx cx) (.slice Ay ny cy) (.slice Az nz cz))] w (MwO w (msgT h qs xs ys zs)) := by
  unfold msgT
  have e1 := hQ.len
  have e2 := hX.len
  have e3 := hY.len
  have e4 := hZ.len
  by_cases hh : 0 ≤ h.id ∧ h.id ≤ 65535 ∧ 0 ≤ h.op ∧ h.op ≤ 15 ∧ 0 ≤ h.code ∧ h.code ≤ 15
  · have hk : HOk h := ⟨hh.1, hh.2.1, hh.2.2.1, hh.2.2.2.1, hh.2.2.2.2.1, hh.2.2.2.2.2⟩
    rw [if_pos hh, e1, e2, e3, e4]
    by_cases hc : nq ≤ 65535 ∧ nx ≤ 65535 ∧ ny ≤ 65535 ∧ nz ≤ 65535
    · rw [if_pos hc]
      exact msgwrite_few hk hQ hX hY hZ hc.1 hc.2.1 hc.2.2.1 hc.2.2.2
    · rw [if_neg hc]
      refine (msgwrite_many hk hQ hX hY hZ hc).mono ?_
      rintro e w' ⟨rfl, hb⟩
      exact ⟨hb, by rw [if_neg (by decide)]⟩
  · rw [if_neg hh]
    have CH := hid fun w' => hwrite_bad h (fun k => hh ⟨k.i0, k.i1, k.o0, k.o1, k.c0, k.c1⟩) w'
    clear hh hQ hX hY hZ e1 e2 e3 e4
    have tk0 : True := trivial; have tk1 : True := trivial; have tk2 : True := trivial; have tk3 : True := trivial; have tk4 : True := trivial; have tk5 : True := trivial; have tk6 : True := trivial; have tk7 : True := trivial; have tk8 : True := trivial; have tk9 : True := trivial; have tk10 : True := trivial; have tk11 : True := trivial; have tk12 : True := trivial
    go_enter Tryd.func9, Tryd.ntmps9
    go_wp2_with (go_at_call 32; have _t := tk1; (with_reducible refine (CH.out _).mono ?_); rintro e w1 ⟨rfl, hb⟩; obtain ⟨otk1, dtk1, rfl⟩ := ext_of_below hb; clear hb tk1)
    go_ret2
    exact ⟨(by (repeat' (first | (with_reducible exact Below.refl _ _) | (with_reducible assumption) | (with_reducible refine below_ext0 ?_ _ _) | (with_reducible refine below_alloc0 ?_ _) | (with_reducible refine Below.ext ?_ ?_ _ _) | (with_reducible refine Below.alloc ?_ ?_ _) | (with_reducible refine Below.setCell ?_ ?_ _) | (with_reducible refine Below.drew ?_) | (with_reducible refine below_draws ?_ _) | go_size | (simp [size_ext]; done) | (simp [size_ext]; omega)))), by rw [if_neg (by decide)]; rfl⟩
end Go.Proofs.YthccknobnpbdeaaDoor
/- Messages: what was sent is read as it was, what was read can be sent, or is too long; plain laws of what Write and Read tell. -/
namespace Go.Proofs.YthccknobnpbdeaaDoor
open Go.RowKit
set_option linter.unusedVariables false
set_option linter.unusedSimpArgs false

def cntH (h : Hd) (q x y z : Nat) : List UInt8 := hdB h ++ cntB q x y z 4
theorem cntH_len (h : Hd) (q x y z : Nat) : (cntH h q x y z).length = 12 := rfl
theorem two2_byte (n : Int) (h0 : 0 ≤ n) (h1 : n ≤ 65535) : (UInt8.ofNat (n / 256 % 256).toNat).toNat * 256 + (UInt8.ofNat (n % 256).toNat).toNat = n.toNat := by
  simp only [UInt8.toNat_ofNat']; omega
theorem cntH_at (h : Hd) (q x y z : Nat) (hq : q ≤ 65535) (hx : x ≤ 65535) (hy : y ≤ 65535) (hz : z ≤ 65535) : at2 (cntH h q x y z) 4 = q ∧ at2 (cntH h q x y z) 6 = x ∧ at2 (cntH h q x y z) 8 = y ∧ at2 (cntH h q x y z) 10 = z :=
  ⟨two2_byte (q : Int) (by omega) (by omega), two2_byte (x : Int) (by omega) (by omega), two2_byte (y : Int) (by omega) (by omega), two2_byte (z : Int) (by omega) (by omega)⟩
theorem hok_iff {h : Hd} : HOk h ↔ 0 ≤ h.id ∧ h.id ≤ 65535 ∧ 0 ≤ h.op ∧ h.op ≤ 15 ∧ 0 ≤ h.code ∧ h.code ≤ 15 := ⟨fun k => ⟨k.i0, k.i1, k.o0, k.o1, k.c0, k.c1⟩, fun k => ⟨k.1, k.2.1, k.2.2.1, k.2.2.2.1, k.2.2.2.2.1, k.2.2.2.2.2⟩⟩
/-- a message that can be sent -/
theorem msgT_ok {h : Hd} {qs : List QT} {xs ys zs : List RecT} (e : (msgT h qs xs ys zs).1 = 0) : HOk h ∧ (qs.length ≤ 65535 ∧ xs.length ≤ 65535 ∧ ys.length ≤ 65535 ∧ zs.length ≤ 65535) ∧
    ∃ b1 s1 b2 s2, wrQ qs (cntH h qs.length xs.length ys.length zs.length) [] = (0, b1, s1) ∧ wrR (xs ++ (ys ++ zs)) b1 s1 = (0, b2, s2) ∧ b2.length ≤ 65535 ∧ msgT h qs xs ys zs = (0, b2) := by
  unfold msgT at e ⊢
  by_cases hh : 0 ≤ h.id ∧ h.id ≤ 65535 ∧ 0 ≤ h.op ∧ h.op ≤ 15 ∧ 0 ≤ h.code ∧ h.code ≤ 15
  · rw [if_pos hh] at e ⊢
    refine ⟨hok_iff.2 hh, ?_⟩
    by_cases hc : qs.length ≤ 65535 ∧ xs.length ≤ 65535 ∧ ys.length ≤ 65535 ∧ zs.length ≤ 65535
    · rw [if_pos hc] at e ⊢
      refine ⟨hc, ?_⟩
      show ∃ b1 s1 b2 s2, wrQ qs (hdB h ++ cntB qs.length xs.length ys.length zs.length 4) [] = (0, b1, s1) ∧ _
      generalize hdB h ++ cntB qs.length xs.length ys.length zs.length 4 = H at *
      unfold mwR at e ⊢
      by_cases h1 : (wrQ qs H []).1 = 0
      · rw [if_pos h1] at e ⊢
        by_cases h2 : (wrR (xs ++ (ys ++ zs)) (wrQ qs H []).2.1 (wrQ qs H []).2.2).1 = 0
        · rw [if_pos h2] at e ⊢
          by_cases h3 : (wrR (xs ++ (ys ++ zs)) (wrQ qs H []).2.1 (wrQ qs H []).2.2).2.1.length ≤ 65535
          · rw [if_pos h3]
            exact ⟨(wrQ qs H []).2.1, (wrQ qs H []).2.2, (wrR (xs ++ (ys ++ zs)) (wrQ qs H []).2.1 (wrQ qs H []).2.2).2.1, (wrR (xs ++ (ys ++ zs)) (wrQ qs H []).2.1 (wrQ qs H []).2.2).2.2, by rw [← h1], by rw [← h2], h3, rfl⟩
          · rw [if_neg h3] at e; cases e
        · rw [if_neg h2] at e; exact absurd e h2
      · rw [if_neg h1] at e; exact absurd e h1
    · rw [if_neg hc] at e; cases e
  · rw [if_neg hh] at e; cases e
theorem hdOf_sent (h : Hd) (k : HOk h) (q x y z : Nat) (t : List UInt8) : hdOf (cntH h q x y z ++ t) = h := by
  obtain ⟨hb, w0, w1⟩ := back_head h k
  have c : ∀ x : Int, 0 ≤ x → x ≤ 255 → (((UInt8.ofNat x.toNat).toNat : Nat) : Int) = x := fun x h0 h1 => by rw [UInt8.toNat_ofNat']; omega
  have i0 := k.i0
  have i1 := k.i1
  show hdK (bits .or .i64 (((UInt8.ofNat (h.id / 256).toNat).toNat : Int) * 256) ((UInt8.ofNat (h.id % 256).toNat).toNat : Int)) (bits .or .i64 (((UInt8.ofNat (word h / 256 % 256).toNat).toNat : Int) * 256) ((UInt8.ofNat (word h % 256).toNat).toNat : Int)) 7 = h
  rw [c (h.id / 256) (by omega) (by omega), c (h.id % 256) (by omega) (by omega), c (word h / 256 % 256) (by omega) (by omega), c (word h % 256) (by omega) (by omega)]
  exact hb
theorem hdOf_ok (m : List UInt8) : HOk (hdOf m) := by
  obtain ⟨h, e, k, _⟩ := back_bytes (m.getD 0 0).toNat (m.getD 1 0).toNat (m.getD 2 0).toNat (m.getD 3 0).toNat (UInt8.toNat_lt _) (UInt8.toNat_lt _) (UInt8.toNat_lt _) (UInt8.toNat_lt _)
  unfold hdOf
  rw [e]; exact k
/-- WHAT IS SENT IS READ -/
theorem msg_back {h : Hd} {qs : List QT} {xs ys zs : List RecT} {b : List UInt8} (e : msgT h qs xs ys zs = (0, b)) : rdM b = (0, qs, xs, ys, zs) ∧ hdOf b = h ∧ b.length ≤ 65535 ∧ 12 ≤ b.length := by
  obtain ⟨hh, hc, b1, s1, b2, s2, h1, h2, h3, h4⟩ := msgT_ok (by rw [e])
  rw [e] at h4
  obtain rfl : b = b2 := by cases h4; rfl
  obtain ⟨a1, a2, a3, a4⟩ := cntH_at h qs.length xs.length ys.length zs.length hc.1 hc.2.1 hc.2.2.1 hc.2.2.2
  obtain ⟨r1, t, rfl⟩ := rdM_sent (cntH_len _ _ _ _ _) a1 a2 a3 a4 h1 h2
  exact ⟨r1, hdOf_sent h hh _ _ _ _ t, h3, by rw [List.length_append, cntH_len]; omega⟩
/-- what is read can be sent, if it is not too long -/
theorem msg_again {m : List UInt8} {qs : List QT} {xs ys zs : List RecT} (e : rdM m = (0, qs, xs, ys, zs)) : (msgT (hdOf m) qs xs ys zs).1 = 0 ∨ msgT (hdOf m) qs xs ys zs = (7, []) := by
  obtain ⟨qs', xs', ys', zs', p1, p2, p3, p4, h0, h1, h2, h3, h4, h5, h6⟩ := rdM_ok (b := m) (by rw [e])
  rw [e] at h6
  cases h6
  have g1 := rdQ_good _ m 12 [] (by rw [h1]) (by simp)
  have g2 := rdR_good _ m p1 [] (by rw [h2]) (by simp)
  have g3 := rdR_good _ m p2 [] (by rw [h3]) (by simp)
  have g4 := rdR_good _ m p3 [] (by rw [h4]) (by simp)
  rw [h1] at g1
  rw [h2] at g2
  rw [h3] at g3
  rw [h4] at g4
  simp only [List.length_nil, Nat.zero_add] at g1 g2 g3 g4
  have z1 := at2_le m 4
  have z2 := at2_le m 6
  have z3 := at2_le m 8
  have z4 := at2_le m 10
  unfold msgT
  rw [if_pos (hok_iff.1 (hdOf_ok m)), if_pos (by omega)]
  generalize hdB (hdOf m) ++ cntB qs.length xs.length ys.length zs.length 4 = H
  have k1 := wrQ_good qs H [] g1.1
  have k2 := wrR_good (xs ++ (ys ++ zs)) (wrQ qs H []).2.1 (wrQ qs H []).2.2 (by
    intro r hr
    rcases List.mem_append.1 hr with hr | hr
    · exact g2.1 r hr
    · rcases List.mem_append.1 hr with hr | hr
      · exact g3.1 r hr
      · exact g4.1 r hr)
  unfold mwR
  rw [if_pos k1, if_pos k2]
  split
  · exact .inl rfl
  · exact .inr rfl
end Go.Proofs.YthccknobnpbdeaaDoor
/- Are two rows of records the same, two messages? They are, where they read alike. -/
namespace Go.Proofs.YthccknobnpbdeaaDoor
open Go.RowKit
set_option linter.unusedVariables false
set_option linter.unusedSimpArgs false

set_option maxRecDepth 100000 in
set_option maxHeartbeats 4000000 in
theorem records_yes {w : World} {A1 : Option Addr} {n1 c1 : Nat} {l : List RecT} {A2 : Option Addr} {n2 c2 : Nat} (h1 : Rd recR w w.heap.size A1 n1 c1 l) (h2 : Rd recR w w.heap.size A2 n2 c2 l) :
    Calls Tryd.prog 22 #[.slice A1 n1 c1, .slice A2 n2 c2] w fun e w' => e = .returned (.bool true) ∧ Below w.heap.size w w' := by
  have m1 := h1.max
  have k1 := h1.cap
  have m2 := h2.max
  have k2 := h2.cap
  unfold maxLen at m1 m2
  obtain rfl : n1 = n2 := h1.len.symm.trans h2.len
  have H1 := hid h1
  have H2 := hid h2
  clear h1 h2
  have hv : ((n1 : Int) != (n1 : Int)) = false := by simp
  go_enter Tryd.func22, Tryd.ntmps22
  go_wp2
  go_loopg [5] n1 (fun g v wi => ∃ k : Nat, k ≤ n1 ∧ g = n1 - k ∧ v = .int .i64 k ∧ Below w.heap.size w wi)
  case atStart => exact ⟨0, Nat.zero_le _, rfl, rfl, (by (repeat' (first | (with_reducible exact Below.refl _ _) | (with_reducible assumption) | (with_reducible refine below_ext0 ?_ _ _) | (with_reducible refine below_alloc0 ?_ _) | (with_reducible refine Below.ext ?_ ?_ _ _) | (with_reducible refine Below.alloc ?_ ?_ _) | (with_reducible refine Below.setCell ?_ ?_ _) | (with_reducible refine Below.drew ?_) | (with_reducible refine below_draws ?_ _) | go_size | (simp [size_ext]; done) | (simp [size_ext]; omega))))⟩
  case round =>
    obtain ⟨k, hk, rfl, rfl, hb⟩ := hrel
    have HB := hid hb
    clear hb
    by_cases hlt : k < n1
    · obtain ⟨b1, o1, A3, n3, c3, A4, n4, c4, l1, T, C, L, d, rfl, hb1, e1, x0, x1, x2, x3, x4, r1, _, s1⟩ := (H1.out.later HB.out).recd k hlt
      obtain ⟨b2, o2, A5, n5, c5, A6, n6, c6, l2, T', C', L', d', rfl, hb2, e2, y0, y1, y2, y3, y4, r2, _, s2⟩ := (H2.out.later HB.out).recd k hlt
      rw [e1] at e2
      cases e2
      have CR := hid fun w' (hb : Below wr.heap.size wr w') => record_yes (T := T) (C := C) (L := L) (r1.later hb) (s1.later hb) (r2.later hb) (s2.later hb) (Nat.le_refl _) (Nat.le_refl _) (Nat.le_refl _) (Nat.le_refl _)
      clear e1 r1 s1 r2 s2
      have t0 : (k : Int) < (n1 : Int) := by omega
      have t1 : decide ((k : Int) < (n1 : Int)) = true := decide_eq_true t0
      have t2 : (0 : Int) ≤ (k : Int) := by omega
      have v3 : IntKind.i64.wrap ((k : Int) + 1) = (k : Int) + 1 := IntWalk.i64_in _ (by omega)
      have tk0 : True := trivial; have tk1 : True := trivial; have tk2 : True := trivial; have tk3 : True := trivial; have tk4 : True := trivial; have tk5 : True := trivial; have tk6 : True := trivial; have tk7 : True := trivial; have tk8 : True := trivial; have tk9 : True := trivial; have tk10 : True := trivial; have tk11 : True := trivial; have tk12 : True := trivial
      go_wp2_with fail
      go_region_held3 (fun w' => w'.cell? ⟨b1, o1 + k * 5, none⟩ = some (.slice A3 n3 c3) ∧ w'.cell? ⟨b1, o1 + k * 5 + 1, none⟩ = some (.int .i64 T) ∧ w'.cell? ⟨b1, o1 + k * 5 + 2, none⟩ = some (.int .i64 C) ∧ w'.cell? ⟨b1, o1 + k * 5 + 3, none⟩ = some (.int .i64 L) ∧ w'.cell? ⟨b1, o1 + k * 5 + 4, none⟩ = some (.slice A4 n4 c4) ∧ w'.cell? ⟨b2, o2 + k * 5, none⟩ = some (.slice A5 n5 c5) ∧ w'.cell? ⟨b2, o2 + k * 5 + 1, none⟩ = some (.int .i64 T) ∧ w'.cell? ⟨b2, o2 + k * 5 + 2, none⟩ = some (.int .i64 C) ∧ w'.cell? ⟨b2, o2 + k * 5 + 3, none⟩ = some (.int .i64 L) ∧ w'.cell? ⟨b2, o2 + k * 5 + 4, none⟩ = some (.slice A6 n6 c6)) (((try dsimp only); (repeat' apply And.intro) <;> (first | assumption | (go_simp; done)))) (first | (go_at_call 44; have _t := tk1; (with_reducible refine (CR.out _ (by (repeat' (first | (with_reducible exact Below.refl _ _) | (with_reducible assumption) | (with_reducible refine below_ext0 ?_ _ _) | (with_reducible refine below_alloc0 ?_ _) | (with_reducible refine Below.ext ?_ ?_ _ _) | (with_reducible refine Below.alloc ?_ ?_ _) | (with_reducible refine Below.setCell ?_ ?_ _) | (with_reducible refine Below.drew ?_) | (with_reducible refine below_draws ?_ _) | go_size | (simp [size_ext]; done) | (simp [size_ext]; omega))))).mono ?_); rintro e w1 ⟨rfl, hb⟩; obtain ⟨otk1, dtk1, rfl⟩ := ext_of_below hb; clear hb tk1))
      all_goals
        go_wp2
        go_roundg (n1 - (k + 1))
        case measure => omega
        case rel =>
          have hlw := HB.out
          exact ⟨k + 1, by omega, rfl, by go_num, (by (repeat' (first | (with_reducible exact Below.refl _ _) | (with_reducible assumption) | (with_reducible refine below_ext0 ?_ _ _) | (with_reducible refine below_alloc0 ?_ _) | (with_reducible refine Below.ext ?_ ?_ _ _) | (with_reducible refine Below.alloc ?_ ?_ _) | (with_reducible refine Below.setCell ?_ ?_ _) | (with_reducible refine Below.drew ?_) | (with_reducible refine below_draws ?_ _) | go_size | (simp [size_ext]; done) | (simp [size_ext]; omega))))⟩
    · have t0 : ¬ (k : Int) < (n1 : Int) := by omega
      have t1 : decide ((k : Int) < (n1 : Int)) = false := decide_eq_false t0
      go_wp2
      go_ret
      exact ⟨rfl, HB.out⟩

set_option maxRecDepth 100000 in
set_option maxHeartbeats 8000000 in
theorem message_yes {w : World} {h : Hd} {Aq Aq' Ax Ax' Ay Ay' Az Az' : Option Addr} {nq nq' cq cq' nx nx' cx cx' ny ny' cy cy' nz nz' cz cz' : Nat} {qs : List QT} {xs ys zs : List RecT}
    (q1 : Rd qR w w.heap.size Aq nq cq qs) (x1 : Rd recR w w.heap.size Ax nx cx xs) (y1 : Rd recR w w.heap.size Ay ny cy ys) (z1 : Rd recR w w.heap.size Az nz cz zs)
    (q2 : Rd qR w w.heap.size Aq' nq' cq' qs) (x2 : Rd recR w w.heap.size Ax' nx' cx' xs) (y2 : Rd recR w w.heap.size Ay' ny' cy' ys) (z2 : Rd recR w w.heap.size Az' nz' cz' zs) :
    Calls Tryd.prog 7 #[.agg (msgC h (.slice Aq nq cq) (.slice Ax nx cx) (.slice Ay ny cy) (.slice Az nz cz)), .agg (msgC h (.slice Aq' nq' cq') (.slice Ax' nx' cx') (.slice Ay' ny' cy') (.slice Az' nz' cz'))] w fun e w' => e = .returned (.bool true) ∧ Below w.heap.size w w' := by
  obtain rfl : nq = nq' := q1.len.symm.trans q2.len
  have m1 := q1.max
  have k1 := q1.cap
  have m2 := q2.max
  have k2 := q2.cap
  unfold maxLen at m1 m2
  have Q1 := hid q1
  have Q2 := hid q2
  have CX := hid fun w' (hb : Below w.heap.size w w') => records_yes (x1.later hb) (x2.later hb)
  have CY := hid fun w' (hb : Below w.heap.size w w') => records_yes (y1.later hb) (y2.later hb)
  have CZ := hid fun w' (hb : Below w.heap.size w w') => records_yes (z1.later hb) (z2.later hb)
  clear q1 q2 x1 x2 y1 y2 z1 z2
  go_enter Tryd.func7, Tryd.ntmps7
  go_wp2
  have hB1 : Blk ((w.alloc (.cells (msgC h (.slice Aq nq cq) (.slice Ax nx cx) (.slice Ay ny cy) (.slice Az nz cz)) 28)).alloc (.cells (msgC h (.slice Aq' nq cq') (.slice Ax' nx' cx') (.slice Ay' ny' cy') (.slice Az' nz' cz')) 28)) w.heap.size 28 (msgC h (.slice Aq nq cq) (.slice Ax nx cx) (.slice Ay ny cy) (.slice Az nz cz)) := (Blk.new _ _ _).alloc _
  have hB2 : Blk ((w.alloc (.cells (msgC h (.slice Aq nq cq) (.slice Ax nx cx) (.slice Ay ny cy) (.slice Az nz cz)) 28)).alloc (.cells (msgC h (.slice Aq' nq cq') (.slice Ax' nx' cx') (.slice Ay' ny' cy') (.slice Az' nz' cz')) 28)) (w.heap.size + 1) 28 (msgC h (.slice Aq' nq cq') (.slice Ax' nx' cx') (.slice Ay' ny' cy') (.slice Az' nz' cz')) := Blk.new' _ _ (by simp)
  go_loopg [5] nq (fun g v wi => ∃ k : Nat, k ≤ nq ∧ g = nq - k ∧ v = .int .i64 k ∧ Below w.heap.size w wi ∧ Blk wi w.heap.size 28 (msgC h (.slice Aq nq cq) (.slice Ax nx cx) (.slice Ay ny cy) (.slice Az nz cz)) ∧ Blk wi (w.heap.size + 1) 28 (msgC h (.slice Aq' nq cq') (.slice Ax' nx' cx') (.slice Ay' ny' cy') (.slice Az' nz' cz')))
  case atStart => exact ⟨0, Nat.zero_le _, rfl, rfl, (by (repeat' (first | (with_reducible exact Below.refl _ _) | (with_reducible assumption) | (with_reducible refine below_ext0 ?_ _ _) | (with_reducible refine below_alloc0 ?_ _) | (with_reducible refine Below.ext ?_ ?_ _ _) | (with_reducible refine Below.alloc ?_ ?_ _) | (with_reducible refine Below.setCell ?_ ?_ _) | (with_reducible refine Below.drew ?_) | (with_reducible refine below_draws ?_ _) | go_size | (simp [size_ext]; done) | (simp [size_ext]; omega)))), hB1, hB2⟩
  case round =>
    obtain ⟨k, hk, rfl, rfl, hb, hk1, hk2⟩ := hrel
    clear hB1 hB2
    have HB := hid hb
    have zw := hk2.lt
    have c0 : wr.cell? ⟨w.heap.size, 11, none⟩ = some (.slice Aq nq cq) := hk1.cell 11
    have c1 : wr.cell? ⟨w.heap.size + 1, 11, none⟩ = some (.slice Aq' nq cq') := hk2.cell 11
    have c2 : wr.cell? ⟨w.heap.size, 12, none⟩ = some (.slice Ax nx cx) := hk1.cell 12
    have c3 : wr.cell? ⟨w.heap.size + 1, 12, none⟩ = some (.slice Ax' nx' cx') := hk2.cell 12
    have c4 : wr.cell? ⟨w.heap.size, 13, none⟩ = some (.slice Ay ny cy) := hk1.cell 13
    have c5 : wr.cell? ⟨w.heap.size + 1, 13, none⟩ = some (.slice Ay' ny' cy') := hk2.cell 13
    have c6 : wr.cell? ⟨w.heap.size, 14, none⟩ = some (.slice Az nz cz) := hk1.cell 14
    have c7 : wr.cell? ⟨w.heap.size + 1, 14, none⟩ = some (.slice Az' nz' cz') := hk2.cell 14
    have g0 : w.heap.size < wr.heap.size := by omega
    have HK1 := hid hk1
    have HK2 := hid hk2
    clear hb hk1 hk2
    have tk0 : True := trivial; have tk1 : True := trivial; have tk2 : True := trivial; have tk3 : True := trivial; have tk4 : True := trivial; have tk5 : True := trivial; have tk6 : True := trivial; have tk7 : True := trivial; have tk8 : True := trivial; have tk9 : True := trivial; have tk10 : True := trivial; have tk11 : True := trivial; have tk12 : True := trivial
    by_cases hlt : k < nq
    · obtain ⟨b1, o1, A3, n3, c3', l1, T, C, rfl, hb1, e1, x0, x1, x2, r1, _⟩ := (Q1.out.later HB.out).quest k hlt
      obtain ⟨b2, o2, A5, n5, c5', l2, T', C', rfl, hb2, e2, y0, y1, y2, r2, _⟩ := (Q2.out.later HB.out).quest k hlt
      rw [e1] at e2
      cases e2
      have CR := hid fun w' (hb : Below wr.heap.size wr w') => texts_yes (r1.later hb) (r2.later hb)
      clear e1 r1 r2
      have t0 : (k : Int) < (nq : Int) := by omega
      have t1 : decide ((k : Int) < (nq : Int)) = true := decide_eq_true t0
      have t2 : (0 : Int) ≤ (k : Int) := by omega
      have v3 : IntKind.i64.wrap ((k : Int) + 1) = (k : Int) + 1 := IntWalk.i64_in _ (by omega)
      go_wp2_with fail
      go_region_held3 (fun w' => w'.cell? ⟨w.heap.size, 11, none⟩ = some (.slice (some ⟨b1, o1, none⟩) nq cq) ∧ w'.cell? ⟨w.heap.size + 1, 11, none⟩ = some (.slice (some ⟨b2, o2, none⟩) nq cq') ∧ w'.cell? ⟨b1, o1 + k * 3, none⟩ = some (.slice A3 n3 c3') ∧ w'.cell? ⟨b2, o2 + k * 3, none⟩ = some (.slice A5 n5 c5')) (((try dsimp only); (repeat' apply And.intro) <;> (first | assumption | (go_simp; done)))) (first | (go_at_call 21; have _t := tk1; (with_reducible refine (CR.out _ (by (repeat' (first | (with_reducible exact Below.refl _ _) | (with_reducible assumption) | (with_reducible refine below_ext0 ?_ _ _) | (with_reducible refine below_alloc0 ?_ _) | (with_reducible refine Below.ext ?_ ?_ _ _) | (with_reducible refine Below.alloc ?_ ?_ _) | (with_reducible refine Below.setCell ?_ ?_ _) | (with_reducible refine Below.drew ?_) | (with_reducible refine below_draws ?_ _) | go_size | (simp [size_ext]; done) | (simp [size_ext]; omega))))).mono ?_); rintro e w1 ⟨rfl, hb⟩; obtain ⟨otk1, dtk1, rfl⟩ := ext_of_below hb; clear hb tk1))
      all_goals
        go_wp2_with fail
        go_region_held3 (fun w' => w'.cell? ⟨w.heap.size, 11, none⟩ = some (.slice (some ⟨b1, o1, none⟩) nq cq) ∧ w'.cell? ⟨w.heap.size + 1, 11, none⟩ = some (.slice (some ⟨b2, o2, none⟩) nq cq') ∧ w'.cell? ⟨b1, o1 + k * 3 + 1, none⟩ = some (.int .i64 T) ∧ w'.cell? ⟨b2, o2 + k * 3 + 1, none⟩ = some (.int .i64 T) ∧ w'.cell? ⟨b1, o1 + k * 3 + 2, none⟩ = some (.int .i64 C) ∧ w'.cell? ⟨b2, o2 + k * 3 + 2, none⟩ = some (.int .i64 C)) (((try dsimp only); (repeat' apply And.intro) <;> (first | assumption | (go_simp; done)))) (fail)
        all_goals
          go_wp2
          go_roundg (nq - (k + 1))
          case measure => omega
          case rel =>
            have hlw := HB.out
            exact ⟨k + 1, by omega, rfl, by go_num, (by (repeat' (first | (with_reducible exact Below.refl _ _) | (with_reducible assumption) | (with_reducible refine below_ext0 ?_ _ _) | (with_reducible refine below_alloc0 ?_ _) | (with_reducible refine Below.ext ?_ ?_ _ _) | (with_reducible refine Below.alloc ?_ ?_ _) | (with_reducible refine Below.setCell ?_ ?_ _) | (with_reducible refine Below.drew ?_) | (with_reducible refine below_draws ?_ _) | go_size | (simp [size_ext]; done) | (simp [size_ext]; omega)))), by have := HK1.out; (repeat' (first | (with_reducible exact Blk.new _ _ _) | (with_reducible assumption) | (with_reducible refine Blk.ext ?_ _ _) | (with_reducible refine Blk.drew ?_) | (with_reducible refine Blk.alloc ?_ _))), by have := HK2.out; (repeat' (first | (with_reducible exact Blk.new _ _ _) | (with_reducible assumption) | (with_reducible refine Blk.ext ?_ _ _) | (with_reducible refine Blk.drew ?_) | (with_reducible refine Blk.alloc ?_ _)))⟩
    · have t0 : ¬ (k : Int) < (nq : Int) := by omega
      have t1 : decide ((k : Int) < (nq : Int)) = false := decide_eq_false t0
      have hlw := HB.out
      go_wp2_with (first
        | (go_at_call 22; have _t := tk1; (with_reducible refine (CX.out _ (by (repeat' (first | (with_reducible exact Below.refl _ _) | (with_reducible assumption) | (with_reducible refine below_ext0 ?_ _ _) | (with_reducible refine below_alloc0 ?_ _) | (with_reducible refine Below.ext ?_ ?_ _ _) | (with_reducible refine Below.alloc ?_ ?_ _) | (with_reducible refine Below.setCell ?_ ?_ _) | (with_reducible refine Below.drew ?_) | (with_reducible refine below_draws ?_ _) | go_size | (simp [size_ext]; done) | (simp [size_ext]; omega))))).mono ?_); rintro e w1 ⟨rfl, hb⟩; obtain ⟨otk1, dtk1, rfl⟩ := ext_of_below hb; clear hb tk1)
        | (go_at_call 22; have _t := tk2; (with_reducible refine (CY.out _ (by (repeat' (first | (with_reducible exact Below.refl _ _) | (with_reducible assumption) | (with_reducible refine below_ext0 ?_ _ _) | (with_reducible refine below_alloc0 ?_ _) | (with_reducible refine Below.ext ?_ ?_ _ _) | (with_reducible refine Below.alloc ?_ ?_ _) | (with_reducible refine Below.setCell ?_ ?_ _) | (with_reducible refine Below.drew ?_) | (with_reducible refine below_draws ?_ _) | go_size | (simp [size_ext]; done) | (simp [size_ext]; omega))))).mono ?_); rintro e w1 ⟨rfl, hb⟩; obtain ⟨otk2, dtk2, rfl⟩ := ext_of_below hb; clear hb tk2)
        | (go_at_call 22; have _t := tk3; (with_reducible refine (CZ.out _ (by (repeat' (first | (with_reducible exact Below.refl _ _) | (with_reducible assumption) | (with_reducible refine below_ext0 ?_ _ _) | (with_reducible refine below_alloc0 ?_ _) | (with_reducible refine Below.ext ?_ ?_ _ _) | (with_reducible refine Below.alloc ?_ ?_ _) | (with_reducible refine Below.setCell ?_ ?_ _) | (with_reducible refine Below.drew ?_) | (with_reducible refine below_draws ?_ _) | go_size | (simp [size_ext]; done) | (simp [size_ext]; omega))))).mono ?_); rintro e w1 ⟨rfl, hb⟩; obtain ⟨otk3, dtk3, rfl⟩ := ext_of_below hb; clear hb tk3))
      go_ret
      exact ⟨rfl, (by (repeat' (first | (with_reducible exact Below.refl _ _) | (with_reducible assumption) | (with_reducible refine below_ext0 ?_ _ _) | (with_reducible refine below_alloc0 ?_ _) | (with_reducible refine Below.ext ?_ ?_ _ _) | (with_reducible refine Below.alloc ?_ ?_ _) | (with_reducible refine Below.setCell ?_ ?_ _) | (with_reducible refine Below.drew ?_) | (with_reducible refine below_draws ?_ _) | go_size | (simp [size_ext]; done) | (simp [size_ext]; omega))))⟩
end Go.Proofs.YthccknobnpbdeaaDoor
/- Messages as the laws meet them: how one comes in, msg.Write and msg.Read with what they hand back written out. -/
namespace Go.Proofs.YthccknobnpbdeaaDoor
open Go.RowKit
set_option linter.unusedVariables false
set_option linter.unusedSimpArgs false

theorem opens_question : Opens Tryd.prog 51 qR := opens_struct Tryd.underlying51 rfl (by kernel_rfl) (fields_cons rfl (by kernel_rfl) (opens_slice Tryd.underlying46 (opens_str Tryd.underlying9) (by kernel_rfl) (by decide) (of_decide_eq_true (by kernel_rfl))) (fields_cons rfl (by kernel_rfl) (opens_int Tryd.underlying3) (fields_cons rfl (by kernel_rfl) (opens_int Tryd.underlying3) (fields_nil _))))
abbrev MsgX := (Int × Bool × Int × Bool × Bool × Bool × Bool × Bool × Bool × Bool × Int × Unit) × List QT × List RecT × List RecT × List RecT × Unit
abbrev messageR : Rep MsgX := pairR headerR (pairR (sliceR qR) (pairR (sliceR recR) (pairR (sliceR recR) (pairR (sliceR recR) unitR))))
theorem opens_records : Opens Tryd.prog 26 (sliceR recR) := opens_slice Tryd.underlying26 opens_record (by kernel_rfl) (by decide) (of_decide_eq_true (by kernel_rfl))
theorem opens_message : Opens Tryd.prog 28 messageR := opens_struct Tryd.underlying28 rfl (by kernel_rfl)
  (fields_cons rfl (by kernel_rfl) opens_header (fields_cons rfl (by kernel_rfl) (opens_slice Tryd.underlying25 opens_question (by kernel_rfl) (by decide) (of_decide_eq_true (by kernel_rfl))) (fields_cons rfl (by kernel_rfl) opens_records (fields_cons rfl (by kernel_rfl) opens_records (fields_cons rfl (by kernel_rfl) opens_records (fields_nil _))))))
theorem message_of {w : World} {B : Nat} {x : MsgX} {cs : Array Value} (h : messageR.rel w B x cs.toList) :
    ∃ (g : Hd) (Aq Ax Ay Az : Option Addr) (nq cq nx cx ny cy nz cz : Nat) (u : Int × Bool × Int × Bool × Bool × Bool × Bool × Bool × Bool × Bool × Int × Unit) (qs : List QT) (xs ys zs : List RecT), x = (u, qs, xs, ys, zs, ()) ∧ cs = msgC g (.slice Aq nq cq) (.slice Ax nx cx) (.slice Ay ny cy) (.slice Az nz cz) ∧
      Rd qR w B Aq nq cq qs ∧ Rd recR w B Ax nx cx xs ∧ Rd recR w B Ay ny cy ys ∧ Rd recR w B Az nz cz zs := by
  obtain ⟨u, qs, xs, ys, zs, _⟩ := x
  obtain ⟨vs, _, e0, h0, _, _, rfl, ⟨Aq, nq, cq, rfl, h1⟩, _, _, rfl, ⟨Ax, nx, cx, rfl, h2⟩, _, _, rfl, ⟨Ay, ny, cy, rfl, h3⟩, _, _, rfl, ⟨Az, nz, cz, rfl, h4⟩, rfl⟩ := h
  obtain ⟨g, hg⟩ := header_of (cs := vs.toArray) (by simpa using h0)
  obtain rfl : vs = (hdCells g).toList := by rw [← hg]
  exact ⟨g, Aq, Ax, Ay, Az, nq, cq, nx, cx, ny, cy, nz, cz, u, qs, xs, ys, zs, rfl, by cases cs; simpa [hdCells] using e0, h1, h2, h3, h4⟩

section
variable {w : World} {h : Hd} {Aq Ax Ay Az : Option Addr} {nq cq nx cx ny cy nz cz : Nat} {qs : List QT} {xs ys zs : List RecT}
theorem msgwrite_yes (hQ : Rd qR w w.heap.size Aq nq cq qs) (hX : Rd recR w w.heap.size Ax nx cx xs) (hY : Rd recR w w.heap.size Ay ny cy ys) (hZ : Rd recR w w.heap.size Az nz cz zs) {b : List UInt8} {k : Nat} (hT : msgT h qs xs ys zs = (0, b)) (hk : b.length = k) :
    Calls Tryd.prog 9 #[.agg (msgC h (.slice Aq nq cq) (.slice Ax nx cx) (.slice Ay ny cy) (.slice Az nz cz))] w fun e w' => ∃ A c, e = .returned (.tuple #[.slice A k c, .nilIface]) ∧ Rd u8R w' w'.heap.size A k c b ∧ Below w.heap.size w w' := by
  refine (msgwrite_any hQ hX hY hZ).mono ?_
  rintro e w' ⟨hb, hr⟩
  rw [hT, if_pos rfl] at hr
  subst hk
  obtain ⟨A, c, he, hr, _⟩ := hr
  exact ⟨A, c, he, hr, hb⟩
theorem msgwrite_own (hQ : Rd qR w w.heap.size Aq nq cq qs) (hX : Rd recR w w.heap.size Ax nx cx xs) (hY : Rd recR w w.heap.size Ay ny cy ys) (hZ : Rd recR w w.heap.size Az nz cz zs) {b : List UInt8} {k : Nat} (hT : msgT h qs xs ys zs = (0, b)) (hk : b.length = k) :
    Calls Tryd.prog 9 #[.agg (msgC h (.slice Aq nq cq) (.slice Ax nx cx) (.slice Ay ny cy) (.slice Az nz cz))] w fun e w' => ∃ A c, e = .returned (.tuple #[.slice A k c, .nilIface]) ∧ (Rd u8R w' w'.heap.size A k c b ∧ w'.ownsRow w.heap.size 5 1 (.slice A k c) k (bytesV b)) ∧ Below w.heap.size w w' := by
  refine (msgwrite_any hQ hX hY hZ).mono ?_
  rintro e w' ⟨hb, hr⟩
  rw [hT, if_pos rfl] at hr
  subst hk
  obtain ⟨A, c, he, hr, ho⟩ := hr
  exact ⟨A, c, he, ⟨hr, ho⟩, hb⟩
theorem msgwrite_no (hQ : Rd qR w w.heap.size Aq nq cq qs) (hX : Rd recR w w.heap.size Ax nx cx xs) (hY : Rd recR w w.heap.size Ay ny cy ys) (hZ : Rd recR w w.heap.size Az nz cz zs) {k : Int} (hT : (msgT h qs xs ys zs).1 = k) (hk : k ≠ 0) :
    Calls Tryd.prog 9 #[.agg (msgC h (.slice Aq nq cq) (.slice Ax nx cx) (.slice Ay ny cy) (.slice Az nz cz))] w fun e w' => e = .returned (.tuple #[.slice none 0 0, .iface 29 (.int .i64 k)]) ∧ Below w.heap.size w w' := by
  refine (msgwrite_any hQ hX hY hZ).mono ?_
  rintro e w' ⟨hb, hr⟩
  rw [hT, if_neg hk] at hr
  exact ⟨hr, hb⟩
theorem msgwrite_fact (w : World) : Calls Tryd.prog 9 #[.agg #[.int .i64 0, .bool false, .int .i64 0, .bool false, .bool false, .bool false, .bool false, .bool false, .bool false, .bool false, .int .i64 0, .slice none 0 0, .slice none 0 0, .slice none 0 0, .slice none 0 0]] w fun e w' => ∃ A c, e = .returned (.tuple #[.slice A 12 c, .nilIface]) ∧ Rd u8R w' w'.heap.size A 12 c (List.replicate 12 0) ∧ Below w.heap.size w w' :=
  msgwrite_yes (h := hd0) (rd_nil _ _) (rd_nil _ _) (rd_nil _ _) (rd_nil _ _) (by decide +kernel) rfl
end
theorem msgread_any {w : World} {A : Option Addr} {n c : Nat} {m : List UInt8} (hM : Rd u8R w w.heap.size A n c m) : Calls Tryd.prog 5 #[.slice A n c] w (MrO w m) := by
  by_cases hn : n < 12
  · exact msgread_short hM hn
  · exact msgread_long hM hn
theorem msgread_yes {w : World} {A : Option Addr} {n c : Nat} {m : List UInt8} (hM : Rd u8R w w.heap.size A n c m) {h : Hd} {qs : List QT} {xs ys zs : List RecT} (hr : rdM m = (0, qs, xs, ys, zs)) (hh : hdOf m = h) {nq nx ny nz : Nat} (eq : qs.length = nq) (ex : xs.length = nx) (ey : ys.length = ny) (ez : zs.length = nz) :
    Calls Tryd.prog 5 #[.slice A n c] w fun e w' => ∃ Aq cq Ax cx Ay cy Az cz, e = .returned (.tuple #[.agg (msgC h (.slice Aq nq cq) (.slice Ax nx cx) (.slice Ay ny cy) (.slice Az nz cz)), .nilIface]) ∧ (Rd qR w' w'.heap.size Aq nq cq qs ∧ Rd recR w' w'.heap.size Ax nx cx xs ∧ Rd recR w' w'.heap.size Ay ny cy ys ∧ Rd recR w' w'.heap.size Az nz cz zs) ∧ Below w.heap.size w w' := by
  refine (msgread_any hM).mono ?_
  rintro e w' ⟨Aq, Ax, Ay, Az, nq', cq, nx', cx, ny', cy, nz', cz, he, h1, h2, h3, h4, hb⟩
  rw [hr] at he h1 h2 h3 h4
  rw [if_pos rfl, errV_zero, hh] at he
  obtain rfl : nq' = nq := h1.len.symm.trans eq
  obtain rfl : nx' = nx := h2.len.symm.trans ex
  obtain rfl : ny' = ny := h3.len.symm.trans ey
  obtain rfl : nz' = nz := h4.len.symm.trans ez
  exact ⟨Aq, cq, Ax, cx, Ay, cy, Az, cz, he, ⟨h1, h2, h3, h4⟩, hb⟩
theorem msgread_no {w : World} {A : Option Addr} {n c : Nat} {m : List UInt8} (hM : Rd u8R w w.heap.size A n c m) {k : Int} (hr : (rdM m).1 = k) (hk : k ≠ 0) :
    Calls Tryd.prog 5 #[.slice A n c] w fun e w' => ∃ Aq cq Ax cx Ay cy Az cz, e = .returned (.tuple #[.agg (msgC hd0 (.slice Aq 0 cq) (.slice Ax 0 cx) (.slice Ay 0 cy) (.slice Az 0 cz)), .iface 29 (.int .i64 k)]) ∧ (Rd qR w' w'.heap.size Aq 0 cq [] ∧ Rd recR w' w'.heap.size Ax 0 cx [] ∧ Rd recR w' w'.heap.size Ay 0 cy [] ∧ Rd recR w' w'.heap.size Az 0 cz []) ∧ Below w.heap.size w w' := by
  have hz := rdM_bad hr hk
  refine (msgread_any hM).mono ?_
  rintro e w' ⟨Aq, Ax, Ay, Az, nq', cq, nx', cx, ny', cy, nz', cz, he, h1, h2, h3, h4, hb⟩
  rw [hz] at he h1 h2 h3 h4
  rw [if_neg hk, errV_ne hk] at he
  obtain rfl : nq' = 0 := h1.len.symm
  obtain rfl : nx' = 0 := h2.len.symm
  obtain rfl : ny' = 0 := h3.len.symm
  obtain rfl : nz' = 0 := h4.len.symm
  exact ⟨Aq, cq, Ax, cx, Ay, cy, Az, cz, he, ⟨h1, h2, h3, h4⟩, hb⟩
end Go.Proofs.YthccknobnpbdeaaDoor
