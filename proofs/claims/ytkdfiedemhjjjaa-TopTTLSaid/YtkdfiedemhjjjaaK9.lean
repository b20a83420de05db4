/- msg: Write, whatever it is to write. -/
import Derived.Test.YtkdfiedemhjjjaaK6
import Derived.Test.YtkdfiedemhjjjaaK8
import Derived.Test.YtkdfiedemhjjjaaK2
import Derived.Test.YtkdfiedemhjjjaaK7
namespace Go.Proofs.Ytkdfiedemhjjjaa
open Go.RowKit
set_option linter.unusedVariables false
set_option linter.unusedSimpArgs false

set_option maxRecDepth 100000 in
set_option maxHeartbeats 8000000 in
theorem msgwrite_many {w : World} {h : Hd} (hh : HOk h) {Aq : Option Addr} {nq cq : Nat} {qs : List QT} (hQ : Rd qR w w.heap.size Aq nq cq qs) {Ax : Option Addr} {nx cx : Nat} {xs : List RecT} (hX : Rd recR w w.heap.size Ax nx cx xs) {Ay : Option Addr} {ny cy : Nat} {ys : List RecT} (hY : Rd recR w w.heap.size Ay ny cy ys) {Az : Option Addr} {nz cz : Nat} {zs : List RecT} (hZ : Rd recR w w.heap.size Az nz cz zs)
    (l1 : ¬ (nq ≤ 65535 ∧ nx ≤ 65535 ∧ ny ≤ 65535 ∧ nz ≤ 65535)) :
    Calls Try.prog 12 #[.agg (msgC h (.slice Aq nq cq) (.slice Ax nx cx) (.slice Ay ny cy) (.slice Az nz cz))] w fun e w' => e = .returned (.tuple #[.slice none 0 0, .iface 65 (.int .i64 7)]) ∧ Below w.heap.size w w' := by
  have CH := hid fun w' => hwrite_ok h hh w'
  obtain ⟨_, wd0, wd1⟩ := back_head h hh
  have HDC := hid (hd_cells h hh wd0 wd1)
  have HL1 := hid l1
  have m1 := hQ.lim
  have m2 := hX.lim
  have m3 := hY.lim
  have m4 := hZ.lim
  simp only [show qR.bs = 40 from rfl, show recR.bs = 72 from rfl] at m1 m2 m3 m4
  clear hh l1 hQ hX hY hZ
  have tk0 : True := trivial; have tk1 : True := trivial; have tk2 : True := trivial; have tk3 : True := trivial; have tk4 : True := trivial; have tk5 : True := trivial; have tk6 : True := trivial; have tk7 : True := trivial; have tk8 : True := trivial; have tk9 : True := trivial; have tk10 : True := trivial; have tk11 : True := trivial; have tk12 : True := trivial
  go_enter Try.func12, Try.ntmps12
  go_wp2_with (go_at_call 33; have _t := tk1; (with_reducible refine (CH.out _).mono ?_); rintro e w1 ⟨g, rfl, hg, hk, hb⟩; have kx := (Blk.below (by (repeat' (first | (with_reducible exact Blk.new _ _ _) | (with_reducible assumption) | (with_reducible refine Blk.ext ?_ _ _) | (with_reducible refine Blk.drew ?_) | (with_reducible refine Blk.alloc ?_ _)))) hb (by simp) : Blk w1 w.heap.size 43 (msgC h (.slice Aq nq cq) (.slice Ax nx cx) (.slice Ay ny cy) (.slice Az nz cz))); have x11 : w1.cell? ⟨w.heap.size, 11, none⟩ = some (.slice Aq nq cq) := kx.cell 11; have x12 : w1.cell? ⟨w.heap.size, 12, none⟩ = some (.slice Ax nx cx) := kx.cell 12; have x13 : w1.cell? ⟨w.heap.size, 13, none⟩ = some (.slice Ay ny cy) := kx.cell 13; have x14 : w1.cell? ⟨w.heap.size, 14, none⟩ = some (.slice Az nz cz) := kx.cell 14; have HB1 := hid (Below.trans (by (repeat' (first | (with_reducible exact Below.refl _ _) | (with_reducible assumption) | (with_reducible refine below_ext0 ?_ _ _) | (with_reducible refine below_alloc0 ?_ _) | (with_reducible refine Below.ext ?_ ?_ _ _) | (with_reducible refine Below.alloc ?_ ?_ _) | (with_reducible refine Below.setCell ?_ ?_ _) | (with_reducible refine Below.drew ?_) | (with_reducible refine below_draws ?_ _) | go_size | (simp [size_ext]; done) | (simp [size_ext]; omega)))) (hb.mono (by simp)) : Below w.heap.size w w1); have z1 := hb.size; simp at z1 hg; have zw : w.heap.size < w1.heap.size := (by omega); have KX := hid kx; have KG := hid hk; clear hb kx hk tk1)
  go_loopg [42] 4 (fun gk v wi => ∃ (k : Nat) (A : Option Addr) (n c : Nat), k ≤ 4 ∧ gk = 4 - k ∧ v = .int .i64 (k : Int) ∧ CntS w w1.heap.size (msgC h (.slice Aq nq cq) (.slice Ax nx cx) (.slice Ay ny cy) (.slice Az nz cz)) (hdB h ++ cntB nq nx ny nz k) wi A n c ∧ ((1 ≤ k → nq ≤ 65535) ∧ (2 ≤ k → nx ≤ 65535) ∧ (3 ≤ k → ny ≤ 65535) ∧ (4 ≤ k → nz ≤ 65535)))
  case atStart =>
    refine ⟨0, _, _, _, Nat.zero_le _, rfl, rfl, ⟨Blk.new _ _ _, ?_, ?_, ?_, ?_, ?_, zw⟩, by omega⟩
    · refine (World.ownsRow.alloc (w := w1) ?_ _)
      refine ⟨by simp [bytesV, hdB, cntB], .inr ⟨g, 4, _, rfl, by omega, KG.out, Nat.le_refl _, by simp [maxLen], rfl, ?_⟩⟩
      rw [HDC.out]
      simp [cntB]
      rfl
    · simp [Value.ownBlock]
      have := KG.out.lt
      omega
    · exact Below.alloc HB1.out (by omega) _
    · exact KX.out.alloc _
    · simp
  case round =>
    obtain ⟨k, A, n, c, hk, rfl, rfl, hs, hcn⟩ := hrel
    have hnl := hs.own.1
    have hz := hs.lt
    have HS := hid hs
    have x0 : wr.cell? ⟨w1.heap.size, 0, none⟩ = some (.slice A n c) := hs.wr.cell 0
    have x1 : wr.cell? ⟨w1.heap.size, 1, none⟩ = some (.slice none 0 0) := hs.wr.cell 1
    have y0 : wr.frozen? ⟨w1.heap.size, 0, none⟩ = false := hs.wr.frozen 0
    have y11 : wr.cell? ⟨w.heap.size, 11, none⟩ = some (.slice Aq nq cq) := hs.box.cell 11
    have hn12 : n = 4 + 2 * k := by
      have hc : (cntB nq nx ny nz k).length = 2 * k := by
        have hk' : k = 0 ∨ k = 1 ∨ k = 2 ∨ k = 3 ∨ k = 4 := by omega
        rcases hk' with rfl | rfl | rfl | rfl | rfl <;> rfl
      simp only [bytesV, List.length_map, List.length_append, hc, Nat.mul_one] at hnl
      have : (hdB h).length = 4 := rfl
      omega
    have ab1 : (n + 2) * 1 ≤ 140737488355328 := by omega
    have ab2 : n + 2 ≤ maxLen := by unfold maxLen; omega
    have HN12 := hid hn12
    clear hs hn12 hnl
    by_cases hk4 : k < 4
    · have hk' : k = 0 ∨ k = 1 ∨ k = 2 ∨ k = 3 := by omega
      rcases hk' with rfl | rfl | rfl | rfl
      · have ix : ∀ w', (Instr.index 89 (.agg #[.int .i64 (nq : Int), .int .i64 (nx : Int), .int .i64 (ny : Int), .int .i64 (nz : Int)]) (.int .i64 0)).run Try.prog w' = .ok (.int .i64 (nq : Int)) w' := fun _ => by first | kernel_rfl | (simp [Instr.index, go_sem]; done)
        by_cases hc : nq ≤ 65535
        · have q0 : ¬ (65535 : Int) < (nq : Int) := by omega
          have q1 : decide ((65535 : Int) < (nq : Int)) = false := decide_eq_false q0
          go_wp2_with (at_builtin; refine wpList_appT rfl _ _ 22 rfl (w.heap.size + 1) 5 1 1 el_u8 (.slice A n c) n _ rfl (HS.out.own.alloc _) _ 2 2 _ rfl (src_lit _ rfl (by simp [Value.oneCell']) rfl) ab1 ab2 (by simp; omega) ?_; intro v2 w2 ho2 ha2; obtain ⟨A2, c2, rfl, _⟩ := own_slice ho2; have hs2 := HS.out.step (nq : Int) (by omega) (by omega) ho2 ha2; have hk2 := (HS.out.wr.alloc _).grown ha2.grown (Ne.symm HS.out.ne); have x20 : w2.cell? ⟨w1.heap.size, 0, none⟩ = some (.slice A n c) := hk2.cell 0; have f20 : w2.frozen? ⟨w1.heap.size, 0, none⟩ = false := hk2.frozen 0; have z2 := ha2.grown.size; simp only [World.size_alloc] at z2; have HS2 := hid hs2; clear ho2 ha2 hs2 hk2)
          go_roundg (4 - (0 + 1))
          case measure => omega
          case rel => exact ⟨0 + 1, _, _, _, by omega, rfl, by go_num, by have := HS2.out; simpa [cntB] using this, ⟨fun _ => hc, fun h => absurd h (by decide), fun h => absurd h (by decide), fun h => absurd h (by decide)⟩⟩
        · have q0 : (65535 : Int) < (nq : Int) := by omega
          have q1 : decide ((65535 : Int) < (nq : Int)) = true := decide_eq_true q0
          go_wp2
          go_ret2
          exact ⟨rfl, HS.out.low⟩
      · have ix : ∀ w', (Instr.index 89 (.agg #[.int .i64 (nq : Int), .int .i64 (nx : Int), .int .i64 (ny : Int), .int .i64 (nz : Int)]) (.int .i64 1)).run Try.prog w' = .ok (.int .i64 (nx : Int)) w' := fun _ => by first | kernel_rfl | (simp [Instr.index, go_sem]; done)
        by_cases hc : nx ≤ 65535
        · have q0 : ¬ (65535 : Int) < (nx : Int) := by omega
          have q1 : decide ((65535 : Int) < (nx : Int)) = false := decide_eq_false q0
          go_wp2_with (at_builtin; refine wpList_appT rfl _ _ 22 rfl (w.heap.size + 1) 5 1 1 el_u8 (.slice A n c) n _ rfl (HS.out.own.alloc _) _ 2 2 _ rfl (src_lit _ rfl (by simp [Value.oneCell']) rfl) ab1 ab2 (by simp; omega) ?_; intro v2 w2 ho2 ha2; obtain ⟨A2, c2, rfl, _⟩ := own_slice ho2; have hs2 := HS.out.step (nx : Int) (by omega) (by omega) ho2 ha2; have hk2 := (HS.out.wr.alloc _).grown ha2.grown (Ne.symm HS.out.ne); have x20 : w2.cell? ⟨w1.heap.size, 0, none⟩ = some (.slice A n c) := hk2.cell 0; have f20 : w2.frozen? ⟨w1.heap.size, 0, none⟩ = false := hk2.frozen 0; have z2 := ha2.grown.size; simp only [World.size_alloc] at z2; have HS2 := hid hs2; clear ho2 ha2 hs2 hk2)
          go_roundg (4 - (1 + 1))
          case measure => omega
          case rel => exact ⟨1 + 1, _, _, _, by omega, rfl, by go_num, by have := HS2.out; simpa [cntB] using this, ⟨fun _ => hcn.1 (by decide), fun _ => hc, fun h => absurd h (by decide), fun h => absurd h (by decide)⟩⟩
        · have q0 : (65535 : Int) < (nx : Int) := by omega
          have q1 : decide ((65535 : Int) < (nx : Int)) = true := decide_eq_true q0
          go_wp2
          go_ret2
          exact ⟨rfl, HS.out.low⟩
      · have ix : ∀ w', (Instr.index 89 (.agg #[.int .i64 (nq : Int), .int .i64 (nx : Int), .int .i64 (ny : Int), .int .i64 (nz : Int)]) (.int .i64 2)).run Try.prog w' = .ok (.int .i64 (ny : Int)) w' := fun _ => by first | kernel_rfl | (simp [Instr.index, go_sem]; done)
        by_cases hc : ny ≤ 65535
        · have q0 : ¬ (65535 : Int) < (ny : Int) := by omega
          have q1 : decide ((65535 : Int) < (ny : Int)) = false := decide_eq_false q0
          go_wp2_with (at_builtin; refine wpList_appT rfl _ _ 22 rfl (w.heap.size + 1) 5 1 1 el_u8 (.slice A n c) n _ rfl (HS.out.own.alloc _) _ 2 2 _ rfl (src_lit _ rfl (by simp [Value.oneCell']) rfl) ab1 ab2 (by simp; omega) ?_; intro v2 w2 ho2 ha2; obtain ⟨A2, c2, rfl, _⟩ := own_slice ho2; have hs2 := HS.out.step (ny : Int) (by omega) (by omega) ho2 ha2; have hk2 := (HS.out.wr.alloc _).grown ha2.grown (Ne.symm HS.out.ne); have x20 : w2.cell? ⟨w1.heap.size, 0, none⟩ = some (.slice A n c) := hk2.cell 0; have f20 : w2.frozen? ⟨w1.heap.size, 0, none⟩ = false := hk2.frozen 0; have z2 := ha2.grown.size; simp only [World.size_alloc] at z2; have HS2 := hid hs2; clear ho2 ha2 hs2 hk2)
          go_roundg (4 - (2 + 1))
          case measure => omega
          case rel => exact ⟨2 + 1, _, _, _, by omega, rfl, by go_num, by have := HS2.out; simpa [cntB] using this, ⟨fun _ => hcn.1 (by decide), fun _ => hcn.2.1 (by decide), fun _ => hc, fun h => absurd h (by decide)⟩⟩
        · have q0 : (65535 : Int) < (ny : Int) := by omega
          have q1 : decide ((65535 : Int) < (ny : Int)) = true := decide_eq_true q0
          go_wp2
          go_ret2
          exact ⟨rfl, HS.out.low⟩
      · have ix : ∀ w', (Instr.index 89 (.agg #[.int .i64 (nq : Int), .int .i64 (nx : Int), .int .i64 (ny : Int), .int .i64 (nz : Int)]) (.int .i64 3)).run Try.prog w' = .ok (.int .i64 (nz : Int)) w' := fun _ => by first | kernel_rfl | (simp [Instr.index, go_sem]; done)
        by_cases hc : nz ≤ 65535
        · have q0 : ¬ (65535 : Int) < (nz : Int) := by omega
          have q1 : decide ((65535 : Int) < (nz : Int)) = false := decide_eq_false q0
          go_wp2_with (at_builtin; refine wpList_appT rfl _ _ 22 rfl (w.heap.size + 1) 5 1 1 el_u8 (.slice A n c) n _ rfl (HS.out.own.alloc _) _ 2 2 _ rfl (src_lit _ rfl (by simp [Value.oneCell']) rfl) ab1 ab2 (by simp; omega) ?_; intro v2 w2 ho2 ha2; obtain ⟨A2, c2, rfl, _⟩ := own_slice ho2; have hs2 := HS.out.step (nz : Int) (by omega) (by omega) ho2 ha2; have hk2 := (HS.out.wr.alloc _).grown ha2.grown (Ne.symm HS.out.ne); have x20 : w2.cell? ⟨w1.heap.size, 0, none⟩ = some (.slice A n c) := hk2.cell 0; have f20 : w2.frozen? ⟨w1.heap.size, 0, none⟩ = false := hk2.frozen 0; have z2 := ha2.grown.size; simp only [World.size_alloc] at z2; have HS2 := hid hs2; clear ho2 ha2 hs2 hk2)
          go_roundg (4 - (3 + 1))
          case measure => omega
          case rel => exact ⟨3 + 1, _, _, _, by omega, rfl, by go_num, by have := HS2.out; simpa [cntB] using this, ⟨fun _ => hcn.1 (by decide), fun _ => hcn.2.1 (by decide), fun _ => hcn.2.2.1 (by decide), fun _ => hc⟩⟩
        · have q0 : (65535 : Int) < (nz : Int) := by omega
          have q1 : decide ((65535 : Int) < (nz : Int)) = true := decide_eq_true q0
          go_wp2
          go_ret2
          exact ⟨rfl, HS.out.low⟩
    · exfalso
      exact HL1.out ⟨hcn.1 (by omega), hcn.2.1 (by omega), hcn.2.2.1 (by omega), hcn.2.2.2 (by omega)⟩

/-- what Write tells of a message -/
def msgT (h : Hd) (qs : List QT) (xs ys zs : List RecT) : Int × List UInt8 :=
  if 0 ≤ h.id ∧ h.id ≤ 65535 ∧ 0 ≤ h.op ∧ h.op ≤ 15 ∧ 0 ≤ h.code ∧ h.code ≤ 15 then
    if qs.length ≤ 65535 ∧ xs.length ≤ 65535 ∧ ys.length ≤ 65535 ∧ zs.length ≤ 65535 then mwR qs (xs ++ (ys ++ zs)) (hdB h ++ cntB qs.length xs.length ys.length zs.length 4)
    else (7, [])
  else (6, [])
theorem msgwrite_any {w : World} {h : Hd} {Aq : Option Addr} {nq cq : Nat} {qs : List QT} (hQ : Rd qR w w.heap.size Aq nq cq qs) {Ax : Option Addr} {nx cx : Nat} {xs : List RecT} (hX : Rd recR w w.heap.size Ax nx cx xs) {Ay : Option Addr} {ny cy : Nat} {ys : List RecT} (hY : Rd recR w w.heap.size Ay ny cy ys) {Az : Option Addr} {nz cz : Nat} {zs : List RecT} (hZ : Rd recR w w.heap.size Az nz cz zs) :
    Calls Try.prog 12 #[.agg (msgC h (.slice Aq nq cq) (.slice Ax nx cx) (.slice Ay ny cy) (.slice Az nz cz))] w (MwO w (msgT h qs xs ys zs)) := by
  unfold msgT
  have e1 := hQ.len
  have e2 := hX.len
  have e3 := hY.len
  have e4 := hZ.len
  by_cases hh : 0 ≤ h.id ∧ h.id ≤ 65535 ∧ 0 ≤ h.op ∧ h.op ≤ 15 ∧ 0 ≤ h.code ∧ h.code ≤ 15
  · have hk : HOk h := ⟨hh.1, hh.2.1, hh.2.2.1, hh.2.2.2.1, hh.2.2.2.2.1, hh.2.2.2.2.2⟩
    rw [if_pos hh, e1, e2, e3, e4]
    by_cases hc : nq ≤ 65535 ∧ nx ≤ 65535 ∧ ny ≤ 65535 ∧ nz ≤ 65535
    · rw [if_pos hc]
      exact msgwrite_few hk hQ hX hY hZ hc.1 hc.2.1 hc.2.2.1 hc.2.2.2
    · rw [if_neg hc]
      refine (msgwrite_many hk hQ hX hY hZ hc).mono ?_
      rintro e w' ⟨rfl, hb⟩
      exact ⟨hb, by rw [if_neg (by decide)]⟩
  · rw [if_neg hh]
    have CH := hid fun w' => hwrite_bad h (fun k => hh ⟨k.i0, k.i1, k.o0, k.o1, k.c0, k.c1⟩) w'
    clear hh hQ hX hY hZ e1 e2 e3 e4
    have tk0 : True := trivial; have tk1 : True := trivial; have tk2 : True := trivial; have tk3 : True := trivial; have tk4 : True := trivial; have tk5 : True := trivial; have tk6 : True := trivial; have tk7 : True := trivial; have tk8 : True := trivial; have tk9 : True := trivial; have tk10 : True := trivial; have tk11 : True := trivial; have tk12 : True := trivial
    go_enter Try.func12, Try.ntmps12
    go_wp2_with (go_at_call 33; have _t := tk1; (with_reducible refine (CH.out _).mono ?_); rintro e w1 ⟨rfl, hb⟩; obtain ⟨otk1, dtk1, rfl⟩ := ext_of_below hb; clear hb tk1)
    go_ret2
    exact ⟨(by (repeat' (first | (with_reducible exact Below.refl _ _) | (with_reducible assumption) | (with_reducible refine below_ext0 ?_ _ _) | (with_reducible refine below_alloc0 ?_ _) | (with_reducible refine Below.ext ?_ ?_ _ _) | (with_reducible refine Below.alloc ?_ ?_ _) | (with_reducible refine Below.setCell ?_ ?_ _) | (with_reducible refine Below.drew ?_) | (with_reducible refine below_draws ?_ _) | go_size | (simp [size_ext]; done) | (simp [size_ext]; omega)))), by rw [if_neg (by decide)]; rfl⟩
end Go.Proofs.Ytkdfiedemhjjjaa
/- Messages: what was sent is read as it was, what was read can be sent, or is too long; plain laws of what Write and Read tell. -/
namespace Go.Proofs.Ytkdfiedemhjjjaa
open Go.RowKit
set_option linter.unusedVariables false
set_option linter.unusedSimpArgs false

def cntH (h : Hd) (q x y z : Nat) : List UInt8 := hdB h ++ cntB q x y z 4
theorem cntH_len (h : Hd) (q x y z : Nat) : (cntH h q x y z).length = 12 := rfl
theorem two2_byte (n : Int) (h0 : 0 ≤ n) (h1 : n ≤ 65535) : (UInt8.ofNat (n / 256 % 256).toNat).toNat * 256 + (UInt8.ofNat (n % 256).toNat).toNat = n.toNat := by
  simp only [UInt8.toNat_ofNat']; omega
theorem cntH_at (h : Hd) (q x y z : Nat) (hq : q ≤ 65535) (hx : x ≤ 65535) (hy : y ≤ 65535) (hz : z ≤ 65535) : at2 (cntH h q x y z) 4 = q ∧ at2 (cntH h q x y z) 6 = x ∧ at2 (cntH h q x y z) 8 = y ∧ at2 (cntH h q x y z) 10 = z :=
  ⟨two2_byte (q : Int) (by omega) (by omega), two2_byte (x : Int) (by omega) (by omega), two2_byte (y : Int) (by omega) (by omega), two2_byte (z : Int) (by omega) (by omega)⟩
theorem hok_iff {h : Hd} : HOk h ↔ 0 ≤ h.id ∧ h.id ≤ 65535 ∧ 0 ≤ h.op ∧ h.op ≤ 15 ∧ 0 ≤ h.code ∧ h.code ≤ 15 := ⟨fun k => ⟨k.i0, k.i1, k.o0, k.o1, k.c0, k.c1⟩, fun k => ⟨k.1, k.2.1, k.2.2.1, k.2.2.2.1, k.2.2.2.2.1, k.2.2.2.2.2⟩⟩
/-- a message that can be sent -/
theorem msgT_ok {h : Hd} {qs : List QT} {xs ys zs : List RecT} (e : (msgT h qs xs ys zs).1 = 0) : HOk h ∧ (qs.length ≤ 65535 ∧ xs.length ≤ 65535 ∧ ys.length ≤ 65535 ∧ zs.length ≤ 65535) ∧
    ∃ b1 s1 b2 s2, wrQ qs (cntH h qs.length xs.length ys.length zs.length) [] = (0, b1, s1) ∧ wrR (xs ++ (ys ++ zs)) b1 s1 = (0, b2, s2) ∧ b2.length ≤ 65535 ∧ msgT h qs xs ys zs = (0, b2) := by
  unfold msgT at e ⊢
  by_cases hh : 0 ≤ h.id ∧ h.id ≤ 65535 ∧ 0 ≤ h.op ∧ h.op ≤ 15 ∧ 0 ≤ h.code ∧ h.code ≤ 15
  · rw [if_pos hh] at e ⊢
    refine ⟨hok_iff.2 hh, ?_⟩
    by_cases hc : qs.length ≤ 65535 ∧ xs.length ≤ 65535 ∧ ys.length ≤ 65535 ∧ zs.length ≤ 65535
    · rw [if_pos hc] at e ⊢
      refine ⟨hc, ?_⟩
      show ∃ b1 s1 b2 s2, wrQ qs (hdB h ++ cntB qs.length xs.length ys.length zs.length 4) [] = (0, b1, s1) ∧ _
      generalize hdB h ++ cntB qs.length xs.length ys.length zs.length 4 = H at *
      unfold mwR at e ⊢
      by_cases h1 : (wrQ qs H []).1 = 0
      · rw [if_pos h1] at e ⊢
        by_cases h2 : (wrR (xs ++ (ys ++ zs)) (wrQ qs H []).2.1 (wrQ qs H []).2.2).1 = 0
        · rw [if_pos h2] at e ⊢
          by_cases h3 : (wrR (xs ++ (ys ++ zs)) (wrQ qs H []).2.1 (wrQ qs H []).2.2).2.1.length ≤ 65535
          · rw [if_pos h3]
            exact ⟨(wrQ qs H []).2.1, (wrQ qs H []).2.2, (wrR (xs ++ (ys ++ zs)) (wrQ qs H []).2.1 (wrQ qs H []).2.2).2.1, (wrR (xs ++ (ys ++ zs)) (wrQ qs H []).2.1 (wrQ qs H []).2.2).2.2, by rw [← h1], by rw [← h2], h3, rfl⟩
          · rw [if_neg h3] at e; cases e
        · rw [if_neg h2] at e; exact absurd e h2
      · rw [if_neg h1] at e; exact absurd e h1
    · rw [if_neg hc] at e; cases e
  · rw [if_neg hh] at e; cases e
theorem hdOf_sent (h : Hd) (k : HOk h) (q x y z : Nat) (t : List UInt8) : hdOf (cntH h q x y z ++ t) = h := by
  obtain ⟨hb, w0, w1⟩ := back_head h k
  have c : ∀ x : Int, 0 ≤ x → x ≤ 255 → (((UInt8.ofNat x.toNat).toNat : Nat) : Int) = x := fun x h0 h1 => by rw [UInt8.toNat_ofNat']; omega
  have i0 := k.i0
  have i1 := k.i1
  show hdK (bits .or .i64 (((UInt8.ofNat (h.id / 256).toNat).toNat : Int) * 256) ((UInt8.ofNat (h.id % 256).toNat).toNat : Int)) (bits .or .i64 (((UInt8.ofNat (word h / 256 % 256).toNat).toNat : Int) * 256) ((UInt8.ofNat (word h % 256).toNat).toNat : Int)) 7 = h
  rw [c (h.id / 256) (by omega) (by omega), c (h.id % 256) (by omega) (by omega), c (word h / 256 % 256) (by omega) (by omega), c (word h % 256) (by omega) (by omega)]
  exact hb
theorem hdOf_ok (m : List UInt8) : HOk (hdOf m) := by
  obtain ⟨h, e, k, _⟩ := back_bytes (m.getD 0 0).toNat (m.getD 1 0).toNat (m.getD 2 0).toNat (m.getD 3 0).toNat (UInt8.toNat_lt _) (UInt8.toNat_lt _) (UInt8.toNat_lt _) (UInt8.toNat_lt _)
  unfold hdOf
  rw [e]; exact k
/-- WHAT IS SENT IS READ -/
theorem msg_back {h : Hd} {qs : List QT} {xs ys zs : List RecT} {b : List UInt8} (e : msgT h qs xs ys zs = (0, b)) : rdM b = (0, qs, xs, ys, zs) ∧ hdOf b = h ∧ b.length ≤ 65535 ∧ 12 ≤ b.length := by
  obtain ⟨hh, hc, b1, s1, b2, s2, h1, h2, h3, h4⟩ := msgT_ok (by rw [e])
  rw [e] at h4
  obtain rfl : b = b2 := by cases h4; rfl
  obtain ⟨a1, a2, a3, a4⟩ := cntH_at h qs.length xs.length ys.length zs.length hc.1 hc.2.1 hc.2.2.1 hc.2.2.2
  obtain ⟨r1, t, rfl⟩ := rdM_sent (cntH_len _ _ _ _ _) a1 a2 a3 a4 h1 h2
  exact ⟨r1, hdOf_sent h hh _ _ _ _ t, h3, by rw [List.length_append, cntH_len]; omega⟩
/-- what is read can be sent, if it is not too long -/
theorem msg_again {m : List UInt8} {qs : List QT} {xs ys zs : List RecT} (e : rdM m = (0, qs, xs, ys, zs)) : (msgT (hdOf m) qs xs ys zs).1 = 0 ∨ msgT (hdOf m) qs xs ys zs = (7, []) := by
  obtain ⟨qs', xs', ys', zs', p1, p2, p3, p4, h0, h1, h2, h3, h4, h5, h6⟩ := rdM_ok (b := m) (by rw [e])
  rw [e] at h6
  cases h6
  have g1 := rdQ_good _ m 12 [] (by rw [h1]) (by simp)
  have g2 := rdR_good _ m p1 [] (by rw [h2]) (by simp)
  have g3 := rdR_good _ m p2 [] (by rw [h3]) (by simp)
  have g4 := rdR_good _ m p3 [] (by rw [h4]) (by simp)
  rw [h1] at g1
  rw [h2] at g2
  rw [h3] at g3
  rw [h4] at g4
  simp only [List.length_nil, Nat.zero_add] at g1 g2 g3 g4
  have z1 := at2_le m 4
  have z2 := at2_le m 6
  have z3 := at2_le m 8
  have z4 := at2_le m 10
  unfold msgT
  rw [if_pos (hok_iff.1 (hdOf_ok m)), if_pos (by omega)]
  generalize hdB (hdOf m) ++ cntB qs.length xs.length ys.length zs.length 4 = H
  have k1 := wrQ_good qs H [] g1.1
  have k2 := wrR_good (xs ++ (ys ++ zs)) (wrQ qs H []).2.1 (wrQ qs H []).2.2 (by
    intro r hr
    rcases List.mem_append.1 hr with hr | hr
    · exact g2.1 r hr
    · rcases List.mem_append.1 hr with hr | hr
      · exact g3.1 r hr
      · exact g4.1 r hr)
  unfold mwR
  rw [if_pos k1, if_pos k2]
  split
  · exact .inl rfl
  · exact .inr rfl
end Go.Proofs.Ytkdfiedemhjjjaa
/- Are two rows of records the same, two messages? They are, where they read alike. -/
namespace Go.Proofs.Ytkdfiedemhjjjaa
open Go.RowKit
set_option linter.unusedVariables false
set_option linter.unusedSimpArgs false

set_option maxRecDepth 100000 in
set_option maxHeartbeats 4000000 in
theorem records_yes {w : World} {A1 : Option Addr} {n1 c1 : Nat} {l : List RecT} {A2 : Option Addr} {n2 c2 : Nat} (h1 : Rd recR w w.heap.size A1 n1 c1 l) (h2 : Rd recR w w.heap.size A2 n2 c2 l) :
    Calls Try.prog 45 #[.slice A1 n1 c1, .slice A2 n2 c2] w fun e w' => e = .returned (.bool true) ∧ Below w.heap.size w w' := by
  have m1 := h1.max
  have k1 := h1.cap
  have m2 := h2.max
  have k2 := h2.cap
  unfold maxLen at m1 m2
  obtain rfl : n1 = n2 := h1.len.symm.trans h2.len
  have H1 := hid h1
  have H2 := hid h2
  clear h1 h2
  have hv : ((n1 : Int) != (n1 : Int)) = false := by simp
  go_enter Try.func45, Try.ntmps45
  go_wp2
  go_loopg [5] n1 (fun g v wi => ∃ k : Nat, k ≤ n1 ∧ g = n1 - k ∧ v = .int .i64 k ∧ Below w.heap.size w wi)
  case atStart => exact ⟨0, Nat.zero_le _, rfl, rfl, (by (repeat' (first | (with_reducible exact Below.refl _ _) | (with_reducible assumption) | (with_reducible refine below_ext0 ?_ _ _) | (with_reducible refine below_alloc0 ?_ _) | (with_reducible refine Below.ext ?_ ?_ _ _) | (with_reducible refine Below.alloc ?_ ?_ _) | (with_reducible refine Below.setCell ?_ ?_ _) | (with_reducible refine Below.drew ?_) | (with_reducible refine below_draws ?_ _) | go_size | (simp [size_ext]; done) | (simp [size_ext]; omega))))⟩
  case round =>
    obtain ⟨k, hk, rfl, rfl, hb⟩ := hrel
    have HB := hid hb
    clear hb
    by_cases hlt : k < n1
    · obtain ⟨b1, o1, A3, n3, c3, A4, n4, c4, l1, T, C, L, d, rfl, hb1, e1, x0, x1, x2, x3, x4, r1, _, s1⟩ := (H1.out.later HB.out).recd k hlt
      obtain ⟨b2, o2, A5, n5, c5, A6, n6, c6, l2, T', C', L', d', rfl, hb2, e2, y0, y1, y2, y3, y4, r2, _, s2⟩ := (H2.out.later HB.out).recd k hlt
      rw [e1] at e2
      cases e2
      have CR := hid fun w' (hb : Below wr.heap.size wr w') => record_yes (T := T) (C := C) (L := L) (r1.later hb) (s1.later hb) (r2.later hb) (s2.later hb) (Nat.le_refl _) (Nat.le_refl _) (Nat.le_refl _) (Nat.le_refl _)
      clear e1 r1 s1 r2 s2
      have t0 : (k : Int) < (n1 : Int) := by omega
      have t1 : decide ((k : Int) < (n1 : Int)) = true := decide_eq_true t0
      have t2 : (0 : Int) ≤ (k : Int) := by omega
      have v3 : IntKind.i64.wrap ((k : Int) + 1) = (k : Int) + 1 := IntWalk.i64_in _ (by omega)
      have tk0 : True := trivial; have tk1 : True := trivial; have tk2 : True := trivial; have tk3 : True := trivial; have tk4 : True := trivial; have tk5 : True := trivial; have tk6 : True := trivial; have tk7 : True := trivial; have tk8 : True := trivial; have tk9 : True := trivial; have tk10 : True := trivial; have tk11 : True := trivial; have tk12 : True := trivial
      go_wp2_with fail
      go_region_held3 (fun w' => w'.cell? ⟨b1, o1 + k * 5, none⟩ = some (.slice A3 n3 c3) ∧ w'.cell? ⟨b1, o1 + k * 5 + 1, none⟩ = some (.int .i64 T) ∧ w'.cell? ⟨b1, o1 + k * 5 + 2, none⟩ = some (.int .i64 C) ∧ w'.cell? ⟨b1, o1 + k * 5 + 3, none⟩ = some (.int .i64 L) ∧ w'.cell? ⟨b1, o1 + k * 5 + 4, none⟩ = some (.slice A4 n4 c4) ∧ w'.cell? ⟨b2, o2 + k * 5, none⟩ = some (.slice A5 n5 c5) ∧ w'.cell? ⟨b2, o2 + k * 5 + 1, none⟩ = some (.int .i64 T) ∧ w'.cell? ⟨b2, o2 + k * 5 + 2, none⟩ = some (.int .i64 C) ∧ w'.cell? ⟨b2, o2 + k * 5 + 3, none⟩ = some (.int .i64 L) ∧ w'.cell? ⟨b2, o2 + k * 5 + 4, none⟩ = some (.slice A6 n6 c6)) (((try dsimp only); (repeat' apply And.intro) <;> (first | assumption | (go_simp; done)))) (first | (go_at_call 10; have _t := tk1; (with_reducible refine (CR.out _ (by (repeat' (first | (with_reducible exact Below.refl _ _) | (with_reducible assumption) | (with_reducible refine below_ext0 ?_ _ _) | (with_reducible refine below_alloc0 ?_ _) | (with_reducible refine Below.ext ?_ ?_ _ _) | (with_reducible refine Below.alloc ?_ ?_ _) | (with_reducible refine Below.setCell ?_ ?_ _) | (with_reducible refine Below.drew ?_) | (with_reducible refine below_draws ?_ _) | go_size | (simp [size_ext]; done) | (simp [size_ext]; omega))))).mono ?_); rintro e w1 ⟨rfl, hb⟩; obtain ⟨otk1, dtk1, rfl⟩ := ext_of_below hb; clear hb tk1))
      all_goals
        go_wp2
        go_roundg (n1 - (k + 1))
        case measure => omega
        case rel =>
          have hlw := HB.out
          exact ⟨k + 1, by omega, rfl, by go_num, (by (repeat' (first | (with_reducible exact Below.refl _ _) | (with_reducible assumption) | (with_reducible refine below_ext0 ?_ _ _) | (with_reducible refine below_alloc0 ?_ _) | (with_reducible refine Below.ext ?_ ?_ _ _) | (with_reducible refine Below.alloc ?_ ?_ _) | (with_reducible refine Below.setCell ?_ ?_ _) | (with_reducible refine Below.drew ?_) | (with_reducible refine below_draws ?_ _) | go_size | (simp [size_ext]; done) | (simp [size_ext]; omega))))⟩
    · have t0 : ¬ (k : Int) < (n1 : Int) := by omega
      have t1 : decide ((k : Int) < (n1 : Int)) = false := decide_eq_false t0
      go_wp2
      go_ret
      exact ⟨rfl, HB.out⟩

set_option maxRecDepth 100000 in
set_option maxHeartbeats 8000000 in
theorem message_yes {w : World} {h : Hd} {Aq Aq' Ax Ax' Ay Ay' Az Az' : Option Addr} {nq nq' cq cq' nx nx' cx cx' ny ny' cy cy' nz nz' cz cz' : Nat} {qs : List QT} {xs ys zs : List RecT}
    (q1 : Rd qR w w.heap.size Aq nq cq qs) (x1 : Rd recR w w.heap.size Ax nx cx xs) (y1 : Rd recR w w.heap.size Ay ny cy ys) (z1 : Rd recR w w.heap.size Az nz cz zs)
    (q2 : Rd qR w w.heap.size Aq' nq' cq' qs) (x2 : Rd recR w w.heap.size Ax' nx' cx' xs) (y2 : Rd recR w w.heap.size Ay' ny' cy' ys) (z2 : Rd recR w w.heap.size Az' nz' cz' zs) :
    Calls Try.prog 21 #[.agg (msgC h (.slice Aq nq cq) (.slice Ax nx cx) (.slice Ay ny cy) (.slice Az nz cz)), .agg (msgC h (.slice Aq' nq' cq') (.slice Ax' nx' cx') (.slice Ay' ny' cy') (.slice Az' nz' cz'))] w fun e w' => e = .returned (.bool true) ∧ Below w.heap.size w w' := by
  obtain rfl : nq = nq' := q1.len.symm.trans q2.len
  have m1 := q1.max
  have k1 := q1.cap
  have m2 := q2.max
  have k2 := q2.cap
  unfold maxLen at m1 m2
  have Q1 := hid q1
  have Q2 := hid q2
  have CX := hid fun w' (hb : Below w.heap.size w w') => records_yes (x1.later hb) (x2.later hb)
  have CY := hid fun w' (hb : Below w.heap.size w w') => records_yes (y1.later hb) (y2.later hb)
  have CZ := hid fun w' (hb : Below w.heap.size w w') => records_yes (z1.later hb) (z2.later hb)
  clear q1 q2 x1 x2 y1 y2 z1 z2
  go_enter Try.func21, Try.ntmps21
  go_wp2
  have hB1 : Blk ((w.alloc (.cells (msgC h (.slice Aq nq cq) (.slice Ax nx cx) (.slice Ay ny cy) (.slice Az nz cz)) 43)).alloc (.cells (msgC h (.slice Aq' nq cq') (.slice Ax' nx' cx') (.slice Ay' ny' cy') (.slice Az' nz' cz')) 43)) w.heap.size 43 (msgC h (.slice Aq nq cq) (.slice Ax nx cx) (.slice Ay ny cy) (.slice Az nz cz)) := (Blk.new _ _ _).alloc _
  have hB2 : Blk ((w.alloc (.cells (msgC h (.slice Aq nq cq) (.slice Ax nx cx) (.slice Ay ny cy) (.slice Az nz cz)) 43)).alloc (.cells (msgC h (.slice Aq' nq cq') (.slice Ax' nx' cx') (.slice Ay' ny' cy') (.slice Az' nz' cz')) 43)) (w.heap.size + 1) 43 (msgC h (.slice Aq' nq cq') (.slice Ax' nx' cx') (.slice Ay' ny' cy') (.slice Az' nz' cz')) := Blk.new' _ _ (by simp)
  go_loopg [5] nq (fun g v wi => ∃ k : Nat, k ≤ nq ∧ g = nq - k ∧ v = .int .i64 k ∧ Below w.heap.size w wi ∧ Blk wi w.heap.size 43 (msgC h (.slice Aq nq cq) (.slice Ax nx cx) (.slice Ay ny cy) (.slice Az nz cz)) ∧ Blk wi (w.heap.size + 1) 43 (msgC h (.slice Aq' nq cq') (.slice Ax' nx' cx') (.slice Ay' ny' cy') (.slice Az' nz' cz')))
  case atStart => exact ⟨0, Nat.zero_le _, rfl, rfl, (by (repeat' (first | (with_reducible exact Below.refl _ _) | (with_reducible assumption) | (with_reducible refine below_ext0 ?_ _ _) | (with_reducible refine below_alloc0 ?_ _) | (with_reducible refine Below.ext ?_ ?_ _ _) | (with_reducible refine Below.alloc ?_ ?_ _) | (with_reducible refine Below.setCell ?_ ?_ _) | (with_reducible refine Below.drew ?_) | (with_reducible refine below_draws ?_ _) | go_size | (simp [size_ext]; done) | (simp [size_ext]; omega)))), hB1, hB2⟩
  case round =>
    obtain ⟨k, hk, rfl, rfl, hb, hk1, hk2⟩ := hrel
    clear hB1 hB2
    have HB := hid hb
    have zw := hk2.lt
    have c0 : wr.cell? ⟨w.heap.size, 11, none⟩ = some (.slice Aq nq cq) := hk1.cell 11
    have c1 : wr.cell? ⟨w.heap.size + 1, 11, none⟩ = some (.slice Aq' nq cq') := hk2.cell 11
    have c2 : wr.cell? ⟨w.heap.size, 12, none⟩ = some (.slice Ax nx cx) := hk1.cell 12
    have c3 : wr.cell? ⟨w.heap.size + 1, 12, none⟩ = some (.slice Ax' nx' cx') := hk2.cell 12
    have c4 : wr.cell? ⟨w.heap.size, 13, none⟩ = some (.slice Ay ny cy) := hk1.cell 13
    have c5 : wr.cell? ⟨w.heap.size + 1, 13, none⟩ = some (.slice Ay' ny' cy') := hk2.cell 13
    have c6 : wr.cell? ⟨w.heap.size, 14, none⟩ = some (.slice Az nz cz) := hk1.cell 14
    have c7 : wr.cell? ⟨w.heap.size + 1, 14, none⟩ = some (.slice Az' nz' cz') := hk2.cell 14
    have g0 : w.heap.size < wr.heap.size := by omega
    have HK1 := hid hk1
    have HK2 := hid hk2
    clear hb hk1 hk2
    have tk0 : True := trivial; have tk1 : True := trivial; have tk2 : True := trivial; have tk3 : True := trivial; have tk4 : True := trivial; have tk5 : True := trivial; have tk6 : True := trivial; have tk7 : True := trivial; have tk8 : True := trivial; have tk9 : True := trivial; have tk10 : True := trivial; have tk11 : True := trivial; have tk12 : True := trivial
    by_cases hlt : k < nq
    · obtain ⟨b1, o1, A3, n3, c3', l1, T, C, rfl, hb1, e1, x0, x1, x2, r1, _⟩ := (Q1.out.later HB.out).quest k hlt
      obtain ⟨b2, o2, A5, n5, c5', l2, T', C', rfl, hb2, e2, y0, y1, y2, r2, _⟩ := (Q2.out.later HB.out).quest k hlt
      rw [e1] at e2
      cases e2
      have CR := hid fun w' (hb : Below wr.heap.size wr w') => texts_yes (r1.later hb) (r2.later hb)
      clear e1 r1 r2
      have t0 : (k : Int) < (nq : Int) := by omega
      have t1 : decide ((k : Int) < (nq : Int)) = true := decide_eq_true t0
      have t2 : (0 : Int) ≤ (k : Int) := by omega
      have v3 : IntKind.i64.wrap ((k : Int) + 1) = (k : Int) + 1 := IntWalk.i64_in _ (by omega)
      go_wp2_with fail
      go_region_held3 (fun w' => w'.cell? ⟨w.heap.size, 11, none⟩ = some (.slice (some ⟨b1, o1, none⟩) nq cq) ∧ w'.cell? ⟨w.heap.size + 1, 11, none⟩ = some (.slice (some ⟨b2, o2, none⟩) nq cq') ∧ w'.cell? ⟨b1, o1 + k * 3, none⟩ = some (.slice A3 n3 c3') ∧ w'.cell? ⟨b2, o2 + k * 3, none⟩ = some (.slice A5 n5 c5')) (((try dsimp only); (repeat' apply And.intro) <;> (first | assumption | (go_simp; done)))) (first | (go_at_call 32; have _t := tk1; (with_reducible refine (CR.out _ (by (repeat' (first | (with_reducible exact Below.refl _ _) | (with_reducible assumption) | (with_reducible refine below_ext0 ?_ _ _) | (with_reducible refine below_alloc0 ?_ _) | (with_reducible refine Below.ext ?_ ?_ _ _) | (with_reducible refine Below.alloc ?_ ?_ _) | (with_reducible refine Below.setCell ?_ ?_ _) | (with_reducible refine Below.drew ?_) | (with_reducible refine below_draws ?_ _) | go_size | (simp [size_ext]; done) | (simp [size_ext]; omega))))).mono ?_); rintro e w1 ⟨rfl, hb⟩; obtain ⟨otk1, dtk1, rfl⟩ := ext_of_below hb; clear hb tk1))
      all_goals
        go_wp2_with fail
        go_region_held3 (fun w' => w'.cell? ⟨w.heap.size, 11, none⟩ = some (.slice (some ⟨b1, o1, none⟩) nq cq) ∧ w'.cell? ⟨w.heap.size + 1, 11, none⟩ = some (.slice (some ⟨b2, o2, none⟩) nq cq') ∧ w'.cell? ⟨b1, o1 + k * 3 + 1, none⟩ = some (.int .i64 T) ∧ w'.cell? ⟨b2, o2 + k * 3 + 1, none⟩ = some (.int .i64 T) ∧ w'.cell? ⟨b1, o1 + k * 3 + 2, none⟩ = some (.int .i64 C) ∧ w'.cell? ⟨b2, o2 + k * 3 + 2, none⟩ = some (.int .i64 C)) (((try dsimp only); (repeat' apply And.intro) <;> (first | assumption | (go_simp; done)))) (fail)
        all_goals
          go_wp2
          go_roundg (nq - (k + 1))
          case measure => omega
          case rel =>
            have hlw := HB.out
            exact ⟨k + 1, by omega, rfl, by go_num, (by (repeat' (first | (with_reducible exact Below.refl _ _) | (with_reducible assumption) | (with_reducible refine below_ext0 ?_ _ _) | (with_reducible refine below_alloc0 ?_ _) | (with_reducible refine Below.ext ?_ ?_ _ _) | (with_reducible refine Below.alloc ?_ ?_ _) | (with_reducible refine Below.setCell ?_ ?_ _) | (with_reducible refine Below.drew ?_) | (with_reducible refine below_draws ?_ _) | go_size | (simp [size_ext]; done) | (simp [size_ext]; omega)))), by have := HK1.out; (repeat' (first | (with_reducible exact Blk.new _ _ _) | (with_reducible assumption) | (with_reducible refine Blk.ext ?_ _ _) | (with_reducible refine Blk.drew ?_) | (with_reducible refine Blk.alloc ?_ _))), by have := HK2.out; (repeat' (first | (with_reducible exact Blk.new _ _ _) | (with_reducible assumption) | (with_reducible refine Blk.ext ?_ _ _) | (with_reducible refine Blk.drew ?_) | (with_reducible refine Blk.alloc ?_ _)))⟩
    · have t0 : ¬ (k : Int) < (nq : Int) := by omega
      have t1 : decide ((k : Int) < (nq : Int)) = false := decide_eq_false t0
      have hlw := HB.out
      go_wp2_with (first
        | (go_at_call 45; have _t := tk1; (with_reducible refine (CX.out _ (by (repeat' (first | (with_reducible exact Below.refl _ _) | (with_reducible assumption) | (with_reducible refine below_ext0 ?_ _ _) | (with_reducible refine below_alloc0 ?_ _) | (with_reducible refine Below.ext ?_ ?_ _ _) | (with_reducible refine Below.alloc ?_ ?_ _) | (with_reducible refine Below.setCell ?_ ?_ _) | (with_reducible refine Below.drew ?_) | (with_reducible refine below_draws ?_ _) | go_size | (simp [size_ext]; done) | (simp [size_ext]; omega))))).mono ?_); rintro e w1 ⟨rfl, hb⟩; obtain ⟨otk1, dtk1, rfl⟩ := ext_of_below hb; clear hb tk1)
        | (go_at_call 45; have _t := tk2; (with_reducible refine (CY.out _ (by (repeat' (first | (with_reducible exact Below.refl _ _) | (with_reducible assumption) | (with_reducible refine below_ext0 ?_ _ _) | (with_reducible refine below_alloc0 ?_ _) | (with_reducible refine Below.ext ?_ ?_ _ _) | (with_reducible refine Below.alloc ?_ ?_ _) | (with_reducible refine Below.setCell ?_ ?_ _) | (with_reducible refine Below.drew ?_) | (with_reducible refine below_draws ?_ _) | go_size | (simp [size_ext]; done) | (simp [size_ext]; omega))))).mono ?_); rintro e w1 ⟨rfl, hb⟩; obtain ⟨otk2, dtk2, rfl⟩ := ext_of_below hb; clear hb tk2)
        | (go_at_call 45; have _t := tk3; (with_reducible refine (CZ.out _ (by (repeat' (first | (with_reducible exact Below.refl _ _) | (with_reducible assumption) | (with_reducible refine below_ext0 ?_ _ _) | (with_reducible refine below_alloc0 ?_ _) | (with_reducible refine Below.ext ?_ ?_ _ _) | (with_reducible refine Below.alloc ?_ ?_ _) | (with_reducible refine Below.setCell ?_ ?_ _) | (with_reducible refine Below.drew ?_) | (with_reducible refine below_draws ?_ _) | go_size | (simp [size_ext]; done) | (simp [size_ext]; omega))))).mono ?_); rintro e w1 ⟨rfl, hb⟩; obtain ⟨otk3, dtk3, rfl⟩ := ext_of_below hb; clear hb tk3))
      go_ret
      exact ⟨rfl, (by (repeat' (first | (with_reducible exact Below.refl _ _) | (with_reducible assumption) | (with_reducible refine below_ext0 ?_ _ _) | (with_reducible refine below_alloc0 ?_ _) | (with_reducible refine Below.ext ?_ ?_ _ _) | (with_reducible refine Below.alloc ?_ ?_ _) | (with_reducible refine Below.setCell ?_ ?_ _) | (with_reducible refine Below.drew ?_) | (with_reducible refine below_draws ?_ _) | go_size | (simp [size_ext]; done) | (simp [size_ext]; omega))))⟩
end Go.Proofs.Ytkdfiedemhjjjaa
/- Messages as the laws meet them: how one comes in, msg.Write and msg.Read with what they hand back written out. -/
namespace Go.Proofs.Ytkdfiedemhjjjaa
open Go.RowKit
set_option linter.unusedVariables false
set_option linter.unusedSimpArgs false

theorem opens_question : Opens Try.prog 49 qR := opens_struct Try.underlying49 rfl (by kernel_rfl) (fields_cons rfl (by kernel_rfl) (opens_slice Try.underlying24 (opens_str Try.underlying9) (by kernel_rfl) (by decide) (of_decide_eq_true (by kernel_rfl))) (fields_cons rfl (by kernel_rfl) (opens_int Try.underlying3) (fields_cons rfl (by kernel_rfl) (opens_int Try.underlying3) (fields_nil _))))
abbrev MsgX := (Int × Bool × Int × Bool × Bool × Bool × Bool × Bool × Bool × Bool × Int × Unit) × List QT × List RecT × List RecT × List RecT × Unit
abbrev messageR : Rep MsgX := pairR headerR (pairR (sliceR qR) (pairR (sliceR recR) (pairR (sliceR recR) (pairR (sliceR recR) unitR))))
theorem opens_records : Opens Try.prog 41 (sliceR recR) := opens_slice Try.underlying41 opens_record (by kernel_rfl) (by decide) (of_decide_eq_true (by kernel_rfl))
theorem opens_message : Opens Try.prog 43 messageR := opens_struct Try.underlying43 rfl (by kernel_rfl)
  (fields_cons rfl (by kernel_rfl) opens_header (fields_cons rfl (by kernel_rfl) (opens_slice Try.underlying40 opens_question (by kernel_rfl) (by decide) (of_decide_eq_true (by kernel_rfl))) (fields_cons rfl (by kernel_rfl) opens_records (fields_cons rfl (by kernel_rfl) opens_records (fields_cons rfl (by kernel_rfl) opens_records (fields_nil _))))))
theorem message_of {w : World} {B : Nat} {x : MsgX} {cs : Array Value} (h : messageR.rel w B x cs.toList) :
    ∃ (g : Hd) (Aq Ax Ay Az : Option Addr) (nq cq nx cx ny cy nz cz : Nat) (u : Int × Bool × Int × Bool × Bool × Bool × Bool × Bool × Bool × Bool × Int × Unit) (qs : List QT) (xs ys zs : List RecT), x = (u, qs, xs, ys, zs, ()) ∧ cs = msgC g (.slice Aq nq cq) (.slice Ax nx cx) (.slice Ay ny cy) (.slice Az nz cz) ∧
      Rd qR w B Aq nq cq qs ∧ Rd recR w B Ax nx cx xs ∧ Rd recR w B Ay ny cy ys ∧ Rd recR w B Az nz cz zs := by
  obtain ⟨u, qs, xs, ys, zs, _⟩ := x
  obtain ⟨vs, _, e0, h0, _, _, rfl, ⟨Aq, nq, cq, rfl, h1⟩, _, _, rfl, ⟨Ax, nx, cx, rfl, h2⟩, _, _, rfl, ⟨Ay, ny, cy, rfl, h3⟩, _, _, rfl, ⟨Az, nz, cz, rfl, h4⟩, rfl⟩ := h
  obtain ⟨g, hg⟩ := header_of (cs := vs.toArray) (by simpa using h0)
  obtain rfl : vs = (hdCells g).toList := by rw [← hg]
  exact ⟨g, Aq, Ax, Ay, Az, nq, cq, nx, cx, ny, cy, nz, cz, u, qs, xs, ys, zs, rfl, by cases cs; simpa [hdCells] using e0, h1, h2, h3, h4⟩

section
variable {w : World} {h : Hd} {Aq Ax Ay Az : Option Addr} {nq cq nx cx ny cy nz cz : Nat} {qs : List QT} {xs ys zs : List RecT}
theorem msgwrite_yes (hQ : Rd qR w w.heap.size Aq nq cq qs) (hX : Rd recR w w.heap.size Ax nx cx xs) (hY : Rd recR w w.heap.size Ay ny cy ys) (hZ : Rd recR w w.heap.size Az nz cz zs) {b : List UInt8} {k : Nat} (hT : msgT h qs xs ys zs = (0, b)) (hk : b.length = k) :
    Calls Try.prog 12 #[.agg (msgC h (.slice Aq nq cq) (.slice Ax nx cx) (.slice Ay ny cy) (.slice Az nz cz))] w fun e w' => ∃ A c, e = .returned (.tuple #[.slice A k c, .nilIface]) ∧ Rd u8R w' w'.heap.size A k c b ∧ Below w.heap.size w w' := by
  refine (msgwrite_any hQ hX hY hZ).mono ?_
  rintro e w' ⟨hb, hr⟩
  rw [hT, if_pos rfl] at hr
  subst hk
  obtain ⟨A, c, he, hr, _⟩ := hr
  exact ⟨A, c, he, hr, hb⟩
theorem msgwrite_own (hQ : Rd qR w w.heap.size Aq nq cq qs) (hX : Rd recR w w.heap.size Ax nx cx xs) (hY : Rd recR w w.heap.size Ay ny cy ys) (hZ : Rd recR w w.heap.size Az nz cz zs) {b : List UInt8} {k : Nat} (hT : msgT h qs xs ys zs = (0, b)) (hk : b.length = k) :
    Calls Try.prog 12 #[.agg (msgC h (.slice Aq nq cq) (.slice Ax nx cx) (.slice Ay ny cy) (.slice Az nz cz))] w fun e w' => ∃ A c, e = .returned (.tuple #[.slice A k c, .nilIface]) ∧ (Rd u8R w' w'.heap.size A k c b ∧ w'.ownsRow w.heap.size 5 1 (.slice A k c) k (bytesV b)) ∧ Below w.heap.size w w' := by
  refine (msgwrite_any hQ hX hY hZ).mono ?_
  rintro e w' ⟨hb, hr⟩
  rw [hT, if_pos rfl] at hr
  subst hk
  obtain ⟨A, c, he, hr, ho⟩ := hr
  exact ⟨A, c, he, ⟨hr, ho⟩, hb⟩
theorem msgwrite_no (hQ : Rd qR w w.heap.size Aq nq cq qs) (hX : Rd recR w w.heap.size Ax nx cx xs) (hY : Rd recR w w.heap.size Ay ny cy ys) (hZ : Rd recR w w.heap.size Az nz cz zs) {k : Int} (hT : (msgT h qs xs ys zs).1 = k) (hk : k ≠ 0) :
    Calls Try.prog 12 #[.agg (msgC h (.slice Aq nq cq) (.slice Ax nx cx) (.slice Ay ny cy) (.slice Az nz cz))] w fun e w' => e = .returned (.tuple #[.slice none 0 0, .iface 65 (.int .i64 k)]) ∧ Below w.heap.size w w' := by
  refine (msgwrite_any hQ hX hY hZ).mono ?_
  rintro e w' ⟨hb, hr⟩
  rw [hT, if_neg hk] at hr
  exact ⟨hr, hb⟩
theorem msgwrite_fact (w : World) : Calls Try.prog 12 #[.agg #[.int .i64 0, .bool false, .int .i64 0, .bool false, .bool false, .bool false, .bool false, .bool false, .bool false, .bool false, .int .i64 0, .slice none 0 0, .slice none 0 0, .slice none 0 0, .slice none 0 0]] w fun e w' => ∃ A c, e = .returned (.tuple #[.slice A 12 c, .nilIface]) ∧ Rd u8R w' w'.heap.size A 12 c (List.replicate 12 0) ∧ Below w.heap.size w w' :=
  msgwrite_yes (h := hd0) (rd_nil _ _) (rd_nil _ _) (rd_nil _ _) (rd_nil _ _) (by decide +kernel) rfl
end
theorem msgread_any {w : World} {A : Option Addr} {n c : Nat} {m : List UInt8} (hM : Rd u8R w w.heap.size A n c m) : Calls Try.prog 18 #[.slice A n c] w (MrO w m) := by
  by_cases hn : n < 12
  · exact msgread_short hM hn
  · exact msgread_long hM hn
theorem msgread_yes {w : World} {A : Option Addr} {n c : Nat} {m : List UInt8} (hM : Rd u8R w w.heap.size A n c m) {h : Hd} {qs : List QT} {xs ys zs : List RecT} (hr : rdM m = (0, qs, xs, ys, zs)) (hh : hdOf m = h) {nq nx ny nz : Nat} (eq : qs.length = nq) (ex : xs.length = nx) (ey : ys.length = ny) (ez : zs.length = nz) :
    Calls Try.prog 18 #[.slice A n c] w fun e w' => ∃ Aq cq Ax cx Ay cy Az cz, e = .returned (.tuple #[.agg (msgC h (.slice Aq nq cq) (.slice Ax nx cx) (.slice Ay ny cy) (.slice Az nz cz)), .nilIface]) ∧ (Rd qR w' w'.heap.size Aq nq cq qs ∧ Rd recR w' w'.heap.size Ax nx cx xs ∧ Rd recR w' w'.heap.size Ay ny cy ys ∧ Rd recR w' w'.heap.size Az nz cz zs) ∧ Below w.heap.size w w' := by
  refine (msgread_any hM).mono ?_
  rintro e w' ⟨Aq, Ax, Ay, Az, nq', cq, nx', cx, ny', cy, nz', cz, he, h1, h2, h3, h4, hb⟩
  rw [hr] at he h1 h2 h3 h4
  rw [if_pos rfl, errV_zero, hh] at he
  obtain rfl : nq' = nq := h1.len.symm.trans eq
  obtain rfl : nx' = nx := h2.len.symm.trans ex
  obtain rfl : ny' = ny := h3.len.symm.trans ey
  obtain rfl : nz' = nz := h4.len.symm.trans ez
  exact ⟨Aq, cq, Ax, cx, Ay, cy, Az, cz, he, ⟨h1, h2, h3, h4⟩, hb⟩
theorem msgread_no {w : World} {A : Option Addr} {n c : Nat} {m : List UInt8} (hM : Rd u8R w w.heap.size A n c m) {k : Int} (hr : (rdM m).1 = k) (hk : k ≠ 0) :
    Calls Try.prog 18 #[.slice A n c] w fun e w' => ∃ Aq cq Ax cx Ay cy Az cz, e = .returned (.tuple #[.agg (msgC hd0 (.slice Aq 0 cq) (.slice Ax 0 cx) (.slice Ay 0 cy) (.slice Az 0 cz)), .iface 65 (.int .i64 k)]) ∧ (Rd qR w' w'.heap.size Aq 0 cq [] ∧ Rd recR w' w'.heap.size Ax 0 cx [] ∧ Rd recR w' w'.heap.size Ay 0 cy [] ∧ Rd recR w' w'.heap.size Az 0 cz []) ∧ Below w.heap.size w w' := by
  have hz := rdM_bad hr hk
  refine (msgread_any hM).mono ?_
  rintro e w' ⟨Aq, Ax, Ay, Az, nq', cq, nx', cx, ny', cy, nz', cz, he, h1, h2, h3, h4, hb⟩
  rw [hz] at he h1 h2 h3 h4
  rw [if_neg hk, errV_ne hk] at he
  obtain rfl : nq' = 0 := h1.len.symm
  obtain rfl : nx' = 0 := h2.len.symm
  obtain rfl : ny' = 0 := h3.len.symm
  obtain rfl : nz' = 0 := h4.len.symm
  exact ⟨Aq, cq, Ax, cx, Ay, cy, Az, cz, he, ⟨h1, h2, h3, h4⟩, hb⟩
end Go.Proofs.Ytkdfiedemhjjjaa
/- Rows of the call's own whose elements lead to what lay there before: appends of rows and of literals, in plain regions and in such as draw. -/
namespace Go.Proofs.Ytkdfiedemhjjjaa
open Go.RowKit
set_option linter.unusedVariables false
set_option linter.unusedSimpArgs false

/-- a row that lies at the base or behind it; its elements lead below B -/
structure OwnR {α : Type} (R : Rep α) (e : TypeId) (B base : Nat) (w : World) (v : Value) (l : List α) : Prop where
  ex : ∃ xs, w.ownsRow base e R.k v l.length xs ∧ Rels R w B l xs
  lo : B ≤ base
  le : base ≤ w.heap.size
/-- a source: it reads as m, below B -/
structure SrcR {α : Type} (R : Rep α) (B : Nat) (w : World) (A : Option Addr) (n c : Nat) (m : List α) : Prop where
  ex : ∃ ys, Src w A n c R.k ys ∧ Rels R w B m ys
  len : m.length = n
section
variable {α : Type} {P : Program} {R : Rep α} {e t : TypeId} {bytes B base : Nat} {w w' : World} {v v' : Value} {l m : List α}
theorem OwnR.nil (hB : B ≤ base) (h : base ≤ w.heap.size) : OwnR R e B base w (.slice none 0 0) [] := ⟨⟨[], World.ownsRow_nil w base e R.k, Rels.nil⟩, hB, h⟩
theorem OwnR.empty {g : Nat} (hg : g = w.heap.size) (hB : B ≤ base) (hb : base ≤ g) : OwnR R e B base (w.alloc (.cells #[] e)) (.slice (some ⟨g, 0, none⟩) 0 0) ([] : List α) :=
  ⟨⟨[], own_lit #[] [] hg hb (by simp) (by decide) rfl, Rels.nil⟩, hB, by subst hg; simp; omega⟩
theorem OwnR.ofBlk {g : Nat} (hg : Blk w g e #[]) (hB : B ≤ base) (hb : base ≤ g) : OwnR R e B base w (.slice (some ⟨g, 0, none⟩) 0 0) ([] : List α) :=
  ⟨⟨[], ⟨by simp, .inr ⟨g, 0, #[], rfl, hb, hg, Nat.le_refl _, by decide, by simp, by simp⟩⟩, Rels.nil⟩, hB, by have := hg.lt; omega⟩
theorem OwnR.below (h : OwnR R e B base w v l) (hb : Below w.heap.size w w') : OwnR R e B base w' v l := by
  obtain ⟨⟨xs, h1, h2⟩, h0, h3⟩ := h
  exact ⟨⟨xs, own_low h1 hb (Nat.le_refl _), h2.below (hb.mono (Nat.le_trans h0 h3))⟩, h0, Nat.le_trans h3 hb.size⟩
theorem OwnR.drew (h : OwnR R e B base w v l) : OwnR R e B base w.drew v l := by
  obtain ⟨⟨xs, h1, h2⟩, h0, h3⟩ := h
  exact ⟨⟨xs, h1.drew, h2.keep (w' := w.drew) (Nat.le_refl _) (fun _ _ => rfl)⟩, h0, h3⟩
/-- a store between what the elements lead to and the row -/
theorem OwnR.set (h : OwnR R e B base w v l) {k : Nat} (h1 : B ≤ k) (h2 : k < base) (i : Nat) (s : Option Nat) (u : Value) : OwnR R e B base (w.setCell ⟨k, i, s⟩ u) v l := by
  obtain ⟨⟨xs, h4, h5⟩, h0, h3⟩ := h
  refine ⟨⟨xs, own_far h4 h2 u, h5.keep (Nat.le_refl _) fun p hp => World.cell?_of_block (Below.heap_setCell w _ u p.block (by simp only; omega))⟩, h0, by simpa using h3⟩
theorem OwnR.app {xs ys : List Value} (h2 : Rels R w B l xs) (h1 : w.ownsRow base e R.k v l.length xs) (hB : B ≤ base) (hle : base ≤ w.heap.size) (hm : Rels R w B m ys) (ho : w'.ownsRow base e R.k v' (l.length + m.length) (xs ++ ys)) (ha : AppTo w w' v v') : OwnR R e B base w' v' (l ++ m) := by
  have hb := (ha.below h1 hle).mono hB
  exact ⟨⟨xs ++ ys, by rw [List.length_append]; exact ho, (h2.below hb).append (hm.below hb)⟩, hB, Nat.le_trans hle ha.grown.size⟩
theorem OwnR.rd (h : OwnR R e B base w v l) (hlim : l.length * R.bs ≤ 140737488355328) (hk : 0 < R.k) : ∃ A c, v = .slice A l.length c ∧ Rd R w w.heap.size A l.length c l := by
  obtain ⟨⟨xs, h1, h2⟩, h0, h3⟩ := h
  exact rd_of_own h1 h2 rfl (Nat.le_trans h0 h3) hlim hk
theorem OwnR.slice (h : OwnR R e B base w v l) : ∃ A c, v = .slice A l.length c := by
  obtain ⟨⟨xs, h1, h2⟩, h3⟩ := h
  obtain ⟨A, c, e, _⟩ := own_slice h1
  exact ⟨A, c, e⟩
theorem OwnR.slice' {n : Nat} (h : OwnR R e B base w v l) (hn : l.length = n) : ∃ A c, v = .slice A n c := by subst hn; exact h.slice
theorem OwnR.rd' {n : Nat} {A : Option Addr} {c : Nat} (h : OwnR R e B base w (.slice A n c) l) (hn : l.length = n) (hlim : n * R.bs ≤ 140737488355328) (hk : 0 < R.k) : Rd R w w.heap.size A n c l := by
  subst hn
  obtain ⟨A', c', e, hr⟩ := h.rd hlim hk
  cases e
  exact hr
theorem SrcR.below {A : Option Addr} {n c : Nat} (h : SrcR R B w A n c m) (hb : Below w.heap.size w w') (hle : B ≤ w.heap.size) : SrcR R B w' A n c m := by
  obtain ⟨⟨ys, h1, h2⟩, h3⟩ := h
  exact ⟨⟨ys, h1.later hb, h2.below (hb.mono hle)⟩, h3⟩
theorem SrcR.of {A : Option Addr} {n c : Nat} (h : Rd R w B A n c m) (h1 : ∀ (a : α) vs, R.rel w B a vs → ∀ u ∈ vs, u.oneCell' = true) : SrcR R B w A n c m := by
  obtain ⟨ys, h2, h3⟩ := h.src h1
  exact ⟨⟨ys, h3, h2⟩, h.len⟩
theorem SrcR.u8 {A : Option Addr} {n c : Nat} {m : List UInt8} (h : Rd u8R w B A n c m) : SrcR u8R B w A n c m :=
  SrcR.of h (by rintro a vs rfl u hu; simp at hu; subst hu; rfl)
theorem SrcR.lit {g : Nat} {cs : Array Value} {a : α} {ty : TypeId} (hg : Blk w g ty cs) (hr : R.rel w B a cs.toList) (hu : ∀ u ∈ cs.toList, u.oneCell' = true) : SrcR R B w (some ⟨g, 0, none⟩) 1 1 [a] := by
  have hl := R.len hr
  refine ⟨⟨cs.toList, ⟨by rw [hl]; omega, fun ad ha j u h => ?_, fun h => (by cases h), hu⟩, Rels.one hr⟩, rfl⟩
  cases ha
  have := hg.cell j
  rw [add_none, Nat.zero_add, this]
  simpa using h
theorem wpList_own {w : World} {ops : Array Oper} {rest : List Oper} {o : Oper} {a : Act} {Q : Exit → Act → World → Prop} (E : El P t e R.k bytes) (hgd : o.guard = none) (s x : Operand) (hop : o.op = .call { callee := .builtin .append, args := #[s, x], argTypes := #[t, t] })
    (hs : a.eval s = v) (hv : OwnR R e B base w v l) {A : Option Addr} {n c : Nat} (hx : a.eval x = .slice A n c) (hm : SrcR R B w A n c m) (hbytes : (l.length + n) * bytes ≤ 140737488355328) (h63 : l.length + n ≤ maxLen)
    (h : ∀ v' w', OwnR R e B base w' v' (l ++ m) → Below base w w' → wpList P ops Q rest (a.put o.dst v') w') : wpList P ops Q (o :: rest) a w := by
  obtain ⟨⟨xs, h1, h2⟩, h0, h3⟩ := hv
  obtain ⟨⟨ys, h4, h5⟩, rfl⟩ := hm
  exact wpList_appT hgd s x t hop base e R.k bytes E v l.length xs hs h1 A _ c ys hx h4 hbytes h63 h3 fun v' w' ho ha => h v' w' (OwnR.app h2 h1 h0 h3 h5 ho ha) (ha.below h1 h3)
theorem step_own {w : World} {ops : Array Oper} {o : Oper} {a : Act} {Q : Exit → Act → World → Prop} {K : Act → World → Prop} {F : Prop} (E : El P t e R.k bytes) (hgd : o.guard = none) (s x : Operand) (hop : o.op = .call { callee := .builtin .append, args := #[s, x], argTypes := #[t, t] })
    (hs : a.eval s = v) (hv : OwnR R e B base w v l) {A : Option Addr} {n c : Nat} (hx : a.eval x = .slice A n c) (hm : SrcR R B w A n c m) (hbytes : (l.length + n) * bytes ≤ 140737488355328) (h63 : l.length + n ≤ maxLen)
    (h : ∀ v' w', OwnR R e B base w' v' (l ++ m) → Below base w w' → AppTo w w' v v' → K (a.put o.dst v') w') : if Region.wanted o (yielded ops a.tmps) = true then Oper.wp P o a w K Q else F := by
  obtain ⟨⟨xs, h1, h2⟩, h0, h3⟩ := hv
  obtain ⟨⟨ys, h4, h5⟩, rfl⟩ := hm
  exact step_app hgd s x t hop base e R.k bytes E v l.length xs hs h1 A _ c ys hx h4 hbytes h63 h3 fun v' w' ho hg hv =>
    have ha : AppTo w w' v v' := ⟨hg, hv.imp id fun e => ⟨_, e, Nat.le_refl _⟩⟩
    h v' w' (OwnR.app h2 h1 h0 h3 h5 ho ha) (ha.below h1 h3) ha
/-- a block beside the row -/
theorem AppTo.beside {k g : Nat} {T : TypeId} {cs : Array Value} (ha : AppTo w w' v v') (hk : Blk w k T cs) (hv : v.ownBlock = some g) (hne : k ≠ g) : Blk w' k T cs :=
  (ha.grown.block k hk.lt (fun e => hne (by rw [hv] at e; cases e; rfl))).trans hk
end
end Go.Proofs.Ytkdfiedemhjjjaa
/- All records of a message, in order; how long what is sent of a name is. -/
namespace Go.Proofs.Ytkdfiedemhjjjaa
open Go.RowKit
set_option linter.unusedVariables false
set_option linter.unusedSimpArgs false

theorem rec_one {w : World} {B : Nat} (a : RecT) (vs : List Value) (h : recR.rel w B a vs) : ∀ u ∈ vs, u.oneCell' = true := by
  obtain ⟨_, _, rfl, ⟨A, n, c, rfl, h1⟩, _, _, rfl, ⟨rfl, h2⟩, _, _, rfl, ⟨rfl, h3⟩, _, _, rfl, ⟨rfl, h4⟩, _, _, rfl, ⟨A', n', c', rfl, h5⟩, rfl⟩ := h
  intro u hu
  simp at hu
  rcases hu with rfl | rfl | rfl | rfl | rfl <;> rfl
set_option maxRecDepth 100000 in
set_option maxHeartbeats 4000000 in
theorem all_any {w : World} {h : Hd} {Q : Value} (hQ : ∃ A n c, Q = .slice A n c) {Ax Ay Az : Option Addr} {nx cx ny cy nz cz : Nat} {xs ys zs : List RecT} (hX : Rd recR w w.heap.size Ax nx cx xs) (hY : Rd recR w w.heap.size Ay ny cy ys) (hZ : Rd recR w w.heap.size Az nz cz zs) (hlim : (nx + ny + nz) * 72 ≤ 140737488355328) {k : Nat} (hk : nx + ny + nz = k) :
    Calls Try.prog 15 #[.agg (msgC h Q (.slice Ax nx cx) (.slice Ay ny cy) (.slice Az nz cz))] w fun e w' => ∃ A c, e = .returned (.slice A k c) ∧ Rd recR w' w'.heap.size A k c (xs ++ ys ++ zs) ∧ Below w.heap.size w w' := by
  obtain ⟨Aq, nq, cq, rfl⟩ := hQ
  have lx := hX.len
  have ly := hY.len
  have lz := hZ.len
  have SX := hid (SrcR.of hX rec_one)
  have SY := hid (SrcR.of hY rec_one)
  have SZ := hid (SrcR.of hZ rec_one)
  have ab1 : (([] : List RecT).length + nx) * 72 ≤ 140737488355328 := by simp; omega
  have ab2 : ([] : List RecT).length + nx ≤ maxLen := by simp [maxLen]; omega
  have ab3 : (([] ++ xs).length + ny) * 72 ≤ 140737488355328 := by simp [lx]; omega
  have ab4 : ([] ++ xs).length + ny ≤ maxLen := by simp [maxLen, lx]; omega
  have ab5 : (([] ++ xs ++ ys).length + nz) * 72 ≤ 140737488355328 := by simp [lx, ly]; omega
  have ab6 : ([] ++ xs ++ ys).length + nz ≤ maxLen := by simp [maxLen, lx, ly]; omega
  have LL := hid (And.intro lx (And.intro ly (And.intro lz hk)))
  clear hX hY hZ lx ly lz hk
  have tk0 : True := trivial; have tk1 : True := trivial; have tk2 : True := trivial; have tk3 : True := trivial; have tk4 : True := trivial; have tk5 : True := trivial; have tk6 : True := trivial; have tk7 : True := trivial; have tk8 : True := trivial; have tk9 : True := trivial; have tk10 : True := trivial; have tk11 : True := trivial; have tk12 : True := trivial
  go_enter Try.func15, Try.ntmps15
  go_wp2_with (first
    | (at_builtin; have _t := tk1; refine wpList_own (B := w.heap.size) (base := w.heap.size + 1) el_r rfl _ _ rfl rfl (OwnR.nil (Nat.le_succ _) (by first | omega | (simp [size_ext]; done) | (simp [size_ext]; omega))) rfl (SX.out.below (by (repeat' (first | (with_reducible exact Below.refl _ _) | (with_reducible assumption) | (with_reducible refine below_ext0 ?_ _ _) | (with_reducible refine below_alloc0 ?_ _) | (with_reducible refine Below.ext ?_ ?_ _ _) | (with_reducible refine Below.alloc ?_ ?_ _) | (with_reducible refine Below.setCell ?_ ?_ _) | (with_reducible refine Below.drew ?_) | (with_reducible refine below_draws ?_ _) | go_size | (simp [size_ext]; done) | (simp [size_ext]; omega)))) (Nat.le_refl _)) ab1 ab2 ?_; intro v1 w1 ho hb; have kx := (Blk.new w _ _).below hb (Nat.lt_succ_self _); have c13 : w1.cell? ⟨w.heap.size, 13, none⟩ = some (.slice Ay ny cy) := kx.cell 13; have HO1 := hid ho; have HB1 := hid (Below.trans ((Below.refl _ w).alloc (Nat.le_refl _) _) (hb.mono (Nat.le_succ _))); have KX := hid kx; clear ho hb kx tk1)
    | (at_builtin; have _t := tk2; refine wpList_own (B := w.heap.size) (base := w.heap.size + 1) el_r rfl _ _ rfl rfl HO1.out rfl (SY.out.below HB1.out (Nat.le_refl _)) ab3 ab4 ?_; intro v2 w2 ho hb; have kx := KX.out.below hb (Nat.lt_succ_self _); have c14 : w2.cell? ⟨w.heap.size, 14, none⟩ = some (.slice Az nz cz) := kx.cell 14; have HO2 := hid ho; have HB2 := hid (HB1.out.trans (hb.mono (Nat.le_succ _))); clear ho hb kx tk2)
    | (at_builtin; have _t := tk3; refine wpList_own (B := w.heap.size) (base := w.heap.size + 1) el_r rfl _ _ rfl rfl HO2.out rfl (SZ.out.below HB2.out (Nat.le_refl _)) ab5 ab6 ?_; intro v3 w3 ho hb; have hl : ([] ++ xs ++ ys ++ zs).length = k := (by have := LL.out; simp; omega); obtain ⟨A3, c3, rfl⟩ := ho.slice' hl; have HO3 := hid (ho.rd' hl (by have := LL.out; simp only [show recR.bs = 72 from rfl]; omega) (by decide)); have HB3 := hid (HB2.out.trans (hb.mono (Nat.le_succ _))); clear ho hb hl tk3))
  go_ret
  exact ⟨A3, c3, rfl, by have := HO3.out; simpa using this, HB3.out⟩
end Go.Proofs.Ytkdfiedemhjjjaa
/- Messages in plain Lean: another header ahead changes nothing of what is laid behind it; more records behind; how long what is sent may be. No function of the program. -/
namespace Go.Proofs.Ytkdfiedemhjjjaa
set_option linter.unusedVariables false
set_option linter.unusedSimpArgs false

/-- two lists of bytes in which the same names stand at the starts -/
def Al (b b' : List UInt8) (ss : List Int) : Prop := b.length = b'.length ∧ ∀ s ∈ ss, ∃ n x y, rdN b s = (0, n, x) ∧ rdN b' s = (0, n, y)
theorem Al.find {b b' : List UInt8} (n : List ByteArray) : ∀ {ss : List Int}, Al b b' ss → findS b n ss = findS b' n ss := by
  intro ss
  induction ss with
  | nil => intro _; rfl
  | cons s ss ih =>
    intro h
    rw [findS, findS, ih ⟨h.1, fun x hx => h.2 x (by simp [hx])⟩]
    obtain ⟨l, x, y, h1, h2⟩ := h.2 s (by simp)
    rw [h1, h2]
theorem Al.packT {b b' : List UInt8} {ss : List Int} (h : Al b b' ss) : ∀ l : List ByteArray, packT b ss l = packT b' ss l := by
  intro l
  induction l with
  | nil => rfl
  | cons s l ih => rw [Go.Proofs.Ytkdfiedemhjjjaa.packT, Go.Proofs.Ytkdfiedemhjjjaa.packT, h.find, ih]
theorem Al.packN {b b' : List UInt8} {ss : List Int} (h : Al b b' ss) : ∀ (l : List ByteArray) (k : Nat), packN b ss l k = packN b' ss l k := by
  intro l
  induction l with
  | nil => intro k; rfl
  | cons s l ih => intro k; rw [Go.Proofs.Ytkdfiedemhjjjaa.packN, Go.Proofs.Ytkdfiedemhjjjaa.packN, h.find, ih]
theorem Al.pack {b b' : List UInt8} {ss : List Int} (h : Al b b' ss) {l : List ByteArray} (hl : nameErr l = 0) (t : List UInt8) : Al (b ++ Go.Proofs.Ytkdfiedemhjjjaa.packT b ss l ++ t) (b' ++ Go.Proofs.Ytkdfiedemhjjjaa.packT b' ss l ++ t) (stS b ss l) := by
  refine ⟨by simp only [List.length_append, h.1, h.packT], fun s hs => ?_⟩
  unfold stS at hs
  rcases List.mem_append.1 hs with hs | hs
  · obtain ⟨n, x, y, h1, h2⟩ := h.2 s hs
    refine ⟨n, x, y, ?_, ?_⟩
    · rw [List.append_assoc]; exact rdN_app h1 _
    · rw [List.append_assoc]; exact rdN_app h2 _
  · obtain ⟨i, hi, rfl⟩ := List.mem_iff_getElem.1 hs
    obtain ⟨_, x, h1⟩ := pack_starts b ss l hl i hi
    have hi' : i < (Go.Proofs.Ytkdfiedemhjjjaa.packN b' ss l b'.length).length := by rw [← h.packN, ← h.1]; exact hi
    obtain ⟨_, y, h2⟩ := pack_starts b' ss l hl i hi'
    have e : (Go.Proofs.Ytkdfiedemhjjjaa.packN b' ss l b'.length)[i] = (Go.Proofs.Ytkdfiedemhjjjaa.packN b ss l b.length)[i] := by
      have : Go.Proofs.Ytkdfiedemhjjjaa.packN b' ss l b'.length = Go.Proofs.Ytkdfiedemhjjjaa.packN b ss l b.length := by rw [← h.packN, ← h.1]
      simp only [this]
    rw [e] at h2
    exact ⟨l.drop i, x, y, rdN_app h1 t, rdN_app h2 t⟩
theorem wrQ_al : ∀ (qs : List QT) (b b' : List UInt8) (ss : List Int) (c : List UInt8) (s' : List Int), Al b b' ss → wrQ qs b ss = (0, c, s') → ∃ t, c = b ++ t ∧ wrQ qs b' ss = (0, b' ++ t, s') ∧ Al c (b' ++ t) s'
  | [], b, b', ss, c, s', ha, h => by
    simp only [wrQ, Prod.mk.injEq, true_and] at h
    obtain ⟨rfl, rfl⟩ := h
    exact ⟨[], by simp, by simp [wrQ], by simpa using ha⟩
  | q :: qs, b, b', ss, c, s', ha, h => by
    rw [wrQ] at h
    by_cases hq : qErr q = 0
    · rw [if_pos hq] at h
      have h2 := ha.pack (qErr_zero hq).1 (two2 q.2.1 ++ two2 q.2.2.1)
      obtain ⟨t, rfl, g1, g2⟩ := wrQ_al qs (qB b ss q) (qB b' ss q) (stS b ss q.1) c s' h2 h
      refine ⟨packT b ss q.1 ++ (two2 q.2.1 ++ two2 q.2.2.1) ++ t, by simp [qB], ?_, ?_⟩
      · rw [wrQ, if_pos hq]
        have e : stS b' ss q.1 = stS b ss q.1 := by unfold stS; rw [← ha.packN, ← ha.1]
        rw [e, g1]
        simp [qB, ha.packT]
      · have e : b' ++ (packT b ss q.1 ++ (two2 q.2.1 ++ two2 q.2.2.1) ++ t) = qB b' ss q ++ t := by simp [qB, ha.packT]
        rw [e]; exact g2
    · rw [if_neg hq] at h
      simp only [Prod.mk.injEq] at h
      exact absurd h.1 hq
theorem wrR_al : ∀ (rs : List RecT) (b b' : List UInt8) (ss : List Int) (c : List UInt8) (s' : List Int), Al b b' ss → wrR rs b ss = (0, c, s') → ∃ t, c = b ++ t ∧ wrR rs b' ss = (0, b' ++ t, s') ∧ Al c (b' ++ t) s'
  | [], b, b', ss, c, s', ha, h => by
    simp only [wrR, Prod.mk.injEq, true_and] at h
    obtain ⟨rfl, rfl⟩ := h
    exact ⟨[], by simp, by simp [wrR], by simpa using ha⟩
  | r :: rs, b, b', ss, c, s', ha, h => by
    rw [wrR] at h
    by_cases hq : recErr r = 0
    · rw [if_pos hq] at h
      have h2 := ha.pack (recErr_zero hq).1 (recTail r.2.1 r.2.2.1 r.2.2.2.1 r.2.2.2.2.1)
      obtain ⟨t, rfl, g1, g2⟩ := wrR_al rs (recB b ss r) (recB b' ss r) (stS b ss r.1) c s' h2 h
      refine ⟨packT b ss r.1 ++ (recTail r.2.1 r.2.2.1 r.2.2.2.1 r.2.2.2.2.1) ++ t, by simp [recB], ?_, ?_⟩
      · rw [wrR, if_pos hq]
        have e : stS b' ss r.1 = stS b ss r.1 := by unfold stS; rw [← ha.packN, ← ha.1]
        rw [e, g1]
        simp [recB, ha.packT]
      · have e : b' ++ (packT b ss r.1 ++ (recTail r.2.1 r.2.2.1 r.2.2.2.1 r.2.2.2.2.1) ++ t) = recB b' ss r ++ t := by simp [recB, ha.packT]
        rw [e]; exact g2
    · rw [if_neg hq] at h
      simp only [Prod.mk.injEq] at h
      exact absurd h.1 hq

/-! how long -/
def qLen (q : QT) : Nat := lsum q.1 + 1 + 4
def rLen (r : RecT) : Nat := lsum r.1 + 1 + 10 + r.2.2.2.2.1.length
theorem wrQ_len : ∀ (qs : List QT) (b : List UInt8) (ss : List Int) (c : List UInt8) (s' : List Int), wrQ qs b ss = (0, c, s') → c.length ≤ b.length + (qs.map qLen).sum ∧ ∀ q ∈ qs, qErr q = 0
  | [], b, ss, c, s', h => by
    simp only [wrQ, Prod.mk.injEq, true_and] at h
    obtain ⟨rfl, rfl⟩ := h
    exact ⟨by simp, fun q hq => (by cases hq)⟩
  | q :: qs, b, ss, c, s', h => by
    rw [wrQ] at h
    by_cases hq : qErr q = 0
    · rw [if_pos hq] at h
      obtain ⟨g1, g2⟩ := wrQ_len qs _ _ _ _ h
      have hp := (packT_len b ss q.1 (nameErr_zero.1 (qErr_zero hq).1).1).1
      refine ⟨?_, fun x hx => ?_⟩
      · rw [List.map_cons, List.sum_cons]
        unfold qB at g1
        simp only [List.length_append, two2_len] at g1
        unfold qLen at g1 ⊢
        omega
      · rcases List.mem_cons.1 hx with rfl | hx
        · exact hq
        · exact g2 x hx
    · rw [if_neg hq] at h
      simp only [Prod.mk.injEq] at h
      exact absurd h.1 hq
theorem wrR_len : ∀ (rs : List RecT) (b : List UInt8) (ss : List Int) (c : List UInt8) (s' : List Int), wrR rs b ss = (0, c, s') → c.length ≤ b.length + (rs.map rLen).sum ∧ ∀ r ∈ rs, recErr r = 0
  | [], b, ss, c, s', h => by
    simp only [wrR, Prod.mk.injEq, true_and] at h
    obtain ⟨rfl, rfl⟩ := h
    exact ⟨by simp, fun q hq => (by cases hq)⟩
  | r :: rs, b, ss, c, s', h => by
    rw [wrR] at h
    by_cases hq : recErr r = 0
    · rw [if_pos hq] at h
      obtain ⟨g1, g2⟩ := wrR_len rs _ _ _ _ h
      have hp := (packT_len b ss r.1 (nameErr_zero.1 (recErr_zero hq).1).1).1
      refine ⟨?_, fun x hx => ?_⟩
      · rw [List.map_cons, List.sum_cons]
        unfold recB at g1
        simp only [List.length_append, recTail_len] at g1
        unfold rLen at g1 ⊢
        omega
      · rcases List.mem_cons.1 hx with rfl | hx
        · exact hq
        · exact g2 x hx
    · rw [if_neg hq] at h
      simp only [Prod.mk.injEq] at h
      exact absurd h.1 hq
end Go.Proofs.Ytkdfiedemhjjjaa
