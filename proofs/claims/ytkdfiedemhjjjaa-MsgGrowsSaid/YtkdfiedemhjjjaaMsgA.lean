/- msg: the writer's question and record. -/
import Derived.Test.YtkdfiedemhjjjaaRrC
import Derived.Test.YtkdfiedemhjjjaaSim
import Derived.Test.YtkdfiedemhjjjaaMsgP
import Derived.Deep.DrawnRows
namespace Go.Proofs.Ytkdfiedemhjjjaa
open Go.RowKit
set_option linter.unusedVariables false

/-- the writer's cells -/
@[reducible] def wrC (A : Option Addr) (n c : Nat) (A1 : Option Addr) (n1 c1 : Nat) : Array Value := #[.slice A n c, .slice A1 n1 c1]
/-- what the writer holds behind a step -/
structure WrO (w w' : World) (g : Nat) (b : List UInt8) (ss : List Int) : Prop where
  ex : ∃ A n c A1 n1 c1, Blk w' g 88 (wrC A n c A1 n1 c1) ∧ Rd u8R w' w'.heap.size A n c b ∧ Rd intR w' w'.heap.size A1 n1 c1 ss
  grown : w.grownBy w' (some g)
theorem below_grown {w w' : World} (h : Below w.heap.size w w') (r : Option Nat) : w.grownBy w' r := ⟨h.os, h.tape, h.output, h.size, fun k hk _ => h.block k hk⟩
theorem q_cells (P : List UInt8) (T C : Int) (hT : 0 ≤ T ∧ T ≤ 65535) (hC : 0 ≤ C ∧ C ≤ 65535) :
    bytesV P ++ [Value.int .u8 (T / 256), .int .u8 (T % 256), .int .u8 (C / 256), .int .u8 (C % 256)] = bytesV (P ++ (two2 T ++ two2 C)) := by
  have c : ∀ x : Int, 0 ≤ x → x ≤ 255 → ((UInt8.ofNat x.toNat).toNat : Int) = x := fun x h0 h1 => by rw [UInt8.toNat_ofNat']; omega
  simp only [two2, bytesV, List.map_append, List.map_cons, List.map_nil]
  rw [c (T / 256 % 256) (by omega) (by omega), c (T % 256) (by omega) (by omega), c (C / 256 % 256) (by omega) (by omega), c (C % 256) (by omega) (by omega)]
  rw [show T / 256 % 256 = T / 256 by omega, show C / 256 % 256 = C / 256 by omega]
  simp

theorem wr_end {w w2 : World} {g : Nat} {A A' A2 B2 : Option Addr} {n c n1 c1 n2 c2 n' c' : Nat} {X : List UInt8} {Y : List Int} (hk : Blk w2 g 88 (wrC A n c A2 n1 c1)) (hX : Rd u8R w2 w2.heap.size B2 n2 c2 X) (hY : Rd intR w2 w2.heap.size A' n' c' Y) (hb : Below w.heap.size w w2) :
    WrO w ((w2.setCell ⟨g, 0, none⟩ (.slice B2 n2 c2)).setCell ⟨g, 1, none⟩ (.slice A' n' c')) g X Y := by
  refine ⟨⟨B2, n2, c2, A', n', c', ?_, ?_, ?_⟩, ((below_grown hb _).trans (grown_set _ _)).trans (grown_set _ _)⟩
  · have := (hk.set 0 (.slice B2 n2 c2)).set 1 (.slice A' n' c')
    simpa [wrC] using this
  · exact hX.near_u8 (((NearP.of_sim (SimP.refl _ _)).set (FreeB.of_blk hk (by simp [IsU8])) _).set (FreeB.of_blk hk (by simp [IsU8])) _)
  · exact hY.near_int (((NearP.of_sim (SimP.refl _ _)).set (FreeB.of_blk hk (by simp [IsI64])) _).set (FreeB.of_blk hk (by simp [IsI64])) _)

set_option maxRecDepth 100000 in
set_option maxHeartbeats 4000000 in
theorem wquestion_ok {w : World} {g : Nat} {A : Option Addr} {n c : Nat} {A1 : Option Addr} {n1 c1 : Nat} (hB : Blk w g 88 (wrC A n c A1 n1 c1)) {b : List UInt8} (hM : Rd u8R w w.heap.size A n c b) {ss : List Int} (hS : Rd intR w w.heap.size A1 n1 c1 ss) {A3 : Option Addr} {n3 c3 : Nat} {l : List ByteArray} (hL : Rd strR w w.heap.size A3 n3 c3 l) {T C : Int}
    (hlim : n + 65536 + 512 ≤ 140737488355328) (hlim1 : n1 * 8 + 4096 ≤ 140737488355328) (hf : qErr (l, T, C, ()) = 0) :
    Calls Try.prog 34 #[.pointer (some ⟨g, 0, none⟩), .agg #[.slice A3 n3 c3, .int .i64 T, .int .i64 C]] w fun e w' => e = .returned .nilIface ∧ WrO w w' g (qB b ss (l, T, C, ())) (stS b ss l) := by
  obtain ⟨h0, ⟨t1, t2⟩, ⟨u1, u2⟩⟩ := qErr_zero hf
  simp only at h0 t1 t2 u1 u2
  have hmn := hM.len
  have hsn := hS.len
  have hok := nameErr_zero.1 h0
  have hls : lsum l ≤ 254 := by have := hok.2; rw [nsize_lsum] at this; omega
  have hp := packT_len b ss l hok.1
  have hXl : (b ++ packT b ss l).length ≤ n + 255 := by rw [List.length_append]; omega
  have hl2 : (stS b ss l).length ≤ n1 + 255 := by
    have h1 := packN_len b ss l b.length
    have h2 := lsum_len l
    unfold stS
    rw [List.length_append]; omega
  have hg := hB.lt
  have CP : ∀ w', Below w.heap.size w w' → Calls Try.prog 28 #[.slice A n c, .slice A1 n1 c1, .slice A3 n3 c3] w' fun e w2 => ∃ v A' n' c', e = .returned (.tuple #[v, .slice A' n' c', .nilIface]) ∧ OwnP w' w2 b ss l v (.slice A' n' c') ∧ Below w'.heap.size w' w2 := fun w' hb => by
    refine (pack_own w' A n c b (hM.later hb) A1 n1 c1 ss (hS.later hb) A3 n3 c3 l (hL.later hb) (by omega) (by omega)).mono ?_
    rintro e w2 ⟨hb2, he⟩
    rw [if_pos h0] at he
    obtain ⟨v, v', he, ho⟩ := he
    obtain ⟨A', c', rfl, _⟩ := own_slice ho.all
    exact ⟨v, A', _, c', he, ho, hb2⟩
  replace CP := hid CP
  have c0 : w.cell? ⟨g, 0, none⟩ = some (.slice A n c) := hB.cell 0
  have c1' : w.cell? ⟨g, 1, none⟩ = some (.slice A1 n1 c1) := hB.cell 1
  have HB := hid hB
  obtain ⟨N, hN⟩ : ∃ N, (b ++ packT b ss l).length = N := ⟨_, rfl⟩
  have HN := hid hN
  have HL2 := hid hl2
  have hNb : N ≤ n + 255 := by omega
  clear hM hS hL hf hok hp hXl hN hls hmn hsn hB hl2
  have r0 : ¬ T < 0 := by omega
  have r1 : ¬ 65535 < T := by omega
  have r2 : ¬ C < 0 := by omega
  have r3 : ¬ 65535 < C := by omega
  have e0 : decide (T < 0) = false := decide_eq_false r0
  have e1 : decide (65535 < T) = false := decide_eq_false r1
  have e2 : decide (C < 0) = false := decide_eq_false r2
  have e3 : decide (65535 < C) = false := decide_eq_false r3
  have ab1 : (N + 4) * 1 ≤ 140737488355328 := by omega
  have ab2 : N + 4 ≤ maxLen := by unfold maxLen; omega
  have tk0 : True := trivial; have tk1 : True := trivial; have tk2 : True := trivial; have tk3 : True := trivial; have tk4 : True := trivial; have tk5 : True := trivial; have tk6 : True := trivial; have tk7 : True := trivial; have tk8 : True := trivial; have tk9 : True := trivial; have tk10 : True := trivial; have tk11 : True := trivial; have tk12 : True := trivial
  go_enter Try.func34, Try.ntmps34
  go_wp2_with fail
  go_region_held3 (fun w' => w'.cell? ⟨g, 0, none⟩ = some (.slice A n c) ∧ w'.cell? ⟨g, 1, none⟩ = some (.slice A1 n1 c1) ∧ w'.cell? ⟨w.heap.size, 0, none⟩ = some (.slice A3 n3 c3)) (((try dsimp only); (repeat' apply And.intro) <;> (first | assumption | (go_simp; done)))) (first
    | (go_at_call 28; have _t := tk1; (with_reducible refine (CP.out _ (by (repeat' (first | (with_reducible exact Below.refl _ _) | (with_reducible assumption) | (with_reducible refine below_ext0 ?_ _ _) | (with_reducible refine below_alloc0 ?_ _) | (with_reducible refine Below.ext ?_ ?_ _ _) | (with_reducible refine Below.alloc ?_ ?_ _) | (with_reducible refine Below.setCell ?_ ?_ _) | (with_reducible refine Below.drew ?_) | (with_reducible refine below_draws ?_ _) | go_size | (simp [size_ext]; done) | (simp [size_ext]; omega))))).mono ?_); rintro e w1 ⟨v1, A', n', c', rfl, ho1, hb1⟩; have hB0 := HB.out; have hk := (Blk.below (by (repeat' (first | (with_reducible exact Blk.new _ _ _) | (with_reducible assumption) | (with_reducible refine Blk.ext ?_ _ _) | (with_reducible refine Blk.drew ?_) | (with_reducible refine Blk.alloc ?_ _)))) hb1 (by simp; omega) : Blk w1 g 88 (wrC A n c A1 n1 c1)); have kx := (Blk.below (by (repeat' (first | (with_reducible exact Blk.new _ _ _) | (with_reducible assumption) | (with_reducible refine Blk.ext ?_ _ _) | (with_reducible refine Blk.drew ?_) | (with_reducible refine Blk.alloc ?_ _)))) hb1 (by simp) : Blk w1 w.heap.size 49 #[.slice A3 n3 c3, .int .i64 T, .int .i64 C]); have x0 : w1.cell? ⟨w.heap.size, 0, none⟩ = some (.slice A3 n3 c3) := kx.cell 0; have x1 : w1.cell? ⟨w.heap.size, 1, none⟩ = some (.int .i64 T) := kx.cell 1; have x2 : w1.cell? ⟨w.heap.size, 2, none⟩ = some (.int .i64 C) := kx.cell 2; have y0 : w1.cell? ⟨g, 0, none⟩ = some (.slice A n c) := hk.cell 0; have y1 : w1.cell? ⟨g, 1, none⟩ = some (.slice A1 n1 c1) := hk.cell 1; have z1 := hb1.size; simp at z1; have ho1' := own_less (base' := w.heap.size + 1) ho1.out (by simp); rw [HN.out] at ho1'; have HO1 := hid ho1'; have HP1 := hid ho1; have HB1 := hid (Below.trans (by (repeat' (first | (with_reducible exact Below.refl _ _) | (with_reducible assumption) | (with_reducible refine below_ext0 ?_ _ _) | (with_reducible refine below_alloc0 ?_ _) | (with_reducible refine Below.ext ?_ ?_ _ _) | (with_reducible refine Below.alloc ?_ ?_ _) | (with_reducible refine Below.setCell ?_ ?_ _) | (with_reducible refine Below.drew ?_) | (with_reducible refine below_draws ?_ _) | go_size | (simp [size_ext]; done) | (simp [size_ext]; omega)))) (hb1.mono (by simp)) : Below w.heap.size w w1); have KX1 := hid kx; have KB1 := hid hk; clear ho1 ho1' hb1 kx hk hB0 tk1))
  all_goals
    go_wp2_with (at_builtin; have _t := tk2; refine wpList_appT rfl _ _ 22 rfl (w.heap.size + 1) 5 1 1 el_u8 v1 N _ rfl (HO1.out.alloc _) _ 4 4 _ rfl (src_lit _ rfl (by simp [Value.oneCell']) rfl) ab1 ab2 (by simp; omega) ?_; intro v2 w2 ho2 ha2; have hb2 := ha2.below (HO1.out.alloc _) (by simp; omega); have hk := (KB1.out.alloc _).below (w' := w2) (B := g + 1) ⟨hb2.os, hb2.tape, hb2.output, hb2.size, fun k hk => ha2.grown.block k (by simp; omega) (fun e => by have := HO1.out.lt k e.symm; omega)⟩ (by omega); have y20 : w2.cell? ⟨g, 0, none⟩ = some (.slice A n c) := hk.cell 0; have y21 : w2.cell? ⟨g, 1, none⟩ = some (.slice A1 n1 c1) := hk.cell 1; have g20 : w2.frozen? ⟨g, 0, none⟩ = false := hk.frozen 0; have g21 : w2.frozen? ⟨g, 1, none⟩ = false := hk.frozen 1; have z2 := hb2.size; simp only [World.size_alloc] at z2; obtain ⟨A2, c2, rfl, _⟩ := own_slice ho2; have HO2 := hid ho2; have HA2 := hid ha2; have HB2 := hid hb2; have KB2 := hid hk; clear ho2 ha2 hb2 hk tk2)
    go_ret
    have ho := HO2.out
    rw [q_cells _ _ _ ⟨t1, t2⟩ ⟨u1, u2⟩] at ho
    obtain ⟨A5, c5, he5, hr5⟩ := own_rd_u8 (l := qB b ss (l, T, C, ())) ho (by omega) (by omega)
    cases he5
    obtain ⟨hall, _⟩ := (HA2.out.alloc).other HP1.out.all HP1.out.apart.symm
    have hl2 := HL2.out
    obtain ⟨A6, c6, he6, hr6⟩ := own_rd_int hall HP1.out.ints (by simp; omega) (by unfold stS at hl2; omega)
    cases he6
    exact ⟨rfl, wr_end KB2.out hr5 hr6 (Below.trans (Below.alloc HB1.out (by omega) _) (HB2.out.mono (by omega)))⟩

set_option maxRecDepth 100000 in
set_option maxHeartbeats 4000000 in
theorem wrecord_ok {w : World} {g : Nat} {A : Option Addr} {n c : Nat} {A1 : Option Addr} {n1 c1 : Nat} (hB : Blk w g 88 (wrC A n c A1 n1 c1)) {b : List UInt8} (hM : Rd u8R w w.heap.size A n c b) {ss : List Int} (hS : Rd intR w w.heap.size A1 n1 c1 ss) {A3 : Option Addr} {n3 c3 : Nat} {l : List ByteArray} (hL : Rd strR w w.heap.size A3 n3 c3 l) {T C L : Int} {A4 : Option Addr} {n4 c4 : Nat} {d : List UInt8} (hD : Rd u8R w w.heap.size A4 n4 c4 d)
    (hlim : n + 65536 + 512 ≤ 140737488355328) (hlim1 : n1 * 8 + 4096 ≤ 140737488355328) (hn : n ≤ 70368744177664) (hn1 : n1 ≤ 70368744177) (hf : recErr (l, T, C, L, d, ()) = 0) :
    Calls Try.prog 36 #[.pointer (some ⟨g, 0, none⟩), .agg #[.slice A3 n3 c3, .int .i64 T, .int .i64 C, .int .i64 L, .slice A4 n4 c4]] w fun e w' => e = .returned .nilIface ∧ WrO w w' g (recB b ss (l, T, C, L, d, ())) (stS b ss l) := by
  have hg := hB.lt
  have hlb := hM.len
  have hls := hS.len
  have CP : ∀ w', Below w.heap.size w w' → Calls Try.prog 8 #[.slice A n c, .slice A1 n1 c1, .agg #[.slice A3 n3 c3, .int .i64 T, .int .i64 C, .int .i64 L, .slice A4 n4 c4]] w' fun e w2 => ∃ A2 n2 c2 A' n' c', e = .returned (.tuple #[.slice A2 n2 c2, .slice A' n' c', .nilIface]) ∧ (Rd u8R w2 w2.heap.size A2 n2 c2 (recB b ss (l, T, C, L, d, ())) ∧ Rd intR w2 w2.heap.size A' n' c' (stS b ss l)) ∧ Below w'.heap.size w' w2 := fun w' hb => by
    refine (rwrite_ok (hM.later hb) (hS.later hb) (hL.later hb) (hD.later hb) hlim hlim1 hf).mono ?_
    rintro e w2 ⟨v, v', he, ho, hb2⟩
    have hy := ho.lenY
    simp only at hy
    have hx := ho.lenX
    have ha := ho.all
    have hi := ho.ints
    simp only at ha hi
    obtain ⟨A2, c2, rfl, hr⟩ := own_rd_u8 ho.out hb2.size (by omega)
    obtain ⟨A', c', rfl, hr2⟩ := own_rd_int ha hi hb2.size (by omega)
    exact ⟨A2, _, c2, A', _, c', he, ⟨hr, hr2⟩, hb2⟩
  replace CP := hid CP
  have c0 : w.cell? ⟨g, 0, none⟩ = some (.slice A n c) := hB.cell 0
  have c1' : w.cell? ⟨g, 1, none⟩ = some (.slice A1 n1 c1) := hB.cell 1
  have HB := hid hB
  clear hM hS hL hD hf hB hlb hls
  have tk0 : True := trivial; have tk1 : True := trivial; have tk2 : True := trivial; have tk3 : True := trivial; have tk4 : True := trivial; have tk5 : True := trivial; have tk6 : True := trivial; have tk7 : True := trivial; have tk8 : True := trivial; have tk9 : True := trivial; have tk10 : True := trivial; have tk11 : True := trivial; have tk12 : True := trivial
  go_enter Try.func36, Try.ntmps36
  go_wp2_with fail
  go_region_held3 (fun w' => w'.cell? ⟨g, 0, none⟩ = some (.slice A n c) ∧ w'.cell? ⟨g, 1, none⟩ = some (.slice A1 n1 c1) ∧ w'.cell? ⟨w.heap.size, 0, none⟩ = some (.slice A3 n3 c3) ∧ w'.cell? ⟨w.heap.size, 1, none⟩ = some (.int .i64 T) ∧ w'.cell? ⟨w.heap.size, 2, none⟩ = some (.int .i64 C) ∧ w'.cell? ⟨w.heap.size, 3, none⟩ = some (.int .i64 L) ∧ w'.cell? ⟨w.heap.size, 4, none⟩ = some (.slice A4 n4 c4)) (((try dsimp only); (repeat' apply And.intro) <;> (first | assumption | (go_simp; done)))) (first
    | (go_at_call 8; have _t := tk1; (with_reducible refine (CP.out _ (by (repeat' (first | (with_reducible exact Below.refl _ _) | (with_reducible assumption) | (with_reducible refine below_ext0 ?_ _ _) | (with_reducible refine below_alloc0 ?_ _) | (with_reducible refine Below.ext ?_ ?_ _ _) | (with_reducible refine Below.alloc ?_ ?_ _) | (with_reducible refine Below.setCell ?_ ?_ _) | (with_reducible refine Below.drew ?_) | (with_reducible refine below_draws ?_ _) | go_size | (simp [size_ext]; done) | (simp [size_ext]; omega))))).mono ?_); rintro e w1 ⟨A2, n2, c2, A', n', c', rfl, ⟨hr, hr2⟩, hb1⟩; have hB0 := HB.out; have hk := (Blk.below (by (repeat' (first | (with_reducible exact Blk.new _ _ _) | (with_reducible assumption) | (with_reducible refine Blk.ext ?_ _ _) | (with_reducible refine Blk.drew ?_) | (with_reducible refine Blk.alloc ?_ _)))) hb1 (by simp; omega) : Blk w1 g 88 (wrC A n c A1 n1 c1)); have kx := (Blk.below (by (repeat' (first | (with_reducible exact Blk.new _ _ _) | (with_reducible assumption) | (with_reducible refine Blk.ext ?_ _ _) | (with_reducible refine Blk.drew ?_) | (with_reducible refine Blk.alloc ?_ _)))) hb1 (by simp) : Blk w1 w.heap.size 26 #[.slice A3 n3 c3, .int .i64 T, .int .i64 C, .int .i64 L, .slice A4 n4 c4]); have x0 : w1.cell? ⟨w.heap.size, 0, none⟩ = some (.slice A3 n3 c3) := kx.cell 0; have x1 : w1.cell? ⟨w.heap.size, 1, none⟩ = some (.int .i64 T) := kx.cell 1; have x2 : w1.cell? ⟨w.heap.size, 2, none⟩ = some (.int .i64 C) := kx.cell 2; have x3 : w1.cell? ⟨w.heap.size, 3, none⟩ = some (.int .i64 L) := kx.cell 3; have x4 : w1.cell? ⟨w.heap.size, 4, none⟩ = some (.slice A4 n4 c4) := kx.cell 4; have y0 : w1.cell? ⟨g, 0, none⟩ = some (.slice A n c) := hk.cell 0; have y1 : w1.cell? ⟨g, 1, none⟩ = some (.slice A1 n1 c1) := hk.cell 1; have g0 : w1.frozen? ⟨g, 0, none⟩ = false := hk.frozen 0; have g1 : w1.frozen? ⟨g, 1, none⟩ = false := hk.frozen 1; have z1 := hb1.size; simp at z1; have HB1 := hid (Below.trans (by (repeat' (first | (with_reducible exact Below.refl _ _) | (with_reducible assumption) | (with_reducible refine below_ext0 ?_ _ _) | (with_reducible refine below_alloc0 ?_ _) | (with_reducible refine Below.ext ?_ ?_ _ _) | (with_reducible refine Below.alloc ?_ ?_ _) | (with_reducible refine Below.setCell ?_ ?_ _) | (with_reducible refine Below.drew ?_) | (with_reducible refine below_draws ?_ _) | go_size | (simp [size_ext]; done) | (simp [size_ext]; omega)))) (hb1.mono (by simp)) : Below w.heap.size w w1); have KB1 := hid hk; have R1 := hid hr; have R2 := hid hr2; clear hr hr2 hb1 kx hk hB0 tk1))
  all_goals
    go_wp2
    go_ret
    exact ⟨rfl, wr_end KB1.out R1.out R2.out HB1.out⟩
end Go.Proofs.Ytkdfiedemhjjjaa
