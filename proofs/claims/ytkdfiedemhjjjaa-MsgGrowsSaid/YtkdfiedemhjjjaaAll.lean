/- All records of a message, in order; how long what is sent of a name is. -/
import Derived.Test.YtkdfiedemhjjjaaOwnRow
import Derived.Test.YtkdfiedemhjjjaaMsgV
namespace Go.Proofs.Ytkdfiedemhjjjaa
open Go.RowKit
set_option linter.unusedVariables false

theorem rec_one {w : World} {B : Nat} (a : RecT) (vs : List Value) (h : recR.rel w B a vs) : ∀ u ∈ vs, u.oneCell' = true := by
  obtain ⟨_, _, rfl, ⟨A, n, c, rfl, h1⟩, _, _, rfl, ⟨rfl, h2⟩, _, _, rfl, ⟨rfl, h3⟩, _, _, rfl, ⟨rfl, h4⟩, _, _, rfl, ⟨A', n', c', rfl, h5⟩, rfl⟩ := h
  intro u hu
  simp at hu
  rcases hu with rfl | rfl | rfl | rfl | rfl <;> rfl
set_option maxRecDepth 100000 in
set_option maxHeartbeats 4000000 in
theorem all_any {w : World} {h : Hd} {Q : Value} (hQ : ∃ A n c, Q = .slice A n c) {Ax Ay Az : Option Addr} {nx cx ny cy nz cz : Nat} {xs ys zs : List RecT} (hX : Rd recR w w.heap.size Ax nx cx xs) (hY : Rd recR w w.heap.size Ay ny cy ys) (hZ : Rd recR w w.heap.size Az nz cz zs) (hlim : (nx + ny + nz) * 72 ≤ 140737488355328) {k : Nat} (hk : nx + ny + nz = k) :
    Calls Try.prog 15 #[.agg (msgC h Q (.slice Ax nx cx) (.slice Ay ny cy) (.slice Az nz cz))] w fun e w' => ∃ A c, e = .returned (.slice A k c) ∧ Rd recR w' w'.heap.size A k c (xs ++ ys ++ zs) ∧ Below w.heap.size w w' := by
  obtain ⟨Aq, nq, cq, rfl⟩ := hQ
  have lx := hX.len
  have ly := hY.len
  have lz := hZ.len
  have SX := hid (SrcR.of hX rec_one)
  have SY := hid (SrcR.of hY rec_one)
  have SZ := hid (SrcR.of hZ rec_one)
  have ab1 : (([] : List RecT).length + nx) * 72 ≤ 140737488355328 := by simp; omega
  have ab2 : ([] : List RecT).length + nx ≤ maxLen := by simp [maxLen]; omega
  have ab3 : (([] ++ xs).length + ny) * 72 ≤ 140737488355328 := by simp [lx]; omega
  have ab4 : ([] ++ xs).length + ny ≤ maxLen := by simp [maxLen, lx]; omega
  have ab5 : (([] ++ xs ++ ys).length + nz) * 72 ≤ 140737488355328 := by simp [lx, ly]; omega
  have ab6 : ([] ++ xs ++ ys).length + nz ≤ maxLen := by simp [maxLen, lx, ly]; omega
  have LL := hid (And.intro lx (And.intro ly (And.intro lz hk)))
  clear hX hY hZ lx ly lz hk
  have tk0 : True := trivial; have tk1 : True := trivial; have tk2 : True := trivial; have tk3 : True := trivial; have tk4 : True := trivial; have tk5 : True := trivial; have tk6 : True := trivial; have tk7 : True := trivial; have tk8 : True := trivial; have tk9 : True := trivial; have tk10 : True := trivial; have tk11 : True := trivial; have tk12 : True := trivial
  go_enter Try.func15, Try.ntmps15
  go_wp2_with (first
    | (at_builtin; have _t := tk1; refine wpList_own (B := w.heap.size) (base := w.heap.size + 1) el_r rfl _ _ rfl rfl (OwnR.nil (Nat.le_succ _) (by first | omega | (simp [size_ext]; done) | (simp [size_ext]; omega))) rfl (SX.out.below (by (repeat' (first | (with_reducible exact Below.refl _ _) | (with_reducible assumption) | (with_reducible refine below_ext0 ?_ _ _) | (with_reducible refine below_alloc0 ?_ _) | (with_reducible refine Below.ext ?_ ?_ _ _) | (with_reducible refine Below.alloc ?_ ?_ _) | (with_reducible refine Below.setCell ?_ ?_ _) | (with_reducible refine Below.drew ?_) | (with_reducible refine below_draws ?_ _) | go_size | (simp [size_ext]; done) | (simp [size_ext]; omega)))) (Nat.le_refl _)) ab1 ab2 ?_; intro v1 w1 ho hb; have kx := (Blk.new w _ _).below hb (Nat.lt_succ_self _); have c13 : w1.cell? ⟨w.heap.size, 13, none⟩ = some (.slice Ay ny cy) := kx.cell 13; have HO1 := hid ho; have HB1 := hid (Below.trans ((Below.refl _ w).alloc (Nat.le_refl _) _) (hb.mono (Nat.le_succ _))); have KX := hid kx; clear ho hb kx tk1)
    | (at_builtin; have _t := tk2; refine wpList_own (B := w.heap.size) (base := w.heap.size + 1) el_r rfl _ _ rfl rfl HO1.out rfl (SY.out.below HB1.out (Nat.le_refl _)) ab3 ab4 ?_; intro v2 w2 ho hb; have kx := KX.out.below hb (Nat.lt_succ_self _); have c14 : w2.cell? ⟨w.heap.size, 14, none⟩ = some (.slice Az nz cz) := kx.cell 14; have HO2 := hid ho; have HB2 := hid (HB1.out.trans (hb.mono (Nat.le_succ _))); clear ho hb kx tk2)
    | (at_builtin; have _t := tk3; refine wpList_own (B := w.heap.size) (base := w.heap.size + 1) el_r rfl _ _ rfl rfl HO2.out rfl (SZ.out.below HB2.out (Nat.le_refl _)) ab5 ab6 ?_; intro v3 w3 ho hb; have hl : ([] ++ xs ++ ys ++ zs).length = k := (by have := LL.out; simp; omega); obtain ⟨A3, c3, rfl⟩ := ho.slice' hl; have HO3 := hid (ho.rd' hl (by have := LL.out; simp only [show recR.bs = 72 from rfl]; omega) (by decide)); have HB3 := hid (HB2.out.trans (hb.mono (Nat.le_succ _))); clear ho hb hl tk3))
  go_ret
  exact ⟨A3, c3, rfl, by have := HO3.out; simpa using this, HB3.out⟩
end Go.Proofs.Ytkdfiedemhjjjaa
