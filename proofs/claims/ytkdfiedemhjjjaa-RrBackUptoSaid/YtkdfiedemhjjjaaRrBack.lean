/- RrBack is true of every input of at most 1048576 values and letters in all: a record behind any message is read as it was; Skip tells the place of its TTL, and another TTL put there is read, and nothing else is another. Condition: the bound on what comes in. -/
import Derived.Test.YtkdfiedemhjjjaaRrD
import Derived.OpenShut
import Derived.JoinedCond
namespace Go.Proofs.Ytkdfiedemhjjjaa
open Go.ChangeShapes Go.WideShapes Go.ChangeAt Go.RowKit
set_option linter.unusedVariables false
namespace rrBack

set_option maxRecDepth 100000 in
set_option maxHeartbeats 8000000 in
theorem walkUpto (w : World) (A1 : Option Addr) (n1 c1 : Nat) (m : List UInt8) (h1 : Rd u8R w w.heap.size A1 n1 c1 m) (A2 : Option Addr) (n2 c2 : Nat) (ss : List Int) (h2 : Rd intR w w.heap.size A2 n2 c2 ss) (x : RecT) (cs : Array Value) (hx : recR.rel w w.heap.size x cs.toList) (ttl : Int) (httl : I64 ttl) (hz : (sliceR u8R).sz m + (sliceR intR).sz ss ≤ 1048576) :
    Calls Try.prog 3 #[.slice A1 n1 c1, .slice A2 n2 c2, .agg cs, .int .i64 ttl] w fun e w' => e = .returned (.bool true) ∧ Below w.heap.size w w' := by
  rw [sz_bytes, sz_ints, h1.len, h2.len] at hz
  obtain ⟨A3, n3, c3, A4, n4, c4, l, T, C, L, d, rfl, rfl, h3, ⟨hT, hC, hTL⟩, h4⟩ := record_of hx
  obtain ⟨t1, t2⟩ := httl
  have hml := h1.len
  have hdl := h4.len
  have hll := h3.len
  by_cases hf : recErr (l, T, C, L, d, ()) = 0
  · obtain ⟨X, hX⟩ : ∃ X, recB m ss (l, T, C, L, d, ()) = X := ⟨_, rfl⟩
    obtain ⟨k, hk⟩ : ∃ k, X.length = k := ⟨_, rfl⟩
    obtain ⟨a, ha⟩ : ∃ a, (m ++ packT m ss l).length + 4 = a := ⟨_, rfl⟩
    have hXl : k = a + 6 + n4 := by rw [← hk, ← hX]; show (m ++ packT m ss l ++ recTail T C L d).length = _; rw [List.length_append, recTail_len]; omega
    have han : n1 + 4 ≤ a := by rw [← ha, List.length_append]; omega
    obtain ⟨b1, b2⟩ := rr_back m ss _ hf
    rw [hX, hk, hml] at b1
    rw [hX, hk] at b2
    simp only at b1 b2
    have ha4 : a ≤ n1 + 260 := by
      have hok := nameErr_zero.1 (recErr_zero hf).1
      have := packT_len m ss l hok.1
      have := hok.2
      rw [nsize_lsum] at this
      simp only at *
      rw [← ha, List.length_append]; omega
    have hn4 : n4 ≤ 65535 := by have := (recErr_zero hf).2.2.2.2; simp only at this; omega
    have CW : ∀ w', Below w.heap.size w w' → Calls Try.prog 8 #[.slice A1 n1 c1, .slice A2 n2 c2, .agg #[.slice A3 n3 c3, .int .i64 T, .int .i64 C, .int .i64 L, .slice A4 n4 c4]] w' fun e w2 => ∃ g cap A' k2 c', e = .returned (.tuple #[.slice (some ⟨g, 0, none⟩) k cap, .slice A' k2 c', .nilIface]) ∧ (w2.ownsRow w'.heap.size 5 1 (.slice (some ⟨g, 0, none⟩) k cap) k (bytesV X) ∧ w'.heap.size ≤ g ∧ g < w2.heap.size ∧ k ≤ cap ∧ cap ≤ maxLen) ∧ Below w'.heap.size w' w2 := fun w' hb => by
      refine (rwrite_ok (h1.later hb) (h2.later hb) (h3.later hb) (h4.later hb) (by omega) (by omega) hf).mono ?_
      rintro e w2 ⟨v, v', rfl, ho, hb2⟩
      have o1 := ho.out
      rw [hX, hk] at o1
      obtain ⟨A', c', _, _, rfl, rfl, _, _⟩ : ∃ A' c' A2 c2, v = .slice A' k c' ∧ v' = .slice A2 (ss ++ packN m ss l m.length).length c2 ∧ True ∧ True := by
        obtain ⟨A', c', e1, _⟩ := own_slice o1
        obtain ⟨A2, c2, e2, _⟩ := own_slice ho.all
        exact ⟨A', c', A2, c2, e1, e2, trivial, trivial⟩
      rcases o1.2 with ⟨h1, h2⟩ | ⟨g, cap, cur, e1, g1, g2, g3, g4, _⟩
      · omega
      · cases e1
        exact ⟨g, _, _, _, _, rfl, ⟨o1, g1, (Array.getElem?_eq_some_iff.1 g2).1, g3, g4⟩, hb2⟩
    replace CW := hid CW
    have RR := hid fun w' A c (hr : Rd u8R w' w'.heap.size A k c X) => rread_ok hr b1 hll b2 hdl
    have RS := hid fun w' A c (hr : Rd u8R w' w'.heap.size A k c X) => (show Calls Try.prog 11 _ w' (fun e w2 => e = .returned (.tuple #[.int .i64 (a : Int), .int .i64 (k : Int), .nilIface]) ∧ Below w'.heap.size w' w2) from ha ▸ skip_ok hr b1)
    have HK := hid hk
    have H3 := hid h3
    have H4 := hid h4
    have hkb : k ≤ 140737488355328 := by omega
    have x1 : (n1 : Int) ≤ (a : Int) := by omega
    have x2 : (a : Int) + 4 ≤ (k : Int) := by omega
    have x3 : IntKind.i64.wrap ((a : Int) + 4) = (a : Int) + 4 := IntWalk.i64_in _ (by omega)
    have x1' : n1 ≤ a := by omega
    have x2' : a + 4 ≤ k := by omega
    have x4 : ¬ (a : Int) < (n1 : Int) := by omega
    have x5 : decide ((a : Int) < (n1 : Int)) = false := decide_eq_false x4
    have x6 : ¬ (k : Int) < (a : Int) + 4 := by omega
    have x7 : decide ((k : Int) < (a : Int) + 4) = false := decide_eq_false x6
    by_cases ht : 0 ≤ ttl ∧ ttl ≤ 4294967295
    · obtain ⟨ht0, ht1⟩ := ht
      have hf' : recErr (l, T, C, ttl, d, ()) = 0 := by
        obtain ⟨z0, z1, z2, z3, z4⟩ := recErr_zero hf
        simp only at z0 z1 z2 z3 z4
        unfold recErr
        simp only
        rw [if_pos z0, if_pos ⟨z1.1, z1.2, z2.1, z2.2, ht0, ht1⟩, if_pos z4]
      obtain ⟨X', hX'⟩ : ∃ X', recB m ss (l, T, C, ttl, d, ()) = X' := ⟨_, rfl⟩
      have hk' : X'.length = k := by
        rw [← hX', ← hk, ← hX]
        show (m ++ packT m ss l ++ recTail T C ttl d).length = (m ++ packT m ss l ++ recTail T C L d).length
        simp only [List.length_append, recTail_len]
      obtain ⟨b3, b4⟩ := rr_back m ss _ hf'
      rw [hX', hk', hml] at b3
      rw [hX', hk'] at b4
      simp only at b3 b4
      have RR2 := hid fun w' A c (hr : Rd u8R w' w'.heap.size A k c X') => rread_ok hr b3 hll b4 hdl
      have RT := hid fun (w1 : World) (base g cap : Nat) (ho : w1.ownsRow base 5 1 (.slice (some ⟨g, 0, none⟩) k cap) k (bytesV X)) (hb : base ≤ w1.heap.size) => (show Rd u8R (ttlW w1 g a ttl) (ttlW w1 g a ttl).heap.size (some ⟨g, 0, none⟩) k cap X' by { subst hX; subst hX'; exact rd_ttl (P := m ++ packT m ss l) ho hb a ha.symm ⟨ht0, ht1⟩ (by omega) })
      clear h1 h2 h3 h4 hf hX hk ha hXl b1 b2 hml hdl hll hz ha4 hf' hX' hk' b3 b4
      have q0 : ¬ ttl < 0 := by omega
      have q1 : decide (ttl < 0) = false := decide_eq_false q0
      have q2 : ¬ 4294967295 < ttl := by omega
      have q3 : decide (4294967295 < ttl) = false := decide_eq_false q2
      have i0 : (a : Int) < (k : Int) := by omega
      have i1 : (a : Int) + 1 < (k : Int) := by omega
      have i2 : (a : Int) + 2 < (k : Int) := by omega
      have i3 : (a : Int) + 3 < (k : Int) := by omega
      have i0' : a < k := by omega
      have i1' : a + 1 < k := by omega
      have i2' : a + 2 < k := by omega
      have i3' : a + 3 < k := by omega
      have yy1 : IntKind.i64.wrap ((a : Int) + 1) = (a : Int) + 1 := IntWalk.i64_in _ (by omega)
      have yy2 : IntKind.i64.wrap ((a : Int) + 2) = (a : Int) + 2 := IntWalk.i64_in _ (by omega)
      have yy3 : IntKind.i64.wrap ((a : Int) + 3) = (a : Int) + 3 := IntWalk.i64_in _ (by omega)
      have tk0 : True := trivial; have tk1 : True := trivial; have tk2 : True := trivial; have tk3 : True := trivial; have tk4 : True := trivial; have tk5 : True := trivial; have tk6 : True := trivial; have tk7 : True := trivial; have tk8 : True := trivial; have tk9 : True := trivial; have tk10 : True := trivial; have tk11 : True := trivial; have tk12 : True := trivial
      go_enter Try.func3, Try.ntmps3
      go_wp2_with (first
          | (go_at_call 8; have _t := tk1; (with_reducible refine (fact_rr 5 (by simp)).mono ?_); rintro e w1 ⟨Atk1, ctk1, Btk1, ftk1, rfl, ⟨hr, hr2⟩, hb⟩; have hcaptk1 := hr.cap; obtain ⟨btk1, qtk1, rfl, _⟩ := hr.addr (by omega); obtain ⟨otk1, dtk1, rfl⟩ := ext_of_below hb; (try simp only [ext_drew, ext_drewN] at hr); have RF := hid hr; clear hr; (try simp only [ext_drew, ext_drewN] at hr2); have RFS := hid hr2; clear hr2; clear hb tk1)
          | (go_at_call 8; have _t := tk2; (first | ((with_reducible refine (CW.out _ (by (repeat' (first | (with_reducible exact Below.refl _ _) | (with_reducible assumption) | (with_reducible refine below_ext0 ?_ _ _) | (with_reducible refine below_alloc0 ?_ _) | (with_reducible refine Below.ext ?_ ?_ _ _) | (with_reducible refine Below.alloc ?_ ?_ _) | (with_reducible refine Below.setCell ?_ ?_ _) | (with_reducible refine Below.drew ?_) | (with_reducible refine below_draws ?_ _) | go_size | (simp [size_ext]; done) | (simp [size_ext]; omega))))).mono ?_))); (first | (rintro e w1 ⟨g, cap, A', k2, c', rfl, ⟨ho, hg1, hg2, hg3, hg4⟩, hb⟩)); (first | (have hB1 : Below w.heap.size w w1 := Below.trans (by (repeat' (first | (with_reducible exact Below.refl _ _) | (with_reducible assumption) | (with_reducible refine below_ext0 ?_ _ _) | (with_reducible refine below_alloc0 ?_ _) | (with_reducible refine Below.ext ?_ ?_ _ _) | (with_reducible refine Below.alloc ?_ ?_ _) | (with_reducible refine Below.setCell ?_ ?_ _) | (with_reducible refine Below.drew ?_) | (with_reducible refine below_draws ?_ _) | go_size | (simp [size_ext]; done) | (simp [size_ext]; omega)))) (hb.mono (by first | (simp [size_ext]; done) | (simp [size_ext]; omega))))); (first | (obtain ⟨A5, c5, he5, hr5⟩ := own_rd_u8 ho hb.size hkb)); (first | (cases he5)); (first | (have k1 : Blk w1 w.heap.size 26 #[.slice A3 n3 c3, .int .i64 T, .int .i64 C, .int .i64 L, .slice A4 n4 c4] := Blk.below (by (repeat' (first | (with_reducible exact Blk.new _ _ _) | (with_reducible assumption) | (with_reducible refine Blk.ext ?_ _ _) | (with_reducible refine Blk.drew ?_) | (with_reducible refine Blk.alloc ?_ _)))) hb (by first | (simp [size_ext]; done) | (simp [size_ext]; omega)))); (first | (have c0 := k1.cell 0)); (first | (have cc1 := k1.cell 1)); (first | (have cc2 := k1.cell 2)); (first | (have cc3 := k1.cell 3)); (first | (have cc4 := k1.cell 4)); (first | (have ff3 := k1.frozen 3)); (first | (have HF1 := FreeB.of_blk (P := IsStr) k1 (by simp [IsStr]))); (first | (have HF2 := FreeB.of_blk (P := IsU8) k1 (by simp [IsU8]))); (first | (simp [size_ext] at hg1)); (first | (have hne : ¬ g = w.heap.size := by omega)); (first | (have hne' : ¬ w.heap.size = g := by omega)); (first | (have hgw : w.heap.size < g := by omega)); (first | (have hzw : w.heap.size < w1.heap.size := by omega)); (first | (obtain ⟨y0, gc0, gf0⟩ := own_cell ho a (by omega))); (first | (obtain ⟨y1, gc1, gf1⟩ := own_cell ho (a + 1) (by omega))); (first | (obtain ⟨y2, gc2, gf2⟩ := own_cell ho (a + 2) (by omega))); (first | (obtain ⟨y3, gc3, gf3⟩ := own_cell ho (a + 3) (by omega))); (first | (have HO := hid (And.intro ho hb.size))); (first | (have HR5 := hid hr5)); (first | (clear ho hb hr5 k1 tk2)))
          | (go_at_call 9; have _t := tk3; (with_reducible refine (RR.out _ _ _ (HR5.out.later (by (repeat' (first | (with_reducible exact Below.refl _ _) | (with_reducible assumption) | (with_reducible refine below_ext0 ?_ _ _) | (with_reducible refine below_alloc0 ?_ _) | (with_reducible refine Below.ext ?_ ?_ _ _) | (with_reducible refine Below.alloc ?_ ?_ _) | (with_reducible refine Below.setCell ?_ ?_ _) | (with_reducible refine Below.drew ?_) | (with_reducible refine below_draws ?_ _) | go_size | (simp [size_ext]; done) | (simp [size_ext]; omega)))))).mono ?_); rintro e w1 ⟨Atk3, ctk3, Btk3, ftk3, rfl, ⟨hr, hr2⟩, hb⟩; obtain ⟨otk3, dtk3, rfl⟩ := ext_of_below hb; (try simp only [ext_drew, ext_drewN] at hr); have RN := hid hr; clear hr; (try simp only [ext_drew, ext_drewN] at hr2); have RD := hid hr2; clear hr2; clear hb tk3)
          | (go_at_call 10; have _t := tk4; (with_reducible refine (record_yes (RN.out.later (by (repeat' (first | (with_reducible exact Below.refl _ _) | (with_reducible assumption) | (with_reducible refine below_ext0 ?_ _ _) | (with_reducible refine below_alloc0 ?_ _) | (with_reducible refine Below.ext ?_ ?_ _ _) | (with_reducible refine Below.alloc ?_ ?_ _) | (with_reducible refine Below.setCell ?_ ?_ _) | (with_reducible refine Below.drew ?_) | (with_reducible refine below_draws ?_ _) | go_size | (simp [size_ext]; done) | (simp [size_ext]; omega))))) (RD.out.later (by (repeat' (first | (with_reducible exact Below.refl _ _) | (with_reducible assumption) | (with_reducible refine below_ext0 ?_ _ _) | (with_reducible refine below_alloc0 ?_ _) | (with_reducible refine Below.ext ?_ ?_ _ _) | (with_reducible refine Below.alloc ?_ ?_ _) | (with_reducible refine Below.setCell ?_ ?_ _) | (with_reducible refine Below.drew ?_) | (with_reducible refine below_draws ?_ _) | go_size | (simp [size_ext]; done) | (simp [size_ext]; omega))))) (H3.out.later (by (repeat' (first | (with_reducible exact Below.refl _ _) | (with_reducible assumption) | (with_reducible refine below_ext0 ?_ _ _) | (with_reducible refine below_alloc0 ?_ _) | (with_reducible refine Below.ext ?_ ?_ _ _) | (with_reducible refine Below.alloc ?_ ?_ _) | (with_reducible refine Below.setCell ?_ ?_ _) | (with_reducible refine Below.drew ?_) | (with_reducible refine below_draws ?_ _) | go_size | (simp [size_ext]; done) | (simp [size_ext]; omega))))) (H4.out.later (by (repeat' (first | (with_reducible exact Below.refl _ _) | (with_reducible assumption) | (with_reducible refine below_ext0 ?_ _ _) | (with_reducible refine below_alloc0 ?_ _) | (with_reducible refine Below.ext ?_ ?_ _ _) | (with_reducible refine Below.alloc ?_ ?_ _) | (with_reducible refine Below.setCell ?_ ?_ _) | (with_reducible refine Below.drew ?_) | (with_reducible refine below_draws ?_ _) | go_size | (simp [size_ext]; done) | (simp [size_ext]; omega))))) (Nat.le_refl _) (Nat.le_refl _) (Nat.le_refl _) (Nat.le_refl _)).mono ?_); rintro e w1 ⟨rfl, hb⟩; obtain ⟨otk4, dtk4, rfl⟩ := ext_of_below hb; clear hb tk4)
          | (go_at_call 11; have _t := tk5; (with_reducible refine (RS.out _ _ _ (HR5.out.later (by (repeat' (first | (with_reducible exact Below.refl _ _) | (with_reducible assumption) | (with_reducible refine below_ext0 ?_ _ _) | (with_reducible refine below_alloc0 ?_ _) | (with_reducible refine Below.ext ?_ ?_ _ _) | (with_reducible refine Below.alloc ?_ ?_ _) | (with_reducible refine Below.setCell ?_ ?_ _) | (with_reducible refine Below.drew ?_) | (with_reducible refine below_draws ?_ _) | go_size | (simp [size_ext]; done) | (simp [size_ext]; omega)))))).mono ?_); rintro e w1 ⟨rfl, hb⟩; obtain ⟨otk5, dtk5, rfl⟩ := ext_of_below hb; clear hb tk5)
          | (go_at_call 9; have _t := tk6; (with_reducible refine (RR2.out _ _ _ ((RT.out _ _ _ _ HO.out.1 HO.out.2).later (by (repeat' (first | (with_reducible exact Below.refl _ _) | (with_reducible assumption) | (with_reducible refine below_ext0 ?_ _ _) | (with_reducible refine below_alloc0 ?_ _) | (with_reducible refine Below.ext ?_ ?_ _ _) | (with_reducible refine Below.alloc ?_ ?_ _) | (with_reducible refine Below.setCell ?_ ?_ _) | (with_reducible refine Below.drew ?_) | (with_reducible refine below_draws ?_ _) | go_size | (simp [size_ext]; done) | (simp [size_ext]; omega)))))).mono ?_); rintro e w1 ⟨Atk6, ctk6, Btk6, ftk6, rfl, ⟨hr, hr2⟩, hb⟩; obtain ⟨otk6, dtk6, rfl⟩ := ext_of_below hb; (try simp only [ext_drew, ext_drewN] at hr); have RN2 := hid hr; clear hr; (try simp only [ext_drew, ext_drewN] at hr2); have RD2 := hid hr2; clear hr2; clear hb tk6)
          | (go_at_call 10; have _t := tk7; (with_reducible refine (record_yes (RN2.out.near_str (by (repeat' (first | ((with_reducible refine NearP.of_sim ?_); (repeat' (first | (with_reducible exact SimP.refl _ _) | (with_reducible refine SimP.ext ?_ _ _ _) | (with_reducible refine SimP.alloc ?_ _) | (with_reducible refine SimP.allocs ?_ _ _ _ ?_) | (with_reducible refine SimP.set ?_ _ _ _) | (with_reducible assumption) | (with_reducible refine FreeB.far ?_ ?_ _) | (with_reducible refine SimP.drew ?_) | (with_reducible refine SimP.drew' ?_) | (simp [IsStr, IsU8]; done))); done) | (with_reducible refine NearP.ext ?_ _ _) | (with_reducible refine NearP.alloc ?_ _) | (with_reducible refine NearP.drew ?_))))) (RD2.out.near_u8 (by (repeat' (first | ((with_reducible refine NearP.of_sim ?_); (repeat' (first | (with_reducible exact SimP.refl _ _) | (with_reducible refine SimP.ext ?_ _ _ _) | (with_reducible refine SimP.alloc ?_ _) | (with_reducible refine SimP.allocs ?_ _ _ _ ?_) | (with_reducible refine SimP.set ?_ _ _ _) | (with_reducible assumption) | (with_reducible refine FreeB.far ?_ ?_ _) | (with_reducible refine SimP.drew ?_) | (with_reducible refine SimP.drew' ?_) | (simp [IsStr, IsU8]; done))); done) | (with_reducible refine NearP.ext ?_ _ _) | (with_reducible refine NearP.alloc ?_ _) | (with_reducible refine NearP.drew ?_))))) (H3.out.later (by (repeat' (first | (with_reducible exact Below.refl _ _) | (with_reducible assumption) | (with_reducible refine below_ext0 ?_ _ _) | (with_reducible refine below_alloc0 ?_ _) | (with_reducible refine Below.ext ?_ ?_ _ _) | (with_reducible refine Below.alloc ?_ ?_ _) | (with_reducible refine Below.setCell ?_ ?_ _) | (with_reducible refine Below.drew ?_) | (with_reducible refine below_draws ?_ _) | go_size | (simp [size_ext]; done) | (simp [size_ext]; omega))))) (H4.out.later (by (repeat' (first | (with_reducible exact Below.refl _ _) | (with_reducible assumption) | (with_reducible refine below_ext0 ?_ _ _) | (with_reducible refine below_alloc0 ?_ _) | (with_reducible refine Below.ext ?_ ?_ _ _) | (with_reducible refine Below.alloc ?_ ?_ _) | (with_reducible refine Below.setCell ?_ ?_ _) | (with_reducible refine Below.drew ?_) | (with_reducible refine below_draws ?_ _) | go_size | (simp [size_ext]; done) | (simp [size_ext]; omega))))) (Nat.le_refl _) (Nat.le_refl _) (Nat.le_refl _) (Nat.le_refl _)).mono ?_); rintro e w1 ⟨rfl, hb⟩; obtain ⟨otk7, dtk7, rfl⟩ := ext_of_below hb; clear hb tk7))
      go_ret
      exact ⟨by first | rfl | (simp; done), by first | (repeat' (first | (with_reducible exact Below.refl _ _) | (with_reducible assumption) | (with_reducible refine below_ext0 ?_ _ _) | (with_reducible refine below_alloc0 ?_ _) | (with_reducible refine Below.ext ?_ ?_ _ _) | (with_reducible refine Below.alloc ?_ ?_ _) | (with_reducible refine Below.setCell ?_ ?_ _) | (with_reducible refine Below.drew ?_) | (with_reducible refine below_draws ?_ _) | go_size | (simp [size_ext]; done) | (simp [size_ext]; omega))) | ((repeat' (first | (with_reducible exact Below.refl _ _) | (with_reducible assumption) | (with_reducible refine below_ext0 ?_ _ _) | (with_reducible refine below_alloc0 ?_ _) | (with_reducible refine Below.ext ?_ ?_ _ _) | (with_reducible refine Below.alloc ?_ ?_ _) | (with_reducible refine Below.setCell ?_ ?_ _) | (with_reducible refine Below.drew ?_) | (with_reducible refine below_draws ?_ _) | go_size | (simp [size_ext]; done) | (simp [size_ext]; omega))) <;> (simp; omega))⟩
    · have hw : ttl < 0 ∨ (0 ≤ ttl ∧ 4294967295 < ttl) := by omega
      clear h1 h2 h3 h4 hf hX hk ha hXl b1 b2 hml hdl hll hz ht ha4
      rcases hw with hw | ⟨hw0, hw⟩
      case' inr => have q0 : ¬ ttl < 0 := by omega
      case' inr => have q1 : decide (ttl < 0) = false := decide_eq_false q0
      all_goals
        have tk0 : True := trivial; have tk1 : True := trivial; have tk2 : True := trivial; have tk3 : True := trivial; have tk4 : True := trivial; have tk5 : True := trivial; have tk6 : True := trivial; have tk7 : True := trivial; have tk8 : True := trivial; have tk9 : True := trivial; have tk10 : True := trivial; have tk11 : True := trivial; have tk12 : True := trivial
        go_enter Try.func3, Try.ntmps3
        go_wp2_with (first
          | (go_at_call 8; have _t := tk1; (with_reducible refine (fact_rr 5 (by simp)).mono ?_); rintro e w1 ⟨Atk1, ctk1, Btk1, ftk1, rfl, ⟨hr, hr2⟩, hb⟩; have hcaptk1 := hr.cap; obtain ⟨btk1, qtk1, rfl, _⟩ := hr.addr (by omega); obtain ⟨otk1, dtk1, rfl⟩ := ext_of_below hb; (try simp only [ext_drew, ext_drewN] at hr); have RF := hid hr; clear hr; (try simp only [ext_drew, ext_drewN] at hr2); have RFS := hid hr2; clear hr2; clear hb tk1)
          | (go_at_call 8; have _t := tk2; (first | ((with_reducible refine (CW.out _ (by (repeat' (first | (with_reducible exact Below.refl _ _) | (with_reducible assumption) | (with_reducible refine below_ext0 ?_ _ _) | (with_reducible refine below_alloc0 ?_ _) | (with_reducible refine Below.ext ?_ ?_ _ _) | (with_reducible refine Below.alloc ?_ ?_ _) | (with_reducible refine Below.setCell ?_ ?_ _) | (with_reducible refine Below.drew ?_) | (with_reducible refine below_draws ?_ _) | go_size | (simp [size_ext]; done) | (simp [size_ext]; omega))))).mono ?_))); (first | (rintro e w1 ⟨g, cap, A', k2, c', rfl, ⟨ho, hg1, hg2, hg3, hg4⟩, hb⟩)); (first | (have hB1 : Below w.heap.size w w1 := Below.trans (by (repeat' (first | (with_reducible exact Below.refl _ _) | (with_reducible assumption) | (with_reducible refine below_ext0 ?_ _ _) | (with_reducible refine below_alloc0 ?_ _) | (with_reducible refine Below.ext ?_ ?_ _ _) | (with_reducible refine Below.alloc ?_ ?_ _) | (with_reducible refine Below.setCell ?_ ?_ _) | (with_reducible refine Below.drew ?_) | (with_reducible refine below_draws ?_ _) | go_size | (simp [size_ext]; done) | (simp [size_ext]; omega)))) (hb.mono (by first | (simp [size_ext]; done) | (simp [size_ext]; omega))))); (first | (obtain ⟨A5, c5, he5, hr5⟩ := own_rd_u8 ho hb.size hkb)); (first | (cases he5)); (first | (have k1 : Blk w1 w.heap.size 26 #[.slice A3 n3 c3, .int .i64 T, .int .i64 C, .int .i64 L, .slice A4 n4 c4] := Blk.below (by (repeat' (first | (with_reducible exact Blk.new _ _ _) | (with_reducible assumption) | (with_reducible refine Blk.ext ?_ _ _) | (with_reducible refine Blk.drew ?_) | (with_reducible refine Blk.alloc ?_ _)))) hb (by first | (simp [size_ext]; done) | (simp [size_ext]; omega)))); (first | (have c0 := k1.cell 0)); (first | (have cc1 := k1.cell 1)); (first | (have cc2 := k1.cell 2)); (first | (have cc3 := k1.cell 3)); (first | (have cc4 := k1.cell 4)); (first | (have ff3 := k1.frozen 3)); (first | (have HF1 := FreeB.of_blk (P := IsStr) k1 (by simp [IsStr]))); (first | (have HF2 := FreeB.of_blk (P := IsU8) k1 (by simp [IsU8]))); (first | (simp [size_ext] at hg1)); (first | (have hne : ¬ g = w.heap.size := by omega)); (first | (have hne' : ¬ w.heap.size = g := by omega)); (first | (have hgw : w.heap.size < g := by omega)); (first | (have hzw : w.heap.size < w1.heap.size := by omega)); (first | (obtain ⟨y0, gc0, gf0⟩ := own_cell ho a (by omega))); (first | (obtain ⟨y1, gc1, gf1⟩ := own_cell ho (a + 1) (by omega))); (first | (obtain ⟨y2, gc2, gf2⟩ := own_cell ho (a + 2) (by omega))); (first | (obtain ⟨y3, gc3, gf3⟩ := own_cell ho (a + 3) (by omega))); (first | (have HO := hid (And.intro ho hb.size))); (first | (have HR5 := hid hr5)); (first | (clear ho hb hr5 k1 tk2)))
          | (go_at_call 9; have _t := tk3; (with_reducible refine (RR.out _ _ _ (HR5.out.later (by (repeat' (first | (with_reducible exact Below.refl _ _) | (with_reducible assumption) | (with_reducible refine below_ext0 ?_ _ _) | (with_reducible refine below_alloc0 ?_ _) | (with_reducible refine Below.ext ?_ ?_ _ _) | (with_reducible refine Below.alloc ?_ ?_ _) | (with_reducible refine Below.setCell ?_ ?_ _) | (with_reducible refine Below.drew ?_) | (with_reducible refine below_draws ?_ _) | go_size | (simp [size_ext]; done) | (simp [size_ext]; omega)))))).mono ?_); rintro e w1 ⟨Atk3, ctk3, Btk3, ftk3, rfl, ⟨hr, hr2⟩, hb⟩; obtain ⟨otk3, dtk3, rfl⟩ := ext_of_below hb; (try simp only [ext_drew, ext_drewN] at hr); have RN := hid hr; clear hr; (try simp only [ext_drew, ext_drewN] at hr2); have RD := hid hr2; clear hr2; clear hb tk3)
          | (go_at_call 10; have _t := tk4; (with_reducible refine (record_yes (RN.out.later (by (repeat' (first | (with_reducible exact Below.refl _ _) | (with_reducible assumption) | (with_reducible refine below_ext0 ?_ _ _) | (with_reducible refine below_alloc0 ?_ _) | (with_reducible refine Below.ext ?_ ?_ _ _) | (with_reducible refine Below.alloc ?_ ?_ _) | (with_reducible refine Below.setCell ?_ ?_ _) | (with_reducible refine Below.drew ?_) | (with_reducible refine below_draws ?_ _) | go_size | (simp [size_ext]; done) | (simp [size_ext]; omega))))) (RD.out.later (by (repeat' (first | (with_reducible exact Below.refl _ _) | (with_reducible assumption) | (with_reducible refine below_ext0 ?_ _ _) | (with_reducible refine below_alloc0 ?_ _) | (with_reducible refine Below.ext ?_ ?_ _ _) | (with_reducible refine Below.alloc ?_ ?_ _) | (with_reducible refine Below.setCell ?_ ?_ _) | (with_reducible refine Below.drew ?_) | (with_reducible refine below_draws ?_ _) | go_size | (simp [size_ext]; done) | (simp [size_ext]; omega))))) (H3.out.later (by (repeat' (first | (with_reducible exact Below.refl _ _) | (with_reducible assumption) | (with_reducible refine below_ext0 ?_ _ _) | (with_reducible refine below_alloc0 ?_ _) | (with_reducible refine Below.ext ?_ ?_ _ _) | (with_reducible refine Below.alloc ?_ ?_ _) | (with_reducible refine Below.setCell ?_ ?_ _) | (with_reducible refine Below.drew ?_) | (with_reducible refine below_draws ?_ _) | go_size | (simp [size_ext]; done) | (simp [size_ext]; omega))))) (H4.out.later (by (repeat' (first | (with_reducible exact Below.refl _ _) | (with_reducible assumption) | (with_reducible refine below_ext0 ?_ _ _) | (with_reducible refine below_alloc0 ?_ _) | (with_reducible refine Below.ext ?_ ?_ _ _) | (with_reducible refine Below.alloc ?_ ?_ _) | (with_reducible refine Below.setCell ?_ ?_ _) | (with_reducible refine Below.drew ?_) | (with_reducible refine below_draws ?_ _) | go_size | (simp [size_ext]; done) | (simp [size_ext]; omega))))) (Nat.le_refl _) (Nat.le_refl _) (Nat.le_refl _) (Nat.le_refl _)).mono ?_); rintro e w1 ⟨rfl, hb⟩; obtain ⟨otk4, dtk4, rfl⟩ := ext_of_below hb; clear hb tk4)
          | (go_at_call 11; have _t := tk5; (with_reducible refine (RS.out _ _ _ (HR5.out.later (by (repeat' (first | (with_reducible exact Below.refl _ _) | (with_reducible assumption) | (with_reducible refine below_ext0 ?_ _ _) | (with_reducible refine below_alloc0 ?_ _) | (with_reducible refine Below.ext ?_ ?_ _ _) | (with_reducible refine Below.alloc ?_ ?_ _) | (with_reducible refine Below.setCell ?_ ?_ _) | (with_reducible refine Below.drew ?_) | (with_reducible refine below_draws ?_ _) | go_size | (simp [size_ext]; done) | (simp [size_ext]; omega)))))).mono ?_); rintro e w1 ⟨rfl, hb⟩; obtain ⟨otk5, dtk5, rfl⟩ := ext_of_below hb; clear hb tk5))
        go_ret
        exact ⟨rfl, (by (repeat' (first | (with_reducible exact Below.refl _ _) | (with_reducible assumption) | (with_reducible refine below_ext0 ?_ _ _) | (with_reducible refine below_alloc0 ?_ _) | (with_reducible refine Below.ext ?_ ?_ _ _) | (with_reducible refine Below.alloc ?_ ?_ _) | (with_reducible refine Below.setCell ?_ ?_ _) | (with_reducible refine Below.drew ?_) | (with_reducible refine below_draws ?_ _) | go_size | (simp [size_ext]; done) | (simp [size_ext]; omega))))⟩
  · have CW := hid fun w' (hb : Below w.heap.size w w') => rwrite_bad (h1.later hb) (h2.later hb) (h3.later hb) (h4.later hb) hT hC hTL (by omega) (by omega) rfl hf
    obtain ⟨k, hk⟩ : ∃ k, recErr (l, T, C, L, d, ()) = k := ⟨_, rfl⟩
    rw [hk] at CW
    clear h1 h2 h3 h4 hml hdl hll hz hf hk
    have tk0 : True := trivial; have tk1 : True := trivial; have tk2 : True := trivial; have tk3 : True := trivial; have tk4 : True := trivial; have tk5 : True := trivial; have tk6 : True := trivial; have tk7 : True := trivial; have tk8 : True := trivial; have tk9 : True := trivial; have tk10 : True := trivial; have tk11 : True := trivial; have tk12 : True := trivial
    go_enter Try.func3, Try.ntmps3
    go_wp2_with (first
      | (go_at_call 8; have _t := tk1; (with_reducible refine (fact_rr 5 (by simp)).mono ?_); rintro e w1 ⟨Atk1, ctk1, Btk1, ftk1, rfl, ⟨hr, hr2⟩, hb⟩; have hcaptk1 := hr.cap; obtain ⟨btk1, qtk1, rfl, _⟩ := hr.addr (by omega); obtain ⟨otk1, dtk1, rfl⟩ := ext_of_below hb; (try simp only [ext_drew, ext_drewN] at hr); have RF := hid hr; clear hr; (try simp only [ext_drew, ext_drewN] at hr2); have RFS := hid hr2; clear hr2; clear hb tk1)
      | (go_at_call 8; have _t := tk2; (with_reducible refine (CW.out _ (by (repeat' (first | (with_reducible exact Below.refl _ _) | (with_reducible assumption) | (with_reducible refine below_ext0 ?_ _ _) | (with_reducible refine below_alloc0 ?_ _) | (with_reducible refine Below.ext ?_ ?_ _ _) | (with_reducible refine Below.alloc ?_ ?_ _) | (with_reducible refine Below.setCell ?_ ?_ _) | (with_reducible refine Below.drew ?_) | (with_reducible refine below_draws ?_ _) | go_size | (simp [size_ext]; done) | (simp [size_ext]; omega))))).mono ?_); rintro e w1 ⟨rfl, hb⟩; obtain ⟨otk2, dtk2, rfl⟩ := ext_of_below hb; clear hb tk2))
    go_ret
    exact ⟨rfl, (by (repeat' (first | (with_reducible exact Below.refl _ _) | (with_reducible assumption) | (with_reducible refine below_ext0 ?_ _ _) | (with_reducible refine below_alloc0 ?_ _) | (with_reducible refine Below.ext ?_ ?_ _ _) | (with_reducible refine Below.alloc ?_ ?_ _) | (with_reducible refine Below.setCell ?_ ?_ _) | (with_reducible refine Below.drew ?_) | (with_reducible refine below_draws ?_ _) | go_size | (simp [size_ext]; done) | (simp [size_ext]; omega))))⟩

set_option maxRecDepth 100000 in
theorem contractUpto (H : Type) (enc : TypeId × Value → H) (W : World) (base : Nat) (args : Array Value) (ds gs : List (DataW H)) (before : List MemPlace)
    (hval : ∀ (j : Nat) t v, Try.f3.params[j]? = some t → args[j]? = some v → Value.okWide Try.prog W .any base t v)
    (hW : DataW.Whole enc Try.prog Try.f3.params.toList Rows.rrBackSpec.vars false W args.toList ds gs before) (hsz : (DataW.weightsEach Try.prog (Try.f3.params.toList ++ Rows.rrBackSpec.plain.varTypes Try.prog) (ds ++ gs)).all (· ≤ reachBytes) = true) (hk : Rows.uptoSmall H (ds ++ gs) = true) :
    Calls Try.prog 3 args W fun e W' => ∃ v, e = .returned v ∧ Rows.rrBackSpec.post enc Try.prog Try.f3 false true false false W args v W' := by
  have hW' := hW
  obtain ⟨p, q, hA0, hV, rfl, hfz, hnd⟩ := hW
  have hA : DataW.TrodAll enc Try.prog W 0 (fun _ => true) true Try.f3.params.toList args.toList ds p := hA0
  rw [Try.params3] at hA hval hsz
  obtain ⟨v0, vs0, d0, ds0, p0, q0, hargs, rfl, rfl, k0, r0⟩ := trodAll_cons hA
  obtain ⟨v1, vs1, d1, ds1, p1, q1, rfl, rfl, rfl, k1, r1⟩ := trodAll_cons r0
  obtain ⟨v2, vs2, d2, ds2, p2, q2, rfl, rfl, rfl, k2, r2⟩ := trodAll_cons r1
  obtain ⟨v3, vs3, d3, ds3, p3, q3, rfl, rfl, rfl, k3, r3⟩ := trodAll_cons r2
  obtain ⟨rfl, rfl, rfl⟩ := trodAll_nil r3
  obtain rfl : args = #[v0, v1, v2, v3] := by cases args; simp_all
  obtain ⟨rfl, rfl⟩ := trodVars_none hV
  have lt0 : ∀ x ∈ p0, x.block < W.heap.size := by obtain ⟨m, hm⟩ := k0; exact DataW.trod_lt m _ _ _ hm
  have lt1 : ∀ x ∈ p1, x.block < W.heap.size := by obtain ⟨m, hm⟩ := k1; exact DataW.trod_lt m _ _ _ hm
  have lt2 : ∀ x ∈ p2, x.block < W.heap.size := by obtain ⟨m, hm⟩ := k2; exact DataW.trod_lt m _ _ _ hm
  have lt3 : ∀ x ∈ p3, x.block < W.heap.size := by obtain ⟨m, hm⟩ := k3; exact DataW.trod_lt m _ _ _ hm
  have hsz' : ∀ k ∈ _, k ≤ reachBytes := fun k hk => of_decide_eq_true (List.all_eq_true.1 hsz k hk)
  have u0 : ∀ k ∈ d0.weights Try.prog 22, k ≤ reachBytes := fun k hk => hsz' k (by simp [DataW.weightsEach, hk])
  have u1 : ∀ k ∈ d1.weights Try.prog 23, k ≤ reachBytes := fun k hk => hsz' k (by simp [DataW.weightsEach, hk])
  have u2 : ∀ k ∈ d2.weights Try.prog 26, k ≤ reachBytes := fun k hk => hsz' k (by simp [DataW.weightsEach, hk])
  have u3 : ∀ k ∈ d3.weights Try.prog 3, k ≤ reachBytes := fun k hk => hsz' k (by simp [DataW.weightsEach, hk])
  obtain ⟨A0, n0, c0, l0, rfl, w0, z0⟩ := arg_slice Try.underlying22 (opens_slice Try.underlying22 (opens_u8 Try.underlying5) (by kernel_rfl) (by decide) (of_decide_eq_true (by kernel_rfl))) (hval 0 22 v0 rfl rfl) k0 u0
  obtain ⟨A1, n1, c1, l1, rfl, w1, z1⟩ := arg_slice Try.underlying23 (opens_slice Try.underlying23 (opens_int Try.underlying3) (by kernel_rfl) (by decide) (of_decide_eq_true (by kernel_rfl))) (hval 1 23 v1 rfl rfl) k1 u1
  obtain ⟨x2, cs2, rfl, w2, z2⟩ := arg_struct Try.underlying26 opens_record (hval 2 26 v2 rfl rfl) k2 u2
  obtain ⟨a3, rfl, w3, z3⟩ := arg_int Try.underlying3 (hval 3 3 v3 rfl rfl) k3 u3
  have hsum := bulk_of hk
  simp only [List.append_nil, List.map_cons, List.map_nil, List.sum_cons, List.sum_nil] at hsum
  clear hA0 hA
  refine (walkUpto W A0 n0 c0 l0 w0 A1 n1 c1 l1 w1 x2 cs2 w2 a3 w3 (by omega)).mono fun e W' ⟨he, bel⟩ => ?_
  subst he
  exact ⟨_, rfl, _, _, _, [], _, [], hW', trodAll_mk1 (shut_bool Try.underlying4 _), (trodAll_cons_mk (Below.trod laidOut (by kernel_rfl) (of_decide_eq_true (by kernel_rfl)) k0 bel lt0) (trodAll_cons_mk (Below.trod laidOut (by kernel_rfl) (of_decide_eq_true (by kernel_rfl)) k1 bel lt1) (trodAll_cons_mk (Below.trod laidOut (by kernel_rfl) (of_decide_eq_true (by kernel_rfl)) k2 bel lt2) (trodAll_cons_mk (Below.trod laidOut (by kernel_rfl) (of_decide_eq_true (by kernel_rfl)) k3 bel lt3) trodAll_mk0)))), rfl, bel.frame _, fun h => by cases h⟩

set_option maxRecDepth 100000 in
theorem liftedUpto (os : Os) (started : os.Started) (H : Type) (enc : TypeId × Value → H) (F : Stop.Interp) :
    ReturnsInHanded {} Try.checked os 3 .any ((Rows.OpenSpec.upto Rows.rrBackSpec).pre6 enc Try.prog Try.f3 Rows.rrBackUptoRow.domain false) (((Rows.OpenSpec.upto Rows.rrBackSpec).at F).post enc Try.prog Try.f3 false true false false) := by
  refine returnsInHanded_of_cond_sized (C := Try.checked) (s := Rows.OpenSpec.upto Rows.rrBackSpec) (k := Rows.uptoSmall) rfl own started (by kernel_rfl) Try.func3
    (OpenSpec.witness (enc := enc) (C := Try.checked) (s := Rows.OpenSpec.upto Rows.rrBackSpec) (k := Rows.uptoSmall) rfl false ⟨#[], #[.slice none 0 0, .slice none 0 0, .agg #[.slice none 0 0, .int .i64 0, .int .i64 0, .int .i64 0, .slice none 0 0], .int .i64 0], []⟩ 8 (by kernel_rfl) (by kernel_rfl) (by kernel_rfl)
      (x := ([.nil, .nil, .agg [.nil, .lit (.int .i64 0), .lit (.int .i64 0), .lit (.int .i64 0), .nil], .lit (.int .i64 0)], [], [])) (by kernel_rfl) rfl (by kernel_rfl)) ?_
  intro W base args ds gs before hval hW _ hk hsz _
  exact contractUpto H enc W base args ds gs before hval hW hsz hk

/-- the statement -/
theorem provedUpto : Rows.RrBackUptoSaid :=
  OpenClaim.holds_of_cond 3 Try.f3 rfl rfl rfl rfl rfl rfl rfl ⟨rfl, rfl, rfl, rfl, rfl⟩ rfl rfl rfl rfl rfl (by kernel_rfl) Try.func3 (by kernel_rfl)
    (of_decide_eq_true (by kernel_rfl)) (by unfold Func.isWrapper; first | (rw [if_pos (by decide +kernel)]; kernel_rfl) | (rw [if_neg (by decide +kernel)]; exact ⟨rfl, rfl⟩))
    (fun os started H enc _ F => liftedUpto os started H enc F)

end rrBack
end Go.Proofs.Ytkdfiedemhjjjaa
