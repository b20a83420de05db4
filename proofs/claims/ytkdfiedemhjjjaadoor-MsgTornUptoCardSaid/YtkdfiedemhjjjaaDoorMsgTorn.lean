/- MsgTorn is true of every input of at most 1048576 values and letters in all: no beginning alone of bytes that are a message is one, nor are they with more behind them. Conditions: the bound on what comes in; the variable errors.errorType holds what the program's text lays in it (the card ties it). -/
import Derived.Test.YtkdfiedemhjjjaaDoorMsgL
import Derived.Test.YtkdfiedemhjjjaaDoorOwnRow
import Derived.Test.YtkdfiedemhjjjaaDoorLaid
import Derived.Deep.DeepHandedRow
namespace Go.Proofs.YtkdfiedemhjjjaaDoor
open Go.ChangeShapes Go.WideShapes Go.ChangeAt Go.RowKit
set_option linter.unusedVariables false
namespace msgTorn
theorem low_app {w W w2 : World} {v v2 : Value} {e : TypeId} {size n : Nat} {xs : List Value} (hl : Below w.heap.size w W) (ho : W.ownsRow w.heap.size e size v n xs) (ha : AppTo W w2 v v2) : Below w.heap.size w w2 := hl.trans (ha.below ho hl.size)
theorem err_one (n : Int) (hn : n ≠ 0) (w : World) (hg : Laid w) : Calls Tryd.prog 11 #[.iface 27 (.int .i64 n), .int .i64 n] w fun e w' => e = .returned (.bool true) ∧ Below w.heap.size w w' := by
  have := error_any n n w hg
  rw [errV_ne hn] at this
  simpa using this

set_option maxRecDepth 100000 in
set_option maxHeartbeats 8000000 in
theorem way_bad (w : World) (A1 : Option Addr) (n1 c1 : Nat) (m : List UInt8) (h1 : Rd u8R w w.heap.size A1 n1 c1 m) (i : Int) (A3 : Option Addr) (n3 c3 : Nat) {e : Int} (he : (rdM m).1 = e) (he0 : e ≠ 0) :
    Calls Tryd.prog 6 #[.slice A1 n1 c1, .int .i64 i, .slice A3 n3 c3] w fun e w' => e = .returned (.bool true) ∧ Below w.heap.size w w' := by
  have CR := hid fun (w' : World) (hb : Below w.heap.size w w') => msgread_no (h1.later hb) he he0
  clear he he0 h1
  have tk0 : True := trivial; have tk1 : True := trivial; have tk2 : True := trivial; have tk3 : True := trivial; have tk4 : True := trivial; have tk5 : True := trivial; have tk6 : True := trivial; have tk7 : True := trivial; have tk8 : True := trivial; have tk9 : True := trivial; have tk10 : True := trivial; have tk11 : True := trivial; have tk12 : True := trivial
  go_enter Tryd.func6, Tryd.ntmps6
  go_wp2_with (first
    | (go_at_call 23; have _t := tk0; (with_reducible refine (msgwrite_fact _).mono ?_); rintro e w1 ⟨Atk0, ctk0, rfl, hr, hb⟩; obtain ⟨otk0, dtk0, rfl⟩ := ext_of_below hb; (try simp only [ext_drew, ext_drewN] at hr); have RF := hid hr; clear hr; clear hb tk0)
    | (go_at_call 20; have _t := tk1; (with_reducible refine (CR.out _ (by (repeat' (first | (with_reducible exact Below.refl _ _) | (with_reducible assumption) | (with_reducible refine below_ext0 ?_ _ _) | (with_reducible refine below_alloc0 ?_ _) | (with_reducible refine Below.ext ?_ ?_ _ _) | (with_reducible refine Below.alloc ?_ ?_ _) | (with_reducible refine Below.setCell ?_ ?_ _) | (with_reducible refine Below.drew ?_) | (with_reducible refine below_draws ?_ _) | go_size | (simp [size_ext]; done) | (simp [size_ext]; omega))))).mono ?_); rintro e w1 ⟨Aqtk1, cqtk1, Axtk1, cxtk1, Aytk1, cytk1, Aztk1, cztk1, rfl, ⟨hrq, hrx, hry, hrz⟩, hb⟩; obtain ⟨otk1, dtk1, rfl⟩ := ext_of_below hb; (try simp only [ext_drew, ext_drewN] at hrq); have RMq := hid hrq; clear hrq; (try simp only [ext_drew, ext_drewN] at hrx); have RMx := hid hrx; clear hrx; (try simp only [ext_drew, ext_drewN] at hry); have RMy := hid hry; clear hry; (try simp only [ext_drew, ext_drewN] at hrz); have RMz := hid hrz; clear hrz; clear hb tk1))
  go_ret
  exact ⟨rfl, (by (repeat' (first | (with_reducible exact Below.refl _ _) | (with_reducible assumption) | (with_reducible refine below_ext0 ?_ _ _) | (with_reducible refine below_alloc0 ?_ _) | (with_reducible refine Below.ext ?_ ?_ _ _) | (with_reducible refine Below.alloc ?_ ?_ _) | (with_reducible refine Below.setCell ?_ ?_ _) | (with_reducible refine Below.drew ?_) | (with_reducible refine below_draws ?_ _) | go_size | (simp [size_ext]; done) | (simp [size_ext]; omega))))⟩

set_option maxRecDepth 100000 in
set_option maxHeartbeats 8000000 in
theorem way_more (w : World) (hL : Laid w) (A1 : Option Addr) (n1 c1 : Nat) (m : List UInt8) (h1 : Rd u8R w w.heap.size A1 n1 c1 m) (i : Int) (A3 : Option Addr) (n3 c3 : Nat) (q : List UInt8) (h3 : Rd u8R w w.heap.size A3 n3 c3 q) (hr : (rdM m).1 = 0) (hi : ¬ (0 ≤ i ∧ i < n1)) (hn3 : 0 < n3) (hz : n1 + n3 ≤ 1048576) :
    Calls Tryd.prog 6 #[.slice A1 n1 c1, .int .i64 i, .slice A3 n3 c3] w fun e w' => e = .returned (.bool true) ∧ Below w.heap.size w w' := by
  have hlt : 0 < w.heap.size := World.block_lt_of_cell? w _ hL
  obtain ⟨qs, xs, ys, zs, hr2⟩ : ∃ qs xs ys zs, rdM m = (0, qs, xs, ys, zs) := ⟨_, _, _, _, by rw [← hr]⟩
  obtain ⟨h, hh⟩ : ∃ h, hdOf m = h := ⟨_, rfl⟩
  obtain ⟨nq, eq⟩ : ∃ n, qs.length = n := ⟨_, rfl⟩
  obtain ⟨nx, ex⟩ : ∃ n, xs.length = n := ⟨_, rfl⟩
  obtain ⟨ny, ey⟩ : ∃ n, ys.length = n := ⟨_, rfl⟩
  obtain ⟨nz, ez⟩ : ∃ n, zs.length = n := ⟨_, rfl⟩
  have CR := hid fun (w' : World) (hb : Below w.heap.size w w') => msgread_yes (h1.later hb) hr2 hh eq ex ey ez
  have hmm := h1.max
  have hmc := h1.cap
  unfold maxLen at hmm
  obtain ⟨X, hX⟩ : ∃ X, m ++ q = X := ⟨_, rfl⟩
  have hq0 : q ≠ [] := by rintro rfl; have := h3.len; simp at this; omega
  have hmore := rdM_more hr q hq0
  rw [hX] at hmore
  have CX := hid fun (w' : World) A c (hr : Rd u8R w' w'.heap.size A (n1 + n3) c X) => msgread_no (k := 8) hr (by rw [hmore]) (by decide)
  have E8 := hid fun w' (hb : Below w.heap.size w w') => err_one 8 (by decide) w' (hL.below hb hlt)
  have S1 := hid (SrcR.u8 h1)
  have S3 := hid (SrcR.u8 h3)
  have HX := hid (And.intro hX (And.intro h1.len h3.len))
  have ab1 : (([] : List UInt8).length + n1) * 1 ≤ 140737488355328 := by simp; omega
  have ab2 : ([] : List UInt8).length + n1 ≤ maxLen := by simp [maxLen]; omega
  have ab3 : (([] ++ m).length + n3) * 1 ≤ 140737488355328 := by simp [h1.len]; omega
  have ab4 : ([] ++ m).length + n3 ≤ maxLen := by simp [maxLen, h1.len]; omega
  clear hX hq0 hmore h3
  clear hr hr2 hh eq ex ey ez h1 hL hlt
  rcases (show i < 0 ∨ (0 ≤ i ∧ ¬ i < n1) by omega) with hi | ⟨hi0, hi1⟩
  case' inl => have d0 : ¬ (0 : Int) ≤ i := by omega
  case' inl => have d1 : decide ((0 : Int) ≤ i) = false := decide_eq_false d0
  case' inr => have d1 : decide ((0 : Int) ≤ i) = true := decide_eq_true hi0
  case' inr => have d2 : decide (i < (n1 : Int)) = false := decide_eq_false hi1
  all_goals
    have t0 : ((n3 : Int) == 0) = false := by simp; omega
    have tk0 : True := trivial; have tk1 : True := trivial; have tk2 : True := trivial; have tk3 : True := trivial; have tk4 : True := trivial; have tk5 : True := trivial; have tk6 : True := trivial; have tk7 : True := trivial; have tk8 : True := trivial; have tk9 : True := trivial; have tk10 : True := trivial; have tk11 : True := trivial; have tk12 : True := trivial
    go_enter Tryd.func6, Tryd.ntmps6
    go_wp2_with (first
      | (go_at_call 23; have _t := tk0; (with_reducible refine (msgwrite_fact _).mono ?_); rintro e w1 ⟨Atk0, ctk0, rfl, hr, hb⟩; obtain ⟨otk0, dtk0, rfl⟩ := ext_of_below hb; (try simp only [ext_drew, ext_drewN] at hr); have RF := hid hr; clear hr; clear hb tk0)
      | (go_at_call 20; have _t := tk1; (with_reducible refine (CR.out _ (by (repeat' (first | (with_reducible exact Below.refl _ _) | (with_reducible assumption) | (with_reducible refine below_ext0 ?_ _ _) | (with_reducible refine below_alloc0 ?_ _) | (with_reducible refine Below.ext ?_ ?_ _ _) | (with_reducible refine Below.alloc ?_ ?_ _) | (with_reducible refine Below.setCell ?_ ?_ _) | (with_reducible refine Below.drew ?_) | (with_reducible refine below_draws ?_ _) | go_size | (simp [size_ext]; done) | (simp [size_ext]; omega))))).mono ?_); rintro e w1 ⟨Aqtk1, cqtk1, Axtk1, cxtk1, Aytk1, cytk1, Aztk1, cztk1, rfl, ⟨hrq, hrx, hry, hrz⟩, hb⟩; obtain ⟨otk1, dtk1, rfl⟩ := ext_of_below hb; (try simp only [ext_drew, ext_drewN] at hrq); have RMq := hid hrq; clear hrq; (try simp only [ext_drew, ext_drewN] at hrx); have RMx := hid hrx; clear hrx; (try simp only [ext_drew, ext_drewN] at hry); have RMy := hid hry; clear hry; (try simp only [ext_drew, ext_drewN] at hrz); have RMz := hid hrz; clear hrz; clear hb tk1)
      | (at_builtin; have _t := tk2; refine wpList_own (R := u8R) (B := w.heap.size) (base := w.heap.size) el_u8 rfl _ _ rfl rfl (OwnR.ofBlk (by first | exact Blk.new _ _ _ | exact Blk.new' _ _ (by first | rfl | (simp [size_ext]; done) | (simp [size_ext]; omega))) (Nat.le_refl _) (by first | omega | (simp [size_ext]; done) | (simp [size_ext]; omega))) rfl (S1.out.below (by (repeat' (first | (with_reducible exact Below.refl _ _) | (with_reducible assumption) | (with_reducible refine below_ext0 ?_ _ _) | (with_reducible refine below_alloc0 ?_ _) | (with_reducible refine Below.ext ?_ ?_ _ _) | (with_reducible refine Below.alloc ?_ ?_ _) | (with_reducible refine Below.setCell ?_ ?_ _) | (with_reducible refine Below.drew ?_) | (with_reducible refine below_draws ?_ _) | go_size | (simp [size_ext]; done) | (simp [size_ext]; omega)))) (Nat.le_refl _)) ab1 ab2 ?_; intro vtk2 wtk2 ho hb; have HOtk2 := hid ho; have HBtk2 := hid (Below.trans (by (repeat' (first | (with_reducible exact Below.refl _ _) | (with_reducible assumption) | (with_reducible refine below_ext0 ?_ _ _) | (with_reducible refine below_alloc0 ?_ _) | (with_reducible refine Below.ext ?_ ?_ _ _) | (with_reducible refine Below.alloc ?_ ?_ _) | (with_reducible refine Below.setCell ?_ ?_ _) | (with_reducible refine Below.drew ?_) | (with_reducible refine below_draws ?_ _) | go_size | (simp [size_ext]; done) | (simp [size_ext]; omega)))) hb : Below w.heap.size w wtk2); clear ho hb tk2)
      | (at_builtin; have _t := tk3; refine wpList_own (R := u8R) (B := w.heap.size) (base := w.heap.size) el_u8 rfl _ _ rfl rfl HOtk2.out rfl (S3.out.below HBtk2.out (Nat.le_refl _)) ab3 ab4 ?_; intro v3 w3 ho hb; have HB3 := hid (HBtk2.out.trans hb); have hl : ([] ++ m ++ q).length = n1 + n3 := (by have := HX.out; simp; omega); obtain ⟨A3', c3', rfl⟩ := ho.slice' hl; have R3 := hid (show Rd u8R w3 w3.heap.size A3' (n1 + n3) c3' X from (by have h := ho.rd' hl (by simp only [show u8R.bs = 1 from rfl]; omega) (by decide); rw [← HX.out.1]; simpa using h)); clear ho hb hl tk3)
      | (go_at_call 20; have _t := tk4; (with_reducible refine (CX.out _ _ _ R3.out).mono ?_); rintro e w4 ⟨Aq4, cq4, Ax4, cx4, Ay4, cy4, Az4, cz4, rfl, _, hb⟩; have HB4 := hid (HB3.out.trans (hb.mono HB3.out.size)); clear hb tk4)
      | (go_at_call 11; have _t := tk5; (with_reducible refine (E8.out _ (HB4.out.alloc HB4.out.size _)).mono ?_); rintro e w5 ⟨rfl, hb⟩; have HB5 := hid ((HB4.out.alloc HB4.out.size _).trans (hb.mono (HB4.out.alloc HB4.out.size _).size)); clear hb tk5))
    go_ret
    exact ⟨by first | rfl | (simp; done), HB5.out⟩

set_option maxRecDepth 100000 in
set_option maxHeartbeats 8000000 in
theorem way_none (w : World) (hL : Laid w) (A1 : Option Addr) (n1 c1 : Nat) (m : List UInt8) (h1 : Rd u8R w w.heap.size A1 n1 c1 m) (i : Int) (A3 : Option Addr) (c3 : Nat) (q : List UInt8) (h3 : Rd u8R w w.heap.size A3 0 c3 q) (hr : (rdM m).1 = 0) (hi : ¬ (0 ≤ i ∧ i < n1)) :
    Calls Tryd.prog 6 #[.slice A1 n1 c1, .int .i64 i, .slice A3 0 c3] w fun e w' => e = .returned (.bool true) ∧ Below w.heap.size w w' := by
  have hlt : 0 < w.heap.size := World.block_lt_of_cell? w _ hL
  obtain ⟨qs, xs, ys, zs, hr2⟩ : ∃ qs xs ys zs, rdM m = (0, qs, xs, ys, zs) := ⟨_, _, _, _, by rw [← hr]⟩
  obtain ⟨h, hh⟩ : ∃ h, hdOf m = h := ⟨_, rfl⟩
  obtain ⟨nq, eq⟩ : ∃ n, qs.length = n := ⟨_, rfl⟩
  obtain ⟨nx, ex⟩ : ∃ n, xs.length = n := ⟨_, rfl⟩
  obtain ⟨ny, ey⟩ : ∃ n, ys.length = n := ⟨_, rfl⟩
  obtain ⟨nz, ez⟩ : ∃ n, zs.length = n := ⟨_, rfl⟩
  have CR := hid fun (w' : World) (hb : Below w.heap.size w w') => msgread_yes (h1.later hb) hr2 hh eq ex ey ez
  have hmm := h1.max
  have hmc := h1.cap
  unfold maxLen at hmm
  clear hr hr2 hh eq ex ey ez h1 hL hlt
  rcases (show i < 0 ∨ (0 ≤ i ∧ ¬ i < n1) by omega) with hi | ⟨hi0, hi1⟩
  case' inl => have d0 : ¬ (0 : Int) ≤ i := by omega
  case' inl => have d1 : decide ((0 : Int) ≤ i) = false := decide_eq_false d0
  case' inr => have d1 : decide ((0 : Int) ≤ i) = true := decide_eq_true hi0
  case' inr => have d2 : decide (i < (n1 : Int)) = false := decide_eq_false hi1
  all_goals
    have tk0 : True := trivial; have tk1 : True := trivial; have tk2 : True := trivial; have tk3 : True := trivial; have tk4 : True := trivial; have tk5 : True := trivial; have tk6 : True := trivial; have tk7 : True := trivial; have tk8 : True := trivial; have tk9 : True := trivial; have tk10 : True := trivial; have tk11 : True := trivial; have tk12 : True := trivial
    go_enter Tryd.func6, Tryd.ntmps6
    go_wp2_with (first
      | (go_at_call 23; have _t := tk0; (with_reducible refine (msgwrite_fact _).mono ?_); rintro e w1 ⟨Atk0, ctk0, rfl, hr, hb⟩; obtain ⟨otk0, dtk0, rfl⟩ := ext_of_below hb; (try simp only [ext_drew, ext_drewN] at hr); have RF := hid hr; clear hr; clear hb tk0)
      | (go_at_call 20; have _t := tk1; (with_reducible refine (CR.out _ (by (repeat' (first | (with_reducible exact Below.refl _ _) | (with_reducible assumption) | (with_reducible refine below_ext0 ?_ _ _) | (with_reducible refine below_alloc0 ?_ _) | (with_reducible refine Below.ext ?_ ?_ _ _) | (with_reducible refine Below.alloc ?_ ?_ _) | (with_reducible refine Below.setCell ?_ ?_ _) | (with_reducible refine Below.drew ?_) | (with_reducible refine below_draws ?_ _) | go_size | (simp [size_ext]; done) | (simp [size_ext]; omega))))).mono ?_); rintro e w1 ⟨Aqtk1, cqtk1, Axtk1, cxtk1, Aytk1, cytk1, Aztk1, cztk1, rfl, ⟨hrq, hrx, hry, hrz⟩, hb⟩; obtain ⟨otk1, dtk1, rfl⟩ := ext_of_below hb; (try simp only [ext_drew, ext_drewN] at hrq); have RMq := hid hrq; clear hrq; (try simp only [ext_drew, ext_drewN] at hrx); have RMx := hid hrx; clear hrx; (try simp only [ext_drew, ext_drewN] at hry); have RMy := hid hry; clear hry; (try simp only [ext_drew, ext_drewN] at hrz); have RMz := hid hrz; clear hrz; clear hb tk1))
    go_ret
    exact ⟨by first | rfl | (simp; done), (by (repeat' (first | (with_reducible exact Below.refl _ _) | (with_reducible assumption) | (with_reducible refine below_ext0 ?_ _ _) | (with_reducible refine below_alloc0 ?_ _) | (with_reducible refine Below.ext ?_ ?_ _ _) | (with_reducible refine Below.alloc ?_ ?_ _) | (with_reducible refine Below.setCell ?_ ?_ _) | (with_reducible refine Below.drew ?_) | (with_reducible refine below_draws ?_ _) | go_size | (simp [size_ext]; done) | (simp [size_ext]; omega))))⟩

set_option maxRecDepth 100000 in
set_option maxHeartbeats 8000000 in
theorem way_torn_more (w : World) (hL : Laid w) (A1 : Option Addr) (n1 c1 : Nat) (m : List UInt8) (h1 : Rd u8R w w.heap.size A1 n1 c1 m) (k : Nat) (A3 : Option Addr) (n3 c3 : Nat) (q : List UInt8) (h3 : Rd u8R w w.heap.size A3 n3 c3 q) (hr : (rdM m).1 = 0) (hi : k < n1) (hn3 : 0 < n3) (hz : n1 + n3 ≤ 1048576) :
    Calls Tryd.prog 6 #[.slice A1 n1 c1, .int .i64 (k : Int), .slice A3 n3 c3] w fun e w' => e = .returned (.bool true) ∧ Below w.heap.size w w' := by
  have hlt : 0 < w.heap.size := World.block_lt_of_cell? w _ hL
  obtain ⟨qs, xs, ys, zs, hr2⟩ : ∃ qs xs ys zs, rdM m = (0, qs, xs, ys, zs) := ⟨_, _, _, _, by rw [← hr]⟩
  obtain ⟨h, hh⟩ : ∃ h, hdOf m = h := ⟨_, rfl⟩
  obtain ⟨nq, eq⟩ : ∃ n, qs.length = n := ⟨_, rfl⟩
  obtain ⟨nx, ex⟩ : ∃ n, xs.length = n := ⟨_, rfl⟩
  obtain ⟨ny, ey⟩ : ∃ n, ys.length = n := ⟨_, rfl⟩
  obtain ⟨nz, ez⟩ : ∃ n, zs.length = n := ⟨_, rfl⟩
  have CR := hid fun (w' : World) (hb : Below w.heap.size w w') => msgread_yes (h1.later hb) hr2 hh eq ex ey ez
  have hmm := h1.max
  have hmc := h1.cap
  unfold maxLen at hmm
  obtain ⟨b, o, rfl, _⟩ := h1.addr (by omega)
  have htorn : rdM (m.take k) = (2, [], [], [], []) := rdM_torn (k := m.drop k) (by intro e; have := congrArg List.length e; simp [h1.len] at this; omega) (by rw [List.take_append_drop]; exact hr)
  have CT := hid fun (w' : World) (hb : Below w.heap.size w w') => msgread_no (k := 2) ((h1.later hb).take (k := k) (by omega)) (by rw [htorn]) (by decide)
  have E2 := hid fun w' (hb : Below w.heap.size w w') => err_one 2 (by decide) w' (hL.below hb hlt)
  have i0 : (0 : Int) ≤ (k : Int) := by omega
  have i1 : decide ((0 : Int) ≤ (k : Int)) = true := decide_eq_true i0
  have i2 : (k : Int) < (n1 : Int) := by omega
  have i3 : decide ((k : Int) < (n1 : Int)) = true := decide_eq_true i2
  have i4 : (k : Int) ≤ (n1 : Int) := by omega
  have i5 : k ≤ n1 := by omega
  have i6 : k ≤ c1 := by omega
  have i7 : (k : Int) ≤ (c1 : Int) := by omega
  clear htorn
  obtain ⟨X, hX⟩ : ∃ X, m ++ q = X := ⟨_, rfl⟩
  have hq0 : q ≠ [] := by rintro rfl; have := h3.len; simp at this; omega
  have hmore := rdM_more hr q hq0
  rw [hX] at hmore
  have CX := hid fun (w' : World) A c (hr : Rd u8R w' w'.heap.size A (n1 + n3) c X) => msgread_no (k := 8) hr (by rw [hmore]) (by decide)
  have E8 := hid fun w' (hb : Below w.heap.size w w') => err_one 8 (by decide) w' (hL.below hb hlt)
  have S1 := hid (SrcR.u8 h1)
  have S3 := hid (SrcR.u8 h3)
  have HX := hid (And.intro hX (And.intro h1.len h3.len))
  have ab1 : (([] : List UInt8).length + n1) * 1 ≤ 140737488355328 := by simp; omega
  have ab2 : ([] : List UInt8).length + n1 ≤ maxLen := by simp [maxLen]; omega
  have ab3 : (([] ++ m).length + n3) * 1 ≤ 140737488355328 := by simp [h1.len]; omega
  have ab4 : ([] ++ m).length + n3 ≤ maxLen := by simp [maxLen, h1.len]; omega
  clear hX hq0 hmore h3
  clear hr hr2 hh eq ex ey ez h1 hL hlt
  have t0 : ((n3 : Int) == 0) = false := by simp; omega
  have tk0 : True := trivial; have tk1 : True := trivial; have tk2 : True := trivial; have tk3 : True := trivial; have tk4 : True := trivial; have tk5 : True := trivial; have tk6 : True := trivial; have tk7 : True := trivial; have tk8 : True := trivial; have tk9 : True := trivial; have tk10 : True := trivial; have tk11 : True := trivial; have tk12 : True := trivial
  go_enter Tryd.func6, Tryd.ntmps6
  go_wp2_with (first
    | (go_at_call 23; have _t := tk0; (with_reducible refine (msgwrite_fact _).mono ?_); rintro e w1 ⟨Atk0, ctk0, rfl, hr, hb⟩; obtain ⟨otk0, dtk0, rfl⟩ := ext_of_below hb; (try simp only [ext_drew, ext_drewN] at hr); have RF := hid hr; clear hr; clear hb tk0)
    | (go_at_call 20; have _t := tk1; (with_reducible refine (CR.out _ (by (repeat' (first | (with_reducible exact Below.refl _ _) | (with_reducible assumption) | (with_reducible refine below_ext0 ?_ _ _) | (with_reducible refine below_alloc0 ?_ _) | (with_reducible refine Below.ext ?_ ?_ _ _) | (with_reducible refine Below.alloc ?_ ?_ _) | (with_reducible refine Below.setCell ?_ ?_ _) | (with_reducible refine Below.drew ?_) | (with_reducible refine below_draws ?_ _) | go_size | (simp [size_ext]; done) | (simp [size_ext]; omega))))).mono ?_); rintro e w1 ⟨Aqtk1, cqtk1, Axtk1, cxtk1, Aytk1, cytk1, Aztk1, cztk1, rfl, ⟨hrq, hrx, hry, hrz⟩, hb⟩; obtain ⟨otk1, dtk1, rfl⟩ := ext_of_below hb; (try simp only [ext_drew, ext_drewN] at hrq); have RMq := hid hrq; clear hrq; (try simp only [ext_drew, ext_drewN] at hrx); have RMx := hid hrx; clear hrx; (try simp only [ext_drew, ext_drewN] at hry); have RMy := hid hry; clear hry; (try simp only [ext_drew, ext_drewN] at hrz); have RMz := hid hrz; clear hrz; clear hb tk1)
    | (go_at_call 20; have _t := tk6; (with_reducible refine (CT.out _ (by (repeat' (first | (with_reducible exact Below.refl _ _) | (with_reducible assumption) | (with_reducible refine below_ext0 ?_ _ _) | (with_reducible refine below_alloc0 ?_ _) | (with_reducible refine Below.ext ?_ ?_ _ _) | (with_reducible refine Below.alloc ?_ ?_ _) | (with_reducible refine Below.setCell ?_ ?_ _) | (with_reducible refine Below.drew ?_) | (with_reducible refine below_draws ?_ _) | go_size | (simp [size_ext]; done) | (simp [size_ext]; omega))))).mono ?_); rintro e w1 ⟨Aqtk6, cqtk6, Axtk6, cxtk6, Aytk6, cytk6, Aztk6, cztk6, rfl, ⟨hrq, hrx, hry, hrz⟩, hb⟩; obtain ⟨otk6, dtk6, rfl⟩ := ext_of_below hb; (try simp only [ext_drew, ext_drewN] at hrq); have RTq := hid hrq; clear hrq; (try simp only [ext_drew, ext_drewN] at hrx); have RTx := hid hrx; clear hrx; (try simp only [ext_drew, ext_drewN] at hry); have RTy := hid hry; clear hry; (try simp only [ext_drew, ext_drewN] at hrz); have RTz := hid hrz; clear hrz; clear hb tk6)
    | (go_at_call 11; have _t := tk7; (with_reducible refine (E2.out _ (by (repeat' (first | (with_reducible exact Below.refl _ _) | (with_reducible assumption) | (with_reducible refine below_ext0 ?_ _ _) | (with_reducible refine below_alloc0 ?_ _) | (with_reducible refine Below.ext ?_ ?_ _ _) | (with_reducible refine Below.alloc ?_ ?_ _) | (with_reducible refine Below.setCell ?_ ?_ _) | (with_reducible refine Below.drew ?_) | (with_reducible refine below_draws ?_ _) | go_size | (simp [size_ext]; done) | (simp [size_ext]; omega))))).mono ?_); rintro e w1 ⟨rfl, hb⟩; obtain ⟨otk7, dtk7, rfl⟩ := ext_of_below hb; clear hb tk7)
    | (at_builtin; have _t := tk2; refine wpList_own (R := u8R) (B := w.heap.size) (base := w.heap.size) el_u8 rfl _ _ rfl rfl (OwnR.ofBlk (by first | exact Blk.new _ _ _ | exact Blk.new' _ _ (by first | rfl | (simp [size_ext]; done) | (simp [size_ext]; omega))) (Nat.le_refl _) (by first | omega | (simp [size_ext]; done) | (simp [size_ext]; omega))) rfl (S1.out.below (by (repeat' (first | (with_reducible exact Below.refl _ _) | (with_reducible assumption) | (with_reducible refine below_ext0 ?_ _ _) | (with_reducible refine below_alloc0 ?_ _) | (with_reducible refine Below.ext ?_ ?_ _ _) | (with_reducible refine Below.alloc ?_ ?_ _) | (with_reducible refine Below.setCell ?_ ?_ _) | (with_reducible refine Below.drew ?_) | (with_reducible refine below_draws ?_ _) | go_size | (simp [size_ext]; done) | (simp [size_ext]; omega)))) (Nat.le_refl _)) ab1 ab2 ?_; intro vtk2 wtk2 ho hb; have HOtk2 := hid ho; have HBtk2 := hid (Below.trans (by (repeat' (first | (with_reducible exact Below.refl _ _) | (with_reducible assumption) | (with_reducible refine below_ext0 ?_ _ _) | (with_reducible refine below_alloc0 ?_ _) | (with_reducible refine Below.ext ?_ ?_ _ _) | (with_reducible refine Below.alloc ?_ ?_ _) | (with_reducible refine Below.setCell ?_ ?_ _) | (with_reducible refine Below.drew ?_) | (with_reducible refine below_draws ?_ _) | go_size | (simp [size_ext]; done) | (simp [size_ext]; omega)))) hb : Below w.heap.size w wtk2); clear ho hb tk2)
    | (at_builtin; have _t := tk3; refine wpList_own (R := u8R) (B := w.heap.size) (base := w.heap.size) el_u8 rfl _ _ rfl rfl HOtk2.out rfl (S3.out.below HBtk2.out (Nat.le_refl _)) ab3 ab4 ?_; intro v3 w3 ho hb; have HB3 := hid (HBtk2.out.trans hb); have hl : ([] ++ m ++ q).length = n1 + n3 := (by have := HX.out; simp; omega); obtain ⟨A3', c3', rfl⟩ := ho.slice' hl; have R3 := hid (show Rd u8R w3 w3.heap.size A3' (n1 + n3) c3' X from (by have h := ho.rd' hl (by simp only [show u8R.bs = 1 from rfl]; omega) (by decide); rw [← HX.out.1]; simpa using h)); clear ho hb hl tk3)
    | (go_at_call 20; have _t := tk4; (with_reducible refine (CX.out _ _ _ R3.out).mono ?_); rintro e w4 ⟨Aq4, cq4, Ax4, cx4, Ay4, cy4, Az4, cz4, rfl, _, hb⟩; have HB4 := hid (HB3.out.trans (hb.mono HB3.out.size)); clear hb tk4)
    | (go_at_call 11; have _t := tk5; (with_reducible refine (E8.out _ (HB4.out.alloc HB4.out.size _)).mono ?_); rintro e w5 ⟨rfl, hb⟩; have HB5 := hid ((HB4.out.alloc HB4.out.size _).trans (hb.mono (HB4.out.alloc HB4.out.size _).size)); clear hb tk5))
  go_ret
  exact ⟨by first | rfl | (simp; done), HB5.out⟩

set_option maxRecDepth 100000 in
set_option maxHeartbeats 8000000 in
theorem way_torn_none (w : World) (hL : Laid w) (A1 : Option Addr) (n1 c1 : Nat) (m : List UInt8) (h1 : Rd u8R w w.heap.size A1 n1 c1 m) (k : Nat) (A3 : Option Addr) (c3 : Nat) (q : List UInt8) (h3 : Rd u8R w w.heap.size A3 0 c3 q) (hr : (rdM m).1 = 0) (hi : k < n1) :
    Calls Tryd.prog 6 #[.slice A1 n1 c1, .int .i64 (k : Int), .slice A3 0 c3] w fun e w' => e = .returned (.bool true) ∧ Below w.heap.size w w' := by
  have hlt : 0 < w.heap.size := World.block_lt_of_cell? w _ hL
  obtain ⟨qs, xs, ys, zs, hr2⟩ : ∃ qs xs ys zs, rdM m = (0, qs, xs, ys, zs) := ⟨_, _, _, _, by rw [← hr]⟩
  obtain ⟨h, hh⟩ : ∃ h, hdOf m = h := ⟨_, rfl⟩
  obtain ⟨nq, eq⟩ : ∃ n, qs.length = n := ⟨_, rfl⟩
  obtain ⟨nx, ex⟩ : ∃ n, xs.length = n := ⟨_, rfl⟩
  obtain ⟨ny, ey⟩ : ∃ n, ys.length = n := ⟨_, rfl⟩
  obtain ⟨nz, ez⟩ : ∃ n, zs.length = n := ⟨_, rfl⟩
  have CR := hid fun (w' : World) (hb : Below w.heap.size w w') => msgread_yes (h1.later hb) hr2 hh eq ex ey ez
  have hmm := h1.max
  have hmc := h1.cap
  unfold maxLen at hmm
  obtain ⟨b, o, rfl, _⟩ := h1.addr (by omega)
  have htorn : rdM (m.take k) = (2, [], [], [], []) := rdM_torn (k := m.drop k) (by intro e; have := congrArg List.length e; simp [h1.len] at this; omega) (by rw [List.take_append_drop]; exact hr)
  have CT := hid fun (w' : World) (hb : Below w.heap.size w w') => msgread_no (k := 2) ((h1.later hb).take (k := k) (by omega)) (by rw [htorn]) (by decide)
  have E2 := hid fun w' (hb : Below w.heap.size w w') => err_one 2 (by decide) w' (hL.below hb hlt)
  have i0 : (0 : Int) ≤ (k : Int) := by omega
  have i1 : decide ((0 : Int) ≤ (k : Int)) = true := decide_eq_true i0
  have i2 : (k : Int) < (n1 : Int) := by omega
  have i3 : decide ((k : Int) < (n1 : Int)) = true := decide_eq_true i2
  have i4 : (k : Int) ≤ (n1 : Int) := by omega
  have i5 : k ≤ n1 := by omega
  have i6 : k ≤ c1 := by omega
  have i7 : (k : Int) ≤ (c1 : Int) := by omega
  clear htorn
  clear hr hr2 hh eq ex ey ez h1 hL hlt
  have tk0 : True := trivial; have tk1 : True := trivial; have tk2 : True := trivial; have tk3 : True := trivial; have tk4 : True := trivial; have tk5 : True := trivial; have tk6 : True := trivial; have tk7 : True := trivial; have tk8 : True := trivial; have tk9 : True := trivial; have tk10 : True := trivial; have tk11 : True := trivial; have tk12 : True := trivial
  go_enter Tryd.func6, Tryd.ntmps6
  go_wp2_with (first
    | (go_at_call 23; have _t := tk0; (with_reducible refine (msgwrite_fact _).mono ?_); rintro e w1 ⟨Atk0, ctk0, rfl, hr, hb⟩; obtain ⟨otk0, dtk0, rfl⟩ := ext_of_below hb; (try simp only [ext_drew, ext_drewN] at hr); have RF := hid hr; clear hr; clear hb tk0)
    | (go_at_call 20; have _t := tk1; (with_reducible refine (CR.out _ (by (repeat' (first | (with_reducible exact Below.refl _ _) | (with_reducible assumption) | (with_reducible refine below_ext0 ?_ _ _) | (with_reducible refine below_alloc0 ?_ _) | (with_reducible refine Below.ext ?_ ?_ _ _) | (with_reducible refine Below.alloc ?_ ?_ _) | (with_reducible refine Below.setCell ?_ ?_ _) | (with_reducible refine Below.drew ?_) | (with_reducible refine below_draws ?_ _) | go_size | (simp [size_ext]; done) | (simp [size_ext]; omega))))).mono ?_); rintro e w1 ⟨Aqtk1, cqtk1, Axtk1, cxtk1, Aytk1, cytk1, Aztk1, cztk1, rfl, ⟨hrq, hrx, hry, hrz⟩, hb⟩; obtain ⟨otk1, dtk1, rfl⟩ := ext_of_below hb; (try simp only [ext_drew, ext_drewN] at hrq); have RMq := hid hrq; clear hrq; (try simp only [ext_drew, ext_drewN] at hrx); have RMx := hid hrx; clear hrx; (try simp only [ext_drew, ext_drewN] at hry); have RMy := hid hry; clear hry; (try simp only [ext_drew, ext_drewN] at hrz); have RMz := hid hrz; clear hrz; clear hb tk1)
    | (go_at_call 20; have _t := tk6; (with_reducible refine (CT.out _ (by (repeat' (first | (with_reducible exact Below.refl _ _) | (with_reducible assumption) | (with_reducible refine below_ext0 ?_ _ _) | (with_reducible refine below_alloc0 ?_ _) | (with_reducible refine Below.ext ?_ ?_ _ _) | (with_reducible refine Below.alloc ?_ ?_ _) | (with_reducible refine Below.setCell ?_ ?_ _) | (with_reducible refine Below.drew ?_) | (with_reducible refine below_draws ?_ _) | go_size | (simp [size_ext]; done) | (simp [size_ext]; omega))))).mono ?_); rintro e w1 ⟨Aqtk6, cqtk6, Axtk6, cxtk6, Aytk6, cytk6, Aztk6, cztk6, rfl, ⟨hrq, hrx, hry, hrz⟩, hb⟩; obtain ⟨otk6, dtk6, rfl⟩ := ext_of_below hb; (try simp only [ext_drew, ext_drewN] at hrq); have RTq := hid hrq; clear hrq; (try simp only [ext_drew, ext_drewN] at hrx); have RTx := hid hrx; clear hrx; (try simp only [ext_drew, ext_drewN] at hry); have RTy := hid hry; clear hry; (try simp only [ext_drew, ext_drewN] at hrz); have RTz := hid hrz; clear hrz; clear hb tk6)
    | (go_at_call 11; have _t := tk7; (with_reducible refine (E2.out _ (by (repeat' (first | (with_reducible exact Below.refl _ _) | (with_reducible assumption) | (with_reducible refine below_ext0 ?_ _ _) | (with_reducible refine below_alloc0 ?_ _) | (with_reducible refine Below.ext ?_ ?_ _ _) | (with_reducible refine Below.alloc ?_ ?_ _) | (with_reducible refine Below.setCell ?_ ?_ _) | (with_reducible refine Below.drew ?_) | (with_reducible refine below_draws ?_ _) | go_size | (simp [size_ext]; done) | (simp [size_ext]; omega))))).mono ?_); rintro e w1 ⟨rfl, hb⟩; obtain ⟨otk7, dtk7, rfl⟩ := ext_of_below hb; clear hb tk7))
  go_ret
  exact ⟨by first | rfl | (simp; done), (by (repeat' (first | (with_reducible exact Below.refl _ _) | (with_reducible assumption) | (with_reducible refine below_ext0 ?_ _ _) | (with_reducible refine below_alloc0 ?_ _) | (with_reducible refine Below.ext ?_ ?_ _ _) | (with_reducible refine Below.alloc ?_ ?_ _) | (with_reducible refine Below.setCell ?_ ?_ _) | (with_reducible refine Below.drew ?_) | (with_reducible refine below_draws ?_ _) | go_size | (simp [size_ext]; done) | (simp [size_ext]; omega))))⟩

theorem sz_u8' (l : List UInt8) : (sliceR u8R).sz l = l.length + 1 := by
  show (l.map fun _ => 1).sum + 1 = _
  induction l with
  | nil => rfl
  | cons a l ih => simp at ih ⊢; omega
theorem walkUpto (w : World) (hL : Laid w) (A1 : Option Addr) (n1 c1 : Nat) (m : List UInt8) (h1 : Rd u8R w w.heap.size A1 n1 c1 m) (i : Int) (hi : I64 i) (A3 : Option Addr) (n3 c3 : Nat) (q : List UInt8) (h3 : Rd u8R w w.heap.size A3 n3 c3 q) (hz : (sliceR u8R).sz m + (sliceR u8R).sz q ≤ 1048576) :
    Calls Tryd.prog 6 #[.slice A1 n1 c1, .int .i64 i, .slice A3 n3 c3] w fun e w' => e = .returned (.bool true) ∧ Below w.heap.size w w' := by
  rw [sz_u8', sz_u8', h1.len, h3.len] at hz
  by_cases hr : (rdM m).1 = 0
  · by_cases hn : 0 < n3
    · by_cases ht : 0 ≤ i ∧ i < n1
      · obtain ⟨k, rfl⟩ : ∃ k : Nat, i = k := ⟨i.toNat, by omega⟩
        exact way_torn_more w hL A1 n1 c1 m h1 k A3 n3 c3 q h3 hr (by omega) hn (by omega)
      · exact way_more w hL A1 n1 c1 m h1 i A3 n3 c3 q h3 hr ht hn (by omega)
    · obtain rfl : n3 = 0 := by omega
      by_cases ht : 0 ≤ i ∧ i < n1
      · obtain ⟨k, rfl⟩ : ∃ k : Nat, i = k := ⟨i.toNat, by omega⟩
        exact way_torn_none w hL A1 n1 c1 m h1 k A3 c3 q h3 hr (by omega)
      · exact way_none w hL A1 n1 c1 m h1 i A3 c3 q h3 hr ht
  · exact way_bad w A1 n1 c1 m h1 i A3 n3 c3 rfl hr

set_option maxRecDepth 100000 in
theorem contractUpto (H : Type) (enc : TypeId × Value → H) (W : World) (base : Nat) (args : Array Value) (ds gs : List (DataW H)) (before : List MemPlace)
    (hval : ∀ (j : Nat) t v, Tryd.f6.params[j]? = some t → args[j]? = some v → Value.okWide Tryd.prog W .any base t v)
    (hW : DataW.Whole enc Tryd.prog Tryd.f6.params.toList Rows.msgTornSpec.vars false W args.toList ds gs before) (hsz : (DataW.weightsEach Tryd.prog (Tryd.f6.params.toList ++ Rows.msgTornSpec.plain.varTypes Tryd.prog) (ds ++ gs)).all (· ≤ reachBytes) = true) (hk : Rows.uptoSmall H (ds ++ gs) = true) (hL : Laid W) :
    Calls Tryd.prog 6 args W fun e W' => ∃ v, e = .returned v ∧ Rows.msgTornSpec.post enc Tryd.prog Tryd.f6 false true false false W args v W' := by
  have hW' := hW
  obtain ⟨p, q, hA0, hV, rfl, hfz, hnd⟩ := hW
  have hA : DataW.TrodAll enc Tryd.prog W 0 (fun _ => true) true Tryd.f6.params.toList args.toList ds p := hA0
  rw [Tryd.params6] at hA hval hsz
  obtain ⟨v0, vs0, d0, ds0, p0, q0, hargs, rfl, rfl, k0, r0⟩ := trodAll_cons hA
  obtain ⟨v1, vs1, d1, ds1, p1, q1, rfl, rfl, rfl, k1, r1⟩ := trodAll_cons r0
  obtain ⟨v2, vs2, d2, ds2, p2, q2, rfl, rfl, rfl, k2, r2⟩ := trodAll_cons r1
  obtain ⟨rfl, rfl, rfl⟩ := trodAll_nil r2
  obtain rfl : args = #[v0, v1, v2] := by cases args; simp_all
  obtain ⟨rfl, rfl⟩ := trodVars_none hV
  have lt0 : ∀ x ∈ p0, x.block < W.heap.size := by obtain ⟨m, hm⟩ := k0; exact DataW.trod_lt m _ _ _ hm
  have lt1 : ∀ x ∈ p1, x.block < W.heap.size := by obtain ⟨m, hm⟩ := k1; exact DataW.trod_lt m _ _ _ hm
  have lt2 : ∀ x ∈ p2, x.block < W.heap.size := by obtain ⟨m, hm⟩ := k2; exact DataW.trod_lt m _ _ _ hm
  have hsz' : ∀ k ∈ _, k ≤ reachBytes := fun k hk => of_decide_eq_true (List.all_eq_true.1 hsz k hk)
  have u0 : ∀ k ∈ d0.weights Tryd.prog 22, k ≤ reachBytes := fun k hk => hsz' k (by simp [DataW.weightsEach, hk])
  have u1 : ∀ k ∈ d1.weights Tryd.prog 3, k ≤ reachBytes := fun k hk => hsz' k (by simp [DataW.weightsEach, hk])
  have u2 : ∀ k ∈ d2.weights Tryd.prog 22, k ≤ reachBytes := fun k hk => hsz' k (by simp [DataW.weightsEach, hk])
  obtain ⟨A0, n0, c0, l0, rfl, w0, z0⟩ := arg_slice Tryd.underlying22 (opens_slice Tryd.underlying22 (opens_u8 Tryd.underlying5) (by kernel_rfl) (by decide) (of_decide_eq_true (by kernel_rfl))) (hval 0 22 v0 rfl rfl) k0 u0
  obtain ⟨a1, rfl, w1, z1⟩ := arg_int Tryd.underlying3 (hval 1 3 v1 rfl rfl) k1 u1
  obtain ⟨A2, n2, c2, l2, rfl, w2, z2⟩ := arg_slice Tryd.underlying22 (opens_slice Tryd.underlying22 (opens_u8 Tryd.underlying5) (by kernel_rfl) (by decide) (of_decide_eq_true (by kernel_rfl))) (hval 2 22 v2 rfl rfl) k2 u2
  have hsum := bulk_of hk
  simp only [List.append_nil, List.map_cons, List.map_nil, List.sum_cons, List.sum_nil] at hsum
  clear hA0 hA
  refine (walkUpto W hL A0 n0 c0 l0 w0 a1 w1 A2 n2 c2 l2 w2 (by omega)).mono fun e W' ⟨he, bel⟩ => ?_
  subst he
  exact ⟨_, rfl, _, _, _, [], _, [], hW', trodAll_mk1 (shut_bool Tryd.underlying4 _), (trodAll_cons_mk (Below.trod laidOut (by kernel_rfl) (of_decide_eq_true (by kernel_rfl)) k0 bel lt0) (trodAll_cons_mk (Below.trod laidOut (by kernel_rfl) (of_decide_eq_true (by kernel_rfl)) k1 bel lt1) (trodAll_cons_mk (Below.trod laidOut (by kernel_rfl) (of_decide_eq_true (by kernel_rfl)) k2 bel lt2) trodAll_mk0))), rfl, bel.frame _, fun h => by cases h⟩

set_option maxRecDepth 100000 in
theorem reads (os : Os) {H : Type} (enc : TypeId × Value → H) : ∃ places, DataW.whole enc Tryd.prog ((laidWorld os).forCall (fun _ _ => 0) ⟨#[], #[.slice none 0 0, .int .i64 0, .slice none 0 0], []⟩).memory Tryd.f6.params.toList Rows.msgTornSpec.vars false #[.slice none 0 0, .int .i64 0, .slice none 0 0].toList 8 = some ([.nil, .lit (.int .i64 0), .nil], [], places) :=
  ⟨[], by kernel_rfl⟩
set_option maxRecDepth 100000 in
theorem liftedUpto (os : Os) (started : os.Started) (H : Type) (enc : TypeId × Value → H) (F : Stop.Interp) :
    ReturnsInHanded {} Tryd.checked os 6 .any ((Rows.OpenSpec.upto Rows.msgTornSpec).preRow enc Tryd.prog Tryd.f6 Rows.msgTornUptoRow.domain false Rows.msgTornUptoRow.laid) (((Rows.OpenSpec.upto Rows.msgTornSpec).at F).post enc Tryd.prog Tryd.f6 false true false false) := by
  obtain ⟨places, hx⟩ := reads os enc
  refine returnsInHanded_of_row (C := Tryd.checked) (s := Rows.OpenSpec.upto Rows.msgTornSpec) own started (by kernel_rfl) Tryd.func6
    (witness_row_at (enc := enc) (C := Tryd.checked) false (laidWorld os) #[.slice none 0 0, .int .i64 0, .slice none 0 0] rfl (by kernel_rfl) (by kernel_rfl) (by kernel_rfl)
      (OpenSpec.preRow_of_cond 8 hx (by kernel_rfl) (fun k hk => by cases hk; kernel_rfl) (by kernel_rfl) (laidWorld_met os _))) ?_
  intro W base args ds gs before hval hW _ hk hsz hL _ _
  exact contractUpto H enc W base args ds gs before hval hW hsz (hk _ rfl) (laid_of hL)

set_option maxRecDepth 100000 in
theorem saidUpto : Rows.MsgTornUptoSaid :=
  OpenClaim.holds_of_cond 6 Tryd.f6 rfl rfl rfl rfl rfl rfl rfl ⟨rfl, rfl, rfl, rfl, rfl⟩ rfl rfl rfl rfl rfl (by kernel_rfl) Tryd.func6 (by kernel_rfl)
    (of_decide_eq_true (by kernel_rfl)) (by unfold Func.isWrapper; first | (rw [if_pos (by decide +kernel)]; kernel_rfl) | (rw [if_neg (by decide +kernel)]; exact ⟨rfl, rfl⟩))
    (fun os started H enc _ F => by rw [OpenClaim.pre_eq_preRow]; exact liftedUpto os started H enc F)
set_option maxRecDepth 100000 in
/-- the statement: the tied card, its second form -/
theorem provedUpto : Rows.MsgTornUptoCardSaid :=
  Claim7.holds_tied_plain_at .later [] [.handle] true (true, "ebe46bf9edac85eb39932514a9cb34c1f077ee7804636280ef7653778366f297") true saidUpto (fun _ h => by cases h) (by kernel_rfl) (fun _ h => by cases h) msgTornUpto_row_tie rfl ⟨rfl, rfl⟩ (by kernel_rfl) rfl
    (fun f fn hf hfn => by
      obtain rfl : f = 6 := Option.some.inj ((show Tryd.prog.funcNamed "pointsman/pointsmanlaw1.MsgTorn" = some 6 by kernel_rfl).symm.trans hf) |>.symm
      obtain rfl : fn = Tryd.f6 := (Option.some.inj (Tryd.func6.symm.trans hfn)).symm
      exact ⟨by kernel_rfl, fun j t ht => no_stand (by kernel_rfl) j t ht⟩)
    (by kernel_rfl)

end msgTorn
end Go.Proofs.YtkdfiedemhjjjaaDoor
