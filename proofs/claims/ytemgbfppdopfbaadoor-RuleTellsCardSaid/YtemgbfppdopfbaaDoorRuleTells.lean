/- RuleTells is true of every input: of any nodes and any query the program tells what the document tells: what is wrong with a rule, whether it holds, and its plain form. Condition: the variable errors.errorType holds what the program's text lays in it (the card ties it). -/
import Derived.Test.YtemgbfppdopfbaaDoorRuleO
import Derived.Test.YtemgbfppdopfbaaDoorLaid
namespace Go.Proofs.YtemgbfppdopfbaaDoor
open Go.ChangeShapes Go.WideShapes Go.ChangeAt Go.RowKit
open Tree
set_option linter.unusedVariables false
set_option linter.unusedSimpArgs false
theorem check_yes {w : World} {A : Option Addr} {n c : Nat} {r : List MT} (h : Rd matchR w w.heap.size A n c r) {t : Tree} (ht : treeOf r = .inr t) : Calls Tryd.prog 23 #[.slice A n c] w fun e w' => e = .returned .nilIface ∧ Below w.heap.size w w' := by
  have CR := hid fun (w' : World) (hb : Below w.heap.size w w') => read_yes (h.later hb) ht
  clear h ht
  have tk0 : True := trivial; have tk1 : True := trivial; have tk2 : True := trivial; have tk3 : True := trivial; have tk4 : True := trivial; have tk5 : True := trivial; have tk6 : True := trivial; have tk7 : True := trivial; have tk8 : True := trivial; have tk9 : True := trivial; have tk10 : True := trivial; have tk11 : True := trivial; have tk12 : True := trivial
  go_enter Tryd.func23, Tryd.ntmps23
  go_wp2_with (go_at_call 41; have _t := tk1; (with_reducible refine (CR.out _ (by (repeat' (first | (with_reducible exact Below.refl _ _) | (with_reducible assumption) | (with_reducible refine below_ext0 ?_ _ _) | (with_reducible refine below_alloc0 ?_ _) | (with_reducible refine Below.ext ?_ ?_ _ _) | (with_reducible refine Below.alloc ?_ ?_ _) | (with_reducible refine Below.setCell ?_ ?_ _) | (with_reducible refine Below.drew ?_) | (with_reducible refine below_draws ?_ _) | go_size | (simp [size_ext]; done) | (simp [size_ext]; omega))))).mono ?_); rintro e w1 ⟨op9, N9, A9, n9, c9, A8, n8, c8, A7, n7, c7, rfl, hn, hb⟩; obtain ⟨o1, d1, rfl⟩ := ext_of_below hb; clear hb tk1 hn)
  go_ret
  exact ⟨rfl, (by (repeat' (first | (with_reducible exact Below.refl _ _) | (with_reducible assumption) | (with_reducible refine below_ext0 ?_ _ _) | (with_reducible refine below_alloc0 ?_ _) | (with_reducible refine Below.ext ?_ ?_ _ _) | (with_reducible refine Below.alloc ?_ ?_ _) | (with_reducible refine Below.setCell ?_ ?_ _) | (with_reducible refine Below.drew ?_) | (with_reducible refine below_draws ?_ _) | go_size | (simp [size_ext]; done) | (simp [size_ext]; omega))))⟩
theorem check_no {w : World} {A : Option Addr} {n c : Nat} {r : List MT} (h : Rd matchR w w.heap.size A n c r) {k : Int} (ht : treeOf r = .inl k) : Calls Tryd.prog 23 #[.slice A n c] w fun e w' => e = .returned (.iface 26 (.int .i64 k)) ∧ Below w.heap.size w w' := by
  have CR := hid fun (w' : World) (hb : Below w.heap.size w w') => read_no (h.later hb) ht
  clear h ht
  have tk0 : True := trivial; have tk1 : True := trivial; have tk2 : True := trivial; have tk3 : True := trivial; have tk4 : True := trivial; have tk5 : True := trivial; have tk6 : True := trivial; have tk7 : True := trivial; have tk8 : True := trivial; have tk9 : True := trivial; have tk10 : True := trivial; have tk11 : True := trivial; have tk12 : True := trivial
  go_enter Tryd.func23, Tryd.ntmps23
  go_wp2_with (go_at_call 41; have _t := tk1; (with_reducible refine (CR.out _ (by (repeat' (first | (with_reducible exact Below.refl _ _) | (with_reducible assumption) | (with_reducible refine below_ext0 ?_ _ _) | (with_reducible refine below_alloc0 ?_ _) | (with_reducible refine Below.ext ?_ ?_ _ _) | (with_reducible refine Below.alloc ?_ ?_ _) | (with_reducible refine Below.setCell ?_ ?_ _) | (with_reducible refine Below.drew ?_) | (with_reducible refine below_draws ?_ _) | go_size | (simp [size_ext]; done) | (simp [size_ext]; omega))))).mono ?_); rintro e w1 ⟨rfl, hb⟩; obtain ⟨otk1, dtk1, rfl⟩ := ext_of_below hb; clear hb tk1)
  go_ret
  exact ⟨rfl, (by (repeat' (first | (with_reducible exact Below.refl _ _) | (with_reducible assumption) | (with_reducible refine below_ext0 ?_ _ _) | (with_reducible refine below_alloc0 ?_ _) | (with_reducible refine Below.ext ?_ ?_ _ _) | (with_reducible refine Below.alloc ?_ ?_ _) | (with_reducible refine Below.setCell ?_ ?_ _) | (with_reducible refine Below.drew ?_) | (with_reducible refine below_draws ?_ _) | go_size | (simp [size_ext]; done) | (simp [size_ext]; omega))))⟩
theorem errT_zero (w : World) (hg : Laid w) : Calls Tryd.prog 11 #[.nilIface, .int .i64 0] w fun e w' => e = .returned (.bool true) ∧ Below w.heap.size w w' := by
  have := error_any 0 0 w hg
  simpa [errV] using this
theorem errT_one (n : Int) (hn : n ≠ 0) (w : World) (hg : Laid w) : Calls Tryd.prog 11 #[.iface 26 (.int .i64 n), .int .i64 n] w fun e w' => e = .returned (.bool true) ∧ Below w.heap.size w w' := by
  have := error_any n n w hg
  rw [errV_ne hn] at this
  simpa using this
namespace ruleTells

set_option maxRecDepth 100000 in
set_option maxHeartbeats 20000000 in
theorem walk (w : World) (hL : Laid w) (A1 : Option Addr) (n1 c1 : Nat) (r : List MT) (h1 : Rd matchR w w.heap.size A1 n1 c1 r) (q : QryT) (cs : Array Value) (hx : qryR.rel w w.heap.size q cs.toList) :
    Calls Tryd.prog 5 #[.slice A1 n1 c1, .agg cs] w fun e w' => e = .returned (.bool true) ∧ Below w.heap.size w w' := by
  obtain ⟨Aq, nq, cq, Af, nf, cf, qn, ty, cl, oc, rd, qf, rfl, rfl, hq, hf⟩ := query_of hx
  clear hx
  have hlt : 0 < w.heap.size := World.block_lt_of_cell? w _ hL
  have CA := hid asked_any
  have LL := hid fun (w' : World) (hb : Below w.heap.size w w') => (show Laid w' from (hb.cell (p := ⟨0, 0, none⟩) hlt).trans hL)
  have hm := h1.max
  have hcap := h1.cap
  unfold maxLen at hm
  have CF := fun (w' : World) (hb : Below w.heap.size w w') => rulefault_any w' _ _ _ _ (h1.later hb)
  cases ht : treeOf r with
  | inl k =>
    have hk := treeOf_ne ht
    have he : ruleErr r = k := by unfold ruleErr; rw [ht]
    have hh : holdsF r (qn, ty, cl, oc, rd, qf, ()) = (false, k) := by unfold holdsF; rw [ht]
    have hp : plainF r = (k, []) := by unfold plainF; rw [ht]
    rw [he] at CF
    have CK := hid fun (w' : World) (hb : Below w.heap.size w w') => check_no (h1.later hb) ht
    have CH := fun (w' : World) (hb : Below w.heap.size w w') => rholds_any w' (h1.later hb) (hq.later hb) (hf.later hb) hh
    have CP := fun (w' : World) (hb : Below w.heap.size w w') => rplain_any w' (h1.later hb) hp (m := 0) rfl
    rw [eV_ne hk] at CH CP
    have EE := hid fun (w' : World) (hb : Below w.heap.size w w') => errT_one k hk w' (LL.out w' hb)
    replace CF := hid CF
    replace CH := hid CH
    replace CP := hid CP
    have z1 : (k == 0) = false := beq_eq_false_iff_ne.2 hk
    clear h1 hq hf ht he hh hp hk hL
    have tk0 : True := trivial; have tk1 : True := trivial; have tk2 : True := trivial; have tk3 : True := trivial; have tk4 : True := trivial; have tk5 : True := trivial; have tk6 : True := trivial; have tk7 : True := trivial; have tk8 : True := trivial; have tk9 : True := trivial; have tk10 : True := trivial; have tk11 : True := trivial; have tk12 : True := trivial
    go_enter Tryd.func5, Tryd.ntmps5
    go_wp2_with (first
      | (go_at_call 21; have _t := tk1; (with_reducible refine (CA.out _).mono ?_); rintro e w1 ⟨rfl, hb⟩; obtain ⟨otk1, dtk1, rfl⟩ := ext_of_below hb; clear hb tk1)
      | (go_at_call 22; have _t := tk2; (with_reducible refine (CF.out _ (by (repeat' (first | (with_reducible exact Below.refl _ _) | (with_reducible assumption) | (with_reducible refine below_ext0 ?_ _ _) | (with_reducible refine below_alloc0 ?_ _) | (with_reducible refine Below.ext ?_ ?_ _ _) | (with_reducible refine Below.alloc ?_ ?_ _) | (with_reducible refine Below.setCell ?_ ?_ _) | (with_reducible refine Below.drew ?_) | (with_reducible refine below_draws ?_ _) | go_size | (simp [size_ext]; done) | (simp [size_ext]; omega))))).mono ?_); rintro e w1 ⟨rfl, hb⟩; obtain ⟨otk2, dtk2, rfl⟩ := ext_of_below hb; clear hb tk2)
      | (go_at_call 23; have _t := tk3; (with_reducible refine (CK.out _ (by (repeat' (first | (with_reducible exact Below.refl _ _) | (with_reducible assumption) | (with_reducible refine below_ext0 ?_ _ _) | (with_reducible refine below_alloc0 ?_ _) | (with_reducible refine Below.ext ?_ ?_ _ _) | (with_reducible refine Below.alloc ?_ ?_ _) | (with_reducible refine Below.setCell ?_ ?_ _) | (with_reducible refine Below.drew ?_) | (with_reducible refine below_draws ?_ _) | go_size | (simp [size_ext]; done) | (simp [size_ext]; omega))))).mono ?_); rintro e w1 ⟨rfl, hb⟩; obtain ⟨otk3, dtk3, rfl⟩ := ext_of_below hb; clear hb tk3)
      | (go_at_call 11; have _t := tk4; (with_reducible refine (EE.out _ (by (repeat' (first | (with_reducible exact Below.refl _ _) | (with_reducible assumption) | (with_reducible refine below_ext0 ?_ _ _) | (with_reducible refine below_alloc0 ?_ _) | (with_reducible refine Below.ext ?_ ?_ _ _) | (with_reducible refine Below.alloc ?_ ?_ _) | (with_reducible refine Below.setCell ?_ ?_ _) | (with_reducible refine Below.drew ?_) | (with_reducible refine below_draws ?_ _) | go_size | (simp [size_ext]; done) | (simp [size_ext]; omega))))).mono ?_); rintro e w1 ⟨rfl, hb⟩; obtain ⟨otk4, dtk4, rfl⟩ := ext_of_below hb; clear hb tk4)
      | (go_at_call 25; have _t := tk5; (with_reducible refine (CH.out _ (by (repeat' (first | (with_reducible exact Below.refl _ _) | (with_reducible assumption) | (with_reducible refine below_ext0 ?_ _ _) | (with_reducible refine below_alloc0 ?_ _) | (with_reducible refine Below.ext ?_ ?_ _ _) | (with_reducible refine Below.alloc ?_ ?_ _) | (with_reducible refine Below.setCell ?_ ?_ _) | (with_reducible refine Below.drew ?_) | (with_reducible refine below_draws ?_ _) | go_size | (simp [size_ext]; done) | (simp [size_ext]; omega))))).mono ?_); rintro e w1 ⟨rfl, hb⟩; obtain ⟨otk5, dtk5, rfl⟩ := ext_of_below hb; clear hb tk5)
      | (go_at_call 11; have _t := tk6; (with_reducible refine (EE.out _ (by (repeat' (first | (with_reducible exact Below.refl _ _) | (with_reducible assumption) | (with_reducible refine below_ext0 ?_ _ _) | (with_reducible refine below_alloc0 ?_ _) | (with_reducible refine Below.ext ?_ ?_ _ _) | (with_reducible refine Below.alloc ?_ ?_ _) | (with_reducible refine Below.setCell ?_ ?_ _) | (with_reducible refine Below.drew ?_) | (with_reducible refine below_draws ?_ _) | go_size | (simp [size_ext]; done) | (simp [size_ext]; omega))))).mono ?_); rintro e w1 ⟨rfl, hb⟩; obtain ⟨otk6, dtk6, rfl⟩ := ext_of_below hb; clear hb tk6)
      | (go_at_call 27; have _t := tk7; (with_reducible refine (CP.out _ (by (repeat' (first | (with_reducible exact Below.refl _ _) | (with_reducible assumption) | (with_reducible refine below_ext0 ?_ _ _) | (with_reducible refine below_alloc0 ?_ _) | (with_reducible refine Below.ext ?_ ?_ _ _) | (with_reducible refine Below.alloc ?_ ?_ _) | (with_reducible refine Below.setCell ?_ ?_ _) | (with_reducible refine Below.drew ?_) | (with_reducible refine below_draws ?_ _) | go_size | (simp [size_ext]; done) | (simp [size_ext]; omega))))).mono ?_); rintro e w1 ⟨A9, c9, rfl, hr, hb⟩; obtain ⟨o2, d2, rfl⟩ := ext_of_below hb; have R9 := hid hr; clear hb hr tk7)
      | (go_at_call 11; have _t := tk8; (with_reducible refine (EE.out _ (by (repeat' (first | (with_reducible exact Below.refl _ _) | (with_reducible assumption) | (with_reducible refine below_ext0 ?_ _ _) | (with_reducible refine below_alloc0 ?_ _) | (with_reducible refine Below.ext ?_ ?_ _ _) | (with_reducible refine Below.alloc ?_ ?_ _) | (with_reducible refine Below.setCell ?_ ?_ _) | (with_reducible refine Below.drew ?_) | (with_reducible refine below_draws ?_ _) | go_size | (simp [size_ext]; done) | (simp [size_ext]; omega))))).mono ?_); rintro e w1 ⟨rfl, hb⟩; obtain ⟨otk8, dtk8, rfl⟩ := ext_of_below hb; clear hb tk8)
      | (go_at_call 28; have _t := tk9; (with_reducible refine (matches_same _ (R9.out.later (by (repeat' (first | (with_reducible exact Below.refl _ _) | (with_reducible assumption) | (with_reducible refine below_ext0 ?_ _ _) | (with_reducible refine below_alloc0 ?_ _) | (with_reducible refine Below.ext ?_ ?_ _ _) | (with_reducible refine Below.alloc ?_ ?_ _) | (with_reducible refine Below.setCell ?_ ?_ _) | (with_reducible refine Below.drew ?_) | (with_reducible refine below_draws ?_ _) | go_size | (simp [size_ext]; done) | (simp [size_ext]; omega))))) (rd_nil _ _)).mono ?_); rintro e w1 ⟨rfl, hb⟩; obtain ⟨otk9, dtk9, rfl⟩ := ext_of_below hb; clear hb tk9))
    go_ret
    exact ⟨rfl, (by (repeat' (first | (with_reducible exact Below.refl _ _) | (with_reducible assumption) | (with_reducible refine below_ext0 ?_ _ _) | (with_reducible refine below_alloc0 ?_ _) | (with_reducible refine Below.ext ?_ ?_ _ _) | (with_reducible refine Below.alloc ?_ ?_ _) | (with_reducible refine Below.setCell ?_ ?_ _) | (with_reducible refine Below.drew ?_) | (with_reducible refine below_draws ?_ _) | go_size | (simp [size_ext]; done) | (simp [size_ext]; omega))))⟩
  | inr t =>
    obtain ⟨hok, hfl, hl200, her⟩ := treeOf_inr ht
    obtain ⟨k, hrk, hat⟩ := at_whole hfl
    have he : ruleErr r = 0 := by unfold ruleErr; rw [ht]
    have hh : holdsF r (qn, ty, cl, oc, rd, qf, ()) = (t.holds (qn, ty, cl, oc, rd, qf, ()), 0) := by unfold holdsF; rw [ht]
    have hn1 : n1 = k + 1 := by rw [← h1.len]; exact hrk
    have hsz : t.size ≤ 200 := by rw [← tflat_len, hfl]; exact hl200
    have hkerr : ∀ m ∈ t.flat, matchErr m = 0 := by rw [hfl]; exact matchesErr_zero.1 her
    obtain ⟨x, hx⟩ : ∃ x, t.holds (qn, ty, cl, oc, rd, qf, ()) = x := ⟨_, rfl⟩
    obtain ⟨pf, hpf⟩ : ∃ pf, (t.plain false).flat = pf := ⟨_, rfl⟩
    obtain ⟨L, hLen⟩ : ∃ L, pf.length = L := ⟨_, rfl⟩
    have hLb : L ≤ 400 := by
      have := plain_size t false
      rw [← tflat_len (t.plain false), hpf, hLen] at this
      omega
    have CHD := fun (w' : World) (hb : Below w.heap.size w w') => held_any t hok hkerr w' (qn := qn) (ty := ty) (cl := cl) (oc := oc) (rd := rd) (qf := qf) (K := (k : Int)) rfl (h1.later hb) (hq.later hb) (hf.later hb) hat (by omega)
    have CPD := fun (w' : World) (hb : Below w.heap.size w w') => plained_any t hok w' false (L := L) (K := (k : Int)) rfl (Nat.le_refl _) (h1.later hb) hat (by omega) hsz (by rw [hpf]; exact hLen)
    have CK := hid fun (w' : World) (hb : Below w.heap.size w w') => check_yes (h1.later hb) ht
    have CH := fun (w' : World) (hb : Below w.heap.size w w') => rholds_any w' (h1.later hb) (hq.later hb) (hf.later hb) hh
    rw [he] at CF
    rw [eV_zero, hx] at CH
    rw [hx] at CHD
    rw [hpf] at CPD
    have q1 : IntKind.i64.wrap ((n1 : Int) - 1) = (k : Int) := by rw [IntWalk.i64_in _ (by omega)]; omega
    have q2 : (n1 : Int) - 1 = (k : Int) := by omega
    have hkb : k ≤ 200 := by omega
    have EE := hid fun (w' : World) (hb : Below w.heap.size w w') => errT_zero w' (LL.out w' hb)
    replace CF := hid CF
    replace CH := hid CH
    replace CHD := hid CHD
    replace CPD := hid CPD
    have HLEN := hid hLen
    by_cases hlong : 200 < L
    · have hp : plainF r = (7, []) := by unfold plainF; rw [ht]; simp only; rw [hpf, hLen, if_pos hlong]
      have CP := fun (w' : World) (hb : Below w.heap.size w w') => rplain_any w' (h1.later hb) hp (m := 0) rfl
      rw [eV_ne (by decide : (7 : Int) ≠ 0)] at CP
      replace CP := hid CP
      have E7 := hid fun (w' : World) (hb : Below w.heap.size w w') => errT_one 7 (by decide) w' (LL.out w' hb)
      have t0 : (200 : Int) < (L : Int) := by omega
      clear h1 hq hf ht he hh hp hL hok hfl hl200 her hrk hat hn1 hkerr hx hpf hLen hsz
      cases x
      all_goals
        have tk0 : True := trivial; have tk1 : True := trivial; have tk2 : True := trivial; have tk3 : True := trivial; have tk4 : True := trivial; have tk5 : True := trivial; have tk6 : True := trivial; have tk7 : True := trivial; have tk8 : True := trivial; have tk9 : True := trivial; have tk10 : True := trivial; have tk11 : True := trivial; have tk12 : True := trivial
        go_enter Tryd.func5, Tryd.ntmps5
        go_wp2_with (first
          | (go_at_call 21; have _t := tk1; (with_reducible refine (CA.out _).mono ?_); rintro e w1 ⟨rfl, hb⟩; obtain ⟨otk1, dtk1, rfl⟩ := ext_of_below hb; clear hb tk1)
          | (go_at_call 22; have _t := tk2; (with_reducible refine (CF.out _ (by (repeat' (first | (with_reducible exact Below.refl _ _) | (with_reducible assumption) | (with_reducible refine below_ext0 ?_ _ _) | (with_reducible refine below_alloc0 ?_ _) | (with_reducible refine Below.ext ?_ ?_ _ _) | (with_reducible refine Below.alloc ?_ ?_ _) | (with_reducible refine Below.setCell ?_ ?_ _) | (with_reducible refine Below.drew ?_) | (with_reducible refine below_draws ?_ _) | go_size | (simp [size_ext]; done) | (simp [size_ext]; omega))))).mono ?_); rintro e w1 ⟨rfl, hb⟩; obtain ⟨otk2, dtk2, rfl⟩ := ext_of_below hb; clear hb tk2)
          | (go_at_call 23; have _t := tk3; (with_reducible refine (CK.out _ (by (repeat' (first | (with_reducible exact Below.refl _ _) | (with_reducible assumption) | (with_reducible refine below_ext0 ?_ _ _) | (with_reducible refine below_alloc0 ?_ _) | (with_reducible refine Below.ext ?_ ?_ _ _) | (with_reducible refine Below.alloc ?_ ?_ _) | (with_reducible refine Below.setCell ?_ ?_ _) | (with_reducible refine Below.drew ?_) | (with_reducible refine below_draws ?_ _) | go_size | (simp [size_ext]; done) | (simp [size_ext]; omega))))).mono ?_); rintro e w1 ⟨rfl, hb⟩; obtain ⟨otk3, dtk3, rfl⟩ := ext_of_below hb; clear hb tk3)
          | (go_at_call 11; have _t := tk4; (with_reducible refine (EE.out _ (by (repeat' (first | (with_reducible exact Below.refl _ _) | (with_reducible assumption) | (with_reducible refine below_ext0 ?_ _ _) | (with_reducible refine below_alloc0 ?_ _) | (with_reducible refine Below.ext ?_ ?_ _ _) | (with_reducible refine Below.alloc ?_ ?_ _) | (with_reducible refine Below.setCell ?_ ?_ _) | (with_reducible refine Below.drew ?_) | (with_reducible refine below_draws ?_ _) | go_size | (simp [size_ext]; done) | (simp [size_ext]; omega))))).mono ?_); rintro e w1 ⟨rfl, hb⟩; obtain ⟨otk4, dtk4, rfl⟩ := ext_of_below hb; clear hb tk4)
          | (go_at_call 24; have _t := tk10; (with_reducible refine (CHD.out _ (by (repeat' (first | (with_reducible exact Below.refl _ _) | (with_reducible assumption) | (with_reducible refine below_ext0 ?_ _ _) | (with_reducible refine below_alloc0 ?_ _) | (with_reducible refine Below.ext ?_ ?_ _ _) | (with_reducible refine Below.alloc ?_ ?_ _) | (with_reducible refine Below.setCell ?_ ?_ _) | (with_reducible refine Below.drew ?_) | (with_reducible refine below_draws ?_ _) | go_size | (simp [size_ext]; done) | (simp [size_ext]; omega))))).mono ?_); rintro e w1 ⟨rfl, hb⟩; obtain ⟨otk10, dtk10, rfl⟩ := ext_of_below hb; clear hb tk10)
          | (go_at_call 25; have _t := tk5; (with_reducible refine (CH.out _ (by (repeat' (first | (with_reducible exact Below.refl _ _) | (with_reducible assumption) | (with_reducible refine below_ext0 ?_ _ _) | (with_reducible refine below_alloc0 ?_ _) | (with_reducible refine Below.ext ?_ ?_ _ _) | (with_reducible refine Below.alloc ?_ ?_ _) | (with_reducible refine Below.setCell ?_ ?_ _) | (with_reducible refine Below.drew ?_) | (with_reducible refine below_draws ?_ _) | go_size | (simp [size_ext]; done) | (simp [size_ext]; omega))))).mono ?_); rintro e w1 ⟨rfl, hb⟩; obtain ⟨otk5, dtk5, rfl⟩ := ext_of_below hb; clear hb tk5)
          | (go_at_call 11; have _t := tk6; (with_reducible refine (EE.out _ (by (repeat' (first | (with_reducible exact Below.refl _ _) | (with_reducible assumption) | (with_reducible refine below_ext0 ?_ _ _) | (with_reducible refine below_alloc0 ?_ _) | (with_reducible refine Below.ext ?_ ?_ _ _) | (with_reducible refine Below.alloc ?_ ?_ _) | (with_reducible refine Below.setCell ?_ ?_ _) | (with_reducible refine Below.drew ?_) | (with_reducible refine below_draws ?_ _) | go_size | (simp [size_ext]; done) | (simp [size_ext]; omega))))).mono ?_); rintro e w1 ⟨rfl, hb⟩; obtain ⟨otk6, dtk6, rfl⟩ := ext_of_below hb; clear hb tk6)
          | (go_at_call 26; have _t := tk11; (with_reducible refine (CPD.out _ (by (repeat' (first | (with_reducible exact Below.refl _ _) | (with_reducible assumption) | (with_reducible refine below_ext0 ?_ _ _) | (with_reducible refine below_alloc0 ?_ _) | (with_reducible refine Below.ext ?_ ?_ _ _) | (with_reducible refine Below.alloc ?_ ?_ _) | (with_reducible refine Below.setCell ?_ ?_ _) | (with_reducible refine Below.drew ?_) | (with_reducible refine below_draws ?_ _) | go_size | (simp [size_ext]; done) | (simp [size_ext]; omega))))).mono ?_); rintro e w1 ⟨A8, c8, rfl, hr, hb⟩; obtain ⟨o2, d2, rfl⟩ := ext_of_below hb; clear hb hr tk11)
          | (go_at_call 27; have _t := tk7; (with_reducible refine (CP.out _ (by (repeat' (first | (with_reducible exact Below.refl _ _) | (with_reducible assumption) | (with_reducible refine below_ext0 ?_ _ _) | (with_reducible refine below_alloc0 ?_ _) | (with_reducible refine Below.ext ?_ ?_ _ _) | (with_reducible refine Below.alloc ?_ ?_ _) | (with_reducible refine Below.setCell ?_ ?_ _) | (with_reducible refine Below.drew ?_) | (with_reducible refine below_draws ?_ _) | go_size | (simp [size_ext]; done) | (simp [size_ext]; omega))))).mono ?_); rintro e w1 ⟨A9, c9, rfl, hr, hb⟩; obtain ⟨o2, d2, rfl⟩ := ext_of_below hb; have R9 := hid hr; clear hb hr tk7)
          | (go_at_call 11; have _t := tk8; (with_reducible refine (E7.out _ (by (repeat' (first | (with_reducible exact Below.refl _ _) | (with_reducible assumption) | (with_reducible refine below_ext0 ?_ _ _) | (with_reducible refine below_alloc0 ?_ _) | (with_reducible refine Below.ext ?_ ?_ _ _) | (with_reducible refine Below.alloc ?_ ?_ _) | (with_reducible refine Below.setCell ?_ ?_ _) | (with_reducible refine Below.drew ?_) | (with_reducible refine below_draws ?_ _) | go_size | (simp [size_ext]; done) | (simp [size_ext]; omega))))).mono ?_); rintro e w1 ⟨rfl, hb⟩; obtain ⟨otk8, dtk8, rfl⟩ := ext_of_below hb; clear hb tk8)
          | (go_at_call 28; have _t := tk9; (with_reducible refine (matches_same _ (R9.out.later (by (repeat' (first | (with_reducible exact Below.refl _ _) | (with_reducible assumption) | (with_reducible refine below_ext0 ?_ _ _) | (with_reducible refine below_alloc0 ?_ _) | (with_reducible refine Below.ext ?_ ?_ _ _) | (with_reducible refine Below.alloc ?_ ?_ _) | (with_reducible refine Below.setCell ?_ ?_ _) | (with_reducible refine Below.drew ?_) | (with_reducible refine below_draws ?_ _) | go_size | (simp [size_ext]; done) | (simp [size_ext]; omega))))) (rd_nil _ _)).mono ?_); rintro e w1 ⟨rfl, hb⟩; obtain ⟨otk9, dtk9, rfl⟩ := ext_of_below hb; clear hb tk9))
        go_ret
        exact ⟨rfl, (by (repeat' (first | (with_reducible exact Below.refl _ _) | (with_reducible assumption) | (with_reducible refine below_ext0 ?_ _ _) | (with_reducible refine below_alloc0 ?_ _) | (with_reducible refine Below.ext ?_ ?_ _ _) | (with_reducible refine Below.alloc ?_ ?_ _) | (with_reducible refine Below.setCell ?_ ?_ _) | (with_reducible refine Below.drew ?_) | (with_reducible refine below_draws ?_ _) | go_size | (simp [size_ext]; done) | (simp [size_ext]; omega))))⟩
    · have hp : plainF r = (0, pf) := by unfold plainF; rw [ht]; simp only; rw [hpf, hLen, if_neg hlong]
      have CP := fun (w' : World) (hb : Below w.heap.size w w') => rplain_any w' (h1.later hb) hp hLen
      rw [eV_zero] at CP
      replace CP := hid CP
      have t0 : ¬ (200 : Int) < (L : Int) := by omega
      clear h1 hq hf ht he hh hp hL hok hfl hl200 her hrk hat hn1 hkerr hx hpf hLen hsz
      cases x
      all_goals
        have tk0 : True := trivial; have tk1 : True := trivial; have tk2 : True := trivial; have tk3 : True := trivial; have tk4 : True := trivial; have tk5 : True := trivial; have tk6 : True := trivial; have tk7 : True := trivial; have tk8 : True := trivial; have tk9 : True := trivial; have tk10 : True := trivial; have tk11 : True := trivial; have tk12 : True := trivial
        go_enter Tryd.func5, Tryd.ntmps5
        go_wp2_with (first
          | (go_at_call 21; have _t := tk1; (with_reducible refine (CA.out _).mono ?_); rintro e w1 ⟨rfl, hb⟩; obtain ⟨otk1, dtk1, rfl⟩ := ext_of_below hb; clear hb tk1)
          | (go_at_call 22; have _t := tk2; (with_reducible refine (CF.out _ (by (repeat' (first | (with_reducible exact Below.refl _ _) | (with_reducible assumption) | (with_reducible refine below_ext0 ?_ _ _) | (with_reducible refine below_alloc0 ?_ _) | (with_reducible refine Below.ext ?_ ?_ _ _) | (with_reducible refine Below.alloc ?_ ?_ _) | (with_reducible refine Below.setCell ?_ ?_ _) | (with_reducible refine Below.drew ?_) | (with_reducible refine below_draws ?_ _) | go_size | (simp [size_ext]; done) | (simp [size_ext]; omega))))).mono ?_); rintro e w1 ⟨rfl, hb⟩; obtain ⟨otk2, dtk2, rfl⟩ := ext_of_below hb; clear hb tk2)
          | (go_at_call 23; have _t := tk3; (with_reducible refine (CK.out _ (by (repeat' (first | (with_reducible exact Below.refl _ _) | (with_reducible assumption) | (with_reducible refine below_ext0 ?_ _ _) | (with_reducible refine below_alloc0 ?_ _) | (with_reducible refine Below.ext ?_ ?_ _ _) | (with_reducible refine Below.alloc ?_ ?_ _) | (with_reducible refine Below.setCell ?_ ?_ _) | (with_reducible refine Below.drew ?_) | (with_reducible refine below_draws ?_ _) | go_size | (simp [size_ext]; done) | (simp [size_ext]; omega))))).mono ?_); rintro e w1 ⟨rfl, hb⟩; obtain ⟨otk3, dtk3, rfl⟩ := ext_of_below hb; clear hb tk3)
          | (go_at_call 11; have _t := tk4; (with_reducible refine (EE.out _ (by (repeat' (first | (with_reducible exact Below.refl _ _) | (with_reducible assumption) | (with_reducible refine below_ext0 ?_ _ _) | (with_reducible refine below_alloc0 ?_ _) | (with_reducible refine Below.ext ?_ ?_ _ _) | (with_reducible refine Below.alloc ?_ ?_ _) | (with_reducible refine Below.setCell ?_ ?_ _) | (with_reducible refine Below.drew ?_) | (with_reducible refine below_draws ?_ _) | go_size | (simp [size_ext]; done) | (simp [size_ext]; omega))))).mono ?_); rintro e w1 ⟨rfl, hb⟩; obtain ⟨otk4, dtk4, rfl⟩ := ext_of_below hb; clear hb tk4)
          | (go_at_call 24; have _t := tk10; (with_reducible refine (CHD.out _ (by (repeat' (first | (with_reducible exact Below.refl _ _) | (with_reducible assumption) | (with_reducible refine below_ext0 ?_ _ _) | (with_reducible refine below_alloc0 ?_ _) | (with_reducible refine Below.ext ?_ ?_ _ _) | (with_reducible refine Below.alloc ?_ ?_ _) | (with_reducible refine Below.setCell ?_ ?_ _) | (with_reducible refine Below.drew ?_) | (with_reducible refine below_draws ?_ _) | go_size | (simp [size_ext]; done) | (simp [size_ext]; omega))))).mono ?_); rintro e w1 ⟨rfl, hb⟩; obtain ⟨otk10, dtk10, rfl⟩ := ext_of_below hb; clear hb tk10)
          | (go_at_call 25; have _t := tk5; (with_reducible refine (CH.out _ (by (repeat' (first | (with_reducible exact Below.refl _ _) | (with_reducible assumption) | (with_reducible refine below_ext0 ?_ _ _) | (with_reducible refine below_alloc0 ?_ _) | (with_reducible refine Below.ext ?_ ?_ _ _) | (with_reducible refine Below.alloc ?_ ?_ _) | (with_reducible refine Below.setCell ?_ ?_ _) | (with_reducible refine Below.drew ?_) | (with_reducible refine below_draws ?_ _) | go_size | (simp [size_ext]; done) | (simp [size_ext]; omega))))).mono ?_); rintro e w1 ⟨rfl, hb⟩; obtain ⟨otk5, dtk5, rfl⟩ := ext_of_below hb; clear hb tk5)
          | (go_at_call 11; have _t := tk6; (with_reducible refine (EE.out _ (by (repeat' (first | (with_reducible exact Below.refl _ _) | (with_reducible assumption) | (with_reducible refine below_ext0 ?_ _ _) | (with_reducible refine below_alloc0 ?_ _) | (with_reducible refine Below.ext ?_ ?_ _ _) | (with_reducible refine Below.alloc ?_ ?_ _) | (with_reducible refine Below.setCell ?_ ?_ _) | (with_reducible refine Below.drew ?_) | (with_reducible refine below_draws ?_ _) | go_size | (simp [size_ext]; done) | (simp [size_ext]; omega))))).mono ?_); rintro e w1 ⟨rfl, hb⟩; obtain ⟨otk6, dtk6, rfl⟩ := ext_of_below hb; clear hb tk6)
          | (go_at_call 26; have _t := tk11; (with_reducible refine (CPD.out _ (by (repeat' (first | (with_reducible exact Below.refl _ _) | (with_reducible assumption) | (with_reducible refine below_ext0 ?_ _ _) | (with_reducible refine below_alloc0 ?_ _) | (with_reducible refine Below.ext ?_ ?_ _ _) | (with_reducible refine Below.alloc ?_ ?_ _) | (with_reducible refine Below.setCell ?_ ?_ _) | (with_reducible refine Below.drew ?_) | (with_reducible refine below_draws ?_ _) | go_size | (simp [size_ext]; done) | (simp [size_ext]; omega))))).mono ?_); rintro e w1 ⟨A8, c8, rfl, hr, hb⟩; have hr := hr.rd' HLEN.out (by simp only [show matchR.bs = 64 from rfl]; omega) (by decide); obtain ⟨o2, d2, rfl⟩ := ext_of_below hb; have R8 := hid hr; clear hb hr tk11)
          | (go_at_call 27; have _t := tk7; (with_reducible refine (CP.out _ (by (repeat' (first | (with_reducible exact Below.refl _ _) | (with_reducible assumption) | (with_reducible refine below_ext0 ?_ _ _) | (with_reducible refine below_alloc0 ?_ _) | (with_reducible refine Below.ext ?_ ?_ _ _) | (with_reducible refine Below.alloc ?_ ?_ _) | (with_reducible refine Below.setCell ?_ ?_ _) | (with_reducible refine Below.drew ?_) | (with_reducible refine below_draws ?_ _) | go_size | (simp [size_ext]; done) | (simp [size_ext]; omega))))).mono ?_); rintro e w1 ⟨A9, c9, rfl, hr, hb⟩; obtain ⟨o2, d2, rfl⟩ := ext_of_below hb; have R9 := hid hr; clear hb hr tk7)
          | (go_at_call 11; have _t := tk8; (with_reducible refine (EE.out _ (by (repeat' (first | (with_reducible exact Below.refl _ _) | (with_reducible assumption) | (with_reducible refine below_ext0 ?_ _ _) | (with_reducible refine below_alloc0 ?_ _) | (with_reducible refine Below.ext ?_ ?_ _ _) | (with_reducible refine Below.alloc ?_ ?_ _) | (with_reducible refine Below.setCell ?_ ?_ _) | (with_reducible refine Below.drew ?_) | (with_reducible refine below_draws ?_ _) | go_size | (simp [size_ext]; done) | (simp [size_ext]; omega))))).mono ?_); rintro e w1 ⟨rfl, hb⟩; obtain ⟨otk8, dtk8, rfl⟩ := ext_of_below hb; clear hb tk8)
          | (go_at_call 28; have _t := tk9; (with_reducible refine (matches_same _ (R9.out.later (by (repeat' (first | (with_reducible exact Below.refl _ _) | (with_reducible assumption) | (with_reducible refine below_ext0 ?_ _ _) | (with_reducible refine below_alloc0 ?_ _) | (with_reducible refine Below.ext ?_ ?_ _ _) | (with_reducible refine Below.alloc ?_ ?_ _) | (with_reducible refine Below.setCell ?_ ?_ _) | (with_reducible refine Below.drew ?_) | (with_reducible refine below_draws ?_ _) | go_size | (simp [size_ext]; done) | (simp [size_ext]; omega))))) (R8.out.later (by (repeat' (first | (with_reducible exact Below.refl _ _) | (with_reducible assumption) | (with_reducible refine below_ext0 ?_ _ _) | (with_reducible refine below_alloc0 ?_ _) | (with_reducible refine Below.ext ?_ ?_ _ _) | (with_reducible refine Below.alloc ?_ ?_ _) | (with_reducible refine Below.setCell ?_ ?_ _) | (with_reducible refine Below.drew ?_) | (with_reducible refine below_draws ?_ _) | go_size | (simp [size_ext]; done) | (simp [size_ext]; omega)))))).mono ?_); rintro e w1 ⟨rfl, hb⟩; obtain ⟨otk9, dtk9, rfl⟩ := ext_of_below hb; clear hb tk9))
        go_ret
        exact ⟨rfl, (by (repeat' (first | (with_reducible exact Below.refl _ _) | (with_reducible assumption) | (with_reducible refine below_ext0 ?_ _ _) | (with_reducible refine below_alloc0 ?_ _) | (with_reducible refine Below.ext ?_ ?_ _ _) | (with_reducible refine Below.alloc ?_ ?_ _) | (with_reducible refine Below.setCell ?_ ?_ _) | (with_reducible refine Below.drew ?_) | (with_reducible refine below_draws ?_ _) | go_size | (simp [size_ext]; done) | (simp [size_ext]; omega))))⟩

set_option maxRecDepth 100000 in
theorem contract (H : Type) (enc : TypeId × Value → H) (W : World) (base : Nat) (args : Array Value) (ds gs : List (DataW H)) (before : List MemPlace)
    (hval : ∀ (j : Nat) t v, Tryd.f5.params[j]? = some t → args[j]? = some v → Value.okWide Tryd.prog W .any base t v)
    (hW : DataW.Whole enc Tryd.prog Tryd.f5.params.toList Rows.ruleTellsSpec.vars false W args.toList ds gs before) (hsz : (DataW.weightsEach Tryd.prog (Tryd.f5.params.toList ++ Rows.ruleTellsSpec.plain.varTypes Tryd.prog) (ds ++ gs)).all (· ≤ reachBytes) = true) (hL : Laid W) :
    Calls Tryd.prog 5 args W fun e W' => ∃ v, e = .returned v ∧ Rows.ruleTellsSpec.post enc Tryd.prog Tryd.f5 false true false false W args v W' := by
  have hW' := hW
  obtain ⟨p, q, hA0, hV, rfl, hfz, hnd⟩ := hW
  have hA : DataW.TrodAll enc Tryd.prog W 0 (fun _ => true) true Tryd.f5.params.toList args.toList ds p := hA0
  rw [Tryd.params5] at hA hval hsz
  obtain ⟨v0, vs0, d0, ds0, p0, q0, hargs, rfl, rfl, k0, r0⟩ := trodAll_cons hA
  obtain ⟨v1, vs1, d1, ds1, p1, q1, rfl, rfl, rfl, k1, r1⟩ := trodAll_cons r0
  obtain ⟨rfl, rfl, rfl⟩ := trodAll_nil r1
  obtain rfl : args = #[v0, v1] := by cases args; simp_all
  obtain ⟨rfl, rfl⟩ := trodVars_none hV
  have lt0 : ∀ x ∈ p0, x.block < W.heap.size := by obtain ⟨m, hm⟩ := k0; exact DataW.trod_lt m _ _ _ hm
  have lt1 : ∀ x ∈ p1, x.block < W.heap.size := by obtain ⟨m, hm⟩ := k1; exact DataW.trod_lt m _ _ _ hm
  have hsz' : ∀ k ∈ _, k ≤ reachBytes := fun k hk => of_decide_eq_true (List.all_eq_true.1 hsz k hk)
  have u0 : ∀ k ∈ d0.weights Tryd.prog 50, k ≤ reachBytes := fun k hk => hsz' k (by simp [DataW.weightsEach, hk])
  have u1 : ∀ k ∈ d1.weights Tryd.prog 53, k ≤ reachBytes := fun k hk => hsz' k (by simp [DataW.weightsEach, hk])
  obtain ⟨A0, n0, c0, l0, rfl, w0, z0⟩ := arg_slice Tryd.underlying50 (opens_slice Tryd.underlying50 opens_match (by kernel_rfl) (by decide) (of_decide_eq_true (by kernel_rfl))) (hval 0 50 v0 rfl rfl) k0 u0
  obtain ⟨x1, cs1, rfl, w1, z1⟩ := arg_struct Tryd.underlying53 opens_query (hval 1 53 v1 rfl rfl) k1 u1
  clear hA0 hA
  refine (walk W hL A0 n0 c0 l0 w0 x1 cs1 w1).mono fun e W' ⟨he, bel⟩ => ?_
  subst he
  exact ⟨_, rfl, _, _, _, [], _, [], hW', trodAll_mk1 (shut_bool Tryd.underlying4 _), (trodAll_cons_mk (Below.trod laidOut (by kernel_rfl) (of_decide_eq_true (by kernel_rfl)) k0 bel lt0) (trodAll_cons_mk (Below.trod laidOut (by kernel_rfl) (of_decide_eq_true (by kernel_rfl)) k1 bel lt1) trodAll_mk0)), rfl, bel.frame _, fun h => by cases h⟩

set_option maxRecDepth 100000 in
theorem lifted (os : Os) (started : os.Started) (H : Type) (enc : TypeId × Value → H) :
    ReturnsInHanded {} Tryd.checked os 5 .any (fun w args => (Rows.ruleTellsSpec.pre enc Tryd.prog Tryd.f5 [] false w args ∧ laidMetH Tryd.prog laidL w) ∧ sizedMet enc Tryd.prog Tryd.f5 (OpenSpec.ofChange Rows.ruleTellsSpec) false w args) (Rows.ruleTellsSpec.post enc Tryd.prog Tryd.f5 false true false false) := by
  refine returnsInHanded_of_change_and (C := Tryd.checked) (X := fun w _ => laidMetH Tryd.prog laidL w) (fun _ _ _ hh h => h.of_heap hh) own started (by kernel_rfl) Tryd.func5
    (ChangeSpec.witness_at (enc := enc) (C := Tryd.checked) (os := os) (X := fun w _ => laidMetH Tryd.prog laidL w) false (laidWorld os) #[.slice none 0 0, .agg #[.slice none 0 0, .int .i64 0, .int .i64 0, .int .i64 0, .bool false, .slice none 0 0]] 8 rfl (by kernel_rfl) (by kernel_rfl) (by kernel_rfl) (by kernel_rfl) (by kernel_rfl) (laidWorld_met os _)) ?_
  intro W base args ds gs before hval hW _ hsz hL _
  exact contract H enc W base args ds gs before hval hW hsz (laid_of hL)

set_option maxRecDepth 100000 in
theorem said : Rows.RuleTellsSaid :=
  OpenClaim.holds_of_wide 5 Tryd.f5 rfl rfl rfl rfl rfl rfl rfl ⟨rfl, rfl, rfl, rfl, rfl⟩ rfl rfl rfl rfl rfl (by kernel_rfl) Tryd.func5 (by kernel_rfl)
    (of_decide_eq_true (by kernel_rfl)) (by unfold Func.isWrapper; first | (rw [if_pos (by decide +kernel)]; kernel_rfl) | (rw [if_neg (by decide +kernel)]; exact ⟨rfl, rfl⟩))
    (fun os started H enc _ => lifted os started H enc)
set_option maxRecDepth 100000 in
/-- the statement: the tied card -/
theorem proved : Rows.RuleTellsCardSaid :=
  Claim7.holds_tied_plain_at .later [] [.handle] true (true, "fedb56e697800a5ef9ed6258c803c93366b7746e1fd0340723167b168cfea7a6") true said (fun _ h => by cases h) (by kernel_rfl) (fun _ h => by cases h) ruleTells_row_tie rfl ⟨rfl, rfl⟩ (by kernel_rfl) rfl
    (fun f fn hf hfn => by
      obtain rfl : f = 5 := Option.some.inj ((show Tryd.prog.funcNamed "pointsman/pointsmanlaw2.RuleTells" = some 5 by kernel_rfl).symm.trans hf) |>.symm
      obtain rfl : fn = Tryd.f5 := (Option.some.inj (Tryd.func5.symm.trans hfn)).symm
      exact ⟨by kernel_rfl, fun j t ht => no_stand (by kernel_rfl) j t ht⟩)
    (by kernel_rfl)

end ruleTells
end Go.Proofs.YtemgbfppdopfbaaDoor
