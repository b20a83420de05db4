/- The program's rules: Holds, Plain. -/
import Derived.Test.YtemgbfppdopfbaaDoorRuleJ
import Derived.Test.YtemgbfppdopfbaaDoorRuleE
namespace Go.Proofs.YtemgbfppdopfbaaDoor
open Go.RowKit
open Tree
set_option linter.unusedVariables false
set_option linter.unusedSimpArgs false

theorem plain_any : ∀ (t : Tree), t.ok → PlainC t
  | .leaf m, hok => plain_leaf hok
  | .one m a, hok => plain_not hok (plain_any a hok.2)
  | .two m a b, hok => plain_pair hok (plain_any a hok.2.1) (plain_any b hok.2.2)
theorem flatC_leaf (m : MT) : FlatC (.leaf m) := flat_step (t := .leaf m) fun k hk => (by cases hk)
theorem flatC_one {m : MT} {a : Tree} (ha : FlatC a) : FlatC (.one m a) := flat_step (t := .one m a) fun k hk => (by
  have h : k = a := by simpa [Tree.kids] using hk
  rw [h]
  exact ha)
theorem flatC_two {m : MT} {a b : Tree} (ha : FlatC a) (hb : FlatC b) : FlatC (.two m a b) := flat_step (t := .two m a b) fun k hk => (by
  have h : k = a ∨ k = b := by simpa [Tree.kids] using hk
  rcases h with h | h
  · rw [h]; exact ha
  · rw [h]; exact hb)
theorem flatC_any : ∀ (t : Tree), FlatC t
  | .leaf m => flatC_leaf m
  | .one m a => flatC_one (flatC_any a)
  | .two m a b => flatC_two (flatC_any a) (flatC_any b)
/-- read, of a rule -/
def ReadT (t : Tree) (w : World) (e : Ending) (w' : World) : Prop :=
  ∃ op N A n c A' n' c' A2 n2 c2, e = .returned (.tuple #[.agg #[.int .i64 op, .int .i64 N, .slice A n c, .slice A' n' c', .slice A2 n2 c2], .nilIface]) ∧ NodeAt w' w'.heap.size t [.int .i64 op, .int .i64 N, .slice A n c, .slice A' n' c', .slice A2 n2 c2] ∧ Below w.heap.size w w'
theorem read_yes {w : World} {A : Option Addr} {n c : Nat} {r : List MT} (h : Rd matchR w w.heap.size A n c r) {t : Tree} (ht : treeOf r = .inr t) : Calls Tryd.prog 41 #[.slice A n c] w (ReadT t w) :=
  (read_any w A n c r h).mono fun e w' hr => by
    unfold ReadO at hr
    rw [ht] at hr
    obtain ⟨⟨vs, rfl, hn⟩, hb⟩ := hr
    obtain ⟨A, n, c, A', n', c', op, N, l, ad, A2, n2, c2, _, rfl, _⟩ := node_of hn
    exact ⟨op, N, A, n, c, A', n', c', A2, n2, c2, rfl, hn, hb⟩
theorem read_no {w : World} {A : Option Addr} {n c : Nat} {r : List MT} (h : Rd matchR w w.heap.size A n c r) {k : Int} (ht : treeOf r = .inl k) : Calls Tryd.prog 41 #[.slice A n c] w fun e w' => e = .returned (.tuple #[.agg zeroNode, .iface 26 (.int .i64 k)]) ∧ Below w.heap.size w w' :=
  (read_any w A n c r h).mono fun e w' hr => by
    unfold ReadO at hr
    rw [ht] at hr
    obtain ⟨rfl, hb⟩ := hr
    exact ⟨by rw [eV_ne (treeOf_ne ht)], hb⟩
theorem node_shutNo {w : World} {B : Nat} {t : Tree} {vs : List Value} {Z : Nat → Bool} (hZ : ∀ i, Z i = false) (h : NodeAt w B t vs) : NodeAt (shut w Z) B t vs :=
  NodeAt.mono t h (Nat.le_refl _) fun p u _ hu => by rw [shut_cell, if_neg (by simp [hZ])]; exact hu
theorem nilZ (i : Nat) : blkZ noZ (.slice none 0 0) i = false := by unfold blkZ noZ; simp [Value.ownBlock]

/-- what Holds answers -/
def holdsF (r : List MT) (q : QryT) : Bool × Int := match treeOf r with
  | .inl k => (false, k)
  | .inr t => (t.holds q, 0)
def plainF (r : List MT) : Int × List MT := match treeOf r with
  | .inl k => (k, [])
  | .inr t => if 200 < (t.plain false).flat.length then (7, []) else (0, (t.plain false).flat)
theorem plain_size : ∀ (t : Tree) (b : Bool), (t.plain b).size ≤ 2 * t.size
  | .leaf m, false => by simp [Tree.plain, Tree.size]
  | .leaf m, true => by simp [Tree.plain, Tree.size]
  | .one m a, b => by
    have := plain_size a (!b)
    simp only [Tree.plain, Tree.size]
    omega
  | .two m x y, b => by
    have h1 := plain_size x b
    have h2 := plain_size y b
    simp only [Tree.plain, Tree.size]
    omega
section
variable {A Aq Af : Option Addr} {n c nq cq nf cf : Nat} {r : List MT} {qn : List ByteArray} {ty cl oc : Int} {rd : Bool} {qf : List UInt8}
set_option maxRecDepth 100000 in
set_option maxHeartbeats 4000000 in
theorem rholds_any (w : World) (hR : Rd matchR w w.heap.size A n c r) (hq : Rd strR w w.heap.size Aq nq cq qn) (hf : Rd u8R w w.heap.size Af nf cf qf) {b : Bool} {k : Int} (hh : holdsF r (qn, ty, cl, oc, rd, qf, ()) = (b, k)) :
    Calls Tryd.prog 25 #[.slice A n c, .agg #[.slice Aq nq cq, .int .i64 ty, .int .i64 cl, .int .i64 oc, .bool rd, .slice Af nf cf]] w fun e w' => e = .returned (.tuple #[.bool b, errV k]) ∧ Below w.heap.size w w' := by
  unfold holdsF at hh
  cases ht : treeOf r with
  | inl k2 =>
    rw [ht] at hh
    cases hh
    rw [eV_ne (treeOf_ne ht)]
    have CR := hid fun (w' : World) (hb : Below w.heap.size w w') => read_no (hR.later hb) ht
    clear ht hR hq hf
    have tk0 : True := trivial; have tk1 : True := trivial; have tk2 : True := trivial; have tk3 : True := trivial; have tk4 : True := trivial; have tk5 : True := trivial; have tk6 : True := trivial; have tk7 : True := trivial; have tk8 : True := trivial; have tk9 : True := trivial; have tk10 : True := trivial; have tk11 : True := trivial; have tk12 : True := trivial
    go_enter Tryd.func25, Tryd.ntmps25
    go_wp2_with (go_at_call 41; have _t := tk1; (with_reducible refine (CR.out _ (by (repeat' (first | (with_reducible exact Below.refl _ _) | (with_reducible assumption) | (with_reducible refine below_ext0 ?_ _ _) | (with_reducible refine below_alloc0 ?_ _) | (with_reducible refine Below.ext ?_ ?_ _ _) | (with_reducible refine Below.alloc ?_ ?_ _) | (with_reducible refine Below.setCell ?_ ?_ _) | (with_reducible refine Below.drew ?_) | (with_reducible refine below_draws ?_ _) | go_size | (simp [size_ext]; done) | (simp [size_ext]; omega))))).mono ?_); rintro e w1 ⟨rfl, hb⟩; obtain ⟨otk1, dtk1, rfl⟩ := ext_of_below hb; clear hb tk1)
    go_ret2
    exact ⟨rfl, (by (repeat' (first | (with_reducible exact Below.refl _ _) | (with_reducible assumption) | (with_reducible refine below_ext0 ?_ _ _) | (with_reducible refine below_alloc0 ?_ _) | (with_reducible refine Below.ext ?_ ?_ _ _) | (with_reducible refine Below.alloc ?_ ?_ _) | (with_reducible refine Below.setCell ?_ ?_ _) | (with_reducible refine Below.drew ?_) | (with_reducible refine below_draws ?_ _) | go_size | (simp [size_ext]; done) | (simp [size_ext]; omega))))⟩
  | inr t =>
    rw [ht] at hh
    obtain ⟨hok, hfl, _, her⟩ := treeOf_inr ht
    have hb : t.holds (qn, ty, cl, oc, rd, qf, ()) = b := (Prod.mk.inj hh).1
    obtain rfl : (0 : Int) = k := (Prod.mk.inj hh).2
    rw [eV_zero]
    have hC : HoldsC qn ty cl oc rd qf t := holds_any t hok (by rw [hfl]; exact matchesErr_zero.1 her)
    unfold HoldsC at hC
    rw [hb] at hC
    have CH := hid fun (w0 : World) (op N : Int) (A A' A2 : Option Addr) (n c n' c' n2 c2 : Nat) (hn : NodeAt w0 w0.heap.size t [.int .i64 op, .int .i64 N, .slice A n c, .slice A' n' c', .slice A2 n2 c2]) (w' : World) (hb : Below w0.heap.size w0 w') (hbw : Below w.heap.size w w') => hC w' (NodeAt.mono t hn hb.size fun p u hp hu => (hb.cell hp).trans hu) (hq.later hbw) (hf.later hbw)
    have CR := hid fun (w' : World) (hb : Below w.heap.size w w') => read_yes (hR.later hb) ht
    clear ht hR hq hf hC hb hok hfl her hh
    have tk0 : True := trivial; have tk1 : True := trivial; have tk2 : True := trivial; have tk3 : True := trivial; have tk4 : True := trivial; have tk5 : True := trivial; have tk6 : True := trivial; have tk7 : True := trivial; have tk8 : True := trivial; have tk9 : True := trivial; have tk10 : True := trivial; have tk11 : True := trivial; have tk12 : True := trivial
    go_enter Tryd.func25, Tryd.ntmps25
    go_wp2_with (first
      | (go_at_call 41; have _t := tk1; (with_reducible refine (CR.out _ (by (repeat' (first | (with_reducible exact Below.refl _ _) | (with_reducible assumption) | (with_reducible refine below_ext0 ?_ _ _) | (with_reducible refine below_alloc0 ?_ _) | (with_reducible refine Below.ext ?_ ?_ _ _) | (with_reducible refine Below.alloc ?_ ?_ _) | (with_reducible refine Below.setCell ?_ ?_ _) | (with_reducible refine Below.drew ?_) | (with_reducible refine below_draws ?_ _) | go_size | (simp [size_ext]; done) | (simp [size_ext]; omega))))).mono ?_); rintro e w1 ⟨op9, N9, A9, n9, c9, A8, n8, c8, A7, n7, c7, rfl, hn, hb⟩; obtain ⟨o1, d1, rfl⟩ := ext_of_below hb; have HN9 := hid hn; clear hb tk1 hn)
      | (go_at_call 44; have _t := tk2; (with_reducible refine (CH.out _ _ _ _ _ _ _ _ _ _ _ _ HN9.out _ (by (repeat' (first | (with_reducible exact Below.refl _ _) | (with_reducible assumption) | (with_reducible refine below_ext0 ?_ _ _) | (with_reducible refine below_alloc0 ?_ _) | (with_reducible refine Below.ext ?_ ?_ _ _) | (with_reducible refine Below.alloc ?_ ?_ _) | (with_reducible refine Below.setCell ?_ ?_ _) | (with_reducible refine Below.drew ?_) | (with_reducible refine below_draws ?_ _) | go_size | (simp [size_ext]; done) | (simp [size_ext]; omega)))) (by (repeat' (first | (with_reducible exact Below.refl _ _) | (with_reducible assumption) | (with_reducible refine below_ext0 ?_ _ _) | (with_reducible refine below_alloc0 ?_ _) | (with_reducible refine Below.ext ?_ ?_ _ _) | (with_reducible refine Below.alloc ?_ ?_ _) | (with_reducible refine Below.setCell ?_ ?_ _) | (with_reducible refine Below.drew ?_) | (with_reducible refine below_draws ?_ _) | go_size | (simp [size_ext]; done) | (simp [size_ext]; omega))))).mono ?_); rintro e w1 ⟨rfl, hb⟩; obtain ⟨otk2, dtk2, rfl⟩ := ext_of_below hb; clear hb tk2))
    go_ret2
    exact ⟨rfl, (by (repeat' (first | (with_reducible exact Below.refl _ _) | (with_reducible assumption) | (with_reducible refine below_ext0 ?_ _ _) | (with_reducible refine below_alloc0 ?_ _) | (with_reducible refine Below.ext ?_ ?_ _ _) | (with_reducible refine Below.alloc ?_ ?_ _) | (with_reducible refine Below.setCell ?_ ?_ _) | (with_reducible refine Below.drew ?_) | (with_reducible refine below_draws ?_ _) | go_size | (simp [size_ext]; done) | (simp [size_ext]; omega))))⟩
set_option maxRecDepth 100000 in
set_option maxHeartbeats 4000000 in
theorem rplain_any (w : World) (hR : Rd matchR w w.heap.size A n c r) {k : Int} {p : List MT} (hp : plainF r = (k, p)) {m : Nat} (hm : p.length = m) :
    Calls Tryd.prog 27 #[.slice A n c] w fun e w' => ∃ A' c', e = .returned (.tuple #[.slice A' m c', errV k]) ∧ Rd matchR w' w'.heap.size A' m c' p ∧ Below w.heap.size w w' := by
  unfold plainF at hp
  cases ht : treeOf r with
  | inl k2 =>
    rw [ht] at hp
    cases hp
    cases hm
    rw [eV_ne (treeOf_ne ht)]
    have CR := hid fun (w' : World) (hb : Below w.heap.size w w') => read_no (hR.later hb) ht
    clear ht hR
    have tk0 : True := trivial; have tk1 : True := trivial; have tk2 : True := trivial; have tk3 : True := trivial; have tk4 : True := trivial; have tk5 : True := trivial; have tk6 : True := trivial; have tk7 : True := trivial; have tk8 : True := trivial; have tk9 : True := trivial; have tk10 : True := trivial; have tk11 : True := trivial; have tk12 : True := trivial
    go_enter Tryd.func27, Tryd.ntmps27
    go_wp2_with (go_at_call 41; have _t := tk1; (with_reducible refine (CR.out _ (by (repeat' (first | (with_reducible exact Below.refl _ _) | (with_reducible assumption) | (with_reducible refine below_ext0 ?_ _ _) | (with_reducible refine below_alloc0 ?_ _) | (with_reducible refine Below.ext ?_ ?_ _ _) | (with_reducible refine Below.alloc ?_ ?_ _) | (with_reducible refine Below.setCell ?_ ?_ _) | (with_reducible refine Below.drew ?_) | (with_reducible refine below_draws ?_ _) | go_size | (simp [size_ext]; done) | (simp [size_ext]; omega))))).mono ?_); rintro e w1 ⟨rfl, hb⟩; obtain ⟨otk1, dtk1, rfl⟩ := ext_of_below hb; clear hb tk1)
    go_ret2
    exact ⟨none, 0, rfl, rd_nil _ _, (by (repeat' (first | (with_reducible exact Below.refl _ _) | (with_reducible assumption) | (with_reducible refine below_ext0 ?_ _ _) | (with_reducible refine below_alloc0 ?_ _) | (with_reducible refine Below.ext ?_ ?_ _ _) | (with_reducible refine Below.alloc ?_ ?_ _) | (with_reducible refine Below.setCell ?_ ?_ _) | (with_reducible refine Below.drew ?_) | (with_reducible refine below_draws ?_ _) | go_size | (simp [size_ext]; done) | (simp [size_ext]; omega))))⟩
  | inr t =>
    rw [ht] at hp
    obtain ⟨hok, hfl, hl2, her⟩ := treeOf_inr ht
    have hsz : (t.plain false).size ≤ 1000 := by
      have := plain_size t false
      rw [← tflat_len t, hfl] at this
      omega
    obtain ⟨L, hL⟩ : ∃ L, (t.plain false).flat.length = L := ⟨_, rfl⟩
    have hL2 : L ≤ 1000 := by rw [← hL, tflat_len]; exact hsz
    have CR := hid fun (w' : World) (hb : Below w.heap.size w w') => read_yes (hR.later hb) ht
    have CP := hid fun (w0 : World) (op N : Int) (A A' A2 : Option Addr) (n c n' c' n2 c2 : Nat) (hn : NodeAt w0 w0.heap.size t [.int .i64 op, .int .i64 N, .slice A n c, .slice A' n' c', .slice A2 n2 c2]) (w' : World) (hb : Below w0.heap.size w0 w') => plain_any t hok w' noZ false (fun _ _ => rfl) (node_shutNo (fun _ => rfl) (NodeAt.mono t hn hb.size fun p u hp hu => (hb.cell hp).trans hu))
    have CF := hid fun (w0 : World) (op N : Int) (A A' A2 : Option Addr) (n c n' c' n2 c2 : Nat) (hn : NodeAt (shut w0 noZ) w0.heap.size (t.plain false) [.int .i64 op, .int .i64 N, .slice A n c, .slice A' n' c', .slice A2 n2 c2]) (w' : World) (hb : Below w0.heap.size w0 w') => flatC_any (t.plain false) w' w'.heap.size (V := .slice none 0 0) (l := []) HRow.nil (Nat.le_refl _) (by simpa using hsz) (node_later hn hb hb.size fun i _ _ => nilZ i)
    have HL := hid hL
    have HP := hid hp
    have HM := hid hm
    clear ht hR hok hfl her hp hsz hL hm
    by_cases hlong : 200 < L
    · have t0 : (200 : Int) < (L : Int) := by omega
      have tk0 : True := trivial; have tk1 : True := trivial; have tk2 : True := trivial; have tk3 : True := trivial; have tk4 : True := trivial; have tk5 : True := trivial; have tk6 : True := trivial; have tk7 : True := trivial; have tk8 : True := trivial; have tk9 : True := trivial; have tk10 : True := trivial; have tk11 : True := trivial; have tk12 : True := trivial
      go_enter Tryd.func27, Tryd.ntmps27
      go_wp2_with (first
        | (go_at_call 41; have _t := tk1; (with_reducible refine (CR.out _ (by (repeat' (first | (with_reducible exact Below.refl _ _) | (with_reducible assumption) | (with_reducible refine below_ext0 ?_ _ _) | (with_reducible refine below_alloc0 ?_ _) | (with_reducible refine Below.ext ?_ ?_ _ _) | (with_reducible refine Below.alloc ?_ ?_ _) | (with_reducible refine Below.setCell ?_ ?_ _) | (with_reducible refine Below.drew ?_) | (with_reducible refine below_draws ?_ _) | go_size | (simp [size_ext]; done) | (simp [size_ext]; omega))))).mono ?_); rintro e w1 ⟨op9, N9, A9, n9, c9, A8, n8, c8, A7, n7, c7, rfl, hn, hb⟩; obtain ⟨o1, d1, rfl⟩ := ext_of_below hb; have HN9 := hid hn; clear hb tk1 hn)
        | (go_at_call 45; have _t := tk2; (with_reducible refine (CP.out _ _ _ _ _ _ _ _ _ _ _ _ HN9.out _ (by (repeat' (first | (with_reducible exact Below.refl _ _) | (with_reducible assumption) | (with_reducible refine below_ext0 ?_ _ _) | (with_reducible refine below_alloc0 ?_ _) | (with_reducible refine Below.ext ?_ ?_ _ _) | (with_reducible refine Below.alloc ?_ ?_ _) | (with_reducible refine Below.setCell ?_ ?_ _) | (with_reducible refine Below.drew ?_) | (with_reducible refine below_draws ?_ _) | go_size | (simp [size_ext]; done) | (simp [size_ext]; omega))))).mono ?_); rintro e w1 ⟨⟨op6, N6, A6, n6, c6, A5, n5, c5, A4, n4, c4, rfl, hn⟩, hb⟩; obtain ⟨o2, d2, rfl⟩ := ext_of_below hb; have HN6 := hid hn; clear hb tk2 hn)
        | (go_at_call 46; have _t := tk3; (with_reducible refine (CF.out _ _ _ _ _ _ _ _ _ _ _ _ HN6.out _ (by (repeat' (first | (with_reducible exact Below.refl _ _) | (with_reducible assumption) | (with_reducible refine below_ext0 ?_ _ _) | (with_reducible refine below_alloc0 ?_ _) | (with_reducible refine Below.ext ?_ ?_ _ _) | (with_reducible refine Below.alloc ?_ ?_ _) | (with_reducible refine Below.setCell ?_ ?_ _) | (with_reducible refine Below.drew ?_) | (with_reducible refine below_draws ?_ _) | go_size | (simp [size_ext]; done) | (simp [size_ext]; omega))))).mono ?_); rintro e w1 ⟨V, rfl, ho, _, hb⟩; obtain ⟨AV, cV, rfl, hr⟩ := ho.rd mono_match (by rw [List.nil_append, HL.out]; show L * 64 ≤ _; omega) (by decide); rw [List.nil_append, HL.out] at hr ⊢; obtain ⟨o3, d3, rfl⟩ := ext_of_below hb; have HR9 := hid hr; clear hb tk3 hr ho))
      go_ret2
      have hpp := HP.out
      rw [HL.out, if_pos hlong] at hpp
      have hmm := HM.out
      cases hpp
      cases hmm
      exact ⟨none, 0, rfl, rd_nil _ _, (by (repeat' (first | (with_reducible exact Below.refl _ _) | (with_reducible assumption) | (with_reducible refine below_ext0 ?_ _ _) | (with_reducible refine below_alloc0 ?_ _) | (with_reducible refine Below.ext ?_ ?_ _ _) | (with_reducible refine Below.alloc ?_ ?_ _) | (with_reducible refine Below.setCell ?_ ?_ _) | (with_reducible refine Below.drew ?_) | (with_reducible refine below_draws ?_ _) | go_size | (simp [size_ext]; done) | (simp [size_ext]; omega))))⟩
    · have t0 : ¬ (200 : Int) < (L : Int) := by omega
      have tk0 : True := trivial; have tk1 : True := trivial; have tk2 : True := trivial; have tk3 : True := trivial; have tk4 : True := trivial; have tk5 : True := trivial; have tk6 : True := trivial; have tk7 : True := trivial; have tk8 : True := trivial; have tk9 : True := trivial; have tk10 : True := trivial; have tk11 : True := trivial; have tk12 : True := trivial
      go_enter Tryd.func27, Tryd.ntmps27
      go_wp2_with (first
        | (go_at_call 41; have _t := tk1; (with_reducible refine (CR.out _ (by (repeat' (first | (with_reducible exact Below.refl _ _) | (with_reducible assumption) | (with_reducible refine below_ext0 ?_ _ _) | (with_reducible refine below_alloc0 ?_ _) | (with_reducible refine Below.ext ?_ ?_ _ _) | (with_reducible refine Below.alloc ?_ ?_ _) | (with_reducible refine Below.setCell ?_ ?_ _) | (with_reducible refine Below.drew ?_) | (with_reducible refine below_draws ?_ _) | go_size | (simp [size_ext]; done) | (simp [size_ext]; omega))))).mono ?_); rintro e w1 ⟨op9, N9, A9, n9, c9, A8, n8, c8, A7, n7, c7, rfl, hn, hb⟩; obtain ⟨o1, d1, rfl⟩ := ext_of_below hb; have HN9 := hid hn; clear hb tk1 hn)
        | (go_at_call 45; have _t := tk2; (with_reducible refine (CP.out _ _ _ _ _ _ _ _ _ _ _ _ HN9.out _ (by (repeat' (first | (with_reducible exact Below.refl _ _) | (with_reducible assumption) | (with_reducible refine below_ext0 ?_ _ _) | (with_reducible refine below_alloc0 ?_ _) | (with_reducible refine Below.ext ?_ ?_ _ _) | (with_reducible refine Below.alloc ?_ ?_ _) | (with_reducible refine Below.setCell ?_ ?_ _) | (with_reducible refine Below.drew ?_) | (with_reducible refine below_draws ?_ _) | go_size | (simp [size_ext]; done) | (simp [size_ext]; omega))))).mono ?_); rintro e w1 ⟨⟨op6, N6, A6, n6, c6, A5, n5, c5, A4, n4, c4, rfl, hn⟩, hb⟩; obtain ⟨o2, d2, rfl⟩ := ext_of_below hb; have HN6 := hid hn; clear hb tk2 hn)
        | (go_at_call 46; have _t := tk3; (with_reducible refine (CF.out _ _ _ _ _ _ _ _ _ _ _ _ HN6.out _ (by (repeat' (first | (with_reducible exact Below.refl _ _) | (with_reducible assumption) | (with_reducible refine below_ext0 ?_ _ _) | (with_reducible refine below_alloc0 ?_ _) | (with_reducible refine Below.ext ?_ ?_ _ _) | (with_reducible refine Below.alloc ?_ ?_ _) | (with_reducible refine Below.setCell ?_ ?_ _) | (with_reducible refine Below.drew ?_) | (with_reducible refine below_draws ?_ _) | go_size | (simp [size_ext]; done) | (simp [size_ext]; omega))))).mono ?_); rintro e w1 ⟨V, rfl, ho, _, hb⟩; obtain ⟨AV, cV, rfl, hr⟩ := ho.rd mono_match (by rw [List.nil_append, HL.out]; show L * 64 ≤ _; omega) (by decide); rw [List.nil_append, HL.out] at hr ⊢; obtain ⟨o3, d3, rfl⟩ := ext_of_below hb; have HR9 := hid hr; clear hb tk3 hr ho))
      go_ret2
      have hpp := HP.out
      rw [HL.out, if_neg hlong] at hpp
      cases hpp
      have hmm : L = m := HL.out.symm.trans HM.out
      cases hmm
      exact ⟨_, _, rfl, HR9.out, (by (repeat' (first | (with_reducible exact Below.refl _ _) | (with_reducible assumption) | (with_reducible refine below_ext0 ?_ _ _) | (with_reducible refine below_alloc0 ?_ _) | (with_reducible refine Below.ext ?_ ?_ _ _) | (with_reducible refine Below.alloc ?_ ?_ _) | (with_reducible refine Below.setCell ?_ ?_ _) | (with_reducible refine Below.drew ?_) | (with_reducible refine below_draws ?_ _) | go_size | (simp [size_ext]; done) | (simp [size_ext]; omega))))⟩
end
end Go.Proofs.YtemgbfppdopfbaaDoor
