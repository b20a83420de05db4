/- The program's rules: holds. -/
import Derived.Test.YtemgbfppdopfbaaDoorRuleF
import Derived.Test.YtemgbfppdopfbaaDoorQuietExt
namespace Go.Proofs.YtemgbfppdopfbaaDoor
open Go.RowKit
open Tree
set_option linter.unusedVariables false
set_option linter.unusedSimpArgs false

theorem node_of' {w : World} {B : Nat} {A A' A2 : Option Addr} {n c n' c' n2 c2 : Nat} {op N : Int} {t : Tree} (h : NodeAt w B t [.int .i64 op, .int .i64 N, .slice A n c, .slice A' n' c', .slice A2 n2 c2]) :
    ∃ l ad, t.top = (op, N, l, ad, ()) ∧ (I64 op ∧ I64 N) ∧ Rd strR w B A n c l ∧ Rd u8R w B A' n' c' ad ∧ Rd nodeR w B A2 n2 c2 t.kids := by
  obtain ⟨_, _, _, _, _, _, _, _, l, ad, _, _, _, e, e2, hi, h1, h2, h3⟩ := node_of h
  cases e2
  exact ⟨l, ad, e, hi, h1, h2, h3⟩
theorem Rd.kid {w : World} {B n c : Nat} {A : Option Addr} {ts : List Tree} (h : Rd nodeR w B A n c ts) (i : Nat) (hi : i < n) :
    ∃ b o A1 n1 c1 A2 n2 c2 A3 n3 c3 op N, A = some ⟨b, o, none⟩ ∧ b < B ∧ NodeAt w B (ts[i]'(by rw [h.len]; exact hi)) [.int .i64 op, .int .i64 N, .slice A1 n1 c1, .slice A2 n2 c2, .slice A3 n3 c3] ∧ w.cell? ⟨b, o + i * 5, none⟩ = some (.int .i64 op) ∧ w.cell? ⟨b, o + i * 5 + 1, none⟩ = some (.int .i64 N) ∧ w.cell? ⟨b, o + i * 5 + 2, none⟩ = some (.slice A1 n1 c1) ∧ w.cell? ⟨b, o + i * 5 + 3, none⟩ = some (.slice A2 n2 c2) ∧ w.cell? ⟨b, o + i * 5 + 4, none⟩ = some (.slice A3 n3 c3) := by
  obtain ⟨b, o, vs, e, hb, hr, hc⟩ := h.at_ i (by rw [h.len]; exact hi)
  have hr' : NodeAt w B (ts[i]'(by rw [h.len]; exact hi)) vs := hr
  obtain ⟨A1, n1, c1, A2, n2, c2, op, N, l, ad, A3, n3, c3, e1, rfl, hi64, h3, h4, h5⟩ := node_of hr'
  exact ⟨b, o, A1, n1, c1, A2, n2, c2, A3, n3, c3, op, N, e, hb, hr', hc 0 _ rfl, hc 1 _ rfl, hc 2 _ rfl, hc 3 _ rfl, hc 4 _ rfl⟩

section
variable {A A' A2 Aq Af : Option Addr} {n c n' c' n2 c2 nq cq nf cf : Nat} {ty cl oc : Int} {rd : Bool} {l qn : List ByteArray} {ad qf : List UInt8}
set_option maxHeartbeats 4000000 in
theorem holds_two (w : World) (N : Int) (h1 : Rd strR w w.heap.size A n c l) (hq : Rd strR w w.heap.size Aq nq cq qn) :
    Calls Tryd.prog 44 #[.agg #[.int .i64 2, .int .i64 N, .slice A n c, .slice A' n' c', .slice A2 n2 c2], .agg #[.slice Aq nq cq, .int .i64 ty, .int .i64 cl, .int .i64 oc, .bool rd, .slice Af nf cf]] w fun e w' => e = .returned (.bool (underL qn l)) ∧ Below w.heap.size w w' := by
  have CU := hid fun w' (hb : Below w.heap.size w w') => under_any w' Aq nq cq qn (hq.later hb) A n c l (h1.later hb)
  clear h1 hq
  have tk0 : True := trivial; have tk1 : True := trivial; have tk2 : True := trivial; have tk3 : True := trivial; have tk4 : True := trivial; have tk5 : True := trivial; have tk6 : True := trivial; have tk7 : True := trivial; have tk8 : True := trivial; have tk9 : True := trivial; have tk10 : True := trivial; have tk11 : True := trivial; have tk12 : True := trivial
  go_enter Tryd.func44, Tryd.ntmps44
  go_wp2_with (go_at_call 59; have _t := tk1; (with_reducible refine (CU.out _ (by (repeat' (first | (with_reducible exact Below.refl _ _) | (with_reducible assumption) | (with_reducible refine below_ext0 ?_ _ _) | (with_reducible refine below_alloc0 ?_ _) | (with_reducible refine Below.ext ?_ ?_ _ _) | (with_reducible refine Below.alloc ?_ ?_ _) | (with_reducible refine Below.setCell ?_ ?_ _) | (with_reducible refine Below.drew ?_) | (with_reducible refine below_draws ?_ _) | go_size | (simp [size_ext]; done) | (simp [size_ext]; omega))))).mono ?_); rintro e w1 ⟨rfl, hb⟩; obtain ⟨otk1, dtk1, rfl⟩ := ext_of_below hb; clear hb tk1)
  go_ret
  exact ⟨rfl, (by (repeat' (first | (with_reducible exact Below.refl _ _) | (with_reducible assumption) | (with_reducible refine below_ext0 ?_ _ _) | (with_reducible refine below_alloc0 ?_ _) | (with_reducible refine Below.ext ?_ ?_ _ _) | (with_reducible refine Below.alloc ?_ ?_ _) | (with_reducible refine Below.setCell ?_ ?_ _) | (with_reducible refine Below.drew ?_) | (with_reducible refine below_draws ?_ _) | go_size | (simp [size_ext]; done) | (simp [size_ext]; omega))))⟩
set_option maxHeartbeats 4000000 in
theorem holds_num (w : World) (op N : Int) (hop : op = 3 ∨ op = 4 ∨ op = 5) :
    Calls Tryd.prog 44 #[.agg #[.int .i64 op, .int .i64 N, .slice A n c, .slice A' n' c', .slice A2 n2 c2], .agg #[.slice Aq nq cq, .int .i64 ty, .int .i64 cl, .int .i64 oc, .bool rd, .slice Af nf cf]] w fun e w' => e = .returned (.bool (decide ((if op = 3 then ty else if op = 4 then cl else oc) = N))) ∧ Below w.heap.size w w' := by
  rcases hop with rfl | rfl | rfl
  · show Calls _ _ _ w fun e w' => e = .returned (.bool (decide (ty = N))) ∧ Below w.heap.size w w'
    by_cases h : ty = N
    · subst h
      rw [decide_eq_true rfl]
      go_enter Tryd.func44, Tryd.ntmps44
      go_wp2
      go_ret
      exact ⟨by simp, (by (repeat' (first | (with_reducible exact Below.refl _ _) | (with_reducible assumption) | (with_reducible refine below_ext0 ?_ _ _) | (with_reducible refine below_alloc0 ?_ _) | (with_reducible refine Below.ext ?_ ?_ _ _) | (with_reducible refine Below.alloc ?_ ?_ _) | (with_reducible refine Below.setCell ?_ ?_ _) | (with_reducible refine Below.drew ?_) | (with_reducible refine below_draws ?_ _) | go_size | (simp [size_ext]; done) | (simp [size_ext]; omega))))⟩
    · rw [decide_eq_false h]
      have t1 : (ty == N) = false := beq_eq_false_iff_ne.2 h
      clear h
      go_enter Tryd.func44, Tryd.ntmps44
      go_wp2
      go_ret
      exact ⟨by simp, (by (repeat' (first | (with_reducible exact Below.refl _ _) | (with_reducible assumption) | (with_reducible refine below_ext0 ?_ _ _) | (with_reducible refine below_alloc0 ?_ _) | (with_reducible refine Below.ext ?_ ?_ _ _) | (with_reducible refine Below.alloc ?_ ?_ _) | (with_reducible refine Below.setCell ?_ ?_ _) | (with_reducible refine Below.drew ?_) | (with_reducible refine below_draws ?_ _) | go_size | (simp [size_ext]; done) | (simp [size_ext]; omega))))⟩
  · show Calls _ _ _ w fun e w' => e = .returned (.bool (decide (cl = N))) ∧ Below w.heap.size w w'
    by_cases h : cl = N
    · subst h
      rw [decide_eq_true rfl]
      go_enter Tryd.func44, Tryd.ntmps44
      go_wp2
      go_ret
      exact ⟨by simp, (by (repeat' (first | (with_reducible exact Below.refl _ _) | (with_reducible assumption) | (with_reducible refine below_ext0 ?_ _ _) | (with_reducible refine below_alloc0 ?_ _) | (with_reducible refine Below.ext ?_ ?_ _ _) | (with_reducible refine Below.alloc ?_ ?_ _) | (with_reducible refine Below.setCell ?_ ?_ _) | (with_reducible refine Below.drew ?_) | (with_reducible refine below_draws ?_ _) | go_size | (simp [size_ext]; done) | (simp [size_ext]; omega))))⟩
    · rw [decide_eq_false h]
      have t1 : (cl == N) = false := beq_eq_false_iff_ne.2 h
      clear h
      go_enter Tryd.func44, Tryd.ntmps44
      go_wp2
      go_ret
      exact ⟨by simp, (by (repeat' (first | (with_reducible exact Below.refl _ _) | (with_reducible assumption) | (with_reducible refine below_ext0 ?_ _ _) | (with_reducible refine below_alloc0 ?_ _) | (with_reducible refine Below.ext ?_ ?_ _ _) | (with_reducible refine Below.alloc ?_ ?_ _) | (with_reducible refine Below.setCell ?_ ?_ _) | (with_reducible refine Below.drew ?_) | (with_reducible refine below_draws ?_ _) | go_size | (simp [size_ext]; done) | (simp [size_ext]; omega))))⟩
  · show Calls _ _ _ w fun e w' => e = .returned (.bool (decide (oc = N))) ∧ Below w.heap.size w w'
    by_cases h : oc = N
    · subst h
      rw [decide_eq_true rfl]
      go_enter Tryd.func44, Tryd.ntmps44
      go_wp2
      go_ret
      exact ⟨by simp, (by (repeat' (first | (with_reducible exact Below.refl _ _) | (with_reducible assumption) | (with_reducible refine below_ext0 ?_ _ _) | (with_reducible refine below_alloc0 ?_ _) | (with_reducible refine Below.ext ?_ ?_ _ _) | (with_reducible refine Below.alloc ?_ ?_ _) | (with_reducible refine Below.setCell ?_ ?_ _) | (with_reducible refine Below.drew ?_) | (with_reducible refine below_draws ?_ _) | go_size | (simp [size_ext]; done) | (simp [size_ext]; omega))))⟩
    · rw [decide_eq_false h]
      have t1 : (oc == N) = false := beq_eq_false_iff_ne.2 h
      clear h
      go_enter Tryd.func44, Tryd.ntmps44
      go_wp2
      go_ret
      exact ⟨by simp, (by (repeat' (first | (with_reducible exact Below.refl _ _) | (with_reducible assumption) | (with_reducible refine below_ext0 ?_ _ _) | (with_reducible refine below_alloc0 ?_ _) | (with_reducible refine Below.ext ?_ ?_ _ _) | (with_reducible refine Below.alloc ?_ ?_ _) | (with_reducible refine Below.setCell ?_ ?_ _) | (with_reducible refine Below.drew ?_) | (with_reducible refine below_draws ?_ _) | go_size | (simp [size_ext]; done) | (simp [size_ext]; omega))))⟩
set_option maxHeartbeats 4000000 in
theorem holds_six (w : World) (N : Int) :
    Calls Tryd.prog 44 #[.agg #[.int .i64 6, .int .i64 N, .slice A n c, .slice A' n' c', .slice A2 n2 c2], .agg #[.slice Aq nq cq, .int .i64 ty, .int .i64 cl, .int .i64 oc, .bool rd, .slice Af nf cf]] w fun e w' => e = .returned (.bool rd) ∧ Below w.heap.size w w' := by
  go_enter Tryd.func44, Tryd.ntmps44
  go_wp2
  go_ret
  exact ⟨rfl, (by (repeat' (first | (with_reducible exact Below.refl _ _) | (with_reducible assumption) | (with_reducible refine below_ext0 ?_ _ _) | (with_reducible refine below_alloc0 ?_ _) | (with_reducible refine Below.ext ?_ ?_ _ _) | (with_reducible refine Below.alloc ?_ ?_ _) | (with_reducible refine Below.setCell ?_ ?_ _) | (with_reducible refine Below.drew ?_) | (with_reducible refine below_draws ?_ _) | go_size | (simp [size_ext]; done) | (simp [size_ext]; omega))))⟩
set_option maxHeartbeats 4000000 in
theorem holds_seven (w : World) (N : Nat) (h1 : Rd u8R w w.heap.size A' n' c' ad) (hq : Rd u8R w w.heap.size Af nf cf qf) (hN : N ≤ 8 * n') :
    Calls Tryd.prog 44 #[.agg #[.int .i64 7, .int .i64 (N : Int), .slice A n c, .slice A' n' c', .slice A2 n2 c2], .agg #[.slice Aq nq cq, .int .i64 ty, .int .i64 cl, .int .i64 oc, .bool rd, .slice Af nf cf]] w fun e w' => e = .returned (.bool (begT qf ad (N : Int))) ∧ Below w.heap.size w w' := by
  have CU := hid fun w' (hb : Below w.heap.size w w') => begins_any (hq.later hb) (h1.later hb) N hN
  clear h1 hq hN
  have tk0 : True := trivial; have tk1 : True := trivial; have tk2 : True := trivial; have tk3 : True := trivial; have tk4 : True := trivial; have tk5 : True := trivial; have tk6 : True := trivial; have tk7 : True := trivial; have tk8 : True := trivial; have tk9 : True := trivial; have tk10 : True := trivial; have tk11 : True := trivial; have tk12 : True := trivial
  go_enter Tryd.func44, Tryd.ntmps44
  go_wp2_with (go_at_call 60; have _t := tk1; (with_reducible refine (CU.out _ (by (repeat' (first | (with_reducible exact Below.refl _ _) | (with_reducible assumption) | (with_reducible refine below_ext0 ?_ _ _) | (with_reducible refine below_alloc0 ?_ _) | (with_reducible refine Below.ext ?_ ?_ _ _) | (with_reducible refine Below.alloc ?_ ?_ _) | (with_reducible refine Below.setCell ?_ ?_ _) | (with_reducible refine Below.drew ?_) | (with_reducible refine below_draws ?_ _) | go_size | (simp [size_ext]; done) | (simp [size_ext]; omega))))).mono ?_); rintro e w1 ⟨rfl, hb⟩; obtain ⟨otk1, dtk1, rfl⟩ := ext_of_below hb; clear hb tk1)
  go_ret
  exact ⟨rfl, (by (repeat' (first | (with_reducible exact Below.refl _ _) | (with_reducible assumption) | (with_reducible refine below_ext0 ?_ _ _) | (with_reducible refine below_alloc0 ?_ _) | (with_reducible refine Below.ext ?_ ?_ _ _) | (with_reducible refine Below.alloc ?_ ?_ _) | (with_reducible refine Below.setCell ?_ ?_ _) | (with_reducible refine Below.drew ?_) | (with_reducible refine below_draws ?_ _) | go_size | (simp [size_ext]; done) | (simp [size_ext]; omega))))⟩
set_option maxHeartbeats 4000000 in
theorem holds_one' (w : World) (N : Int) :
    Calls Tryd.prog 44 #[.agg #[.int .i64 1, .int .i64 N, .slice A n c, .slice A' n' c', .slice A2 n2 c2], .agg #[.slice Aq nq cq, .int .i64 ty, .int .i64 cl, .int .i64 oc, .bool rd, .slice Af nf cf]] w fun e w' => e = .returned (.bool true) ∧ Below w.heap.size w w' := by
  go_enter Tryd.func44, Tryd.ntmps44
  go_wp2
  go_ret
  exact ⟨rfl, (by (repeat' (first | (with_reducible exact Below.refl _ _) | (with_reducible assumption) | (with_reducible refine below_ext0 ?_ _ _) | (with_reducible refine below_alloc0 ?_ _) | (with_reducible refine Below.ext ?_ ?_ _ _) | (with_reducible refine Below.alloc ?_ ?_ _) | (with_reducible refine Below.setCell ?_ ?_ _) | (with_reducible refine Below.drew ?_) | (with_reducible refine below_draws ?_ _) | go_size | (simp [size_ext]; done) | (simp [size_ext]; omega))))⟩
end
theorem err_ops {m : MT} (h : matchErr m = 0) : 1 ≤ m.1 ∧ m.1 ≤ 10 ∧ (m.1 = 7 → 0 ≤ m.2.1 ∧ m.2.1 ≤ 8 * (m.2.2.2.1.length : Int)) := by
  unfold matchErr at h
  split at h
  · cases h
  · rename_i h1
    refine ⟨by omega, by omega, fun h7 => ?_⟩
    split at h
    · cases h
    · rw [if_neg (by omega)] at h
      split at h
      · cases h
      · split at h
        · cases h
        · rename_i h4
          have hm : mostM m = 8 * (m.2.2.2.1.length : Int) := by unfold mostM; rw [if_neg (by omega), if_pos h7]
          rw [hm] at h4
          omega
/-- what holds answers of a tree -/
def HoldsC (qn : List ByteArray) (ty cl oc : Int) (rd : Bool) (qf : List UInt8) (t : Tree) : Prop := ∀ (w : World) {A A' A2 Aq Af : Option Addr} {n c n' c' n2 c2 nq cq nf cf : Nat} {op N : Int},
    NodeAt w w.heap.size t [.int .i64 op, .int .i64 N, .slice A n c, .slice A' n' c', .slice A2 n2 c2] → Rd strR w w.heap.size Aq nq cq qn → Rd u8R w w.heap.size Af nf cf qf →
    Calls Tryd.prog 44 #[.agg #[.int .i64 op, .int .i64 N, .slice A n c, .slice A' n' c', .slice A2 n2 c2], .agg #[.slice Aq nq cq, .int .i64 ty, .int .i64 cl, .int .i64 oc, .bool rd, .slice Af nf cf]] w fun e w' => e = .returned (.bool (t.holds (qn, ty, cl, oc, rd, qf, ()))) ∧ Below w.heap.size w w'
section
variable {qn : List ByteArray} {ty cl oc : Int} {rd : Bool} {qf : List UInt8}
set_option maxRecDepth 100000 in
set_option maxHeartbeats 8000000 in
theorem holds_leaf {m : MT} (hok : (Tree.leaf m).ok) (herr : ∀ x ∈ (Tree.leaf m).flat, matchErr x = 0) : HoldsC qn ty cl oc rd qf (.leaf m) := by
  intro w A A' A2 Aq Af n c n' c' n2 c2 nq cq nf cf op N h hq hf
  obtain ⟨l, ad, e, hi, h1, h2, h3⟩ := node_of' h
  have e' : m = (op, N, l, ad, ()) := e
  subst e'
  have h0 : takesN op = 0 := hok
  obtain ⟨e1, e2, e3⟩ := err_ops (herr (op, N, l, ad, ()) (by simp [flat]))
  simp only at e1 e2 e3
  have hne : op ≠ 8 ∧ op ≠ 9 ∧ op ≠ 10 := by
    unfold takesN at h0
    split at h0
    · cases h0
    · split at h0
      · cases h0
      · omega
  have ways : op = 1 ∨ op = 2 ∨ (op = 3 ∨ op = 4 ∨ op = 5) ∨ op = 6 ∨ op = 7 := by omega
  rcases ways with rfl | rfl | hop | rfl | rfl
  · exact holds_one' w N
  · exact holds_two w N h1 hq
  · have key := holds_num (A := A) (n := n) (c := c) (A' := A') (n' := n') (c' := c') (A2 := A2) (n2 := n2) (c2 := c2) (Aq := Aq) (nq := nq) (cq := cq) (Af := Af) (nf := nf) (cf := cf) (ty := ty) (cl := cl) (oc := oc) (rd := rd) w op N hop
    rcases hop with rfl | rfl | rfl
    · exact key
    · exact key
    · exact key
  · exact holds_six w N
  · obtain ⟨h7, h8⟩ := e3 rfl
    obtain ⟨M, rfl⟩ : ∃ M : Nat, N = (M : Int) := ⟨N.toNat, by omega⟩
    exact holds_seven w M h2 hf (by rw [h2.len] at h8; omega)
set_option maxRecDepth 100000 in
set_option maxHeartbeats 8000000 in
theorem holds_not {m : MT} {a : Tree} (hok : (Tree.one m a).ok) (ha : HoldsC qn ty cl oc rd qf a) : HoldsC qn ty cl oc rd qf (.one m a) := by
  intro w A A' A2 Aq Af n c n' c' n2 c2 nq cq nf cf op N h hq hf
  obtain ⟨l, ad, e, hi, h1, h2, h3⟩ := node_of' h
  have e' : m = (op, N, l, ad, ()) := e
  subst e'
  obtain rfl : op = 8 := takes_one (m := (op, N, l, ad, ())) hok.1
  have hn2 : n2 = 1 := h3.len.symm
  subst hn2
  obtain ⟨b, o, B1, m1, d1, B2, m2, d2, B3, m3, d3, op1, N1, rfl, hb, hk, k0, k1, k2, k3, k4⟩ := h3.kid 0 (by decide)
  simp only [Nat.zero_mul, Nat.add_zero] at k0 k1 k2 k3 k4
  have hk' : NodeAt w w.heap.size a _ := hk
  have C := fun w' (hb : Below w.heap.size w w') => ha w' (NodeAt.mono a hk' hb.size fun p u hp hu => (hb.cell hp).trans hu) (hq.later hb) (hf.later hb)
  obtain ⟨x, hx⟩ : ∃ x, a.holds (qn, ty, cl, oc, rd, qf, ()) = x := ⟨_, rfl⟩
  have hh : (Tree.one (8, N, l, ad, ()) a).holds (qn, ty, cl, oc, rd, qf, ()) = !x := by rw [← hx]; rfl
  rw [hx] at C
  have HH := hid hh
  have CK := hid C
  have lb := hb
  have ll := h3.cap
  clear C hh hx h h1 h2 h3 hq hf hk hk' hok e hi ha
  cases x
  all_goals
    have tk0 : True := trivial; have tk1 : True := trivial; have tk2 : True := trivial; have tk3 : True := trivial; have tk4 : True := trivial; have tk5 : True := trivial; have tk6 : True := trivial; have tk7 : True := trivial; have tk8 : True := trivial; have tk9 : True := trivial; have tk10 : True := trivial; have tk11 : True := trivial; have tk12 : True := trivial
    go_enter Tryd.func44, Tryd.ntmps44
    go_wp2_with fail
    refine wp_region_ext (by kernel_rfl) (by kernel_rfl) ?_
    repeat (go_big_quiet_step ((go_at_call 44; with_reducible exact Calls.quiet_ext (CK.out _ (by ((first | (with_reducible refine exts_below ?_ ?_ _) | skip); (repeat' (first | (with_reducible exact Below.refl _ _) | (with_reducible assumption) | (with_reducible refine below_ext0 ?_ _ _) | (with_reducible refine below_alloc0 ?_ _) | (with_reducible refine Below.ext ?_ ?_ _ _) | (with_reducible refine Below.alloc ?_ ?_ _) | (with_reducible refine Below.setCell ?_ ?_ _) | (with_reducible refine Below.drew ?_) | (with_reducible refine below_draws ?_ _) | go_size | (simp [size_ext]; done) | (simp [size_ext]; omega)))))))))
    refine wpQuiet_nil ?_
    rintro _ ⟨⟨os, d⟩, rfl⟩
    simp only [exts]
    go_wp2
    go_ret
    exact ⟨by rw [HH.out]; rfl, (by (repeat' (first | (with_reducible exact Below.refl _ _) | (with_reducible assumption) | (with_reducible refine below_ext0 ?_ _ _) | (with_reducible refine below_alloc0 ?_ _) | (with_reducible refine Below.ext ?_ ?_ _ _) | (with_reducible refine Below.alloc ?_ ?_ _) | (with_reducible refine Below.setCell ?_ ?_ _) | (with_reducible refine Below.drew ?_) | (with_reducible refine below_draws ?_ _) | go_size | (simp [size_ext]; done) | (simp [size_ext]; omega))))⟩
set_option maxRecDepth 100000 in
set_option maxHeartbeats 8000000 in
theorem holds_pair {m : MT} {a b : Tree} (hok : (Tree.two m a b).ok) (ha : HoldsC qn ty cl oc rd qf a) (hb0 : HoldsC qn ty cl oc rd qf b) : HoldsC qn ty cl oc rd qf (.two m a b) := by
  intro w A A' A2 Aq Af n c n' c' n2 c2 nq cq nf cf op N h hq hf
  obtain ⟨l, ad, e, hi, h1, h2, h3⟩ := node_of' h
  have e' : m = (op, N, l, ad, ()) := e
  subst e'
  have hop : op = 9 ∨ op = 10 := takes_two (m := (op, N, l, ad, ())) hok.1
  have hn2 : n2 = 2 := h3.len.symm
  subst hn2
  obtain ⟨bb, o, B1, m1, d1, B2, m2, d2, B3, m3, d3, op1, N1, rfl, hb, hk, k0, k1, k2, k3, k4⟩ := h3.kid 0 (by decide)
  obtain ⟨_, _, E1, r1, s1, E2, r2, s2, E3, r3, s3, op2, N2, e9, hb', hj, j0, j1, j2, j3, j4⟩ := h3.kid 1 (by decide)
  cases e9
  simp only [Nat.zero_mul, Nat.one_mul, Nat.add_zero] at k0 k1 k2 k3 k4 j0 j1 j2 j3 j4
  have hk' : NodeAt w w.heap.size a _ := hk
  have hj' : NodeAt w w.heap.size b _ := hj
  have C := fun w' (hb : Below w.heap.size w w') => ha w' (NodeAt.mono a hk' hb.size fun p u hp hu => (hb.cell hp).trans hu) (hq.later hb) (hf.later hb)
  have D := fun w' (hb : Below w.heap.size w w') => hb0 w' (NodeAt.mono b hj' hb.size fun p u hp hu => (hb.cell hp).trans hu) (hq.later hb) (hf.later hb)
  obtain ⟨x, hx⟩ : ∃ x, a.holds (qn, ty, cl, oc, rd, qf, ()) = x := ⟨_, rfl⟩
  obtain ⟨y, hy⟩ : ∃ y, b.holds (qn, ty, cl, oc, rd, qf, ()) = y := ⟨_, rfl⟩
  have hh : (Tree.two (op, N, l, ad, ()) a b).holds (qn, ty, cl, oc, rd, qf, ()) = (if op = 9 then x && y else x || y) := by rw [← hx, ← hy]; rfl
  rw [hx] at C
  rw [hy] at D
  have HH := hid hh
  have CK := hid C
  have CD := hid D
  have lb := hb
  have ll := h3.cap
  clear C D hh hx hy h h1 h2 h3 hq hf hk hk' hj hj' hok e hi ha hb0
  rcases hop with rfl | rfl
  all_goals
    cases x
    all_goals
      cases y
      all_goals
        have tk0 : True := trivial; have tk1 : True := trivial; have tk2 : True := trivial; have tk3 : True := trivial; have tk4 : True := trivial; have tk5 : True := trivial; have tk6 : True := trivial; have tk7 : True := trivial; have tk8 : True := trivial; have tk9 : True := trivial; have tk10 : True := trivial; have tk11 : True := trivial; have tk12 : True := trivial
        go_enter Tryd.func44, Tryd.ntmps44
        go_wp2_with fail
        refine wp_region_ext (by kernel_rfl) (by kernel_rfl) ?_
        repeat (go_big_quiet_step ((first | (go_at_call 44; with_reducible exact Calls.quiet_ext (CK.out _ (by ((first | (with_reducible refine exts_below ?_ ?_ _) | skip); (repeat' (first | (with_reducible exact Below.refl _ _) | (with_reducible assumption) | (with_reducible refine below_ext0 ?_ _ _) | (with_reducible refine below_alloc0 ?_ _) | (with_reducible refine Below.ext ?_ ?_ _ _) | (with_reducible refine Below.alloc ?_ ?_ _) | (with_reducible refine Below.setCell ?_ ?_ _) | (with_reducible refine Below.drew ?_) | (with_reducible refine below_draws ?_ _) | go_size | (simp [size_ext]; done) | (simp [size_ext]; omega))))))) | (go_at_call 44; with_reducible exact Calls.quiet_ext (CD.out _ (by ((first | (with_reducible refine exts_below ?_ ?_ _) | skip); (repeat' (first | (with_reducible exact Below.refl _ _) | (with_reducible assumption) | (with_reducible refine below_ext0 ?_ _ _) | (with_reducible refine below_alloc0 ?_ _) | (with_reducible refine Below.ext ?_ ?_ _ _) | (with_reducible refine Below.alloc ?_ ?_ _) | (with_reducible refine Below.setCell ?_ ?_ _) | (with_reducible refine Below.drew ?_) | (with_reducible refine below_draws ?_ _) | go_size | (simp [size_ext]; done) | (simp [size_ext]; omega))))))))))
        refine wpQuiet_nil ?_
        rintro _ ⟨⟨os, d⟩, rfl⟩
        simp only [exts]
        go_wp2
        go_ret
        exact ⟨by rw [HH.out]; rfl, (by (repeat' (first | (with_reducible exact Below.refl _ _) | (with_reducible assumption) | (with_reducible refine below_ext0 ?_ _ _) | (with_reducible refine below_alloc0 ?_ _) | (with_reducible refine Below.ext ?_ ?_ _ _) | (with_reducible refine Below.alloc ?_ ?_ _) | (with_reducible refine Below.setCell ?_ ?_ _) | (with_reducible refine Below.drew ?_) | (with_reducible refine below_draws ?_ _) | go_size | (simp [size_ext]; done) | (simp [size_ext]; omega))))⟩
theorem holds_any : ∀ (t : Tree), t.ok → (∀ m ∈ t.flat, matchErr m = 0) → HoldsC qn ty cl oc rd qf t
  | .leaf m, hok, herr => holds_leaf hok herr
  | .one m a, hok, herr => holds_not hok (holds_any a hok.2 fun x hx => herr x (by simp [flat, hx]))
  | .two m a b, hok, herr => holds_pair hok (holds_any a hok.2.1 fun x hx => herr x (by simp [flat, hx])) (holds_any b hok.2.2 fun x hx => herr x (by simp [flat, hx]))
end
end Go.Proofs.YtemgbfppdopfbaaDoor
