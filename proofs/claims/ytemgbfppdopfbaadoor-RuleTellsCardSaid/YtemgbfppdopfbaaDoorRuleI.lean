/- The program's rules: plain. -/
import Derived.Test.YtemgbfppdopfbaaDoorRuleH
import Derived.Deep.RegionHeld3
namespace Go.Proofs.YtemgbfppdopfbaaDoor
open Go.RowKit
open Tree
set_option linter.unusedVariables false
set_option linter.unusedSimpArgs false

/-- what plain hands back -/
def PlainO (Z : Nat → Bool) (w : World) (t : Tree) (e : Ending) (w' : World) : Prop :=
  (∃ op N A n c A' n' c' A2 n2 c2, e = .returned (.agg #[.int .i64 op, .int .i64 N, .slice A n c, .slice A' n' c', .slice A2 n2 c2]) ∧ NodeAt (shut w' Z) w'.heap.size t [.int .i64 op, .int .i64 N, .slice A n c, .slice A' n' c', .slice A2 n2 c2]) ∧ Below w.heap.size w w'
def PlainC (t : Tree) : Prop := ∀ (w : World) (Z : Nat → Bool) (b : Bool) {A A' A2 : Option Addr} {n c n' c' n2 c2 : Nat} {op N : Int},
    (∀ i, w.heap.size ≤ i → Z i = false) → NodeAt (shut w Z) w.heap.size t [.int .i64 op, .int .i64 N, .slice A n c, .slice A' n' c', .slice A2 n2 c2] →
    Calls Tryd.prog 45 #[.agg #[.int .i64 op, .int .i64 N, .slice A n c, .slice A' n' c', .slice A2 n2 c2], .bool b] w (PlainO Z w (t.plain b))
theorem res_plain {tmps : Array Value} {W : World} {g : Nat} {T : TypeId} {c0 c1 c2 c3 c4 : Value} (h4 : tmps[4]? = some (.pointer (some ⟨g, 0, none⟩))) (hB : Blk W g T #[c0, c1, c2, c3, c4]) :
    (results Tryd.f45 tmps).run Tryd.prog W = .ok (.agg #[c0, c1, c2, c3, c4]) W := by
  have k0 : W.cell? ⟨g, 0, none⟩ = some c0 := hB.cell 0
  have k1 : W.cell? ⟨g, 1, none⟩ = some c1 := hB.cell 1
  have k2 : W.cell? ⟨g, 2, none⟩ = some c2 := hB.cell 2
  have k3 : W.cell? ⟨g, 3, none⟩ = some c3 := hB.cell 3
  have k4 : W.cell? ⟨g, 4, none⟩ = some c4 := hB.cell 4
  simp [results, Tryd.results45, go_sem, h4, k0, k1, k2, k3, k4]
theorem node_later {w w' : World} {Z Z' : Nat → Bool} {B B' : Nat} {t : Tree} {vs : List Value} (h : NodeAt (shut w Z) B t vs) (hb : Below B w w') (hB : B ≤ B') (hZ : ∀ i, i < B → Z i = false → Z' i = false) : NodeAt (shut w' Z') B' t vs :=
  rel_later (R := nodeR) mono_node h hb hB hZ
theorem HRow.rdZ {Z : Nat → Bool} {e : TypeId} {base n c : Nat} {w : World} {A : Option Addr} {ts : List Tree} (h : HRow Z nodeR e base w (.slice A n c) ts) (hn : ts.length = n) (hz : ∀ g, base ≤ g → Z g = false) (hlim : n * 88 ≤ 140737488355328) : Rd nodeR (shut w Z) w.heap.size A n c ts := by
  subst hn
  obtain ⟨xs, h1, h2⟩ := h
  have h3 := own_shut (Z := Z) h1 fun g hg => hz g (h1.lt g hg).1
  have h4 : Rels nodeR (shut w Z) w.heap.size ts xs := h2.mono' mono_node (Nat.le_refl _) fun p u hp hu => shut_more (fun _ _ _ => rfl) (fun i _ hi => by unfold blkZ at hi; simp only [Bool.or_eq_false_iff] at hi; exact hi.1) p u hp hu
  obtain ⟨A', c', e', hr⟩ := rd_of_own (R := nodeR) h3 h4 rfl (by rw [shut_size]; exact Nat.le_refl _) hlim (by decide)
  cases e'
  rw [shut_size] at hr
  exact hr
/-- a store into a block that is shut, ahead of the row -/
theorem HRow.set {α : Type} {R : Rep α} (hR : Mono R) {Z : Nat → Bool} {e : TypeId} {base : Nat} {w : World} {v : Value} {l : List α} (h : HRow Z R e base w v l) {k : Nat} (hk : k < base) (hz : Z k = true) (i : Nat) (u : Value) : HRow Z R e base (w.setCell ⟨k, i, none⟩ u) v l := by
  obtain ⟨xs, h1, h2⟩ := h
  refine ⟨xs, own_far h1 hk u, h2.mono' hR (by simp) fun p v' hp hv => ?_⟩
  refine shut_more (B := w.heap.size) (fun p hp hzp => World.cell?_of_block (Below.heap_setCell w _ u p.block ?_)) (fun i _ hi => hi) p v' hp hv
  intro e'
  have e2 : p.block = k := e'
  unfold blkZ at hzp
  rw [e2, hz] at hzp
  simp at hzp
/-- a literal of one node -/
theorem rd_lit1 {W : World} {Z : Nat → Bool} {g : Nat} {T : TypeId} {c0 c1 c2 c3 c4 : Value} {t : Tree} {B : Nat} (hB : Blk W g T #[c0, c1, c2, c3, c4]) (hz : Z g = false) (hg : g < B) (hN : NodeAt (shut W Z) B t [c0, c1, c2, c3, c4]) : Rd nodeR (shut W Z) B (some ⟨g, 0, none⟩) 1 1 [t] := by
  refine ⟨rfl, Nat.le_refl _, by simp [maxLen], by simp [nodeR], fun h => (by cases h), fun i hi => ?_⟩
  obtain rfl : i = 0 := by simp at hi; exact hi
  refine ⟨g, 0, _, rfl, hg, hN, fun j u hu => ?_⟩
  rw [shut_cell, if_neg (by simp [hz])]
  have := hB.cell j
  simpa [this] using hu
section
variable {A A' A2 : Option Addr} {n c n' c' n2 c2 : Nat}
set_option maxRecDepth 100000 in
set_option maxHeartbeats 8000000 in
theorem plain_leaf {m : MT} (hok : (Tree.leaf m).ok) : PlainC (.leaf m) := by
  intro w Z b A A' A2 n c n' c' n2 c2 op N hZ h
  obtain ⟨l, ad, e, hi, h1, h2, h3⟩ := node_of' h
  have e' : m = (op, N, l, ad, ()) := e
  have h0 : takesN op = 0 := by subst e'; exact hok
  have hne : op ≠ 8 ∧ op ≠ 9 ∧ op ≠ 10 := by
    unfold takesN at h0
    split at h0
    · cases h0
    · split at h0
      · cases h0
      · omega
  have b8 : (op == 8) = false := beq_eq_false_iff_ne.2 hne.1
  have b9 : (op == 9) = false := beq_eq_false_iff_ne.2 hne.2.1
  have b10 : (op == 10) = false := beq_eq_false_iff_ne.2 hne.2.2
  have HN := hid h
  have HZ := hid hZ
  clear h1 h2 h3 hne h0 hi e e' hok h hZ
  cases b
  · go_enter Tryd.func45, Tryd.ntmps45
    go_wp2
    refine bodyPost_ret (res_plain rfl (by ((repeat' (first | (with_reducible assumption) | (with_reducible refine Blk.drew ?_) | exact Blk.new' _ _ (by first | rfl | (simp [size_ext]; done) | (simp [size_ext]; omega)) | (with_reducible refine Blk.ext ?_ _ _) | (with_reducible refine Blk.alloc ?_ _))); (all_goals fail)))) rfl ?_
    exact ⟨⟨_, _, _, _, _, _, _, _, _, _, _, rfl, node_later HN.out (by (repeat' (first | (with_reducible exact Below.refl _ _) | (with_reducible assumption) | (with_reducible refine below_ext0 ?_ _ _) | (with_reducible refine below_alloc0 ?_ _) | (with_reducible refine Below.ext ?_ ?_ _ _) | (with_reducible refine Below.alloc ?_ ?_ _) | (with_reducible refine Below.setCell ?_ ?_ _) | (with_reducible refine Below.drew ?_) | (with_reducible refine below_draws ?_ _) | go_size | (simp [size_ext]; done) | (simp [size_ext]; omega)))) (by first | omega | (simp [size_ext]; done) | (simp [size_ext]; omega)) fun i _ h => h⟩, (by (repeat' (first | (with_reducible exact Below.refl _ _) | (with_reducible assumption) | (with_reducible refine below_ext0 ?_ _ _) | (with_reducible refine below_alloc0 ?_ _) | (with_reducible refine Below.ext ?_ ?_ _ _) | (with_reducible refine Below.alloc ?_ ?_ _) | (with_reducible refine Below.setCell ?_ ?_ _) | (with_reducible refine Below.drew ?_) | (with_reducible refine below_draws ?_ _) | go_size | (simp [size_ext]; done) | (simp [size_ext]; omega))))⟩
  · go_enter Tryd.func45, Tryd.ntmps45
    go_wp2
    refine bodyPost_ret (res_plain rfl ((Blk.new' _ _ (by first | rfl | (simp [size_ext]; done) | (simp [size_ext]; omega))).alloc _)) rfl ?_
    refine ⟨⟨_, _, _, _, _, _, _, _, _, _, _, rfl, ?_⟩, (by (repeat' (first | (with_reducible exact Below.refl _ _) | (with_reducible assumption) | (with_reducible refine below_ext0 ?_ _ _) | (with_reducible refine below_alloc0 ?_ _) | (with_reducible refine Below.ext ?_ ?_ _ _) | (with_reducible refine Below.alloc ?_ ?_ _) | (with_reducible refine Below.setCell ?_ ?_ _) | (with_reducible refine Below.drew ?_) | (with_reducible refine below_draws ?_ _) | go_size | (simp [size_ext]; done) | (simp [size_ext]; omega))))⟩
    exact node_mk (t := .one notM (.leaf m)) rfl ⟨by unfold I64; omega, by unfold I64; omega⟩ (rd_nil _ _) (rd_nil _ _) (rd_lit1 (Blk.new' _ _ (by first | rfl | (simp [size_ext]; done) | (simp [size_ext]; omega))) (HZ.out _ (by omega)) (by simp) (node_later HN.out (by (repeat' (first | (with_reducible exact Below.refl _ _) | (with_reducible assumption) | (with_reducible refine below_ext0 ?_ _ _) | (with_reducible refine below_alloc0 ?_ _) | (with_reducible refine Below.ext ?_ ?_ _ _) | (with_reducible refine Below.alloc ?_ ?_ _) | (with_reducible refine Below.setCell ?_ ?_ _) | (with_reducible refine Below.drew ?_) | (with_reducible refine below_draws ?_ _) | go_size | (simp [size_ext]; done) | (simp [size_ext]; omega)))) (by first | omega | (simp [size_ext]; done) | (simp [size_ext]; omega)) fun i _ h => h))
theorem I64_swap {op : Int} (h : op = 9 ∨ op = 10) : I64 (19 - op) := by unfold I64; omega
set_option maxRecDepth 100000 in
set_option maxHeartbeats 8000000 in
theorem plain_not {m : MT} {a : Tree} (hok : (Tree.one m a).ok) (ha : PlainC a) : PlainC (.one m a) := by
  intro w Z b A A' A2 n c n' c' n2 c2 op N hZ h
  obtain ⟨l, ad, e, hi, h1, h2, h3⟩ := node_of' h
  have e' : m = (op, N, l, ad, ()) := e
  subst e'
  obtain rfl : op = 8 := takes_one (m := (op, N, l, ad, ())) hok.1
  have hn2 : n2 = 1 := h3.len.symm
  subst hn2
  obtain ⟨bb, o, B1, m1, d1, B2, m2, d2, B3, m3, d3, op1, N1, rfl, hb, hk, k0, k1, k2, k3, k4⟩ := h3.kid 0 (by decide)
  simp only [Nat.zero_mul, Nat.add_zero] at k0 k1 k2 k3 k4
  have k0 := unshut _ _ k0
  have k1 := unshut _ _ k1
  have k2 := unshut _ _ k2
  have k3 := unshut _ _ k3
  have k4 := unshut _ _ k4
  have hk' : NodeAt (shut w Z) w.heap.size a _ := hk
  obtain ⟨Z1, hZ1⟩ : ∃ Z1, (fun i => Z i || decide (i = w.heap.size + 1)) = Z1 := ⟨_, rfl⟩
  have hz1 : Z1 (w.heap.size + 1) = true := by rw [← hZ1]; simp
  have hz2 : ∀ i, Z1 i = false → Z i = false := fun i h => by rw [← hZ1] at h; simp only [Bool.or_eq_false_iff] at h; exact h.1
  have C := fun (b' : Bool) w' (hb : Below w.heap.size w w') (hs : w.heap.size + 2 ≤ w'.heap.size) => ha w' Z1 b' (fun i hi => by rw [← hZ1]; simp only [Bool.or_eq_false_iff, decide_eq_false_iff_not]; exact ⟨hZ i (by omega), by omega⟩) (node_later hk' hb hb.size fun i hi hz => by rw [← hZ1]; simp only [Bool.or_eq_false_iff, decide_eq_false_iff_not]; exact ⟨hz, by omega⟩)
  have CK := hid C
  have lb := hb
  have ll := h3.cap
  have HZ1 := hid hz1
  have HZ2 := hid hz2
  clear C h h1 h2 h3 hk hk' hok e hi ha hZ hZ1 hz1 hz2
  cases b
  all_goals
    have tk0 : True := trivial; have tk1 : True := trivial; have tk2 : True := trivial; have tk3 : True := trivial; have tk4 : True := trivial; have tk5 : True := trivial; have tk6 : True := trivial; have tk7 : True := trivial; have tk8 : True := trivial; have tk9 : True := trivial; have tk10 : True := trivial; have tk11 : True := trivial; have tk12 : True := trivial
    go_enter Tryd.func45, Tryd.ntmps45
    go_wp2_with (go_at_call 45; have _t := tk1; (with_reducible refine (CK.out _ _ (by (repeat' (first | (with_reducible exact Below.refl _ _) | (with_reducible assumption) | (with_reducible refine below_ext0 ?_ _ _) | (with_reducible refine below_alloc0 ?_ _) | (with_reducible refine Below.ext ?_ ?_ _ _) | (with_reducible refine Below.alloc ?_ ?_ _) | (with_reducible refine Below.setCell ?_ ?_ _) | (with_reducible refine Below.drew ?_) | (with_reducible refine below_draws ?_ _) | go_size | (simp [size_ext]; done) | (simp [size_ext]; omega)))) (by first | omega | (simp [size_ext]; done) | (simp [size_ext]; omega))).mono ?_); rintro e w1 ⟨⟨op9, N9, A9, n9, c9, A8, n8, c8, A7, n7, c7, rfl, hn⟩, hb⟩; have kz : Blk w1 (w.heap.size + 1) 86 zeroNode := (hb.block _ (by simp)).trans (Blk.new' _ _ (by first | rfl | (simp [size_ext]; done) | (simp [size_ext]; omega))); have hzl := kz.lt; have z0 : w1.cell? ⟨w.heap.size + 1, 0, none⟩ = some (.int .i64 0) := kz.cell 0; have f0 : w1.frozen? ⟨w.heap.size + 1, 0, none⟩ = false := kz.frozen 0; have z1 : w1.cell? ⟨w.heap.size + 1, 1, none⟩ = some (.int .i64 0) := kz.cell 1; have f1 : w1.frozen? ⟨w.heap.size + 1, 1, none⟩ = false := kz.frozen 1; have z2 : w1.cell? ⟨w.heap.size + 1, 2, none⟩ = some (.slice none 0 0) := kz.cell 2; have f2 : w1.frozen? ⟨w.heap.size + 1, 2, none⟩ = false := kz.frozen 2; have z3 : w1.cell? ⟨w.heap.size + 1, 3, none⟩ = some (.slice none 0 0) := kz.cell 3; have f3 : w1.frozen? ⟨w.heap.size + 1, 3, none⟩ = false := kz.frozen 3; have z4 : w1.cell? ⟨w.heap.size + 1, 4, none⟩ = some (.slice none 0 0) := kz.cell 4; have f4 : w1.frozen? ⟨w.heap.size + 1, 4, none⟩ = false := kz.frozen 4; have KZ := hid kz; have LW := hid ((show Below w.heap.size w _ from (by (repeat' (first | (with_reducible exact Below.refl _ _) | (with_reducible assumption) | (with_reducible refine below_ext0 ?_ _ _) | (with_reducible refine below_alloc0 ?_ _) | (with_reducible refine Below.ext ?_ ?_ _ _) | (with_reducible refine Below.alloc ?_ ?_ _) | (with_reducible refine Below.setCell ?_ ?_ _) | (with_reducible refine Below.drew ?_) | (with_reducible refine below_draws ?_ _) | go_size | (simp [size_ext]; done) | (simp [size_ext]; omega))))).trans (hb.mono (by simp; omega))); have HN9 := hid hn; clear hb kz tk1 hn)
    refine bodyPost_ret (res_plain rfl (node_over _ _ _ _ _ KZ.out)) rfl ?_
    exact ⟨⟨_, _, _, _, _, _, _, _, _, _, _, rfl, over_node _ _ _ _ _ HN9.out HZ1.out HZ2.out⟩, over_low _ _ _ _ _ LW.out (Nat.le_succ _)⟩
end
end Go.Proofs.YtemgbfppdopfbaaDoor
