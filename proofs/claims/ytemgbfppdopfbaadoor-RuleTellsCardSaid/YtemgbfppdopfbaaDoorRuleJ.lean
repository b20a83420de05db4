/- The program's rules: plain, of And and Or. -/
import Derived.Test.YtemgbfppdopfbaaDoorRuleI
namespace Go.Proofs.YtemgbfppdopfbaaDoor
open Go.RowKit
open Tree
set_option linter.unusedVariables false
set_option linter.unusedSimpArgs false

theorem take_snoc2 {α : Type} {x y : α} {i : Nat} (hi : i < 2) : ([x, y] : List α).take (i + 1) = ([x, y] : List α).take i ++ [([x, y] : List α)[i]] := List.take_succ_eq_append_getElem hi
set_option maxRecDepth 100000 in
set_option maxHeartbeats 40000000 in
theorem plain_pair {m : MT} {a b : Tree} (hok : (Tree.two m a b).ok) (ha : PlainC a) (hb0 : PlainC b) : PlainC (.two m a b) := by
  intro w Z nb A A' A2 n c n' c' n2 c2 op N hZ h
  obtain ⟨l, ad, e, hi, h1, h2, h3⟩ := node_of' h
  have e' : m = (op, N, l, ad, ()) := e
  subst e'
  have hop : op = 9 ∨ op = 10 := takes_two (m := (op, N, l, ad, ())) hok.1
  have hn2 : n2 = 2 := h3.len.symm
  subst hn2
  obtain ⟨opx, hopx⟩ : ∃ opx, (if nb then 19 - op else op) = opx := ⟨_, rfl⟩
  obtain ⟨P, hP⟩ : ∃ P : Tree → Tree, (fun t => t.plain nb) = P := ⟨_, rfl⟩
  have hix : I64 opx := by rw [← hopx]; cases nb; exact hi.1; exact I64_swap hop
  have htx : (Tree.two (op, N, l, ad, ()) a b).plain nb = .two (opx, N, l, ad, ()) (P a) (P b) := by rw [← hopx, ← hP]; cases nb <;> rfl
  have hkc : ∀ kt ∈ [a, b], ∀ (w' : World) (Z' : Nat → Bool) {A A' A2 : Option Addr} {n c n' c' n2 c2 : Nat} {op N : Int}, (∀ i, w'.heap.size ≤ i → Z' i = false) → NodeAt (shut w' Z') w'.heap.size kt [.int .i64 op, .int .i64 N, .slice A n c, .slice A' n' c', .slice A2 n2 c2] →
      Calls Tryd.prog 45 #[.agg #[.int .i64 op, .int .i64 N, .slice A n c, .slice A' n' c', .slice A2 n2 c2], .bool nb] w' (PlainO Z' w' (P kt)) := by
    intro kt hkt w' Z' A A' A2 n c n' c' n2 c2 op N h1 h2
    rw [← hP]
    simp only [List.mem_cons, List.not_mem_nil, or_false] at hkt
    rcases hkt with rfl | rfl
    · exact ha w' Z' nb h1 h2
    · exact hb0 w' Z' nb h1 h2
  have HIX := hid hix
  have HIN := hid hi.2
  have HTX := hid htx
  have HKC := hid hkc
  obtain ⟨Z1, hZ1⟩ : ∃ Z1, (fun i => Z i || decide (w.heap.size ≤ i ∧ i < w.heap.size + 3)) = Z1 := ⟨_, rfl⟩
  have hz1 : Z1 (w.heap.size + 1) = true := by rw [← hZ1]; simp
  have hz3 : Z1 (w.heap.size + 1 + 1) = true := by rw [← hZ1]; simp only [Bool.or_eq_true, decide_eq_true_eq]; right; omega
  have hz2 : ∀ i, Z1 i = false → Z i = false := fun i h => by rw [← hZ1] at h; simp only [Bool.or_eq_false_iff] at h; exact h.1
  have hz4 : ∀ i, i < w.heap.size → Z i = false → Z1 i = false := fun i hi hz => by rw [← hZ1]; simp only [Bool.or_eq_false_iff, decide_eq_false_iff_not]; exact ⟨hz, by omega⟩
  have hz5 : ∀ i, w.heap.size + 3 ≤ i → Z1 i = false := fun i hi => by rw [← hZ1]; simp only [Bool.or_eq_false_iff, decide_eq_false_iff_not]; exact ⟨hZ i (by omega), by omega⟩
  have R1 := hid h1
  have R2 := hid h2
  have R3 := hid h3
  have HZ1 := hid hz1
  have HZ2 := hid hz2
  have HZ3 := hid hz3
  have HZ4 := hid hz4
  have HZ5 := hid hz5
  have HOPX := hid hopx
  have ll := h3.cap
  obtain ⟨bb, o, _, _, _, _, _, _, _, _, _, _, _, rfl, hb, hrest⟩ := h3.kid 0 (by decide)
  clear hrest
  have lb := hb
  clear h h1 h2 h3 hok e ha hb0 hZ hZ1 hz1 hz2 hz3 hz4 hz5 hi hix htx hopx hb hkc hP
  rcases hop with rfl | rfl
  all_goals
    cases nb
    all_goals
      have tk0 : True := trivial; have tk1 : True := trivial; have tk2 : True := trivial; have tk3 : True := trivial; have tk4 : True := trivial; have tk5 : True := trivial; have tk6 : True := trivial; have tk7 : True := trivial; have tk8 : True := trivial; have tk9 : True := trivial; have tk10 : True := trivial; have tk11 : True := trivial; have tk12 : True := trivial
      go_enter Tryd.func45, Tryd.ntmps45
      go_wp2_with fail
      go_loopg [36] 2 (fun gk v36 wi => ∃ (i : Nat) (AV : Option Addr) (cV : Nat) (oo : Int), i ≤ 2 ∧ gk = 2 - i ∧ v36 = .int .i64 (i : Int) ∧ Hid (oo = opx) ∧ HRow Z1 nodeR 86 (w.heap.size + 3) wi (.slice AV i cV) (([P a, P b] : List Tree).take i) ∧ Blk wi (w.heap.size + 1) 86 zeroNode ∧ Blk wi (w.heap.size + 1 + 1) 86 #[.int .i64 oo, .int .i64 N, .slice A n c, .slice A' n' c', .slice AV i cV] ∧ Below w.heap.size w wi)
      case atStart => exact ⟨0, none, 0, _, by omega, rfl, rfl, hid (by have := HOPX.out; simpa using this), HRow.nil, by ((repeat' (first | (with_reducible assumption) | (with_reducible refine Blk.drew ?_) | exact Blk.new' _ _ (by first | rfl | (simp [size_ext]; done) | (simp [size_ext]; omega)) | (with_reducible refine Blk.ext ?_ _ _) | (with_reducible refine Blk.alloc ?_ _))); (all_goals fail)), by ((repeat' (first | (with_reducible assumption) | (with_reducible refine Blk.drew ?_) | exact Blk.new' _ _ (by first | rfl | (simp [size_ext]; done) | (simp [size_ext]; omega)) | (with_reducible refine Blk.ext ?_ _ _) | (with_reducible refine Blk.alloc ?_ _))); (all_goals fail)), (by (repeat' (first | (with_reducible exact Below.refl _ _) | (with_reducible assumption) | (with_reducible refine below_ext0 ?_ _ _) | (with_reducible refine below_alloc0 ?_ _) | (with_reducible refine Below.ext ?_ ?_ _ _) | (with_reducible refine Below.alloc ?_ ?_ _) | (with_reducible refine Below.setCell ?_ ?_ _) | (with_reducible refine Below.drew ?_) | (with_reducible refine below_draws ?_ _) | go_size | (simp [size_ext]; done) | (simp [size_ext]; omega))))⟩
      case round =>
        obtain ⟨i, AV, cV, oo, hi, rfl, rfl, HOO, hrow, hkz, hko, hlow⟩ := hrel
        have HROW := hid hrow
        have HKZ := hid hkz
        have HKO := hid hko
        have HLOW := hid hlow
        have gz := hkz.lt
        have glo := hko.lt
        have y4 : wr.cell? ⟨w.heap.size + 1 + 1, 4, none⟩ = some (.slice AV i cV) := hko.cell 4
        have gg4 : wr.frozen? ⟨w.heap.size + 1 + 1, 4, none⟩ = false := hko.frozen 4
        by_cases hlt : i < 2
        · obtain ⟨b4, o4, B1, m1, d1, B2, m2, d2, B3, m3, d3, op1, N1, e9, hb, hk, k0, k1, k2, k3, k4⟩ := R3.out.kid i hlt
          cases e9
          obtain ⟨kt, hkt⟩ : ∃ kt, ([a, b] : List Tree)[i]'(by simpa using hlt) = kt := ⟨_, rfl⟩
          have hmem : kt ∈ [a, b] := by rw [← hkt]; exact List.getElem_mem _
          have hk' : NodeAt (shut w Z) w.heap.size kt [.int .i64 op1, .int .i64 N1, .slice B1 m1 d1, .slice B2 m2 d2, .slice B3 m3 d3] := by rw [← hkt]; exact hk
          have HTK := hid (show ([P a, P b] : List Tree).take (i + 1) = ([P a, P b] : List Tree).take i ++ [P kt] from by
            rw [List.take_succ_eq_append_getElem (by simpa using hlt), ← hkt]
            match i, hlt with
            | 0, _ => rfl
            | 1, _ => rfl)
          have HTL := hid (show (([P a, P b] : List Tree).take i).length = i from by rw [List.length_take]; simp; omega)
          have k0 : wr.cell? ⟨bb, o + i * 5, none⟩ = some (.int .i64 op1) := (hlow.cell hb).trans (unshut _ _ k0)
          have k1 : wr.cell? ⟨bb, o + i * 5 + 1, none⟩ = some (.int .i64 N1) := (hlow.cell hb).trans (unshut _ _ k1)
          have k2 : wr.cell? ⟨bb, o + i * 5 + 2, none⟩ = some (.slice B1 m1 d1) := (hlow.cell hb).trans (unshut _ _ k2)
          have k3 : wr.cell? ⟨bb, o + i * 5 + 3, none⟩ = some (.slice B2 m2 d2) := (hlow.cell hb).trans (unshut _ _ k3)
          have k4 : wr.cell? ⟨bb, o + i * 5 + 4, none⟩ = some (.slice B3 m3 d3) := (hlow.cell hb).trans (unshut _ _ k4)
          have C := hid fun (w' : World) (hbw : Below wr.heap.size wr w') => HKC.out kt hmem w' (blkZ Z1 (.slice AV i cV)) (fun j hj => blkZ_no (HZ5.out j (by have := hbw.size; omega)) fun e => by have := (hrow.blk e).2; have := hbw.size; omega) (node_later hk' (hlow.trans (hbw.mono hlow.size)) (Nat.le_trans hlow.size hbw.size) fun j hj hz => blkZ_no (HZ4.out j hj hz) fun e => by have := (hrow.blk e).1; omega)
          have HVB := hid (fun g (hg : (Value.slice AV i cV).ownBlock = some g) => hrow.blk hg)
          have t0 : (i : Int) < 2 := by omega
          have t2 : (0 : Int) ≤ (i : Int) := by omega
          have v3 : IntKind.i64.wrap ((i : Int) + 1) = (i : Int) + 1 := IntWalk.i64_in _ (by omega)
          have hlw := hlow.size
          have ab1 : ((([P a, P b] : List Tree).take i).length + 1) * 88 ≤ 140737488355328 := by rw [HTL.out]; omega
          have ab2 : (([P a, P b] : List Tree).take i).length + 1 ≤ maxLen := by rw [HTL.out]; unfold maxLen; omega
          clear hrow hkz hko hlow hk hk' hkt hmem
          go_wp2_with fail
          go_region_law (first
            | (go_at_call 45; have _t := tk1; (with_reducible refine (C.out _ (by (repeat' (first | (with_reducible exact Below.refl _ _) | (with_reducible assumption) | (with_reducible refine below_ext0 ?_ _ _) | (with_reducible refine below_alloc0 ?_ _) | (with_reducible refine Below.ext ?_ ?_ _ _) | (with_reducible refine Below.alloc ?_ ?_ _) | (with_reducible refine Below.setCell ?_ ?_ _) | (with_reducible refine Below.drew ?_) | (with_reducible refine below_draws ?_ _) | go_size | (simp [size_ext]; done) | (simp [size_ext]; omega))))).mono ?_); rintro e w1 ⟨⟨op9, N9, A9, n9, c9, A8, n8, c8, A7, n7, c7, rfl, hn⟩, hb⟩; have lw1 : Below wr.heap.size wr w1 := (show Below wr.heap.size wr _ from (by (repeat' (first | (with_reducible exact Below.refl _ _) | (with_reducible assumption) | (with_reducible refine below_ext0 ?_ _ _) | (with_reducible refine below_alloc0 ?_ _) | (with_reducible refine Below.ext ?_ ?_ _ _) | (with_reducible refine Below.alloc ?_ ?_ _) | (with_reducible refine Below.setCell ?_ ?_ _) | (with_reducible refine Below.drew ?_) | (with_reducible refine below_draws ?_ _) | go_size | (simp [size_ext]; done) | (simp [size_ext]; omega))))).trans (hb.mono (by first | omega | (simp [size_ext]; done) | (simp [size_ext, World.drew]; done) | (simp [size_ext, World.drew]; omega))); have q4 : w1.cell? ⟨w.heap.size + 1 + 1, 4, none⟩ = some (.slice AV i cV) := (lw1.cell (p := ⟨w.heap.size + 1 + 1, 4, none⟩) (by simp only; omega)).trans y4; have HN9 := hid hn; have zw1 := lw1.size; have gl1 : w.heap.size + 1 + 1 < w1.heap.size := (by omega); clear hb tk1 hn)
            | (go_simp; (go_at_call 45; have _t := tk1; (with_reducible refine (C.out _ (by (repeat' (first | (with_reducible exact Below.refl _ _) | (with_reducible assumption) | (with_reducible refine below_ext0 ?_ _ _) | (with_reducible refine below_alloc0 ?_ _) | (with_reducible refine Below.ext ?_ ?_ _ _) | (with_reducible refine Below.alloc ?_ ?_ _) | (with_reducible refine Below.setCell ?_ ?_ _) | (with_reducible refine Below.drew ?_) | (with_reducible refine below_draws ?_ _) | go_size | (simp [size_ext]; done) | (simp [size_ext]; omega))))).mono ?_); rintro e w1 ⟨⟨op9, N9, A9, n9, c9, A8, n8, c8, A7, n7, c7, rfl, hn⟩, hb⟩; have lw1 : Below wr.heap.size wr w1 := (show Below wr.heap.size wr _ from (by (repeat' (first | (with_reducible exact Below.refl _ _) | (with_reducible assumption) | (with_reducible refine below_ext0 ?_ _ _) | (with_reducible refine below_alloc0 ?_ _) | (with_reducible refine Below.ext ?_ ?_ _ _) | (with_reducible refine Below.alloc ?_ ?_ _) | (with_reducible refine Below.setCell ?_ ?_ _) | (with_reducible refine Below.drew ?_) | (with_reducible refine below_draws ?_ _) | go_size | (simp [size_ext]; done) | (simp [size_ext]; omega))))).trans (hb.mono (by first | omega | (simp [size_ext]; done) | (simp [size_ext, World.drew]; done) | (simp [size_ext, World.drew]; omega))); have q4 : w1.cell? ⟨w.heap.size + 1 + 1, 4, none⟩ = some (.slice AV i cV) := (lw1.cell (p := ⟨w.heap.size + 1 + 1, 4, none⟩) (by simp only; omega)).trans y4; have HN9 := hid hn; have zw1 := lw1.size; have gl1 : w.heap.size + 1 + 1 < w1.heap.size := (by omega); clear hb tk1 hn))
            | (refine step_hrow mono_node el_node HROW.out (P kt) [.int .i64 op9, .int .i64 N9, .slice A9 n9 c9, .slice A8 n8 c8, .slice A7 n7 c7] rfl (.tmp 41) (.tmp 45) rfl rfl rfl ?_ ?_ ?_ ab1 ab2 ?_ ?_; (focus (repeat' (first | (with_reducible exact Below.refl _ _) | (with_reducible assumption) | (with_reducible refine below_ext0 ?_ _ _) | (with_reducible refine below_alloc0 ?_ _) | (with_reducible refine Below.ext ?_ ?_ _ _) | (with_reducible refine Below.alloc ?_ ?_ _) | (with_reducible refine Below.setCell ?_ ?_ _) | (with_reducible refine Below.drew ?_) | (with_reducible refine below_draws ?_ _) | go_size | (simp [size_ext]; done) | (simp [size_ext]; omega)))); (first | (exact (src_lit #[.int .i64 op9, .int .i64 N9, .slice A9 n9 c9, .slice A8 n8 c8, .slice A7 n7 c7] rfl (by simp [Value.oneCell']) (by first | rfl | (simp [size_ext]; done) | (simp [size_ext]; omega)))) | (exact Src.drewX (src_lit #[.int .i64 op9, .int .i64 N9, .slice A9 n9 c9, .slice A8 n8 c8, .slice A7 n7 c7] rfl (by simp [Value.oneCell']) (by first | rfl | (simp [size_ext]; done) | (simp [size_ext]; omega))))); (exact node_later HN9.out (by (repeat' (first | (with_reducible exact Below.refl _ _) | (with_reducible assumption) | (with_reducible refine below_ext0 ?_ _ _) | (with_reducible refine below_alloc0 ?_ _) | (with_reducible refine Below.ext ?_ ?_ _ _) | (with_reducible refine Below.alloc ?_ ?_ _) | (with_reducible refine Below.setCell ?_ ?_ _) | (with_reducible refine Below.drew ?_) | (with_reducible refine below_draws ?_ _) | go_size | (simp [size_ext]; done) | (simp [size_ext]; omega)))) (by first | omega | (simp [size_ext]; done) | (simp [size_ext, World.drew]; done) | (simp [size_ext, World.drew]; omega)) fun _ _ h => h); (omega); intro v9 w9 row9 ha9 hb9; have KO9 := hid (blk_keep HKO.out (by (repeat' (first | (with_reducible exact Below.refl _ _) | (with_reducible assumption) | (with_reducible refine below_ext0 ?_ _ _) | (with_reducible refine below_alloc0 ?_ _) | (with_reducible refine Below.ext ?_ ?_ _ _) | (with_reducible refine Below.alloc ?_ ?_ _) | (with_reducible refine Below.setCell ?_ ?_ _) | (with_reducible refine Below.drew ?_) | (with_reducible refine below_draws ?_ _) | go_size | (simp [size_ext]; done) | (simp [size_ext]; omega)))) ha9 (fun e => by have := (HVB.out _ e).1; omega)); have KZ9 := hid (blk_keep HKZ.out (by (repeat' (first | (with_reducible exact Below.refl _ _) | (with_reducible assumption) | (with_reducible refine below_ext0 ?_ _ _) | (with_reducible refine below_alloc0 ?_ _) | (with_reducible refine Below.ext ?_ ?_ _ _) | (with_reducible refine Below.alloc ?_ ?_ _) | (with_reducible refine Below.setCell ?_ ?_ _) | (with_reducible refine Below.drew ?_) | (with_reducible refine below_draws ?_ _) | go_size | (simp [size_ext]; done) | (simp [size_ext]; omega)))) ha9 (fun e => by have := (HVB.out _ e).1; omega)); have LOW9 := hid (HLOW.out.trans ((show Below w.heap.size wr _ from ((show Below wr.heap.size wr _ from by (repeat' (first | (with_reducible exact Below.refl _ _) | (with_reducible assumption) | (with_reducible refine below_ext0 ?_ _ _) | (with_reducible refine below_alloc0 ?_ _) | (with_reducible refine Below.ext ?_ ?_ _ _) | (with_reducible refine Below.alloc ?_ ?_ _) | (with_reducible refine Below.setCell ?_ ?_ _) | (with_reducible refine Below.drew ?_) | (with_reducible refine below_draws ?_ _) | go_size | (simp [size_ext]; done) | (simp [size_ext]; omega)))).mono hlw)).trans (hb9.mono (by omega)))); have hsl9 := row9.slice; rw [List.length_append, HTL.out, List.length_singleton] at hsl9; obtain ⟨A6, c6, rfl⟩ := hsl9; have ROW9 := hid row9; have f9 : w9.frozen? ⟨w.heap.size + 1 + 1, 4, none⟩ = false := KO9.out.frozen 4; have l9 := KO9.out.lt; have x9 : w9.cell? ⟨w.heap.size + 1 + 1, 4, none⟩ = some (.slice AV i cV) := KO9.out.cell 4; clear ha9 row9 hb9))
          all_goals
            go_wp2
            go_roundg (2 - (i + 1))
            case measure => omega
            case rel => exact ⟨i + 1, A6, c6, oo, by omega, rfl, by go_num, HOO, by rw [HTK.out]; exact ROW9.out.set mono_node (by omega) HZ3.out 4 _, KZ9.out.far (by simp) _, by have := KO9.out.set 4 (.slice A6 (i + 1) c6); simpa using this, Below.setCell LOW9.out (by simp only; omega) _⟩
        · obtain rfl : i = 2 := by omega
          have t0 : ¬ ((2 : Nat) : Int) < 2 := by omega
          have y0 : wr.cell? ⟨w.heap.size + 1 + 1, 0, none⟩ = some (.int .i64 oo) := hko.cell 0
          have y1 : wr.cell? ⟨w.heap.size + 1 + 1, 1, none⟩ = some (.int .i64 N) := hko.cell 1
          have y2 : wr.cell? ⟨w.heap.size + 1 + 1, 2, none⟩ = some (.slice A n c) := hko.cell 2
          have y3 : wr.cell? ⟨w.heap.size + 1 + 1, 3, none⟩ = some (.slice A' n' c') := hko.cell 3
          have z0 : wr.cell? ⟨w.heap.size + 1, 0, none⟩ = some (.int .i64 0) := hkz.cell 0
          have f0 : wr.frozen? ⟨w.heap.size + 1, 0, none⟩ = false := hkz.frozen 0
          have z1 : wr.cell? ⟨w.heap.size + 1, 1, none⟩ = some (.int .i64 0) := hkz.cell 1
          have f1 : wr.frozen? ⟨w.heap.size + 1, 1, none⟩ = false := hkz.frozen 1
          have z2 : wr.cell? ⟨w.heap.size + 1, 2, none⟩ = some (.slice none 0 0) := hkz.cell 2
          have f2 : wr.frozen? ⟨w.heap.size + 1, 2, none⟩ = false := hkz.frozen 2
          have z3 : wr.cell? ⟨w.heap.size + 1, 3, none⟩ = some (.slice none 0 0) := hkz.cell 3
          have f3 : wr.frozen? ⟨w.heap.size + 1, 3, none⟩ = false := hkz.frozen 3
          have z4 : wr.cell? ⟨w.heap.size + 1, 4, none⟩ = some (.slice none 0 0) := hkz.cell 4
          have f4 : wr.frozen? ⟨w.heap.size + 1, 4, none⟩ = false := hkz.frozen 4
          clear hrow hkz hko hlow
          go_wp2
          refine bodyPost_ret (res_plain rfl (node_over _ _ _ _ _ HKZ.out)) rfl ?_
          have htx := HTX.out
          rw [htx]
          have hoo := HOO.out
          subst hoo
          have hlow := HLOW.out
          refine ⟨⟨_, _, _, _, _, _, _, _, _, _, _, rfl, over_node _ _ _ _ _ (Z := Z1) ?_ HZ1.out HZ2.out⟩, over_low _ _ _ _ _ hlow (Nat.le_succ _)⟩
          exact node_mk (t := .two (oo, N, l, ad, ()) (P a) (P b)) rfl ⟨HIX.out, HIN.out⟩ (Rd.shutL mono_str R1.out hlow hlow.size HZ4.out) (Rd.shutL mono_u8 R2.out hlow hlow.size HZ4.out) (HROW.out.rdZ rfl HZ5.out (by omega))
end Go.Proofs.YtemgbfppdopfbaaDoor
