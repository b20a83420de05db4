/- A rule read as its tree. -/
import Derived.Test.YtemgbfppdopfbaaDoorRuleE0
namespace Go.Proofs.YtemgbfppdopfbaaDoor
open Go.RowKit
set_option linter.unusedVariables false
set_option linter.unusedSimpArgs false

set_option maxRecDepth 100000 in
set_option maxHeartbeats 60000000 in
theorem read_any (w : World) (A : Option Addr) (n c : Nat) (r : List MT) (h : Rd matchR w w.heap.size A n c r) :
    Calls Tryd.prog 41 #[.slice A n c] w (ReadO r w) := by
  have hm := h.max
  have hcap := h.cap
  unfold maxLen at hm
  have HR := hid h
  have HL := hid h.len
  clear h
  by_cases hlong : 200 < n
  · have ht : treeOf r = .inl 7 := by unfold treeOf; rw [if_pos (by rw [HL.out]; exact hlong)]
    have HT := hid ht
    have q1 : (200 : Int) < (n : Int) := by omega
    clear ht
    go_enter Tryd.func41, Tryd.ntmps41
    go_wp2
    exact bodyPost_ret (res_read rfl rfl (Blk.new _ _ _)) rfl (readO_no (k := 7) HT.out (by (repeat' (first | (with_reducible exact Below.refl _ _) | (with_reducible assumption) | (with_reducible refine below_ext0 ?_ _ _) | (with_reducible refine below_alloc0 ?_ _) | (with_reducible refine Below.ext ?_ ?_ _ _) | (with_reducible refine Below.alloc ?_ ?_ _) | (with_reducible refine Below.setCell ?_ ?_ _) | (with_reducible refine Below.drew ?_) | (with_reducible refine below_draws ?_ _) | go_size | (simp [size_ext]; done) | (simp [size_ext]; omega)))))
  · have q1 : ¬ (200 : Int) < (n : Int) := by omega
    have hn200 : n ≤ 200 := by omega
    have tk0 : True := trivial; have tk1 : True := trivial; have tk2 : True := trivial; have tk3 : True := trivial; have tk4 : True := trivial; have tk5 : True := trivial; have tk6 : True := trivial; have tk7 : True := trivial; have tk8 : True := trivial; have tk9 : True := trivial; have tk10 : True := trivial; have tk11 : True := trivial; have tk12 : True := trivial
    go_enter Tryd.func41, Tryd.ntmps41
    go_wp2
    have hB1 := hid (Blk.new w 86 zeroNode)
    go_loopg [19] n (fun gk v19 wi => ∃ i : Nat, i ≤ n ∧ gk = n - i ∧ v19 = .int .i64 (i : Int) ∧ Hid (∀ j (hj : j < r.length), j < i → matchErr r[j] = 0) ∧ Blk wi w.heap.size 86 zeroNode ∧ Below w.heap.size w wi)
    case atStart => exact ⟨0, Nat.zero_le _, rfl, rfl, hid fun j hj h => by omega, hB1.out, (by (repeat' (first | (with_reducible exact Below.refl _ _) | (with_reducible assumption) | (with_reducible refine below_ext0 ?_ _ _) | (with_reducible refine below_alloc0 ?_ _) | (with_reducible refine Below.ext ?_ ?_ _ _) | (with_reducible refine Below.alloc ?_ ?_ _) | (with_reducible refine Below.setCell ?_ ?_ _) | (with_reducible refine Below.drew ?_) | (with_reducible refine below_draws ?_ _) | go_size | (simp [size_ext]; done) | (simp [size_ext]; omega))))⟩
    case round =>
      obtain ⟨i, hi, rfl, rfl, h0, hB, hlow⟩ := hrel
      have HB := hid hB
      have HLOW := hid hlow
      have hzw := hlow.size
      have gl := hB.lt
      clear hB hlow
      by_cases hlt : i < n
      · obtain ⟨b, o, A1, n1, c1, A2, n2, c2, op, N, l, ad, rfl, hb, e1, k0, k1, k2, k3, r1, r2, hi64⟩ := (HR.out.later HLOW.out).match_ i hlt
        have hil : i < r.length := by rw [HL.out]; exact hlt
        have CN := hid fun (w' : World) (hb : Below wr.heap.size wr w') => node1_any w' op N (r1.later hb) (r2.later hb)
        have t0 : (i : Int) < (n : Int) := by omega
        rw [← e1] at CN
        obtain ⟨E, hE⟩ : ∃ E, matchErr (r[i]'hil) = E := ⟨_, rfl⟩
        rw [hE] at CN
        have HE := hid hE
        clear r1 r2 hi64 e1 hE
        by_cases hE0 : E = 0
        · subst hE0
          rw [eV_zero] at CN
          have H0 := hid (show ∀ j (hj : j < r.length), j < i + 1 → matchErr r[j] = 0 from fun j hj h => by
            by_cases e : j = i
            · subst e; exact HE.out
            · exact h0.out j hj (by omega))
          go_wp2_with (go_at_call 55; have _t := tk1; (with_reducible refine (CN.out _ (by (repeat' (first | (with_reducible exact Below.refl _ _) | (with_reducible assumption) | (with_reducible refine below_ext0 ?_ _ _) | (with_reducible refine below_alloc0 ?_ _) | (with_reducible refine Below.ext ?_ ?_ _ _) | (with_reducible refine Below.alloc ?_ ?_ _) | (with_reducible refine Below.setCell ?_ ?_ _) | (with_reducible refine Below.drew ?_) | (with_reducible refine below_draws ?_ _) | go_size | (simp [size_ext]; done) | (simp [size_ext]; omega))))).mono ?_); rintro e w1 ⟨rfl, hb⟩; obtain ⟨otk1, dtk1, rfl⟩ := ext_of_below hb; clear hb tk1)
          go_roundg (n - (i + 1))
          case measure => omega
          case rel =>
            have hlw := HLOW.out
            exact ⟨i + 1, by omega, rfl, by go_num, H0, (HB.out.alloc _).ext _ _, by (repeat' (first | (with_reducible exact Below.refl _ _) | (with_reducible assumption) | (with_reducible refine below_ext0 ?_ _ _) | (with_reducible refine below_alloc0 ?_ _) | (with_reducible refine Below.ext ?_ ?_ _ _) | (with_reducible refine Below.alloc ?_ ?_ _) | (with_reducible refine Below.setCell ?_ ?_ _) | (with_reducible refine Below.drew ?_) | (with_reducible refine below_draws ?_ _) | go_size | (simp [size_ext]; done) | (simp [size_ext]; omega)))⟩
        · rw [eV_ne hE0] at CN
          have HT := hid (show treeOf r = .inl E from by
            unfold treeOf
            have hme := matches_at hil (fun j hj h => h0.out j hj h) (by rw [HE.out]; exact hE0)
            rw [if_neg (by rw [HL.out]; omega), hme, HE.out, if_pos hE0])
          have HEE := hid (eV_ne hE0)
          go_wp2_with (go_at_call 55; have _t := tk1; (with_reducible refine (CN.out _ (by (repeat' (first | (with_reducible exact Below.refl _ _) | (with_reducible assumption) | (with_reducible refine below_ext0 ?_ _ _) | (with_reducible refine below_alloc0 ?_ _) | (with_reducible refine Below.ext ?_ ?_ _ _) | (with_reducible refine Below.alloc ?_ ?_ _) | (with_reducible refine Below.setCell ?_ ?_ _) | (with_reducible refine Below.drew ?_) | (with_reducible refine below_draws ?_ _) | go_size | (simp [size_ext]; done) | (simp [size_ext]; omega))))).mono ?_); rintro e w1 ⟨rfl, hb⟩; have kz : Blk w1 w.heap.size 86 zeroNode := (hb.block _ (by simp; omega)).trans (HB.out.alloc _); have hzl := kz.lt; have z0 : w1.cell? ⟨w.heap.size, 0, none⟩ = some (.int .i64 0) := kz.cell 0; have f0 : w1.frozen? ⟨w.heap.size, 0, none⟩ = false := kz.frozen 0; have z1 : w1.cell? ⟨w.heap.size, 1, none⟩ = some (.int .i64 0) := kz.cell 1; have f1 : w1.frozen? ⟨w.heap.size, 1, none⟩ = false := kz.frozen 1; have z2 : w1.cell? ⟨w.heap.size, 2, none⟩ = some (.slice none 0 0) := kz.cell 2; have f2 : w1.frozen? ⟨w.heap.size, 2, none⟩ = false := kz.frozen 2; have z3 : w1.cell? ⟨w.heap.size, 3, none⟩ = some (.slice none 0 0) := kz.cell 3; have f3 : w1.frozen? ⟨w.heap.size, 3, none⟩ = false := kz.frozen 3; have z4 : w1.cell? ⟨w.heap.size, 4, none⟩ = some (.slice none 0 0) := kz.cell 4; have f4 : w1.frozen? ⟨w.heap.size, 4, none⟩ = false := kz.frozen 4; have KZ := hid kz; have LW := hid (HLOW.out.trans ((show Below w.heap.size wr _ from (by (repeat' (first | (with_reducible exact Below.refl _ _) | (with_reducible assumption) | (with_reducible refine below_ext0 ?_ _ _) | (with_reducible refine below_alloc0 ?_ _) | (with_reducible refine Below.ext ?_ ?_ _ _) | (with_reducible refine Below.alloc ?_ ?_ _) | (with_reducible refine Below.setCell ?_ ?_ _) | (with_reducible refine Below.drew ?_) | (with_reducible refine below_draws ?_ _) | go_size | (simp [size_ext]; done) | (simp [size_ext]; omega))))).trans (hb.mono (by simp; omega)))); clear hb kz tk1)
          have hlw := LW.out
          exact bodyPost_ret (res_read rfl rfl (node_over _ _ _ _ _ KZ.out)) rfl (by rw [← HEE.out]; exact readO_no HT.out (by (repeat' (first | (with_reducible exact Below.refl _ _) | (with_reducible assumption) | (with_reducible refine below_ext0 ?_ _ _) | (with_reducible refine below_alloc0 ?_ _) | (with_reducible refine Below.ext ?_ ?_ _ _) | (with_reducible refine Below.alloc ?_ ?_ _) | (with_reducible refine Below.setCell ?_ ?_ _) | (with_reducible refine Below.drew ?_) | (with_reducible refine below_draws ?_ _) | go_size | (simp [size_ext]; done) | (simp [size_ext]; omega)))))
      · obtain rfl : i = n := by omega
        have HM := hid (show matchesErr r = 0 from matchesErr_zero.2 fun m hm => by
          obtain ⟨j, hj, rfl⟩ := List.getElem_of_mem hm
          exact h0.out j hj (by have := HL.out; omega))
        obtain ⟨wl, hwl⟩ : ∃ wl, wr = wl := ⟨_, rfl⟩
        rw [hwl] at HB HLOW gl hzw ⊢
        clear hwl h0 hB1
        go_wp2
        go_loopg [7, 32] i (fun gk v7 v32 wi => ∃ (k : Nat) (st : List Tree) (A7 : Option Addr) (n7 c7 : Nat), k ≤ i ∧ gk = i - k ∧ v32 = .int .i64 (k : Int) ∧ v7 = .slice A7 n7 c7 ∧ n7 ≤ k ∧ Hid (st.length = n7) ∧ Hid (stackT (r.take k) [] = some st) ∧ HRow (fun i => decide (i = w.heap.size)) nodeR 86 (w.heap.size + 1) wi (.slice A7 n7 c7) st ∧ Blk wi w.heap.size 86 zeroNode ∧ Below w.heap.size w wi)
        case atStart => exact ⟨0, [], none, 0, 0, Nat.zero_le _, rfl, rfl, rfl, Nat.le_refl _, hid rfl, hid rfl, HRow.nil, HB.out, HLOW.out⟩
        case round =>
          obtain ⟨k, st, A7, n7, c7, hk, rfl, rfl, rfl, hn7, hsl, hst, hrow, hB, hlow⟩ := hrel
          have z0 : wr.cell? ⟨w.heap.size, 0, none⟩ = some (.int .i64 0) := hB.cell 0
          have f0 : wr.frozen? ⟨w.heap.size, 0, none⟩ = false := hB.frozen 0
          have z1 : wr.cell? ⟨w.heap.size, 1, none⟩ = some (.int .i64 0) := hB.cell 1
          have f1 : wr.frozen? ⟨w.heap.size, 1, none⟩ = false := hB.frozen 1
          have z2 : wr.cell? ⟨w.heap.size, 2, none⟩ = some (.slice none 0 0) := hB.cell 2
          have f2 : wr.frozen? ⟨w.heap.size, 2, none⟩ = false := hB.frozen 2
          have z3 : wr.cell? ⟨w.heap.size, 3, none⟩ = some (.slice none 0 0) := hB.cell 3
          have f3 : wr.frozen? ⟨w.heap.size, 3, none⟩ = false := hB.frozen 3
          have z4 : wr.cell? ⟨w.heap.size, 4, none⟩ = some (.slice none 0 0) := hB.cell 4
          have f4 : wr.frozen? ⟨w.heap.size, 4, none⟩ = false := hB.frozen 4
          have HB2 := hid hB
          have HLOW2 := hid hlow
          have HROW := hid hrow
          have hzw2 := hlow.size
          have gl2 := hB.lt
          clear hB hlow hrow
          by_cases hlt2 : k < i
          · obtain ⟨b, o, A1, n1, c1, A2, n2, c2, op, N, l, ad, rfl, hb, e1, k0, k1, k2, k3, r1, r2, hi64⟩ := (HR.out.below HLOW2.out).match_ k hlt2
            have hil : k < r.length := by rw [HL.out]; exact hlt2
            have CT := hid (takes_any op)
            have t0 : (k : Int) < (i : Int) := by omega
            have ht2 : takesN op ≤ 2 := by unfold takesN; split; · omega
                                           split <;> omega
            obtain ⟨tk, htk⟩ : ∃ tk, takesN op = tk := ⟨_, rfl⟩
            rw [htk] at CT ht2
            have HE1 := hid e1
            have R1 := hid r1
            have R2 := hid r2
            have HTK := hid htk
            clear e1 r1 r2 htk
            by_cases hfew : n7 < tk
            · have HT := hid (show treeOf r = .inl 1 from by
                have hp : pushT (r[k]'hil) st = none := by
                  unfold pushT
                  rw [HE1.out]
                  simp only [HTK.out, hsl.out]
                  rw [if_neg (by omega)]
                have hs := stack_step hil hst.out
                rw [hp] at hs
                have hn := stack_none hs
                unfold treeOf
                rw [if_neg (by rw [HL.out]; omega), if_neg (by rw [HM.out]; simp), hn])
              have t1 : (n7 : Int) - (tk : Int) < 0 := by omega
              have v1 : IntKind.i64.wrap ((n7 : Int) - (tk : Int)) = (n7 : Int) - (tk : Int) := IntWalk.i64_in _ (by omega)
              go_wp2_with (go_at_call 56; have _t := tk2; (with_reducible refine (CT.out _).mono ?_); rintro e w1 ⟨rfl, hw⟩; subst w1; clear tk2)
              (try simp only [Exit.inBlock, Exit.then])
              have hlw := HLOW2.out
              exact bodyPost_ret (res_read rfl rfl ((node_over _ _ _ _ _ HB2.out).alloc _)) rfl (readO_no (k := 1) HT.out (by (repeat' (first | (with_reducible exact Below.refl _ _) | (with_reducible assumption) | (with_reducible refine below_ext0 ?_ _ _) | (with_reducible refine below_alloc0 ?_ _) | (with_reducible refine Below.ext ?_ ?_ _ _) | (with_reducible refine Below.alloc ?_ ?_ _) | (with_reducible refine Below.setCell ?_ ?_ _) | (with_reducible refine Below.drew ?_) | (with_reducible refine below_draws ?_ _) | go_size | (simp [size_ext]; done) | (simp [size_ext]; omega)))))
            · obtain ⟨K, hK⟩ : ∃ K, n7 - tk = K := ⟨_, rfl⟩
              have hKn : K ≤ n7 := by omega
              have hKi : (n7 : Int) - (tk : Int) = (K : Int) := by omega
              have t1 : ¬ (n7 : Int) - (tk : Int) < 0 := by omega
              have v1 : IntKind.i64.wrap ((n7 : Int) - (tk : Int)) = (K : Int) := by rw [IntWalk.i64_in _ (by omega), hKi]
              have t2 : ¬ (K : Int) < 0 := by omega
              obtain ⟨S, ys, hs1, hsrc, hrels⟩ := HROW.out.tail hsl.out hKn
              have hs2 := HROW.out.upto hsl.out hKn
              have hcut := HROW.out.cut hsl.out hKn
              have hdl : (st.drop K).length = n7 - K := by rw [List.length_drop, hsl.out]
              have HSRC := hid hsrc
              have hbz : blkZ (fun i => decide (i = w.heap.size)) (.slice A7 n7 c7) = blkZ (fun i => decide (i = w.heap.size)) (.slice A7 K c7) := by cases A7 <;> rfl
              rw [hbz] at hrels
              have HRELS := hid hrels
              have HCUT := hid hcut
              have HDL := hid hdl
              have hq : n7 - K = tk := by omega
              rw [hq] at hs1 hsrc HSRC HDL
              have HS1 := hid hs1
              have HS2 := hid hs2
              have HST2 := hid (show stackT (r.take (k + 1)) [] = some (st.take K ++ [mkT (op, N, l, ad, ()) (st.drop K)]) by
                rw [stack_step hil hst.out, HE1.out]
                unfold pushT
                simp only [HTK.out, hsl.out]
                rw [if_pos (by omega), hK])
              have CC := hid fun (w' : World) (hb : Below wr.heap.size wr w') => clone_nodes w' S tk (c7 - K) ys (HSRC.out.later hb) (by omega)
              clear hsrc hrels hcut hdl hq hK
              go_wp2_with (go_at_call 56; have _t := tk2; (with_reducible refine (CT.out _).mono ?_); rintro e w1 ⟨rfl, hw⟩; subst w1; clear tk2)
              go_region_held3 (fun w' => w'.cell? ⟨wr.heap.size, 0, none⟩ = some (.int .i64 op) ∧ w'.cell? ⟨wr.heap.size, 1, none⟩ = some (.int .i64 N) ∧ w'.cell? ⟨wr.heap.size, 2, none⟩ = some (.slice A1 n1 c1) ∧ w'.cell? ⟨wr.heap.size, 3, none⟩ = some (.slice A2 n2 c2)) (((try dsimp only); (repeat' apply And.intro) <;> (first | assumption | (go_simp; done))))
                (first
                  | (go_at_call 57; have _t := tk3; (with_reducible refine (CC.out _ (by (repeat' (first | (with_reducible exact Below.refl _ _) | (with_reducible assumption) | (with_reducible refine below_ext0 ?_ _ _) | (with_reducible refine below_alloc0 ?_ _) | (with_reducible refine Below.ext ?_ ?_ _ _) | (with_reducible refine Below.alloc ?_ ?_ _) | (with_reducible refine Below.setCell ?_ ?_ _) | (with_reducible refine Below.drew ?_) | (with_reducible refine below_draws ?_ _) | go_size | (simp [size_ext]; done) | (simp [size_ext]; omega))))).mono ?_); rintro e w3 ⟨v, rfl, ho, hb⟩; obtain ⟨A9, c9, rfl, _⟩ := own_slice ho; obtain ⟨o3, d3, rfl⟩ := ext_of_below hb; have HO3 := hid (own_outs ho); clear ho hb tk3)
                  | fail)
              all_goals
                go_wp2_with fail
                have hz2 := hid (fun g (hg : (Value.slice A7 K c7).ownBlock = some g) => HCUT.out.blk hg)
                have hlt9 : (st.take K).length = K := by rw [List.length_take, hsl.out]; omega
                have ab1 : ((st.take K).length + 1) * 88 ≤ 140737488355328 := by omega
                have ab2 : (st.take K).length + 1 ≤ maxLen := by unfold maxLen; omega
                go_region_law (refine step_hrow mono_node el_node HCUT.out (mkT (op, N, l, ad, ()) (st.drop K)) [.int .i64 op, .int .i64 N, .slice A1 n1 c1, .slice A2 n2 c2, .slice A9 tk c9] rfl (.tmp 54) (.tmp 56) rfl rfl rfl ?_ ?_ ?_ ab1 ab2 ?_ ?_; (focus (repeat' (first | (with_reducible exact Below.refl _ _) | (with_reducible assumption) | (with_reducible refine below_ext0 ?_ _ _) | (with_reducible refine below_alloc0 ?_ _) | (with_reducible refine Below.ext ?_ ?_ _ _) | (with_reducible refine Below.alloc ?_ ?_ _) | (with_reducible refine Below.setCell ?_ ?_ _) | (with_reducible refine Below.drew ?_) | (with_reducible refine below_draws ?_ _) | go_size | (simp [size_ext]; done) | (simp [size_ext]; omega)))); (first | (exact (src_lit #[.int .i64 op, .int .i64 N, .slice A1 n1 c1, .slice A2 n2 c2, .slice A9 tk c9] rfl (by simp [Value.oneCell']) (by first | rfl | (simp [size_ext]; done) | (simp [size_ext]; omega)))) | (exact Src.drewX (src_lit #[.int .i64 op, .int .i64 N, .slice A1 n1 c1, .slice A2 n2 c2, .slice A9 tk c9] rfl (by simp [Value.oneCell']) (by first | rfl | (simp [size_ext]; done) | (simp [size_ext]; omega))))); (refine push_at' HDL.out R1.out R2.out hi64 HTK.out hzw2 hz2.out HRELS.out ?_ gl2 ?_; (focus (repeat' (first | (with_reducible exact Below.refl _ _) | (with_reducible assumption) | (with_reducible refine below_ext0 ?_ _ _) | (with_reducible refine below_alloc0 ?_ _) | (with_reducible refine Below.ext ?_ ?_ _ _) | (with_reducible refine Below.alloc ?_ ?_ _) | (with_reducible refine Below.setCell ?_ ?_ _) | (with_reducible refine Below.drew ?_) | (with_reducible refine below_draws ?_ _) | go_size | (simp [size_ext]; done) | (simp [size_ext]; omega)))); (refine ⟨_, ?_, HO3.out _ ?_⟩; (focus (first | exact Nat.le_refl _ | (simp [size_ext, World.drew]; done) | (simp [size_ext, World.drew]; omega))); (repeat' (first | (with_reducible refine OutAt.alloc ?_ ?_ _) | (with_reducible refine OutAt.drew ?_) | (with_reducible refine OutAt.base ?_ _) | (with_reducible refine OutAt.ext ?_ ?_ _ _) | (with_reducible exact Nat.le_refl _) | (simp [size_ext, World.drew]; done) | (simp [size_ext, World.drew]; omega))))); (omega); intro v9 w9 row9 ha9 hb9; have KB9 := hid (blk_keep HB2.out (by (repeat' (first | (with_reducible exact Below.refl _ _) | (with_reducible assumption) | (with_reducible refine below_ext0 ?_ _ _) | (with_reducible refine below_alloc0 ?_ _) | (with_reducible refine Below.ext ?_ ?_ _ _) | (with_reducible refine Below.alloc ?_ ?_ _) | (with_reducible refine Below.setCell ?_ ?_ _) | (with_reducible refine Below.drew ?_) | (with_reducible refine below_draws ?_ _) | go_size | (simp [size_ext]; done) | (simp [size_ext]; omega)))) ha9 (fun e => by have := (hz2.out _ e).1; omega)); have LOW9 := hid (HLOW2.out.trans ((show Below w.heap.size wr _ from (by (repeat' (first | (with_reducible exact Below.refl _ _) | (with_reducible assumption) | (with_reducible refine below_ext0 ?_ _ _) | (with_reducible refine below_alloc0 ?_ _) | (with_reducible refine Below.ext ?_ ?_ _ _) | (with_reducible refine Below.alloc ?_ ?_ _) | (with_reducible refine Below.setCell ?_ ?_ _) | (with_reducible refine Below.drew ?_) | (with_reducible refine below_draws ?_ _) | go_size | (simp [size_ext]; done) | (simp [size_ext]; omega))))).trans (hb9.mono (by omega)))); have hsl9 := row9.slice; rw [List.length_append, hlt9, List.length_singleton] at hsl9; obtain ⟨A8, c8, rfl⟩ := hsl9; have ROW9 := hid row9; clear ha9 row9 hb9)
                all_goals
                  go_wp2
                  go_roundg (i - (k + 1))
                  case measure => omega
                  case rel => exact ⟨k + 1, _, A8, K + 1, c8, by omega, rfl, by go_num, rfl, by omega, hid (by rw [List.length_append, hlt9]; rfl), HST2, ROW9.out, KB9.out, LOW9.out⟩
          · obtain rfl : k = i := by omega
            have hfull : stackT r [] = some st := by
              have := hst.out
              rwa [List.take_of_length_le (by rw [HL.out]; exact Nat.le_refl _)] at this
            have t0 : ¬ (k : Int) < (k : Int) := by omega
            by_cases hone : n7 = 1
            · subst hone
              obtain ⟨t, rfl⟩ : ∃ t, st = [t] := by
                match st, hsl.out with
                | [t], _ => exact ⟨t, rfl⟩
              have HT := hid (show treeOf r = .inr t from by
                unfold treeOf
                rw [if_neg (by rw [HL.out]; omega), if_neg (by rw [HM.out]; simp), hfull])
              obtain ⟨xs, ho, hrl⟩ := HROW.out
              obtain ⟨g7, cap, cur, e7, hb7, hh7, hrest⟩ : ∃ g cap cur, Value.slice A7 1 c7 = .slice (some ⟨g, 0, none⟩) 1 cap ∧ w.heap.size + 1 ≤ g ∧ wr.heap[g]? = some (.cells cur 86) ∧ True := by
                rcases ho.2 with ⟨e0, e9⟩ | ⟨g', cap', cur, e0, hb, hh, _⟩
                · cases e0
                · exact ⟨g', cap', cur, e0, hb, hh, trivial⟩
              cases e7
              have hg7 := ho.lt g7 rfl
              obtain ⟨vss, v1, hx, v2⟩ := hrl
              match vss, v1 with
              | [vs], _ =>
                have hnode := v2 0 (by simp) (by simp)
                simp only [List.getElem_cons_zero] at hnode
                obtain ⟨B1, m1, d1, B2, m2, d2, op, N, l, ad, B3, m3, d3, _, rfl, _⟩ := node_of hnode
                simp only [List.flatten_cons, List.flatten_nil, List.append_nil] at hx
                subst hx
                have y0 : wr.cell? ⟨g7, 0, none⟩ = some (.int .i64 op) := by simpa [add_none] using ho.cells (g := g7) rfl 0 _ rfl
                have y1 : wr.cell? ⟨g7, 1, none⟩ = some (.int .i64 N) := by simpa [add_none] using ho.cells (g := g7) rfl 1 _ rfl
                have y2 : wr.cell? ⟨g7, 2, none⟩ = some (.slice B1 m1 d1) := by simpa [add_none] using ho.cells (g := g7) rfl 2 _ rfl
                have y3 : wr.cell? ⟨g7, 3, none⟩ = some (.slice B2 m2 d2) := by simpa [add_none] using ho.cells (g := g7) rfl 3 _ rfl
                have y4 : wr.cell? ⟨g7, 4, none⟩ = some (.slice B3 m3 d3) := by simpa [add_none] using ho.cells (g := g7) rfl 4 _ rfl
                have HN := hid hnode
                have g7lt := hg7.2
                have g7ne : w.heap.size ≠ g7 := by omega
                have g7ne' : g7 ≠ w.heap.size := by omega
                clear hnode v2 ho hh7 hrest hfull hst hsl HROW
                go_wp2
                (try simp only [Exit.inBlock, Exit.then])
                refine bodyPost_ret (res_read rfl rfl (node_over _ _ _ _ _ HB2.out)) rfl ?_
                unfold ReadO
                rw [HT.out]
                have hlw := HLOW2.out
                exact ⟨⟨_, rfl, node_unshut (Z := noZ) (over_node _ _ _ _ _ HN.out (by unfold blkZ; simp) fun i _ => rfl)⟩, over_low _ _ _ _ _ hlw (Nat.le_refl _)⟩
            · have HT := hid (show treeOf r = .inl 1 from by
                unfold treeOf
                rw [if_neg (by rw [HL.out]; omega), if_neg (by rw [HM.out]; simp), hfull]
                match st, hsl.out with
                | [], _ => rfl
                | [t], h => exact absurd h.symm hone
                | a :: b :: q, _ => rfl)
              have t1 : ((n7 : Int) == 1) = false := beq_eq_false_iff_ne.2 (by omega)
              have t2 : ¬ (n7 : Int) = 1 := by omega
              have t3 : (n7 == 1) = false := beq_eq_false_iff_ne.2 hone
              clear hfull
              go_wp2
              (try simp only [Exit.inBlock, Exit.then])
              have hlw := HLOW2.out
              exact bodyPost_ret (res_read rfl rfl (node_over _ _ _ _ _ HB2.out)) rfl (readO_no (k := 1) HT.out (by (repeat' (first | (with_reducible exact Below.refl _ _) | (with_reducible assumption) | (with_reducible refine below_ext0 ?_ _ _) | (with_reducible refine below_alloc0 ?_ _) | (with_reducible refine Below.ext ?_ ?_ _ _) | (with_reducible refine Below.alloc ?_ ?_ _) | (with_reducible refine Below.setCell ?_ ?_ _) | (with_reducible refine Below.drew ?_) | (with_reducible refine below_draws ?_ _) | go_size | (simp [size_ext]; done) | (simp [size_ext]; omega)))))
end Go.Proofs.YtemgbfppdopfbaaDoor
