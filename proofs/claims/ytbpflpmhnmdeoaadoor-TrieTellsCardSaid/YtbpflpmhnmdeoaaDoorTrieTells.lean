/- TrieTells is true of every input: of any puts and any addresses the program tells what the document tells. Condition: the variable errors.errorType holds what the program's text lays in it (the card ties it). -/
import Derived.Test.YtbpflpmhnmdeoaaDoorTrieH
import Derived.Test.YtbpflpmhnmdeoaaDoorLaid
namespace Go.Proofs.YtbpflpmhnmdeoaaDoor
open Go.ChangeShapes Go.WideShapes Go.ChangeAt Go.RowKit
set_option linter.unusedVariables false
namespace trieTells
theorem err_nil (w : World) (hg : Laid w) : Calls Tryd.prog 6 #[.nilIface, .int .i64 0] w fun e w' => e = .returned (.bool true) ∧ Below w.heap.size w w' := by
  simpa [errV] using error_any 0 0 w hg
theorem err_six (w : World) (hg : Laid w) : Calls Tryd.prog 6 #[.iface 28 (.int .i64 6), .int .i64 6] w fun e w' => e = .returned (.bool true) ∧ Below w.heap.size w w' := by
  simpa [errV] using error_any 6 6 w hg
/-- what a round of puts leaves -/
theorem step_no {V : Vals} {cnt : Int} {l : List UInt8} {m v : Int} (h : rightB l m = false) : stepV V l m v = V ∧ stepC V cnt l m = cnt ∧ errB l m = .iface 28 (.int .i64 6) := by
  unfold stepV stepC errB
  rw [h]
  exact ⟨rfl, rfl, rfl⟩

set_option maxRecDepth 100000 in
set_option maxHeartbeats 8000000 in
theorem walk (w : World) (hL : Laid w) (A1 : Option Addr) (n1 c1 : Nat) (ads : List (List UInt8)) (h1 : Rd (sliceR u8R) w w.heap.size A1 n1 c1 ads) (A2 : Option Addr) (n2 c2 : Nat) (ns : List Int) (h2 : Rd intR w w.heap.size A2 n2 c2 ns)
    (A3 : Option Addr) (n3 c3 : Nat) (qs : List (List UInt8)) (h3 : Rd (sliceR u8R) w w.heap.size A3 n3 c3 qs) :
    Calls Tryd.prog 4 #[.slice A1 n1 c1, .slice A2 n2 c2, .slice A3 n3 c3] w fun e w' => e = .returned (.bool true) ∧ Below w.heap.size w w' := by
  have m1 := h1.max
  have m3 := h3.max
  have k1 := h1.cap
  have k3 := h3.cap
  unfold maxLen at m1 m3
  by_cases hn1 : 60 < n1
  · have q1 : (60 : Int) < (n1 : Int) := by omega
    clear h1 h2 h3
    go_enter Tryd.func4, Tryd.ntmps4
    go_wp2
    go_ret
    exact ⟨rfl, Below.refl _ _⟩
  have q1 : ¬ (60 : Int) < (n1 : Int) := by omega
  by_cases hn3 : 60 < n3
  · have q3 : (60 : Int) < (n3 : Int) := by omega
    clear h1 h2 h3
    go_enter Tryd.func4, Tryd.ntmps4
    go_wp2
    go_ret
    exact ⟨rfl, Below.refl _ _⟩
  have q3 : ¬ (60 : Int) < (n3 : Int) := by omega
  have hlt : 0 < w.heap.size := World.block_lt_of_cell? w _ hL
  have E0 := hid fun w' (hb : Below w.heap.size w w') => err_nil w' (hL.below hb hlt)
  have E6 := hid fun w' (hb : Below w.heap.size w w') => err_six w' (hL.below hb hlt)
  obtain ⟨k, hk⟩ : ∃ k, k = min n1 n2 := ⟨_, rfl⟩
  have hk60 : k ≤ 60 := by omega
  have CB := hid fun w' (hb : Below w.heap.size w w') => begins_any hb.size (h1.below hb) (h2.below hb) k hk (by omega)
  have CT := hid (tried_true)
  have H3 := hid h3
  have ll := hid (begL_len ads ns k)
  generalize begL ads ns k = bs at *
  clear h1 h2 h3 hk hL hlt
  have tk0 : True := trivial; have tk1 : True := trivial; have tk2 : True := trivial; have tk3 : True := trivial; have tk4 : True := trivial; have tk5 : True := trivial; have tk6 : True := trivial; have tk7 : True := trivial; have tk8 : True := trivial; have tk9 : True := trivial; have tk10 : True := trivial; have tk11 : True := trivial; have tk12 : True := trivial
  go_enter Tryd.func4, Tryd.ntmps4
  go_wp2_with (first
    | (go_at_call 12; have _t := tk2; refine (new_any _).mono ?_; rintro e w1 ⟨rfl, rfl⟩; clear tk2)
    | (go_at_call 13; have _t := tk3; (with_reducible refine (CB.out _ (by (repeat' (first | (with_reducible exact Below.refl _ _) | (with_reducible assumption) | (with_reducible refine below_ext0 ?_ _ _) | (with_reducible refine below_alloc0 ?_ _) | (with_reducible refine Below.ext ?_ ?_ _ _) | (with_reducible refine Below.alloc ?_ ?_ _) | (with_reducible refine Below.setCell ?_ ?_ _) | (with_reducible refine Below.drew ?_) | (with_reducible refine below_draws ?_ _) | go_size | (simp [size_ext]; done) | (simp [size_ext]; omega))))).mono ?_); rintro e w1 ⟨A, c, rfl, hown, hb⟩; have HO := hid hown; have HB := hid hb; clear hb hown tk3))
  obtain ⟨g, hg⟩ : ∃ g, w.heap.size = g := ⟨_, rfl⟩
  have T0 := hid ((TrieAt.new w w.heap.size 79 (Nat.le_refl _) rfl).later HB.out)
  have O1 := hid (show OwnR beginR 46 w.heap.size (w.heap.size + 1) w1 (.slice A k c) bs by simpa using HO.out)
  have B1 := hid (Below.trans (by (repeat' (first | (with_reducible exact Below.refl _ _) | (with_reducible assumption) | (with_reducible refine below_ext0 ?_ _ _) | (with_reducible refine below_alloc0 ?_ _) | (with_reducible refine Below.ext ?_ ?_ _ _) | (with_reducible refine Below.alloc ?_ ?_ _) | (with_reducible refine Below.setCell ?_ ?_ _) | (with_reducible refine Below.drew ?_) | (with_reducible refine below_draws ?_ _) | go_size | (simp [size_ext]; done) | (simp [size_ext]; omega)))) (HB.out.mono (by simp)) : Below w.heap.size w w1)
  have b1s := B1.out.size
  have b1t := HB.out.size
  simp only [World.size_alloc] at b1t
  have P0 := hid (Puts.start T0.out b1s)
  have hro : Hid (∀ p b, rootN w.heap.size p = some b → w.heap.size ≤ b ∧ b < w.heap.size + 1) := fun p b e => by
    unfold rootN at e
    split at e
    · cases e; omega
    · cases e
  clear HO HB CB T0 hg
  go_loopg [9, 10] k (fun gk v9 v10 wi => ∃ (i : Nat) (N : Nodes) (ps : List BT) (A9 : Option Addr) (n9 c9 : Nat), i ≤ k ∧ gk = k - i ∧ v10 = .int .i64 (i : Int) ∧ v9 = .slice A9 n9 c9 ∧ ps.length = n9 ∧ n9 ≤ i ∧ (∀ j, j < ps.length → rightAt ps j = true) ∧ Puts w1 w.heap.size w.heap.size N (valsI ps (List.range ps.length)) (kindsK ps ps.length : Int) (.slice A9 n9 c9) ps wi)
  case atStart => exact ⟨0, _, [], none, 0, 0, Nat.zero_le _, rfl, rfl, rfl, rfl, Nat.le_refl _, fun j hj => by simp at hj, P0.out⟩
  case round =>
    obtain ⟨i, N, ps, A9, n9, c9, hi, rfl, rfl, rfl, pl, hn9, hri, hP⟩ := hrel
    have HP := hid hP
    have PL := hid pl
    have HRI := hid hri
    have hsz := hP.put.out.size
    have BW := hid (B1.out.trans (hP.put.out.below (fun p b e => (hro.out p b e).1) b1s))
    have kl := kindsK_le ps ps.length
    have kl3 : kindsK ps ps.length ≤ 60 := by omega
    rw [pl] at kl
    clear hP pl hri
    by_cases hlt : i < k
    · have g3 : (i : Int) < (k : Int) := by omega
      have il : i < bs.length := by rw [ll.out]; exact hlt
      obtain ⟨g', vs, rfl, hg1, hg2, hr, hc⟩ := O1.out.at_ i il (by decide)
      obtain ⟨x, hx⟩ : ∃ x, bs[i]'il = x := ⟨_, rfl⟩
      rw [hx] at hr
      obtain ⟨a, m, v, u⟩ := x
      obtain ⟨_, _, rfl, ⟨A', n', c', rfl, ra⟩, _, _, rfl, ⟨rfl, hm⟩, _, _, rfl, ⟨rfl, hv⟩, rfl⟩ := hr
      dsimp only at ra hm hv
      have c0 : w1.cell? ⟨g', i * 3, none⟩ = some (.slice A' n' c') := hc 0 _ rfl
      have c1' : w1.cell? ⟨g', i * 3 + 1, none⟩ = some (.int .i64 m) := hc 1 _ rfl
      have c2' : w1.cell? ⟨g', i * 3 + 2, none⟩ = some (.int .i64 v) := hc 2 _ rfl
      have kp := hid (fun (wx : World) (ho : Outside (rootN w.heap.size) w1 wx) (o : Nat) => World.cell?_of_block (w := w1) (w' := wx) (a := ⟨g', o, none⟩) (ho.block g' hg2 (root_only (by omega))))
      have e0 := (kp.out wr HP.out.put.out (i * 3)).trans c0
      have e1 := (kp.out wr HP.out.put.out (i * 3 + 1)).trans c1'
      have e2 := (kp.out wr HP.out.put.out (i * 3 + 2)).trans c2'
      have RA := hid (fun (wx : World) (ho : Outside (rootN w.heap.size) w1 wx) => ra.below (ho.below (fun p b e => (hro.out p b e).1) b1s))
      have HM := hid hm
      have HV := hid hv
      have gwr : g' < wr.heap.size := by omega
      have lima := ra.lim
      simp only [u8R, Nat.mul_one] at lima
      have CR := right_any ra.len lima (c := c') (A := A') m v hm
      have C0 := hid c0
      have C1 := hid c1'
      have C2 := hid c2'
      clear hc hx ra hm hv c0 c1' c2' il
      cases hrt : rightB a m with
      | false =>
        obtain ⟨s1, s2, s3⟩ := step_no (V := valsI ps (List.range ps.length)) (cnt := (kindsK ps ps.length : Int)) (v := v) hrt
        rw [hrt] at CR
        have CP := HP.out.call (by omega) (by omega) (RA.out wr HP.out.put.out) m HM.out v
        rw [s1, s2, s3] at CP
        have CK := fun w2 N2 (hx : Puts w1 w.heap.size w.heap.size N2 (valsI ps (List.range ps.length)) (kindsK ps ps.length : Int) (.slice A9 n9 c9) ps w2) w' (hb : Below w2.heap.size w2 w') => kinds_any (Nat.le_refl _) ((hx.later hb).own.rd' PL.out (by show n9 * 40 ≤ _; omega) (by decide)) HRI.out (by omega)
        have CL := fun w2 N2 (hx : Puts w1 w.heap.size w.heap.size N2 (valsI ps (List.range ps.length)) (kindsK ps ps.length : Int) (.slice A9 n9 c9) ps w2) w' (hb : Below w2.heap.size w2 w') => len_any (hx.later hb).put.trie
        rw [PL.out] at CP
        simp only [PL.out] at CK CL
        have D1 := hid CP
        have D2 := hid CK
        have D3 := hid CL
        have HC := hid CR
        have EE := E6
        have HRT := hid hrt
        clear CP CK CL CR hrt s1 s2 s3
        go_wp2_with (go_at_call 14; (with_reducible refine (HC.out _).mono ?_); rintro e wx ⟨rfl, hb⟩; obtain ⟨o4, d4, rfl⟩ := ext_of_below hb; clear hb)
        go_region_held3 (fun w' => w'.cell? ⟨g', i * 3, none⟩ = some (.slice A' n' c') ∧ w'.cell? ⟨g', i * 3 + 1, none⟩ = some (.int .i64 m) ∧ w'.cell? ⟨g', i * 3 + 2, none⟩ = some (.int .i64 v)) (((try dsimp only); (repeat' apply And.intro) <;> (first | assumption | (go_simp; done))))
          (first
            | (go_at_call 15; have _t := tk5; (with_reducible refine (D1.out _ (by (repeat' (first | (with_reducible exact Below.refl _ _) | (with_reducible assumption) | (with_reducible refine below_ext0 ?_ _ _) | (with_reducible refine below_alloc0 ?_ _) | (with_reducible refine Below.ext ?_ ?_ _ _) | (with_reducible refine Below.alloc ?_ ?_ _) | (with_reducible refine Below.setCell ?_ ?_ _) | (with_reducible refine Below.drew ?_) | (with_reducible refine below_draws ?_ _) | go_size | (simp [size_ext]; done) | (simp [size_ext]; omega))))).mono ?_); rintro e w2 ⟨rfl, N2, hP2⟩; have gw2 : g' < w2.heap.size := (by have := hP2.put.out.size; omega); have y0 := (kp.out w2 hP2.put.out _).trans C0.out; have y1 := (kp.out w2 hP2.put.out _).trans C1.out; have y2 := (kp.out w2 hP2.put.out _).trans C2.out; have HP2 := hid hP2; have B2 := hid (B1.out.trans (hP2.put.out.below (fun p b e => (hro.out p b e).1) b1s)); have b2s := B2.out.size; clear hP2 tk5)
            | (go_at_call 6; have _t := tk6; (with_reducible refine (EE.out _ (by have := B2.out; (repeat' (first | (with_reducible exact Below.refl _ _) | (with_reducible assumption) | (with_reducible refine below_ext0 ?_ _ _) | (with_reducible refine below_alloc0 ?_ _) | (with_reducible refine Below.ext ?_ ?_ _ _) | (with_reducible refine Below.alloc ?_ ?_ _) | (with_reducible refine Below.setCell ?_ ?_ _) | (with_reducible refine Below.drew ?_) | (with_reducible refine below_draws ?_ _) | go_size | (simp [size_ext]; done) | (simp [size_ext]; omega))))).mono ?_); rintro e w3 ⟨rfl, hb⟩; obtain ⟨o6, d6, rfl⟩ := ext_of_below hb; clear hb tk6)
            | fail)
        all_goals
          go_wp2_with (first
            | (go_at_call 16; have _t := tk7; (with_reducible refine (D3.out _ _ HP2.out _ (by (repeat' (first | (with_reducible exact Below.refl _ _) | (with_reducible assumption) | (with_reducible refine below_ext0 ?_ _ _) | (with_reducible refine below_alloc0 ?_ _) | (with_reducible refine Below.ext ?_ ?_ _ _) | (with_reducible refine Below.alloc ?_ ?_ _) | (with_reducible refine Below.setCell ?_ ?_ _) | (with_reducible refine Below.drew ?_) | (with_reducible refine below_draws ?_ _) | go_size | (simp [size_ext]; done) | (simp [size_ext]; omega))))).mono ?_); rintro e wx ⟨rfl, hw⟩; subst wx; clear tk7)
            | (go_at_call 17; have _t := tk8; (with_reducible refine (D2.out _ _ HP2.out _ (by (repeat' (first | (with_reducible exact Below.refl _ _) | (with_reducible assumption) | (with_reducible refine below_ext0 ?_ _ _) | (with_reducible refine below_alloc0 ?_ _) | (with_reducible refine Below.ext ?_ ?_ _ _) | (with_reducible refine Below.alloc ?_ ?_ _) | (with_reducible refine Below.setCell ?_ ?_ _) | (with_reducible refine Below.drew ?_) | (with_reducible refine below_draws ?_ _) | go_size | (simp [size_ext]; done) | (simp [size_ext]; omega))))).mono ?_); rintro e wx ⟨rfl, hb⟩; obtain ⟨o8, d8, rfl⟩ := ext_of_below hb; clear hb tk8))
          go_roundg (k - (i + 1))
          case measure => omega
          case rel => exact ⟨i + 1, N2, ps, A9, n9, c9, by omega, rfl, by go_num, rfl, PL.out, by omega, HRI.out, by rw [PL.out]; exact HP2.out.later (by (repeat' (first | (with_reducible exact Below.refl _ _) | (with_reducible assumption) | (with_reducible refine below_ext0 ?_ _ _) | (with_reducible refine below_alloc0 ?_ _) | (with_reducible refine Below.ext ?_ ?_ _ _) | (with_reducible refine Below.alloc ?_ ?_ _) | (with_reducible refine Below.setCell ?_ ?_ _) | (with_reducible refine Below.drew ?_) | (with_reducible refine below_draws ?_ _) | go_size | (simp [size_ext]; done) | (simp [size_ext]; omega))))⟩
      | true =>
        have ev : errB a m = .nilIface := if_pos hrt
        have mv := more_v (bs := ps) (x := (a, m, v, u)) hrt
        have mc := more_c HRI.out (x := (a, m, v, u)) hrt
        have HR2 := hid (right_more HRI.out (x := (a, m, v, u)) hrt)
        rw [hrt] at CR
        dsimp only at mv mc
        obtain ⟨qs', hqs⟩ : ∃ q, ps ++ [(a, m, v, u)] = q := ⟨_, rfl⟩
        rw [hqs] at mv mc HR2
        have hql : qs'.length = n9 + 1 := by rw [← hqs, List.length_append, PL.out]; rfl
        have kl2 := kindsK_le qs' (n9 + 1)
        rw [hql] at mv mc
        have CP := fun v' wx (hx : Puts w1 w.heap.size w.heap.size N (valsI ps (List.range ps.length)) (kindsK ps ps.length : Int) v' qs' wx) => hx.call (by omega) (by omega) (RA.out wx hx.put.out) m HM.out v
        simp only [ev, mv, mc] at CP
        have CK := fun A9 c9 w2 N2 (hx : Puts w1 w.heap.size w.heap.size N2 (valsI qs' (List.range (n9 + 1))) (kindsK qs' (n9 + 1) : Int) (.slice A9 (n9 + 1) c9) qs' w2) w' (hb : Below w2.heap.size w2 w') => kinds_any (Nat.le_refl _) ((hx.later hb).own.rd' hql (by show (n9 + 1) * 40 ≤ _; omega) (by decide)) HR2.out (by omega)
        have CL := fun A9 c9 w2 N2 (hx : Puts w1 w.heap.size w.heap.size N2 (valsI qs' (List.range (n9 + 1))) (kindsK qs' (n9 + 1) : Int) (.slice A9 (n9 + 1) c9) qs' w2) w' (hb : Below w2.heap.size w2 w') => len_any (hx.later hb).put.trie
        simp only [hql] at CK
        have D1 := hid CP
        have D2 := hid CK
        have D3 := hid CL
        have HC := hid CR
        have HQS := hid hqs
        have HQL := hid hql
        have EE := E0
        have HRT := hid hrt
        have ab1 : (ps.length + 1) * 40 ≤ 140737488355328 := by rw [PL.out]; omega
        have ab2 : ps.length + 1 ≤ maxLen := by rw [PL.out]; unfold maxLen; omega
        have AP := hid (fun (wx : World) (hb : Below wr.heap.size wr wx) => (HP.out.later hb))
        have RB := hid (fun (wx : World) (hb : Below wr.heap.size wr wx) => rel_b (RA.out wx (AP.out wx hb).put.out) HM.out HV.out)
        clear CP CK CL CR hrt mv mc hqs hql ev
        go_wp2_with (first
          | (go_at_call 14; (with_reducible refine (HC.out _).mono ?_); rintro e wx ⟨rfl, hb⟩; obtain ⟨o4, d4, rfl⟩ := ext_of_below hb; clear hb)
          | (at_builtin; refine wpList_ownX (R := beginR) (B := w.heap.size) (base := w1.heap.size) (A := some ⟨wr.heap.size + o4.size, 0, none⟩) (n := 1) (c := 1) (m := [((a, m, v, u) : BT)]) el_b rfl (.tmp 44) (.tmp 49) rfl rfl (AP.out _ (by (repeat' (first | (with_reducible exact Below.refl _ _) | (with_reducible assumption) | (with_reducible refine below_ext0 ?_ _ _) | (with_reducible refine below_alloc0 ?_ _) | (with_reducible refine Below.ext ?_ ?_ _ _) | (with_reducible refine Below.alloc ?_ ?_ _) | (with_reducible refine Below.setCell ?_ ?_ _) | (with_reducible refine Below.drew ?_) | (with_reducible refine below_draws ?_ _) | go_size | (simp [size_ext]; done) | (simp [size_ext]; omega))))).own rfl (SrcR.lit (ty := 46) (cs := #[.slice A' n' c', .int .i64 m, .int .i64 v]) (by ((repeat' (first | (with_reducible assumption) | (with_reducible refine Blk.drew ?_) | exact Blk.new' _ _ (by first | rfl | (simp [size_ext]; done) | (simp [size_ext]; omega)) | (with_reducible refine Blk.ext ?_ _ _) | (with_reducible refine Blk.alloc ?_ _))); (all_goals fail))) (RB.out _ (by (repeat' (first | (with_reducible exact Below.refl _ _) | (with_reducible assumption) | (with_reducible refine below_ext0 ?_ _ _) | (with_reducible refine below_alloc0 ?_ _) | (with_reducible refine Below.ext ?_ ?_ _ _) | (with_reducible refine Below.alloc ?_ ?_ _) | (with_reducible refine Below.setCell ?_ ?_ _) | (with_reducible refine Below.drew ?_) | (with_reducible refine below_draws ?_ _) | go_size | (simp [size_ext]; done) | (simp [size_ext]; omega))))) (by simp [Value.oneCell'])) ab1 ab2 ?_; intro v9 w9 ho9 hb9 ha9; have HP9 := hid ((AP.out _ (by (repeat' (first | (with_reducible exact Below.refl _ _) | (with_reducible assumption) | (with_reducible refine below_ext0 ?_ _ _) | (with_reducible refine below_alloc0 ?_ _) | (with_reducible refine Below.ext ?_ ?_ _ _) | (with_reducible refine Below.alloc ?_ ?_ _) | (with_reducible refine Below.setCell ?_ ?_ _) | (with_reducible refine Below.drew ?_) | (with_reducible refine below_draws ?_ _) | go_size | (simp [size_ext]; done) | (simp [size_ext]; omega))))).app ho9 ha9); clear ho9 hb9 ha9))
        have hp9 := HP9.out
        rw [HQS.out] at hp9
        have HP8 := hid hp9
        have sl := hp9.own.slice' (n := n9 + 1) HQL.out
        obtain ⟨A8, c8, rfl⟩ := sl
        have f0 := (kp.out w9 hp9.put.out _).trans C0.out
        have f1 := (kp.out w9 hp9.put.out _).trans C1.out
        have f2 := (kp.out w9 hp9.put.out _).trans C2.out
        have gw9 : g' < w9.heap.size := by have := hp9.put.out.size; omega
        have D4 := hid (D1.out _ _ hp9)
        clear hp9 HP9 D1
        go_region_held3 (fun w' => w'.cell? ⟨g', i * 3, none⟩ = some (.slice A' n' c') ∧ w'.cell? ⟨g', i * 3 + 1, none⟩ = some (.int .i64 m) ∧ w'.cell? ⟨g', i * 3 + 2, none⟩ = some (.int .i64 v)) (((try dsimp only); (repeat' apply And.intro) <;> (first | assumption | (go_simp; done))))
          (first
            | (go_at_call 15; have _t := tk5; (with_reducible refine (D4.out _ (by (repeat' (first | (with_reducible exact Below.refl _ _) | (with_reducible assumption) | (with_reducible refine below_ext0 ?_ _ _) | (with_reducible refine below_alloc0 ?_ _) | (with_reducible refine Below.ext ?_ ?_ _ _) | (with_reducible refine Below.alloc ?_ ?_ _) | (with_reducible refine Below.setCell ?_ ?_ _) | (with_reducible refine Below.drew ?_) | (with_reducible refine below_draws ?_ _) | go_size | (simp [size_ext]; done) | (simp [size_ext]; omega))))).mono ?_); rintro e w2 ⟨rfl, N2, hP2⟩; have gw2 : g' < w2.heap.size := (by have := hP2.put.out.size; omega); have y0 := (kp.out w2 hP2.put.out _).trans C0.out; have y1 := (kp.out w2 hP2.put.out _).trans C1.out; have y2 := (kp.out w2 hP2.put.out _).trans C2.out; have HP2 := hid hP2; have B2 := hid (B1.out.trans (hP2.put.out.below (fun p b e => (hro.out p b e).1) b1s)); have b2s := B2.out.size; clear hP2 tk5)
            | (go_at_call 6; have _t := tk6; (with_reducible refine (EE.out _ (by have := B2.out; (repeat' (first | (with_reducible exact Below.refl _ _) | (with_reducible assumption) | (with_reducible refine below_ext0 ?_ _ _) | (with_reducible refine below_alloc0 ?_ _) | (with_reducible refine Below.ext ?_ ?_ _ _) | (with_reducible refine Below.alloc ?_ ?_ _) | (with_reducible refine Below.setCell ?_ ?_ _) | (with_reducible refine Below.drew ?_) | (with_reducible refine below_draws ?_ _) | go_size | (simp [size_ext]; done) | (simp [size_ext]; omega))))).mono ?_); rintro e w3 ⟨rfl, hb⟩; obtain ⟨o6, d6, rfl⟩ := ext_of_below hb; clear hb tk6)
            | fail)
        all_goals
          go_wp2_with (first
            | (go_at_call 16; have _t := tk7; (with_reducible refine (D3.out _ _ _ _ HP2.out _ (by (repeat' (first | (with_reducible exact Below.refl _ _) | (with_reducible assumption) | (with_reducible refine below_ext0 ?_ _ _) | (with_reducible refine below_alloc0 ?_ _) | (with_reducible refine Below.ext ?_ ?_ _ _) | (with_reducible refine Below.alloc ?_ ?_ _) | (with_reducible refine Below.setCell ?_ ?_ _) | (with_reducible refine Below.drew ?_) | (with_reducible refine below_draws ?_ _) | go_size | (simp [size_ext]; done) | (simp [size_ext]; omega))))).mono ?_); rintro e wx ⟨rfl, hw⟩; subst wx; clear tk7)
            | (go_at_call 17; have _t := tk8; (with_reducible refine (D2.out _ _ _ _ HP2.out _ (by (repeat' (first | (with_reducible exact Below.refl _ _) | (with_reducible assumption) | (with_reducible refine below_ext0 ?_ _ _) | (with_reducible refine below_alloc0 ?_ _) | (with_reducible refine Below.ext ?_ ?_ _ _) | (with_reducible refine Below.alloc ?_ ?_ _) | (with_reducible refine Below.setCell ?_ ?_ _) | (with_reducible refine Below.drew ?_) | (with_reducible refine below_draws ?_ _) | go_size | (simp [size_ext]; done) | (simp [size_ext]; omega))))).mono ?_); rintro e wx ⟨rfl, hb⟩; obtain ⟨o8, d8, rfl⟩ := ext_of_below hb; clear hb tk8))
          go_roundg (k - (i + 1))
          case measure => omega
          case rel => exact ⟨i + 1, N2, qs', A8, n9 + 1, c8, by omega, rfl, by go_num, rfl, HQL.out, by omega, HR2.out, by rw [HQL.out]; exact HP2.out.later (by (repeat' (first | (with_reducible exact Below.refl _ _) | (with_reducible assumption) | (with_reducible refine below_ext0 ?_ _ _) | (with_reducible refine below_alloc0 ?_ _) | (with_reducible refine Below.ext ?_ ?_ _ _) | (with_reducible refine Below.alloc ?_ ?_ _) | (with_reducible refine Below.setCell ?_ ?_ _) | (with_reducible refine Below.drew ?_) | (with_reducible refine below_draws ?_ _) | go_size | (simp [size_ext]; done) | (simp [size_ext]; omega))))⟩
    · obtain rfl : i = k := by omega
      have TL := hid (fun q => long_get HRI.out q ps.length (Nat.le_refl _))
      have LT := hid (fun q j (h : longK ps q ps.length = some j) => longK_lt h)
      obtain ⟨V, hV⟩ : ∃ V, valsI ps (List.range ps.length) = V := ⟨_, rfl⟩
      obtain ⟨cn, hcn⟩ : ∃ cn, (kindsK ps ps.length : Int) = cn := ⟨_, rfl⟩
      rw [hV] at TL HP
      rw [hcn] at HP
      obtain ⟨wp, hwp⟩ : ∃ wp, wr = wp := ⟨_, rfl⟩
      rw [hwp] at HP BW hsz ⊢
      have bws := BW.out.size
      clear hwp hV hcn E0 E6
      go_wp2
      go_loopg [13] n3 (fun gk v13 wi => ∃ a : Nat, a ≤ n3 ∧ gk = n3 - a ∧ v13 = .int .i64 (a : Int) ∧ Below wp.heap.size wp wi)
      case atStart => exact ⟨0, Nat.zero_le _, rfl, rfl, Below.refl _ _⟩
      case round =>
        obtain ⟨a, ha, rfl, rfl, hlow⟩ := hrel
        have HLOW := hid hlow
        have HP3 := hid (HP.out.later hlow)
        have BW3 := hid (BW.out.trans (hlow.mono bws))
        have zw := BW3.out.size
        clear hlow
        by_cases halt : a < n3
        · have g5 : (a : Int) < (n3 : Int) := by omega
          obtain ⟨b4, o4, Aq, nq, cq, rfl, lb4, cc4, rq⟩ := (H3.out.below BW3.out).row a halt
          obtain ⟨q, hq⟩ : ∃ q, qs.getD a [] = q := ⟨_, rfl⟩
          rw [hq] at rq
          have lb4' : b4 < wr.heap.size := by omega
          have CG := fun w' (hb : Below wr.heap.size wr w') => get_ok (HP3.out.put.trie.later hb) (B := w.heap.size) (by have := hb.size; omega) (rq.below (hb.mono zw))
          have CLo := fun w' (hb : Below wr.heap.size wr w') => longest_any (Nat.le_refl _) ((HP3.out.later hb).own.rd' PL.out (by show n9 * 40 ≤ _; omega) (by decide)) HRI.out (by omega) ((rq.below (hb.mono zw)).keep (by have := hb.size; omega) (fun _ _ => rfl))
          have tl := TL.out q
          obtain ⟨best, hbest⟩ : ∃ best, longK ps q ps.length = best := ⟨_, rfl⟩
          rw [hbest] at tl CLo
          rw [tl] at CG
          cases best with
          | none =>
            simp only [tellL, longI] at CG CLo
            have D6 := hid CG
            have D7 := hid CLo
            clear CG CLo tl hq rq hbest
            go_wp2_with (first
              | (go_at_call 18; (with_reducible refine (D6.out _ (by (repeat' (first | (with_reducible exact Below.refl _ _) | (with_reducible assumption) | (with_reducible refine below_ext0 ?_ _ _) | (with_reducible refine below_alloc0 ?_ _) | (with_reducible refine Below.ext ?_ ?_ _ _) | (with_reducible refine Below.alloc ?_ ?_ _) | (with_reducible refine Below.setCell ?_ ?_ _) | (with_reducible refine Below.drew ?_) | (with_reducible refine below_draws ?_ _) | go_size | (simp [size_ext]; done) | (simp [size_ext]; omega))))).mono ?_); rintro e wx ⟨rfl, hb⟩; obtain ⟨o9, d9, rfl⟩ := ext_of_below hb; clear hb)
              | (go_at_call 19; (with_reducible refine (D7.out _ (by (repeat' (first | (with_reducible exact Below.refl _ _) | (with_reducible assumption) | (with_reducible refine below_ext0 ?_ _ _) | (with_reducible refine below_alloc0 ?_ _) | (with_reducible refine Below.ext ?_ ?_ _ _) | (with_reducible refine Below.alloc ?_ ?_ _) | (with_reducible refine Below.setCell ?_ ?_ _) | (with_reducible refine Below.drew ?_) | (with_reducible refine below_draws ?_ _) | go_size | (simp [size_ext]; done) | (simp [size_ext]; omega))))).mono ?_); rintro e wx ⟨rfl, hb⟩; obtain ⟨o10, d10, rfl⟩ := ext_of_below hb; clear hb))
            go_roundg (n3 - (a + 1))
            case measure => omega
            case rel => exact ⟨a + 1, by omega, rfl, by go_num, HLOW.out.trans ((by (repeat' (first | (with_reducible exact Below.refl _ _) | (with_reducible assumption) | (with_reducible refine below_ext0 ?_ _ _) | (with_reducible refine below_alloc0 ?_ _) | (with_reducible refine Below.ext ?_ ?_ _ _) | (with_reducible refine Below.alloc ?_ ?_ _) | (with_reducible refine Below.setCell ?_ ?_ _) | (with_reducible refine Below.drew ?_) | (with_reducible refine below_draws ?_ _) | go_size | (simp [size_ext]; done) | (simp [size_ext]; omega))) : Below wr.heap.size wr _).mono (HLOW.out.size))⟩
          | some j =>
            have jl := LT.out q j hbest
            obtain ⟨g9, vs, hA9, hg1', hg2', hr, hc⟩ := HP3.out.own.at_ j jl (by decide)
            subst hA9
            have hb1 : ps[j]'jl = bAt ps j := by unfold bAt; rw [List.getD_eq_getElem?_getD, List.getElem?_eq_getElem jl]; rfl
            have AJ := HRI.out j jl
            unfold rightAt at AJ
            rw [hb1] at hr
            obtain ⟨x, hx⟩ : ∃ x, bAt ps j = x := ⟨_, rfl⟩
            simp only [tellL, longI] at CG CLo
            rw [hx] at hr AJ CG
            obtain ⟨a', m', v, _⟩ := x
            obtain ⟨_, _, rfl, ⟨A', n', c', rfl, ra⟩, _, _, rfl, ⟨rfl, hm⟩, _, _, rfl, ⟨rfl, hv⟩, rfl⟩ := hr
            dsimp only at AJ CG
            obtain ⟨_, r2, _⟩ := of_decide_eq_true AJ
            obtain ⟨m, rfl⟩ : ∃ m : Nat, m' = (m : Int) := ⟨m'.toNat, by omega⟩
            rw [Int.toNat_natCast] at CG
            have c1' : wr.cell? ⟨g9, j * 3 + 1, none⟩ = some (.int .i64 (m : Int)) := hc 1 _ rfl
            have c2' : wr.cell? ⟨g9, j * 3 + 2, none⟩ = some (.int .i64 v) := hc 2 _ rfl
            have D6 := hid CG
            have D7 := hid CLo
            have jn : j < n9 := by have := PL.out; omega
            have g6 : (j : Int) < (n9 : Int) := by omega
            have g7 : ¬ (j : Int) < 0 := by omega
            have g8 : (0 : Int) ≤ (j : Int) := by omega
            have g7d : decide ((j : Int) < 0) = false := decide_eq_false g7
            clear CG CLo tl hq rq hbest hx hb1 hc ra hm hv AJ r2 jl
            go_wp2_with (first
              | (go_at_call 18; (with_reducible refine (D6.out _ (by (repeat' (first | (with_reducible exact Below.refl _ _) | (with_reducible assumption) | (with_reducible refine below_ext0 ?_ _ _) | (with_reducible refine below_alloc0 ?_ _) | (with_reducible refine Below.ext ?_ ?_ _ _) | (with_reducible refine Below.alloc ?_ ?_ _) | (with_reducible refine Below.setCell ?_ ?_ _) | (with_reducible refine Below.drew ?_) | (with_reducible refine below_draws ?_ _) | go_size | (simp [size_ext]; done) | (simp [size_ext]; omega))))).mono ?_); rintro e wx ⟨rfl, hb⟩; obtain ⟨o9, d9, rfl⟩ := ext_of_below hb; clear hb)
              | (go_at_call 19; (with_reducible refine (D7.out _ (by (repeat' (first | (with_reducible exact Below.refl _ _) | (with_reducible assumption) | (with_reducible refine below_ext0 ?_ _ _) | (with_reducible refine below_alloc0 ?_ _) | (with_reducible refine Below.ext ?_ ?_ _ _) | (with_reducible refine Below.alloc ?_ ?_ _) | (with_reducible refine Below.setCell ?_ ?_ _) | (with_reducible refine Below.drew ?_) | (with_reducible refine below_draws ?_ _) | go_size | (simp [size_ext]; done) | (simp [size_ext]; omega))))).mono ?_); rintro e wx ⟨rfl, hb⟩; obtain ⟨o10, d10, rfl⟩ := ext_of_below hb; clear hb))
            go_roundg (n3 - (a + 1))
            case measure => omega
            case rel => exact ⟨a + 1, by omega, rfl, by go_num, HLOW.out.trans ((by (repeat' (first | (with_reducible exact Below.refl _ _) | (with_reducible assumption) | (with_reducible refine below_ext0 ?_ _ _) | (with_reducible refine below_alloc0 ?_ _) | (with_reducible refine Below.ext ?_ ?_ _ _) | (with_reducible refine Below.alloc ?_ ?_ _) | (with_reducible refine Below.setCell ?_ ?_ _) | (with_reducible refine Below.drew ?_) | (with_reducible refine below_draws ?_ _) | go_size | (simp [size_ext]; done) | (simp [size_ext]; omega))) : Below wr.heap.size wr _).mono (HLOW.out.size))⟩
        · have bw3 := BW3.out
          go_wp2_with (go_at_call 20; have _t := tk1; refine (CT.out _).mono ?_; rintro e w1 ⟨rfl, hb⟩; obtain ⟨otk1, dtk1, rfl⟩ := ext_of_below hb; clear hb tk1)
          go_ret
          exact ⟨rfl, by (repeat' (first | (with_reducible exact Below.refl _ _) | (with_reducible assumption) | (with_reducible refine below_ext0 ?_ _ _) | (with_reducible refine below_alloc0 ?_ _) | (with_reducible refine Below.ext ?_ ?_ _ _) | (with_reducible refine Below.alloc ?_ ?_ _) | (with_reducible refine Below.setCell ?_ ?_ _) | (with_reducible refine Below.drew ?_) | (with_reducible refine below_draws ?_ _) | go_size | (simp [size_ext]; done) | (simp [size_ext]; omega)))⟩
set_option maxRecDepth 100000 in
theorem contract (H : Type) (enc : TypeId × Value → H) (W : World) (base : Nat) (args : Array Value) (ds gs : List (DataW H)) (before : List MemPlace)
    (hval : ∀ (j : Nat) t v, Tryd.f4.params[j]? = some t → args[j]? = some v → Value.okWide Tryd.prog W .any base t v)
    (hW : DataW.Whole enc Tryd.prog Tryd.f4.params.toList Rows.trieTellsSpec.vars false W args.toList ds gs before) (hsz : (DataW.weightsEach Tryd.prog (Tryd.f4.params.toList ++ Rows.trieTellsSpec.plain.varTypes Tryd.prog) (ds ++ gs)).all (· ≤ reachBytes) = true) (hL : Laid W) :
    Calls Tryd.prog 4 args W fun e W' => ∃ v, e = .returned v ∧ Rows.trieTellsSpec.post enc Tryd.prog Tryd.f4 false true false false W args v W' := by
  have hW' := hW
  obtain ⟨p, q, hA0, hV, rfl, hfz, hnd⟩ := hW
  have hA : DataW.TrodAll enc Tryd.prog W 0 (fun _ => true) true Tryd.f4.params.toList args.toList ds p := hA0
  rw [Tryd.params4] at hA hval hsz
  obtain ⟨v0, vs0, d0, ds0, p0, q0, hargs, rfl, rfl, k0, r0⟩ := trodAll_cons hA
  obtain ⟨v1, vs1, d1, ds1, p1, q1, rfl, rfl, rfl, k1, r1⟩ := trodAll_cons r0
  obtain ⟨v2, vs2, d2, ds2, p2, q2, rfl, rfl, rfl, k2, r2⟩ := trodAll_cons r1
  obtain ⟨rfl, rfl, rfl⟩ := trodAll_nil r2
  obtain rfl : args = #[v0, v1, v2] := by cases args; simp_all
  obtain ⟨rfl, rfl⟩ := trodVars_none hV
  have lt0 : ∀ x ∈ p0, x.block < W.heap.size := by obtain ⟨m, hm⟩ := k0; exact DataW.trod_lt m _ _ _ hm
  have lt1 : ∀ x ∈ p1, x.block < W.heap.size := by obtain ⟨m, hm⟩ := k1; exact DataW.trod_lt m _ _ _ hm
  have lt2 : ∀ x ∈ p2, x.block < W.heap.size := by obtain ⟨m, hm⟩ := k2; exact DataW.trod_lt m _ _ _ hm
  have hsz' : ∀ k ∈ _, k ≤ reachBytes := fun k hk => of_decide_eq_true (List.all_eq_true.1 hsz k hk)
  have u0 : ∀ k ∈ d0.weights Tryd.prog 37, k ≤ reachBytes := fun k hk => hsz' k (by simp [DataW.weightsEach, hk])
  have u1 : ∀ k ∈ d1.weights Tryd.prog 38, k ≤ reachBytes := fun k hk => hsz' k (by simp [DataW.weightsEach, hk])
  have u2 : ∀ k ∈ d2.weights Tryd.prog 37, k ≤ reachBytes := fun k hk => hsz' k (by simp [DataW.weightsEach, hk])
  obtain ⟨A0, n0, c0, l0, rfl, w0, z0⟩ := arg_slice Tryd.underlying37 (opens_slice Tryd.underlying37 (opens_slice Tryd.underlying44 (opens_u8 Tryd.underlying5) (by kernel_rfl) (by decide) (of_decide_eq_true (by kernel_rfl))) (by kernel_rfl) (by decide) (of_decide_eq_true (by kernel_rfl))) (hval 0 37 v0 rfl rfl) k0 u0
  obtain ⟨A1, n1, c1, l1, rfl, w1, z1⟩ := arg_slice Tryd.underlying38 (opens_slice Tryd.underlying38 (opens_int Tryd.underlying3) (by kernel_rfl) (by decide) (of_decide_eq_true (by kernel_rfl))) (hval 1 38 v1 rfl rfl) k1 u1
  obtain ⟨A2, n2, c2, l2, rfl, w2, z2⟩ := arg_slice Tryd.underlying37 (opens_slice Tryd.underlying37 (opens_slice Tryd.underlying44 (opens_u8 Tryd.underlying5) (by kernel_rfl) (by decide) (of_decide_eq_true (by kernel_rfl))) (by kernel_rfl) (by decide) (of_decide_eq_true (by kernel_rfl))) (hval 2 37 v2 rfl rfl) k2 u2
  clear hA0 hA
  refine (walk W hL A0 n0 c0 l0 w0 A1 n1 c1 l1 w1 A2 n2 c2 l2 w2).mono fun e W' ⟨he, bel⟩ => ?_
  subst he
  exact ⟨_, rfl, _, _, _, [], _, [], hW', trodAll_mk1 (shut_bool Tryd.underlying4 _), (trodAll_cons_mk (Below.trod laidOut (by kernel_rfl) (of_decide_eq_true (by kernel_rfl)) k0 bel lt0) (trodAll_cons_mk (Below.trod laidOut (by kernel_rfl) (of_decide_eq_true (by kernel_rfl)) k1 bel lt1) (trodAll_cons_mk (Below.trod laidOut (by kernel_rfl) (of_decide_eq_true (by kernel_rfl)) k2 bel lt2) trodAll_mk0))), rfl, bel.frame _, fun h => by cases h⟩

set_option maxRecDepth 100000 in
theorem lifted (os : Os) (started : os.Started) (H : Type) (enc : TypeId × Value → H) :
    ReturnsInHanded {} Tryd.checked os 4 .any (fun w args => (Rows.trieTellsSpec.pre enc Tryd.prog Tryd.f4 [] false w args ∧ laidMetH Tryd.prog laidL w) ∧ sizedMet enc Tryd.prog Tryd.f4 (OpenSpec.ofChange Rows.trieTellsSpec) false w args) (Rows.trieTellsSpec.post enc Tryd.prog Tryd.f4 false true false false) := by
  refine returnsInHanded_of_change_and (C := Tryd.checked) (X := fun w _ => laidMetH Tryd.prog laidL w) (fun _ _ _ hh h => h.of_heap hh) own started (by kernel_rfl) Tryd.func4
    (ChangeSpec.witness_at (enc := enc) (C := Tryd.checked) (os := os) (X := fun w _ => laidMetH Tryd.prog laidL w) false (laidWorld os) #[.slice none 0 0, .slice none 0 0, .slice none 0 0] 8 rfl (by kernel_rfl) (by kernel_rfl) (by kernel_rfl) (by kernel_rfl) (by kernel_rfl) (laidWorld_met os _)) ?_
  intro W base args ds gs before hval hW _ hsz hL _
  exact contract H enc W base args ds gs before hval hW hsz (laid_of hL)

set_option maxRecDepth 100000 in
theorem said : Rows.TrieTellsSaid :=
  OpenClaim.holds_of_wide 4 Tryd.f4 rfl rfl rfl rfl rfl rfl rfl ⟨rfl, rfl, rfl, rfl, rfl⟩ rfl rfl rfl rfl rfl (by kernel_rfl) Tryd.func4 (by kernel_rfl)
    (of_decide_eq_true (by kernel_rfl)) (by unfold Func.isWrapper; first | (rw [if_pos (by decide +kernel)]; kernel_rfl) | (rw [if_neg (by decide +kernel)]; exact ⟨rfl, rfl⟩))
    (fun os started H enc _ => lifted os started H enc)
set_option maxRecDepth 100000 in
/-- the statement: the tied card -/
theorem proved : Rows.TrieTellsCardSaid :=
  Claim7.holds_tied_plain_at .later [] [.handle] true (true, "df0c2fda799b29952eb4d8e308b8fffc052671a95d9ea74bea9bf22128061645") true said (fun _ h => by cases h) (by kernel_rfl) (fun _ h => by cases h) trieTells_row_tie rfl ⟨rfl, rfl⟩ (by kernel_rfl) rfl
    (fun f fn hf hfn => by
      obtain rfl : f = 4 := Option.some.inj ((show Tryd.prog.funcNamed "pointsman/pointsmanlaw2.TrieTells" = some 4 by kernel_rfl).symm.trans hf) |>.symm
      obtain rfl : fn = Tryd.f4 := (Option.some.inj (Tryd.func4.symm.trans hfn)).symm
      exact ⟨by kernel_rfl, fun j t ht => no_stand (by kernel_rfl) j t ht⟩)
    (by kernel_rfl)

end trieTells
end Go.Proofs.YtbpflpmhnmdeoaaDoor
