/- TailTells is true of every input of at most 1,048,576 bytes in all (the second form): of any names and any labels the program tells what the document tells. Conditions: the bound on what comes in, which the second form states; the variable errors.errorType holds what the program's text lays in it (the card ties it). -/
import Derived.Test.YtemgbfppdopfbaaDoorTailD
import Derived.Test.YtemgbfppdopfbaaDoorNameRef
import Derived.Test.YtemgbfppdopfbaaDoorLaid
import Derived.Deep.DeepHandedRow
namespace Go.Proofs.YtemgbfppdopfbaaDoor
open Go.ChangeShapes Go.WideShapes Go.ChangeAt Go.RowKit
set_option linter.unusedVariables false
set_option linter.unusedSimpArgs false
namespace tailTells
theorem sz_lsum (l : List ByteArray) : (sliceR strR).sz l = lsum l + 1 := rfl
theorem sz_mem {ns : List (List ByteArray)} {i : Nat} : lsum (ns.getD i []) ≤ (sliceR (sliceR strR)).sz ns := by
  show _ ≤ (ns.map (sliceR strR).sz).sum + 1
  rw [List.getD_eq_getElem?_getD]
  by_cases hi : i < ns.length
  · rw [List.getElem?_eq_getElem hi]
    have h1 : ∀ (l : List (List ByteArray)), ∀ q ∈ l, lsum q ≤ (l.map (sliceR strR).sz).sum := by
      intro l
      induction l with
      | nil => intro q hq; cases hq
      | cons a l ih =>
        intro q hq
        rw [List.map_cons, List.sum_cons]
        rcases List.mem_cons.1 hq with rfl | hq
        · rw [sz_lsum]; omega
        · have := ih q hq; omega
    have := h1 ns ns[i] (List.getElem_mem hi)
    simp only [Option.getD_some]
    omega
  · rw [List.getElem?_eq_none (by omega)]
    simp [lsum]
theorem wpList_ownX {α : Type} {P : Program} {R : Rep α} {e t : TypeId} {bytes B base : Nat} {v : Value} {l m : List α} {w : World} {ops : Array Oper} {rest : List Oper} {o : Oper} {a : Act} {Q : Exit → Act → World → Prop} (E : El P t e R.k bytes) (hgd : o.guard = none) (s x : Operand) (hop : o.op = .call { callee := .builtin .append, args := #[s, x], argTypes := #[t, t] })
    (hs : a.eval s = v) (hv : OwnR R e B base w v l) {A : Option Addr} {n c : Nat} (hx : a.eval x = .slice A n c) (hm : SrcR R B w A n c m) (hbytes : (l.length + n) * bytes ≤ 140737488355328) (h63 : l.length + n ≤ maxLen)
    (h : ∀ v' w', OwnR R e B base w' v' (l ++ m) → Below base w w' → AppTo w w' v v' → wpList P ops Q rest (a.put o.dst v') w') : wpList P ops Q (o :: rest) a w := by
  obtain ⟨⟨xs, h1, h2⟩, h0, h3⟩ := hv
  obtain ⟨⟨ys, h4, h5⟩, rfl⟩ := hm
  exact wpList_appT hgd s x t hop base e R.k bytes E v l.length xs hs h1 A _ c ys hx h4 hbytes h63 h3 fun v' w' ho ha => h v' w' (OwnR.app h2 h1 h0 h3 h5 ho ha) (ha.below h1 h3) ha
theorem getT_some {es : List EndT} : ∀ {l : List ByteArray} {i k : Nat}, getT es l = some (i, k) → i < es.length ∧ k = (es.getD i ([], 0, ())).1.length
  | [], i, k, h => by
    rw [getT] at h
    cases hl : lastFor es [] with
    | none => rw [hl] at h; cases h
    | some x =>
      rw [hl] at h
      cases h
      obtain ⟨hi, h1, _⟩ := lastFor_some hl
      refine ⟨hi, ?_⟩
      rw [List.getD_eq_getElem?_getD, List.getElem?_eq_getElem hi]
      exact sameL_len h1
  | a :: l, i, k, h => by
    rw [getT] at h
    cases hl : lastFor es (a :: l) with
    | none => rw [hl] at h; exact getT_some h
    | some x =>
      rw [hl] at h
      cases h
      obtain ⟨hi, h1, _⟩ := lastFor_some hl
      refine ⟨hi, ?_⟩
      rw [List.getD_eq_getElem?_getD, List.getElem?_eq_getElem hi]
      exact sameL_len h1
theorem last_det {w : World} {A : Option Addr} {n c : Nat} {es : List EndT} (h : Rd endR w w.heap.size A n c es) {Aq : Option Addr} {nq cq : Nat} {q : List ByteArray} (hq : Rd strR w w.heap.size Aq nq cq q) {g : Option (Nat × Nat)} (hg : getT es q = g) :
    Calls Tryd.prog 19 #[.slice A n c, .slice Aq nq cq] w fun e w' => e = .returned (.int .i64 (lastI (g.map Prod.fst))) ∧ Below w.heap.size w w' :=
  (last_any h hq).mono fun e w' ⟨o, hb, he, hb2⟩ => by
    refine ⟨?_, hb2⟩
    rw [← hg, best_get hb, he]
    cases o <;> rfl
theorem own_map {α : Type} {R : Rep α} {e : TypeId} {B base b : Nat} {w w' : World} {v : Value} {l : List α} (h : OwnR R e B base w v l) (hg : w.grownBy w' (some b)) (hb1 : B ≤ b) (hb2 : b < base) : OwnR R e B base w' v l := by
  obtain ⟨⟨xs, h1, h2⟩, h0, h3⟩ := h
  have hB : Below B w w' := (Below.refl _ _).grown hg (Nat.le_trans h0 h3) fun k e => by cases e; exact hb1
  refine ⟨⟨xs, h1.kept hg ?_, h2.below hB⟩, h0, Nat.le_trans h3 hg.size⟩
  cases e : v.ownBlock with
  | none => exact .inl rfl
  | some k =>
    right
    have := (h1.lt k e).1
    intro h
    cases h
    omega
theorem tail_app {w w' : World} {g b B base : Nat} {es l : List EndT} {v v' : Value} (h : TailS w g b es) (ho : OwnR endR 41 B base w v l) (ha : AppTo w w' v v') (h1 : g < base) (h2 : b < base) : TailS w' g b es := by
  obtain ⟨⟨xs, hx, _⟩, _⟩ := ho
  refine h.kept ha.grown ?_ ?_
  · intro e
    have := (hx.lt g e.symm).1
    omega
  · intro e
    have := (hx.lt b e.symm).1
    omega
theorem put_bad {es : List EndT} {l : List ByteArray} {v : Int} (h : nameErr l ≠ 0) : putE es l v = es := if_neg h
theorem put_ok {es : List EndT} {l : List ByteArray} {v : Int} (h : nameErr l = 0) : putE es l v = es ++ [(l, v, ())] := if_pos h
theorem err_nil (w : World) (hg : Laid w) : Calls Tryd.prog 11 #[.nilIface, .int .i64 0] w fun e w' => e = .returned (.bool true) ∧ Below w.heap.size w w' := by
  simpa [errV] using error_any 0 0 w hg
theorem err_same {n : Int} (h : n ≠ 0) (w : World) (hg : Laid w) : Calls Tryd.prog 11 #[.iface 26 (.int .i64 n), .int .i64 n] w fun e w' => e = .returned (.bool true) ∧ Below w.heap.size w w' := by
  have := error_any n n w hg
  rw [errV_ne h] at this
  simpa using this

set_option maxRecDepth 100000 in
set_option maxHeartbeats 8000000 in
theorem walkUpto (w : World) (hL : Laid w) (A1 : Option Addr) (n1 c1 : Nat) (ns : List (List ByteArray)) (h1 : Rd (sliceR strR) w w.heap.size A1 n1 c1 ns) (A2 : Option Addr) (n2 c2 : Nat) (qs : List (List ByteArray)) (h2 : Rd (sliceR strR) w w.heap.size A2 n2 c2 qs)
    (hz : (sliceR (sliceR strR)).sz ns + (sliceR (sliceR strR)).sz qs ≤ 1048576) :
    Calls Tryd.prog 4 #[.slice A1 n1 c1, .slice A2 n2 c2] w fun e w' => e = .returned (.bool true) ∧ Below w.heap.size w w' := by
  have m1 := h1.max
  have m2 := h2.max
  have k1 := h1.cap
  have k2 := h2.cap
  unfold maxLen at m1 m2
  by_cases hn1 : 60 < n1
  · have q1 : (60 : Int) < (n1 : Int) := by omega
    clear h1 h2 hz
    go_enter Tryd.func4, Tryd.ntmps4
    go_wp2
    go_ret
    exact ⟨rfl, Below.refl _ _⟩
  have q1 : ¬ (60 : Int) < (n1 : Int) := by omega
  by_cases hn2 : 60 < n2
  · have q2 : (60 : Int) < (n2 : Int) := by omega
    clear h1 h2 hz
    go_enter Tryd.func4, Tryd.ntmps4
    go_wp2
    go_ret
    exact ⟨rfl, Below.refl _ _⟩
  have q2 : ¬ (60 : Int) < (n2 : Int) := by omega
  have hlt : 0 < w.heap.size := World.block_lt_of_cell? w _ hL
  have HL := hid fun w' (hb : Below w.heap.size w w') => hL.below hb hlt
  have HQZ := hid fun i => (show lsum (qs.getD i []) ≤ 1073741824 from by have := sz_mem (ns := qs) (i := i); omega)
  have H1 := hid h1
  have H2 := hid h2
  clear h1 h2 hz hL hlt
  have tk0 : True := trivial; have tk1 : True := trivial; have tk2 : True := trivial; have tk3 : True := trivial; have tk4 : True := trivial; have tk5 : True := trivial; have tk6 : True := trivial; have tk7 : True := trivial; have tk8 : True := trivial; have tk9 : True := trivial; have tk10 : True := trivial; have tk11 : True := trivial; have tk12 : True := trivial
  go_enter Tryd.func4, Tryd.ntmps4
  go_wp2_with (go_at_call 13; have _t := tk2; (with_reducible refine (tnew_any _).mono ?_); rintro e w1 ⟨rfl, hT, hb⟩; have HT := hid hT; have HB := hid hb; have hg1 := hT.glt; clear hT hb tk2)
  obtain ⟨b, hb⟩ : ∃ b, w.heap.size = b := ⟨_, rfl⟩
  have z1 := HB.out.size
  have HW := hid (show w.heap.size ≤ b from by omega)
  have HW2 := hid (show b ≤ w.heap.size from by omega)
  rw [hb]
  rw [hb] at HT hg1
  have wb : w.heap.size ≤ b := HW.out
  have wb2 : b ≤ w.heap.size := HW2.out
  clear hb
  go_loopg [6, 7] n1 (fun gk v6 v7 wi => ∃ (i : Nat) (es : List EndT) (A6 : Option Addr) (n6 c6 : Nat), i ≤ n1 ∧ gk = n1 - i ∧ v7 = .int .i64 (i : Int) ∧ v6 = .slice A6 n6 c6 ∧ n6 ≤ i ∧ Hid (es.length = n6) ∧ TailS wi (b + 1) b es ∧ OwnR endR 41 w.heap.size w1.heap.size wi (.slice A6 n6 c6) es ∧ Below w.heap.size w wi)
  case atStart => exact ⟨0, [], none, 0, 0, Nat.zero_le _, rfl, rfl, rfl, Nat.le_refl _, hid rfl, HT.out, OwnR.nil z1 (Nat.le_refl _), HB.out⟩
  case round =>
    obtain ⟨i, es, A6, n6, c6, hi, rfl, rfl, rfl, hn6, hel, hT, hO, hlow⟩ := hrel
    have HTR := hid hT
    have HO := hid hO
    have HLOW := hid hlow
    have hzw := hlow.size
    have hzo := hO.le
    clear hT hO hlow HT
    by_cases hlt : i < n1
    · obtain ⟨b1, o1, A3, n3, c3, rfl, hb1, cc1, r1⟩ := (H1.out.below HLOW.out).rowT i hlt
      obtain ⟨l, hl⟩ : ∃ l, ns.getD i [] = l := ⟨_, rfl⟩
      rw [hl] at r1
      have R1 := hid r1
      have CF := hid (nfault_any wr A3 n3 c3 l _ r1)
      have t0 : (i : Int) < (n1 : Int) := by omega
      have t1 : decide ((i : Int) < (n1 : Int)) = true := decide_eq_true t0
      have b1w : b1 < wr.heap.size := by omega
      have HII := hid (show I64 (i : Int) from by unfold I64; omega)
      clear hl r1
      by_cases he : nameErr l = 0
      · rw [he] at CF
        have CP := hid fun (w2 : World) (h : TailS w2 (b + 1) b es) (hx : Below w.heap.size wr w2) (hz2 : wr.heap.size ≤ w2.heap.size) => tput_any h (by rw [hel.out]; omega) ((R1.out.below hx).more (Nat.le_trans hzw hz2)) (i : Int) HII.out
        rw [he, errV_zero, put_ok he] at CP
        have CE := hid fun w' (hb : Below w.heap.size w w') => err_nil w' (HL.out w' hb)
        have LL := hid (show (es ++ [(l, (i : Int), ())]).length = n6 + 1 by rw [List.length_append, hel.out]; rfl)
        obtain ⟨es2, hes2⟩ : ∃ es2, es ++ [(l, (i : Int), ())] = es2 := ⟨_, rfl⟩
        rw [hes2] at CP LL
        have HES := hid hes2
        have CLn := hid fun (w2 w' : World) (h : TailS w2 (b + 1) b es2) (hb : Below w2.heap.size w2 w') => tlen_any (h.later hb)
        have CEn := hid fun (w2 w' : World) (A : Option Addr) (c : Nat) (h : OwnR endR 41 w.heap.size w1.heap.size w2 (.slice A (n6 + 1) c) es2) (hb : Below w2.heap.size w2 w') => ends_any ((h.below hb).rd' LL.out (by show (n6 + 1) * 32 ≤ _; omega) (by decide))
        have ab1 : (es.length + 1) * 32 ≤ 140737488355328 := by rw [hel.out]; omega
        have ab2 : es.length + 1 ≤ maxLen := by rw [hel.out]; unfold maxLen; omega
        have hcf := CF.out
        clear he hes2
        go_wp2_with (first
          | (go_at_call 14; have _t := tk3; refine (CF.out).mono ?_; rintro e wx ⟨rfl, hw⟩; subst wx; clear tk3)
          | (at_builtin; have _t := tk4; refine wpList_ownX (R := endR) (B := w.heap.size) (base := w1.heap.size) (A := some ⟨wr.heap.size, 0, none⟩) (n := 1) (c := 1) (m := [((l, (i : Int), ()) : EndT)]) el_e rfl (.tmp 40) (.tmp 47) rfl rfl (HO.out.below (by (repeat' (first | (with_reducible exact Below.refl _ _) | (with_reducible assumption) | (with_reducible refine below_ext0 ?_ _ _) | (with_reducible refine below_alloc0 ?_ _) | (with_reducible refine Below.ext ?_ ?_ _ _) | (with_reducible refine Below.alloc ?_ ?_ _) | (with_reducible refine Below.setCell ?_ ?_ _) | (with_reducible refine Below.drew ?_) | (with_reducible refine below_draws ?_ _) | go_size | (simp [size_ext]; done) | (simp [size_ext]; omega))))) rfl (SrcR.lit (ty := 41) (cs := #[.slice A3 n3 c3, .int .i64 (i : Int)]) (by ((repeat' (first | (with_reducible assumption) | (with_reducible refine Blk.drew ?_) | exact Blk.new' _ _ (by first | rfl | (simp [size_ext]; done) | (simp [size_ext]; omega)) | (with_reducible refine Blk.ext ?_ _ _) | (with_reducible refine Blk.alloc ?_ _))); (all_goals fail))) (rel_e (R1.out.below (by (repeat' (first | (with_reducible exact Below.refl _ _) | (with_reducible assumption) | (with_reducible refine below_ext0 ?_ _ _) | (with_reducible refine below_alloc0 ?_ _) | (with_reducible refine Below.ext ?_ ?_ _ _) | (with_reducible refine Below.alloc ?_ ?_ _) | (with_reducible refine Below.setCell ?_ ?_ _) | (with_reducible refine Below.drew ?_) | (with_reducible refine below_draws ?_ _) | go_size | (simp [size_ext]; done) | (simp [size_ext]; omega))))) HII.out) (by simp [Value.oneCell'])) ab1 ab2 ?_; go_loud (intro v9 w9 ho9 hb9 ha9; have HT9 := hid (tail_app (HTR.out.later (by (repeat' (first | (with_reducible exact Below.refl _ _) | (with_reducible assumption) | (with_reducible refine below_ext0 ?_ _ _) | (with_reducible refine below_alloc0 ?_ _) | (with_reducible refine Below.ext ?_ ?_ _ _) | (with_reducible refine Below.alloc ?_ ?_ _) | (with_reducible refine Below.setCell ?_ ?_ _) | (with_reducible refine Below.drew ?_) | (with_reducible refine below_draws ?_ _) | go_size | (simp [size_ext]; done) | (simp [size_ext]; omega))))) (HO.out.below (by (repeat' (first | (with_reducible exact Below.refl _ _) | (with_reducible assumption) | (with_reducible refine below_ext0 ?_ _ _) | (with_reducible refine below_alloc0 ?_ _) | (with_reducible refine Below.ext ?_ ?_ _ _) | (with_reducible refine Below.alloc ?_ ?_ _) | (with_reducible refine Below.setCell ?_ ?_ _) | (with_reducible refine Below.drew ?_) | (with_reducible refine below_draws ?_ _) | go_size | (simp [size_ext]; done) | (simp [size_ext]; omega))))) ha9 hg1 (by omega)); rw [HES.out] at ho9; have HO9' := hid ho9; have hbx := (show Below w.heap.size wr w9 from Below.trans (by (repeat' (first | (with_reducible exact Below.refl _ _) | (with_reducible assumption) | (with_reducible refine below_ext0 ?_ _ _) | (with_reducible refine below_alloc0 ?_ _) | (with_reducible refine Below.ext ?_ ?_ _ _) | (with_reducible refine Below.alloc ?_ ?_ _) | (with_reducible refine Below.setCell ?_ ?_ _) | (with_reducible refine Below.drew ?_) | (with_reducible refine below_draws ?_ _) | go_size | (simp [size_ext]; done) | (simp [size_ext]; omega)))) (hb9.mono z1)); have z9 := hbx.size; have HLOW9 := hid (HLOW.out.trans hbx); have cc9 := (hbx.cell (p := ⟨b1, o1 + i, none⟩) hb1).trans cc1; have b1w9 : b1 < w9.heap.size := (by omega); obtain ⟨A9, c9, rfl⟩ := ho9.slice' (n := n6 + 1) LL.out; have HX9 := hid hbx; clear ho9 hb9 ha9 hbx tk4))
          | (go_at_call 15; have _t := tk5; (with_reducible refine (CP.out _ HT9.out HX9.out z9).mono ?_); rintro e w2 ⟨rfl, hT2, hgr⟩; have hbb := below_map HLOW9.out (by omega) wb hgr; have HO2 := hid (own_map HO9'.out hgr wb (by omega)); have HT2 := hid hT2; have z2 := hbb.size; have HB2 := hid hbb; clear hT2 hgr hbb tk5)
          | (go_at_call 11; have _t := tk6; (with_reducible refine (CE.out _ (by have := HB2.out; (repeat' (first | (with_reducible exact Below.refl _ _) | (with_reducible assumption) | (with_reducible refine below_ext0 ?_ _ _) | (with_reducible refine below_alloc0 ?_ _) | (with_reducible refine Below.ext ?_ ?_ _ _) | (with_reducible refine Below.alloc ?_ ?_ _) | (with_reducible refine Below.setCell ?_ ?_ _) | (with_reducible refine Below.drew ?_) | (with_reducible refine below_draws ?_ _) | go_size | (simp [size_ext]; done) | (simp [size_ext]; omega))))).mono ?_); rintro e w1 ⟨rfl, hb⟩; obtain ⟨otk6, dtk6, rfl⟩ := ext_of_below hb; clear hb tk6)
          | (go_at_call 16; have _t := tk7; (with_reducible refine (CLn.out w2 _ HT2.out (by (repeat' (first | (with_reducible exact Below.refl _ _) | (with_reducible assumption) | (with_reducible refine below_ext0 ?_ _ _) | (with_reducible refine below_alloc0 ?_ _) | (with_reducible refine Below.ext ?_ ?_ _ _) | (with_reducible refine Below.alloc ?_ ?_ _) | (with_reducible refine Below.setCell ?_ ?_ _) | (with_reducible refine Below.drew ?_) | (with_reducible refine below_draws ?_ _) | go_size | (simp [size_ext]; done) | (simp [size_ext]; omega))))).mono ?_); rintro e wx ⟨rfl, hw⟩; subst wx; clear tk7)
          | (go_at_call 17; have _t := tk8; (with_reducible refine (CEn.out w2 _ _ _ HO2.out (by (repeat' (first | (with_reducible exact Below.refl _ _) | (with_reducible assumption) | (with_reducible refine below_ext0 ?_ _ _) | (with_reducible refine below_alloc0 ?_ _) | (with_reducible refine Below.ext ?_ ?_ _ _) | (with_reducible refine Below.alloc ?_ ?_ _) | (with_reducible refine Below.setCell ?_ ?_ _) | (with_reducible refine Below.drew ?_) | (with_reducible refine below_draws ?_ _) | go_size | (simp [size_ext]; done) | (simp [size_ext]; omega))))).mono ?_); rintro e w1 ⟨rfl, hb⟩; obtain ⟨otk8, dtk8, rfl⟩ := ext_of_below hb; clear hb tk8))
        go_roundg (n1 - (i + 1))
        case measure => omega
        case rel =>
          have hlw := HB2.out
          exact ⟨i + 1, es2, A9, n6 + 1, c9, by omega, rfl, by go_num, rfl, by omega, LL, HT2.out.later (by (repeat' (first | (with_reducible exact Below.refl _ _) | (with_reducible assumption) | (with_reducible refine below_ext0 ?_ _ _) | (with_reducible refine below_alloc0 ?_ _) | (with_reducible refine Below.ext ?_ ?_ _ _) | (with_reducible refine Below.alloc ?_ ?_ _) | (with_reducible refine Below.setCell ?_ ?_ _) | (with_reducible refine Below.drew ?_) | (with_reducible refine below_draws ?_ _) | go_size | (simp [size_ext]; done) | (simp [size_ext]; omega)))), HO2.out.below (by (repeat' (first | (with_reducible exact Below.refl _ _) | (with_reducible assumption) | (with_reducible refine below_ext0 ?_ _ _) | (with_reducible refine below_alloc0 ?_ _) | (with_reducible refine Below.ext ?_ ?_ _ _) | (with_reducible refine Below.alloc ?_ ?_ _) | (with_reducible refine Below.setCell ?_ ?_ _) | (with_reducible refine Below.drew ?_) | (with_reducible refine below_draws ?_ _) | go_size | (simp [size_ext]; done) | (simp [size_ext]; omega)))), by (repeat' (first | (with_reducible exact Below.refl _ _) | (with_reducible assumption) | (with_reducible refine below_ext0 ?_ _ _) | (with_reducible refine below_alloc0 ?_ _) | (with_reducible refine Below.ext ?_ ?_ _ _) | (with_reducible refine Below.alloc ?_ ?_ _) | (with_reducible refine Below.setCell ?_ ?_ _) | (with_reducible refine Below.drew ?_) | (with_reducible refine below_draws ?_ _) | go_size | (simp [size_ext]; done) | (simp [size_ext]; omega)))⟩
      · have CP := hid (tput_any HTR.out (by rw [hel.out]; omega) (R1.out.more hzw) (i : Int) HII.out)
        rw [errV_ne he, put_bad he] at CP
        have CE := hid fun w' (hb : Below w.heap.size w w') => err_same he w' (HL.out w' hb)
        have CLn := hid fun (w2 w' : World) (h : TailS w2 (b + 1) b es) (hb : Below w2.heap.size w2 w') => tlen_any (h.later hb)
        have CEn := hid fun (w2 w' : World) (h : OwnR endR 41 w.heap.size w1.heap.size w2 (.slice A6 n6 c6) es) (hb : Below w2.heap.size w2 w') => ends_any ((h.below hb).rd' hel.out (by show n6 * 32 ≤ _; omega) (by decide))
        obtain ⟨E, hE⟩ : ∃ E, nameErr l = E := ⟨_, rfl⟩
        rw [hE] at CP CE CF he
        have hcf := CF.out
        have he0 : (E == 0) = false := beq_eq_false_iff_ne.2 he
        clear hE he
        go_wp2_with (first
          | (go_at_call 14; have _t := tk3; refine (CF.out).mono ?_; rintro e wx ⟨rfl, hw⟩; subst wx; clear tk3)
          | (go_at_call 15; have _t := tk5; (with_reducible refine (CP.out).mono ?_); rintro e w2 ⟨rfl, hT2, hgr⟩; have hbb := below_map HLOW.out (by omega) wb hgr; have HO2 := hid (own_map HO.out hgr wb (by omega)); have HT2 := hid hT2; have z2 := hbb.size; have HB2 := hid hbb; clear hT2 hgr hbb tk5)
          | (go_at_call 11; have _t := tk6; (with_reducible refine (CE.out _ (by have := HB2.out; (repeat' (first | (with_reducible exact Below.refl _ _) | (with_reducible assumption) | (with_reducible refine below_ext0 ?_ _ _) | (with_reducible refine below_alloc0 ?_ _) | (with_reducible refine Below.ext ?_ ?_ _ _) | (with_reducible refine Below.alloc ?_ ?_ _) | (with_reducible refine Below.setCell ?_ ?_ _) | (with_reducible refine Below.drew ?_) | (with_reducible refine below_draws ?_ _) | go_size | (simp [size_ext]; done) | (simp [size_ext]; omega))))).mono ?_); rintro e w1 ⟨rfl, hb⟩; obtain ⟨otk6, dtk6, rfl⟩ := ext_of_below hb; clear hb tk6)
          | (go_at_call 16; have _t := tk7; (with_reducible refine (CLn.out w2 _ HT2.out (by (repeat' (first | (with_reducible exact Below.refl _ _) | (with_reducible assumption) | (with_reducible refine below_ext0 ?_ _ _) | (with_reducible refine below_alloc0 ?_ _) | (with_reducible refine Below.ext ?_ ?_ _ _) | (with_reducible refine Below.alloc ?_ ?_ _) | (with_reducible refine Below.setCell ?_ ?_ _) | (with_reducible refine Below.drew ?_) | (with_reducible refine below_draws ?_ _) | go_size | (simp [size_ext]; done) | (simp [size_ext]; omega))))).mono ?_); rintro e wx ⟨rfl, hw⟩; subst wx; clear tk7)
          | (go_at_call 17; have _t := tk8; (with_reducible refine (CEn.out w2 _ HO2.out (by (repeat' (first | (with_reducible exact Below.refl _ _) | (with_reducible assumption) | (with_reducible refine below_ext0 ?_ _ _) | (with_reducible refine below_alloc0 ?_ _) | (with_reducible refine Below.ext ?_ ?_ _ _) | (with_reducible refine Below.alloc ?_ ?_ _) | (with_reducible refine Below.setCell ?_ ?_ _) | (with_reducible refine Below.drew ?_) | (with_reducible refine below_draws ?_ _) | go_size | (simp [size_ext]; done) | (simp [size_ext]; omega))))).mono ?_); rintro e w1 ⟨rfl, hb⟩; obtain ⟨otk8, dtk8, rfl⟩ := ext_of_below hb; clear hb tk8))
        go_roundg (n1 - (i + 1))
        case measure => omega
        case rel =>
          have hlw := HB2.out
          exact ⟨i + 1, es, A6, n6, c6, by omega, rfl, by go_num, rfl, by omega, hel, HT2.out.later (by (repeat' (first | (with_reducible exact Below.refl _ _) | (with_reducible assumption) | (with_reducible refine below_ext0 ?_ _ _) | (with_reducible refine below_alloc0 ?_ _) | (with_reducible refine Below.ext ?_ ?_ _ _) | (with_reducible refine Below.alloc ?_ ?_ _) | (with_reducible refine Below.setCell ?_ ?_ _) | (with_reducible refine Below.drew ?_) | (with_reducible refine below_draws ?_ _) | go_size | (simp [size_ext]; done) | (simp [size_ext]; omega)))), HO2.out.below (by (repeat' (first | (with_reducible exact Below.refl _ _) | (with_reducible assumption) | (with_reducible refine below_ext0 ?_ _ _) | (with_reducible refine below_alloc0 ?_ _) | (with_reducible refine Below.ext ?_ ?_ _ _) | (with_reducible refine Below.alloc ?_ ?_ _) | (with_reducible refine Below.setCell ?_ ?_ _) | (with_reducible refine Below.drew ?_) | (with_reducible refine below_draws ?_ _) | go_size | (simp [size_ext]; done) | (simp [size_ext]; omega)))), by (repeat' (first | (with_reducible exact Below.refl _ _) | (with_reducible assumption) | (with_reducible refine below_ext0 ?_ _ _) | (with_reducible refine below_alloc0 ?_ _) | (with_reducible refine Below.ext ?_ ?_ _ _) | (with_reducible refine Below.alloc ?_ ?_ _) | (with_reducible refine Below.setCell ?_ ?_ _) | (with_reducible refine Below.drew ?_) | (with_reducible refine below_draws ?_ _) | go_size | (simp [size_ext]; done) | (simp [size_ext]; omega)))⟩
    · obtain rfl : i = n1 := by omega
      have t0 : ¬ (i : Int) < (i : Int) := by omega
      obtain ⟨wl, hwl⟩ : ∃ wl, wr = wl := ⟨_, rfl⟩
      rw [hwl] at HTR HLOW HO hzw hzo ⊢
      clear hwl
      have HR := hid (HO.out.rd' hel.out (by show n6 * 32 ≤ _; omega) (by decide))
      go_wp2
      go_loopg [10] n2 (fun gk v10 wi => ∃ a : Nat, a ≤ n2 ∧ gk = n2 - a ∧ v10 = .int .i64 (a : Int) ∧ Below wl.heap.size wl wi)
      case atStart => exact ⟨0, Nat.zero_le _, rfl, rfl, Below.refl _ _⟩
      case round =>
        obtain ⟨a, ha, rfl, rfl, hlow⟩ := hrel
        have HLOW2 := hid (HLOW.out.trans (hlow.mono hzw))
        have HL3 := hid hlow
        have zw3 := hlow.size
        have zw4 := HLOW2.out.size
        clear hlow
        by_cases halt : a < n2
        · obtain ⟨b1, o1, A3, n3, c3, rfl, hb1, cc1, r1⟩ := (H2.out.below HLOW2.out).rowT a halt
          obtain ⟨l, hl⟩ : ∃ l, qs.getD a [] = l := ⟨_, rfl⟩
          have hqz := HQZ.out a
          rw [hl] at r1 hqz
          have R1 := hid r1
          have t1 : (a : Int) < (n2 : Int) := by omega
          have b1w : b1 < wr.heap.size := by omega
          have CG := fun (w' : World) (hb : Below wr.heap.size wr w') => tget_any ((HTR.out.later HL3.out).later hb) ((R1.out.below (hb.mono zw4)).more (by have := hb.size; omega)) hqz
          have CLa := fun (w' : World) (hb : Below wr.heap.size wr w') => last_det ((HR.out.later HL3.out).later hb) ((R1.out.below (hb.mono zw4)).more (by have := hb.size; omega)) rfl
          cases hg : getT es l with
          | none =>
            simp only [hg, tellG, Option.map_none, lastI] at CG CLa
            have D1 := hid CG
            have D2 := hid CLa
            clear CG CLa hg hl r1 hqz
            have hlo := HL3.out
            go_wp2_with (first
              | (go_at_call 18; have _t := tk9; (with_reducible refine (D1.out _ (by (repeat' (first | (with_reducible exact Below.refl _ _) | (with_reducible assumption) | (with_reducible refine below_ext0 ?_ _ _) | (with_reducible refine below_alloc0 ?_ _) | (with_reducible refine Below.ext ?_ ?_ _ _) | (with_reducible refine Below.alloc ?_ ?_ _) | (with_reducible refine Below.setCell ?_ ?_ _) | (with_reducible refine Below.drew ?_) | (with_reducible refine below_draws ?_ _) | go_size | (simp [size_ext]; done) | (simp [size_ext]; omega))))).mono ?_); rintro e w1 ⟨rfl, hb⟩; obtain ⟨otk9, dtk9, rfl⟩ := ext_of_below hb; clear hb tk9)
              | (go_at_call 19; have _t := tk10; (with_reducible refine (D2.out _ (by (repeat' (first | (with_reducible exact Below.refl _ _) | (with_reducible assumption) | (with_reducible refine below_ext0 ?_ _ _) | (with_reducible refine below_alloc0 ?_ _) | (with_reducible refine Below.ext ?_ ?_ _ _) | (with_reducible refine Below.alloc ?_ ?_ _) | (with_reducible refine Below.setCell ?_ ?_ _) | (with_reducible refine Below.drew ?_) | (with_reducible refine below_draws ?_ _) | go_size | (simp [size_ext]; done) | (simp [size_ext]; omega))))).mono ?_); rintro e w1 ⟨rfl, hb⟩; obtain ⟨otk10, dtk10, rfl⟩ := ext_of_below hb; clear hb tk10))
            go_roundg (n2 - (a + 1))
            case measure => omega
            case rel => exact ⟨a + 1, by omega, rfl, by go_num, by (repeat' (first | (with_reducible exact Below.refl _ _) | (with_reducible assumption) | (with_reducible refine below_ext0 ?_ _ _) | (with_reducible refine below_alloc0 ?_ _) | (with_reducible refine Below.ext ?_ ?_ _ _) | (with_reducible refine Below.alloc ?_ ?_ _) | (with_reducible refine Below.setCell ?_ ?_ _) | (with_reducible refine Below.drew ?_) | (with_reducible refine below_draws ?_ _) | go_size | (simp [size_ext]; done) | (simp [size_ext]; omega)))⟩
          | some g =>
            obtain ⟨j, k⟩ := g
            obtain ⟨hj, hk⟩ := getT_some hg
            rw [hel.out] at hj
            obtain ⟨b4, o4, A4, n4, c4, rfl, hb4, q0, q1, r4, I4⟩ := (HR.out.later HL3.out).end_ j hj
            have k4 := r4.len
            simp only [hg, tellG, Option.map_some, lastI] at CG CLa
            rw [hk, k4] at CG
            generalize (es.getD j ([], 0, ())).2.1 = V at *
            have D1 := hid CG
            have D2 := hid CLa
            have j6 : (j : Int) < (n6 : Int) := by omega
            have j0 : (0 : Int) ≤ (j : Int) := by omega
            have j1 : ¬ (j : Int) < 0 := by omega
            clear CG CLa hg hl r1 hqz r4 I4 hk k4
            have hlo := HL3.out
            go_wp2_with (first
              | (go_at_call 18; have _t := tk9; (with_reducible refine (D1.out _ (by (repeat' (first | (with_reducible exact Below.refl _ _) | (with_reducible assumption) | (with_reducible refine below_ext0 ?_ _ _) | (with_reducible refine below_alloc0 ?_ _) | (with_reducible refine Below.ext ?_ ?_ _ _) | (with_reducible refine Below.alloc ?_ ?_ _) | (with_reducible refine Below.setCell ?_ ?_ _) | (with_reducible refine Below.drew ?_) | (with_reducible refine below_draws ?_ _) | go_size | (simp [size_ext]; done) | (simp [size_ext]; omega))))).mono ?_); rintro e w1 ⟨rfl, hb⟩; obtain ⟨otk9, dtk9, rfl⟩ := ext_of_below hb; clear hb tk9)
              | (go_at_call 19; have _t := tk10; (with_reducible refine (D2.out _ (by (repeat' (first | (with_reducible exact Below.refl _ _) | (with_reducible assumption) | (with_reducible refine below_ext0 ?_ _ _) | (with_reducible refine below_alloc0 ?_ _) | (with_reducible refine Below.ext ?_ ?_ _ _) | (with_reducible refine Below.alloc ?_ ?_ _) | (with_reducible refine Below.setCell ?_ ?_ _) | (with_reducible refine Below.drew ?_) | (with_reducible refine below_draws ?_ _) | go_size | (simp [size_ext]; done) | (simp [size_ext]; omega))))).mono ?_); rintro e w1 ⟨rfl, hb⟩; obtain ⟨otk10, dtk10, rfl⟩ := ext_of_below hb; clear hb tk10))
            go_roundg (n2 - (a + 1))
            case measure => omega
            case rel => exact ⟨a + 1, by omega, rfl, by go_num, by (repeat' (first | (with_reducible exact Below.refl _ _) | (with_reducible assumption) | (with_reducible refine below_ext0 ?_ _ _) | (with_reducible refine below_alloc0 ?_ _) | (with_reducible refine Below.ext ?_ ?_ _ _) | (with_reducible refine Below.alloc ?_ ?_ _) | (with_reducible refine Below.setCell ?_ ?_ _) | (with_reducible refine Below.drew ?_) | (with_reducible refine below_draws ?_ _) | go_size | (simp [size_ext]; done) | (simp [size_ext]; omega)))⟩
        · obtain rfl : a = n2 := by omega
          have CEd := hid (ended_any wr)
          go_wp2_with (go_at_call 20; have _t := tk11; (with_reducible refine (CEd.out).mono ?_); rintro e w1 ⟨rfl, hb⟩; obtain ⟨otk11, dtk11, rfl⟩ := ext_of_below hb; clear hb tk11)
          go_ret
          have h1 := HL3.out
          exact ⟨rfl, HLOW2.out.trans ((show Below wr.heap.size wr _ by (repeat' (first | (with_reducible exact Below.refl _ _) | (with_reducible assumption) | (with_reducible refine below_ext0 ?_ _ _) | (with_reducible refine below_alloc0 ?_ _) | (with_reducible refine Below.ext ?_ ?_ _ _) | (with_reducible refine Below.alloc ?_ ?_ _) | (with_reducible refine Below.setCell ?_ ?_ _) | (with_reducible refine Below.drew ?_) | (with_reducible refine below_draws ?_ _) | go_size | (simp [size_ext]; done) | (simp [size_ext]; omega)))).mono zw4)⟩
set_option maxRecDepth 100000 in
theorem contractUpto (H : Type) (enc : TypeId × Value → H) (W : World) (base : Nat) (args : Array Value) (ds gs : List (DataW H)) (before : List MemPlace)
    (hval : ∀ (j : Nat) t v, Tryd.f4.params[j]? = some t → args[j]? = some v → Value.okWide Tryd.prog W .any base t v)
    (hW : DataW.Whole enc Tryd.prog Tryd.f4.params.toList Rows.tailTellsSpec.vars false W args.toList ds gs before) (hsz : (DataW.weightsEach Tryd.prog (Tryd.f4.params.toList ++ Rows.tailTellsSpec.plain.varTypes Tryd.prog) (ds ++ gs)).all (· ≤ reachBytes) = true) (hk : Rows.uptoSmall H (ds ++ gs) = true) (hL : Laid W) :
    Calls Tryd.prog 4 args W fun e W' => ∃ v, e = .returned v ∧ Rows.tailTellsSpec.post enc Tryd.prog Tryd.f4 false true false false W args v W' := by
  have hW' := hW
  obtain ⟨p, q, hA0, hV, rfl, hfz, hnd⟩ := hW
  have hA : DataW.TrodAll enc Tryd.prog W 0 (fun _ => true) true Tryd.f4.params.toList args.toList ds p := hA0
  rw [Tryd.params4] at hA hval hsz
  obtain ⟨v0, vs0, d0, ds0, p0, q0, hargs, rfl, rfl, k0, r0⟩ := trodAll_cons hA
  obtain ⟨v1, vs1, d1, ds1, p1, q1, rfl, rfl, rfl, k1, r1⟩ := trodAll_cons r0
  obtain ⟨rfl, rfl, rfl⟩ := trodAll_nil r1
  obtain rfl : args = #[v0, v1] := by cases args; simp_all
  obtain ⟨rfl, rfl⟩ := trodVars_none hV
  have lt0 : ∀ x ∈ p0, x.block < W.heap.size := by obtain ⟨m, hm⟩ := k0; exact DataW.trod_lt m _ _ _ hm
  have lt1 : ∀ x ∈ p1, x.block < W.heap.size := by obtain ⟨m, hm⟩ := k1; exact DataW.trod_lt m _ _ _ hm
  have hsz' : ∀ k ∈ _, k ≤ reachBytes := fun k hk => of_decide_eq_true (List.all_eq_true.1 hsz k hk)
  have u0 : ∀ k ∈ d0.weights Tryd.prog 35, k ≤ reachBytes := fun k hk => hsz' k (by simp [DataW.weightsEach, hk])
  have u1 : ∀ k ∈ d1.weights Tryd.prog 35, k ≤ reachBytes := fun k hk => hsz' k (by simp [DataW.weightsEach, hk])
  obtain ⟨A0, n0, c0, l0, rfl, w0, z0⟩ := arg_slice Tryd.underlying35 (opens_slice Tryd.underlying35 (opens_slice Tryd.underlying22 (opens_str Tryd.underlying9) (by kernel_rfl) (by decide) (of_decide_eq_true (by kernel_rfl))) (by kernel_rfl) (by decide) (of_decide_eq_true (by kernel_rfl))) (hval 0 35 v0 rfl rfl) k0 u0
  obtain ⟨A1, n1, c1, l1, rfl, w1, z1⟩ := arg_slice Tryd.underlying35 (opens_slice Tryd.underlying35 (opens_slice Tryd.underlying22 (opens_str Tryd.underlying9) (by kernel_rfl) (by decide) (of_decide_eq_true (by kernel_rfl))) (by kernel_rfl) (by decide) (of_decide_eq_true (by kernel_rfl))) (hval 1 35 v1 rfl rfl) k1 u1
  have hsum := bulk_of hk
  simp only [List.append_nil, List.map_cons, List.map_nil, List.sum_cons, List.sum_nil] at hsum
  clear hA0 hA
  refine (walkUpto W hL A0 n0 c0 l0 w0 A1 n1 c1 l1 w1 (by omega)).mono fun e W' ⟨he, bel⟩ => ?_
  subst he
  exact ⟨_, rfl, _, _, _, [], _, [], hW', trodAll_mk1 (shut_bool Tryd.underlying4 _), (trodAll_cons_mk (Below.trod laidOut (by kernel_rfl) (of_decide_eq_true (by kernel_rfl)) k0 bel lt0) (trodAll_cons_mk (Below.trod laidOut (by kernel_rfl) (of_decide_eq_true (by kernel_rfl)) k1 bel lt1) trodAll_mk0)), rfl, bel.frame _, fun h => by cases h⟩

set_option maxRecDepth 100000 in
theorem reads (os : Os) {H : Type} (enc : TypeId × Value → H) : ∃ places, DataW.whole enc Tryd.prog ((laidWorld os).forCall (fun _ _ => 0) ⟨#[], #[.slice none 0 0, .slice none 0 0], []⟩).memory Tryd.f4.params.toList Rows.tailTellsSpec.vars false #[.slice none 0 0, .slice none 0 0].toList 8 = some ([.nil, .nil], [], places) :=
  ⟨[], by kernel_rfl⟩
set_option maxRecDepth 100000 in
theorem liftedUpto (os : Os) (started : os.Started) (H : Type) (enc : TypeId × Value → H) (F : Stop.Interp) :
    ReturnsInHanded {} Tryd.checked os 4 .any ((Rows.OpenSpec.upto Rows.tailTellsSpec).preRow enc Tryd.prog Tryd.f4 Rows.tailTellsUptoRow.domain false Rows.tailTellsUptoRow.laid) (((Rows.OpenSpec.upto Rows.tailTellsSpec).at F).post enc Tryd.prog Tryd.f4 false true false false) := by
  obtain ⟨places, hx⟩ := reads os enc
  refine returnsInHanded_of_row (C := Tryd.checked) (s := Rows.OpenSpec.upto Rows.tailTellsSpec) own started (by kernel_rfl) Tryd.func4
    (witness_row_at (enc := enc) (C := Tryd.checked) false (laidWorld os) #[.slice none 0 0, .slice none 0 0] rfl (by kernel_rfl) (by kernel_rfl) (by kernel_rfl)
      (OpenSpec.preRow_of_cond 8 hx (by kernel_rfl) (fun k hk => by cases hk; kernel_rfl) (by kernel_rfl) (laidWorld_met os _))) ?_
  intro W base args ds gs before hval hW _ hk hsz hL _ _
  exact contractUpto H enc W base args ds gs before hval hW hsz (hk _ rfl) (laid_of hL)

set_option maxRecDepth 100000 in
theorem saidUpto : Rows.TailTellsUptoSaid :=
  OpenClaim.holds_of_cond 4 Tryd.f4 rfl rfl rfl rfl rfl rfl rfl ⟨rfl, rfl, rfl, rfl, rfl⟩ rfl rfl rfl rfl rfl (by kernel_rfl) Tryd.func4 (by kernel_rfl)
    (of_decide_eq_true (by kernel_rfl)) (by unfold Func.isWrapper; first | (rw [if_pos (by decide +kernel)]; kernel_rfl) | (rw [if_neg (by decide +kernel)]; exact ⟨rfl, rfl⟩))
    (fun os started H enc _ F => by rw [OpenClaim.pre_eq_preRow]; exact liftedUpto os started H enc F)
set_option maxRecDepth 100000 in
/-- the statement: the tied card, its second form -/
theorem provedUpto : Rows.TailTellsUptoCardSaid :=
  Claim7.holds_tied_plain_at .later [] [.handle] true (true, "fedb56e697800a5ef9ed6258c803c93366b7746e1fd0340723167b168cfea7a6") true saidUpto (fun _ h => by cases h) (by kernel_rfl) (fun _ h => by cases h) tailTellsUpto_row_tie rfl ⟨rfl, rfl⟩ (by kernel_rfl) rfl
    (fun f fn hf hfn => by
      obtain rfl : f = 4 := Option.some.inj ((show Tryd.prog.funcNamed "pointsman/pointsmanlaw2.TailTells" = some 4 by kernel_rfl).symm.trans hf) |>.symm
      obtain rfl : fn = Tryd.f4 := (Option.some.inj (Tryd.func4.symm.trans hfn)).symm
      exact ⟨by kernel_rfl, fun j t ht => no_stand (by kernel_rfl) j t ht⟩)
    (by kernel_rfl)

end tailTells
end Go.Proofs.YtemgbfppdopfbaaDoor
