/- TailUp is true of every input of at most 1,048,576 bytes in all (the second form): a name for which nothing was put is told what the one above it is told; one for which something was, that; great letters are as small ones. Condition: the bound on what comes in, which the second form states. -/
import Derived.Test.YtemgbfppdopfbaaTailC
namespace Go.Proofs.Ytemgbfppdopfbaa
open Go.ChangeShapes Go.WideShapes Go.ChangeAt Go.RowKit
set_option linter.unusedVariables false
set_option linter.unusedSimpArgs false
namespace tailUp
theorem sz_lsum (l : List ByteArray) : (sliceR strR).sz l = lsum l + 1 := rfl
theorem sameL_comm (a b : List ByteArray) : sameL a b = sameL b a := by unfold sameL; rw [Bool.eq_iff_iff, decide_eq_true_iff, decide_eq_true_iff]; exact eq_comm
theorem put_bad {es : List EndT} {l : List ByteArray} {v : Int} (h : nameErr l ≠ 0) : putE es l v = es := if_neg h
theorem put_ok {es : List EndT} {l : List ByteArray} {v : Int} (h : nameErr l = 0) : putE es l v = es ++ [(l, v, ())] := if_pos h
theorem atV_ge {es : List EndT} {n : List ByteArray} (h : ∀ e ∈ es, 0 ≤ e.2.1) : (0 ≤ atV es (lastFor es n)) ↔ lastFor es n ≠ none := by
  cases hl : lastFor es n with
  | none => simp [atV]
  | some x =>
    obtain ⟨hx, _⟩ := lastFor_some hl
    have h1 := h _ (List.getElem_mem hx)
    simp only [atV]
    rw [List.getD_eq_getElem?_getD, List.getElem?_eq_getElem hx]
    simpa using h1
theorem atV_yes {es : List EndT} {l n : List ByteArray} {v : Int} (h : sameL l n = true) : atV (es ++ [(l, v, ())]) (lastFor (es ++ [(l, v, ())]) n) = v := by
  rw [lastFor_snoc, if_pos (by rw [sameL_comm]; exact h)]
  simp [atV]
theorem atV_no {es : List EndT} {l n : List ByteArray} {v : Int} (h : sameL l n = false) : atV (es ++ [(l, v, ())]) (lastFor (es ++ [(l, v, ())]) n) = atV es (lastFor es n) := by
  rw [lastFor_snoc, if_neg (by rw [sameL_comm, h]; simp)]
  cases hl : lastFor es n with
  | none => rfl
  | some x =>
    obtain ⟨hx, _⟩ := lastFor_some hl
    simp only [atV]
    rw [List.getD_eq_getElem?_getD, List.getD_eq_getElem?_getD, List.getElem?_append_left hx]
theorem tell_at {es : List EndT} {n : List ByteArray} {x : Nat} (h : lastFor es n = some x) : tellG es (getT es n) = (atV es (lastFor es n), n.length, true) := by
  rw [getT_at h, h]; rfl

set_option maxRecDepth 100000 in
set_option maxHeartbeats 8000000 in
theorem walkUpto (w : World) (A1 : Option Addr) (n1 c1 : Nat) (ns : List (List ByteArray)) (h1 : Rd (sliceR strR) w w.heap.size A1 n1 c1 ns) (A2 : Option Addr) (n2 c2 : Nat) (q : List ByteArray) (h2 : Rd strR w w.heap.size A2 n2 c2 q)
    (hz : (sliceR (sliceR strR)).sz ns + (sliceR strR).sz q ≤ 1048576) :
    Calls Try.prog 4 #[.slice A1 n1 c1, .slice A2 n2 c2] w fun e w' => e = .returned (.bool true) ∧ Below w.heap.size w w' := by
  rw [sz_lsum] at hz
  have hq : lsum q ≤ 1073741824 := by omega
  have m1 := h1.max
  have k1 := h1.cap
  have m2 := h2.max
  have k2 := h2.cap
  unfold maxLen at m1 m2
  have CE := hid (ended_any w)
  by_cases hn1 : 60 < n1
  · have q1 : (60 : Int) < (n1 : Int) := by omega
    clear h1 h2 hz
    have tk0 : True := trivial; have tk1 : True := trivial; have tk2 : True := trivial; have tk3 : True := trivial; have tk4 : True := trivial; have tk5 : True := trivial; have tk6 : True := trivial; have tk7 : True := trivial; have tk8 : True := trivial; have tk9 : True := trivial; have tk10 : True := trivial; have tk11 : True := trivial; have tk12 : True := trivial
    go_enter Try.func4, Try.ntmps4
    go_wp2_with (go_at_call 12; have _t := tk1; (with_reducible refine (CE.out).mono ?_); rintro e w1 ⟨rfl, hb⟩; obtain ⟨otk1, dtk1, rfl⟩ := ext_of_below hb; clear hb tk1)
    go_ret
    exact ⟨rfl, (by (repeat' (first | (with_reducible exact Below.refl _ _) | (with_reducible assumption) | (with_reducible refine below_ext0 ?_ _ _) | (with_reducible refine below_alloc0 ?_ _) | (with_reducible refine Below.ext ?_ ?_ _ _) | (with_reducible refine Below.alloc ?_ ?_ _) | (with_reducible refine Below.setCell ?_ ?_ _) | (with_reducible refine Below.drew ?_) | (with_reducible refine below_draws ?_ _) | go_size | (simp [size_ext]; done) | (simp [size_ext]; omega))))⟩
  have q1 : ¬ (60 : Int) < (n1 : Int) := by omega
  have H1 := hid h1
  have H2 := hid h2
  have hl2 := hid h2.len
  clear h1 h2 hz hn1
  have tk0 : True := trivial; have tk1 : True := trivial; have tk2 : True := trivial; have tk3 : True := trivial; have tk4 : True := trivial; have tk5 : True := trivial; have tk6 : True := trivial; have tk7 : True := trivial; have tk8 : True := trivial; have tk9 : True := trivial; have tk10 : True := trivial; have tk11 : True := trivial; have tk12 : True := trivial
  go_enter Try.func4, Try.ntmps4
  go_wp2_with (first
    | (go_at_call 12; have _t := tk1; (with_reducible refine (CE.out).mono ?_); rintro e w1 ⟨rfl, hb⟩; obtain ⟨otk1, dtk1, rfl⟩ := ext_of_below hb; clear hb tk1)
    | (go_at_call 13; have _t := tk2; (with_reducible refine (tnew_any _).mono ?_); rintro e w1 ⟨rfl, hT, hb⟩; have HT := hid hT; have HB := hid (Below.trans (by (repeat' (first | (with_reducible exact Below.refl _ _) | (with_reducible assumption) | (with_reducible refine below_ext0 ?_ _ _) | (with_reducible refine below_alloc0 ?_ _) | (with_reducible refine Below.ext ?_ ?_ _ _) | (with_reducible refine Below.alloc ?_ ?_ _) | (with_reducible refine Below.setCell ?_ ?_ _) | (with_reducible refine Below.drew ?_) | (with_reducible refine below_draws ?_ _) | go_size | (simp [size_ext]; done) | (simp [size_ext]; omega)))) (hb.mono (by simp [size_ext])) : Below w.heap.size w w1); clear hT hb tk2))
  obtain ⟨b, hb⟩ : ∃ b, (ext w otk1 dtk1).heap.size = b := ⟨_, rfl⟩
  have hwb : w.heap.size ≤ b := by rw [← hb]; simp [size_ext]
  rw [hb] at HT
  simp only [size_ext] at hb
  rw [hb]
  have hz1 := HB.out.size
  clear hb
  go_loopg [7, 8] n1 (fun gk v7 v8 wi => ∃ (i : Nat) (es : List EndT), i ≤ n1 ∧ gk = n1 - i ∧ v8 = .int .i64 (i : Int) ∧ v7 = .int .i64 (atV es (lastFor es q)) ∧ es.length ≤ i ∧ Hid (∀ e ∈ es, 0 ≤ e.2.1) ∧ TailS wi (b + 1) b es ∧ Below w.heap.size w wi)
  case atStart => exact ⟨0, [], Nat.zero_le _, rfl, rfl, rfl, Nat.le_refl _, hid (fun e h => by cases h), HT.out, HB.out⟩
  case round =>
    obtain ⟨i, es, hi, rfl, rfl, rfl, hes, hpos, hT, hlow⟩ := hrel
    have HTR := hid hT
    have HLOW := hid hlow
    have hzw := hlow.size
    clear hT hlow HT
    by_cases hlt : i < n1
    · obtain ⟨b1, o1, A3, n3, c3, rfl, hb1, cc1, r1⟩ := (H1.out.below HLOW.out).rowT i hlt
      obtain ⟨l, hl⟩ : ∃ l, ns.getD i [] = l := ⟨_, rfl⟩
      rw [hl] at r1
      have R1 := hid r1
      have CP := hid (tput_any HTR.out (by omega) (r1.more hzw) (i : Int) (by unfold I64; omega))
      have t0 : (i : Int) < (n1 : Int) := by omega
      have t1 : decide ((i : Int) < (n1 : Int)) = true := decide_eq_true t0
      have b1w : b1 < wr.heap.size := by omega
      clear hl r1
      by_cases he : nameErr l = 0
      · rw [he, errV_zero, put_ok he] at CP
        have CS := hid fun (w2 : World) (hb : Below w.heap.size w w2) (hx : Below w.heap.size wr w2) => same_any w2 _ _ _ _ ((R1.out.below hx).more hb.size) _ _ _ _ ((H2.out.below hb).more hb.size)
        have HP := hid (show ∀ e ∈ es ++ [(l, (i : Int), ())], 0 ≤ e.2.1 from fun e he => by
          rcases List.mem_append.1 he with he | he
          · exact hpos.out e he
          · simp at he; rw [he]; simp)
        have LL := hid (show (es ++ [(l, (i : Int), ())]).length = es.length + 1 by simp)
        cases hsm : sameL l q with
        | true =>
          rw [hsm] at CS
          have HA := hid (atV_yes (es := es) (v := (i : Int)) hsm)
          generalize es ++ [(l, (i : Int), ())] = es2 at *
          clear hsm he
          go_wp2_with (first
            | (go_at_call 14; have _t := tk3; (with_reducible refine (CP.out).mono ?_); rintro e w2 ⟨rfl, hT2, hg⟩; have HT2 := hid hT2; have hbb := below_map HLOW.out hzw hwb hg; have hbx := below_map (Below.refl w.heap.size wr) hzw hwb hg; have cc2 := (hbx.cell (p := ⟨b1, o1 + i, none⟩) hb1).trans cc1; have z2 := hbb.size; have b1w2 : b1 < w2.heap.size := by { have := hbx.size; omega }; have HB2 := hid hbb; have HBX := hid hbx; clear hT2 hg hbb hbx tk3)
            | (go_at_call 11; have _t := tk4; (with_reducible refine (CS.out w2 HB2.out HBX.out).mono ?_); rintro e w1 ⟨rfl, hb⟩; obtain ⟨otk4, dtk4, rfl⟩ := ext_of_below hb; clear hb tk4))
          go_roundg (n1 - (i + 1))
          case measure => omega
          case rel =>
            have hlw := HB2.out
            exact ⟨i + 1, es2, by omega, rfl, by go_num, by rw [HA.out], by rw [LL.out]; omega, HP, HT2.out.later (by (repeat' (first | (with_reducible exact Below.refl _ _) | (with_reducible assumption) | (with_reducible refine below_ext0 ?_ _ _) | (with_reducible refine below_alloc0 ?_ _) | (with_reducible refine Below.ext ?_ ?_ _ _) | (with_reducible refine Below.alloc ?_ ?_ _) | (with_reducible refine Below.setCell ?_ ?_ _) | (with_reducible refine Below.drew ?_) | (with_reducible refine below_draws ?_ _) | go_size | (simp [size_ext]; done) | (simp [size_ext]; omega)))), by (repeat' (first | (with_reducible exact Below.refl _ _) | (with_reducible assumption) | (with_reducible refine below_ext0 ?_ _ _) | (with_reducible refine below_alloc0 ?_ _) | (with_reducible refine Below.ext ?_ ?_ _ _) | (with_reducible refine Below.alloc ?_ ?_ _) | (with_reducible refine Below.setCell ?_ ?_ _) | (with_reducible refine Below.drew ?_) | (with_reducible refine below_draws ?_ _) | go_size | (simp [size_ext]; done) | (simp [size_ext]; omega)))⟩
        | false =>
          rw [hsm] at CS
          have HA := hid (atV_no (es := es) (v := (i : Int)) hsm)
          generalize es ++ [(l, (i : Int), ())] = es2 at *
          clear hsm he
          go_wp2_with (first
            | (go_at_call 14; have _t := tk3; (with_reducible refine (CP.out).mono ?_); rintro e w2 ⟨rfl, hT2, hg⟩; have HT2 := hid hT2; have hbb := below_map HLOW.out hzw hwb hg; have hbx := below_map (Below.refl w.heap.size wr) hzw hwb hg; have cc2 := (hbx.cell (p := ⟨b1, o1 + i, none⟩) hb1).trans cc1; have z2 := hbb.size; have b1w2 : b1 < w2.heap.size := by { have := hbx.size; omega }; have HB2 := hid hbb; have HBX := hid hbx; clear hT2 hg hbb hbx tk3)
            | (go_at_call 11; have _t := tk4; (with_reducible refine (CS.out w2 HB2.out HBX.out).mono ?_); rintro e w1 ⟨rfl, hb⟩; obtain ⟨otk4, dtk4, rfl⟩ := ext_of_below hb; clear hb tk4))
          go_roundg (n1 - (i + 1))
          case measure => omega
          case rel =>
            have hlw := HB2.out
            exact ⟨i + 1, es2, by omega, rfl, by go_num, by rw [HA.out], by rw [LL.out]; omega, HP, HT2.out.later (by (repeat' (first | (with_reducible exact Below.refl _ _) | (with_reducible assumption) | (with_reducible refine below_ext0 ?_ _ _) | (with_reducible refine below_alloc0 ?_ _) | (with_reducible refine Below.ext ?_ ?_ _ _) | (with_reducible refine Below.alloc ?_ ?_ _) | (with_reducible refine Below.setCell ?_ ?_ _) | (with_reducible refine Below.drew ?_) | (with_reducible refine below_draws ?_ _) | go_size | (simp [size_ext]; done) | (simp [size_ext]; omega)))), by (repeat' (first | (with_reducible exact Below.refl _ _) | (with_reducible assumption) | (with_reducible refine below_ext0 ?_ _ _) | (with_reducible refine below_alloc0 ?_ _) | (with_reducible refine Below.ext ?_ ?_ _ _) | (with_reducible refine Below.alloc ?_ ?_ _) | (with_reducible refine Below.setCell ?_ ?_ _) | (with_reducible refine Below.drew ?_) | (with_reducible refine below_draws ?_ _) | go_size | (simp [size_ext]; done) | (simp [size_ext]; omega)))⟩
      · rw [errV_ne he, put_bad he] at CP
        generalize nameErr l = E at *
        clear he
        go_wp2_with (first
          | (go_at_call 14; have _t := tk3; (with_reducible refine (CP.out).mono ?_); rintro e w2 ⟨rfl, hT2, hg⟩; have HT2 := hid hT2; have HB2 := hid (below_map HLOW.out hzw hwb hg); clear hT2 hg tk3))
        go_roundg (n1 - (i + 1))
        case measure => omega
        case rel => exact ⟨i + 1, es, by omega, rfl, by go_num, rfl, by omega, hpos, HT2.out, HB2.out⟩
    · obtain rfl : i = n1 := by omega
      have t0 : ¬ (i : Int) < (i : Int) := by omega
      have CG := hid fun (w' : World) (hb : Below wr.heap.size wr w') => tget_any (HTR.out.later hb) ((H2.out.below (HLOW.out.trans (hb.mono hzw))).more (by have := hb.size; omega)) hq
      have CF := hid fun (w' : World) (hb : Below wr.heap.size wr w') => fold_any w' _ _ _ _ ((H2.out.below (HLOW.out.trans (hb.mono hzw))).more (by have := hb.size; omega))
      have CG2 := hid fun (w' : World) (A : Option Addr) (c : Nat) (hb : Below wr.heap.size wr w') (hr : Rd strR w' w'.heap.size A n2 c (q.map smallS)) => tget_any (HTR.out.later hb) hr (by rw [lsum_small]; exact hq)
      simp only [getT_fold] at CG2
      obtain ⟨wl, hwl⟩ : ∃ wl, wr = wl := ⟨_, rfl⟩
      rw [hwl] at HTR HLOW CG CF CG2 hzw ⊢
      clear hwl
      cases ho : lastFor es q with
      | some x =>
        have hp := (atV_ge hpos.out).2 (by rw [ho]; simp)
        simp only [tell_at ho, hl2.out] at CG CG2
        rw [ho] at CG CG2 hp
        have D1 := hid CG.out
        have D2 := hid CG2.out
        generalize atV es (some x) = V at *
        clear CG CG2 ho
        go_wp2_with (first
          | (go_at_call 15; have _t := tk5; (with_reducible refine (D1.out _ (by (repeat' (first | (with_reducible exact Below.refl _ _) | (with_reducible assumption) | (with_reducible refine below_ext0 ?_ _ _) | (with_reducible refine below_alloc0 ?_ _) | (with_reducible refine Below.ext ?_ ?_ _ _) | (with_reducible refine Below.alloc ?_ ?_ _) | (with_reducible refine Below.setCell ?_ ?_ _) | (with_reducible refine Below.drew ?_) | (with_reducible refine below_draws ?_ _) | go_size | (simp [size_ext]; done) | (simp [size_ext]; omega))))).mono ?_); rintro e w1 ⟨rfl, hb⟩; obtain ⟨otk5, dtk5, rfl⟩ := ext_of_below hb; clear hb tk5)
          | (go_at_call 16; have _t := tk6; refine (CF.out _ (by (repeat' (first | (with_reducible exact Below.refl _ _) | (with_reducible assumption) | (with_reducible refine below_ext0 ?_ _ _) | (with_reducible refine below_alloc0 ?_ _) | (with_reducible refine Below.ext ?_ ?_ _ _) | (with_reducible refine Below.alloc ?_ ?_ _) | (with_reducible refine Below.setCell ?_ ?_ _) | (with_reducible refine Below.drew ?_) | (with_reducible refine below_draws ?_ _) | go_size | (simp [size_ext]; done) | (simp [size_ext]; omega))))).mono ?_; rintro e w1 ⟨Atk6, ctk6, rfl, hr, hb⟩; obtain ⟨otk6, dtk6, rfl⟩ := ext_of_below hb; (try simp only [ext_drew, ext_drewN] at hr); have R6 := hid hr; clear hr; clear hb tk6)
          | (go_at_call 15; have _t := tk7; (with_reducible refine (D2.out _ _ _ (by (repeat' (first | (with_reducible exact Below.refl _ _) | (with_reducible assumption) | (with_reducible refine below_ext0 ?_ _ _) | (with_reducible refine below_alloc0 ?_ _) | (with_reducible refine Below.ext ?_ ?_ _ _) | (with_reducible refine Below.alloc ?_ ?_ _) | (with_reducible refine Below.setCell ?_ ?_ _) | (with_reducible refine Below.drew ?_) | (with_reducible refine below_draws ?_ _) | go_size | (simp [size_ext]; done) | (simp [size_ext]; omega)))) R6.out).mono ?_); rintro e w1 ⟨rfl, hb⟩; obtain ⟨otk7, dtk7, rfl⟩ := ext_of_below hb; clear hb tk7))
        go_ret
        have hlw := HLOW.out
        exact ⟨by simp, by (repeat' (first | (with_reducible exact Below.refl _ _) | (with_reducible assumption) | (with_reducible refine below_ext0 ?_ _ _) | (with_reducible refine below_alloc0 ?_ _) | (with_reducible refine Below.ext ?_ ?_ _ _) | (with_reducible refine Below.alloc ?_ ?_ _) | (with_reducible refine Below.setCell ?_ ?_ _) | (with_reducible refine Below.drew ?_) | (with_reducible refine below_draws ?_ _) | go_size | (simp [size_ext]; done) | (simp [size_ext]; omega)))⟩
      | none =>
        rw [show atV es none = -1 from rfl]
        cases q with
        | nil =>
          simp only [getT_nil ho, tellG] at CG CG2
          obtain rfl : n2 = 0 := hl2.out.symm
          have D1 := hid CG.out
          have D2 := hid CG2.out
          clear CG CG2 ho
          go_wp2_with (first
            | (go_at_call 15; have _t := tk5; (with_reducible refine (D1.out _ (by (repeat' (first | (with_reducible exact Below.refl _ _) | (with_reducible assumption) | (with_reducible refine below_ext0 ?_ _ _) | (with_reducible refine below_alloc0 ?_ _) | (with_reducible refine Below.ext ?_ ?_ _ _) | (with_reducible refine Below.alloc ?_ ?_ _) | (with_reducible refine Below.setCell ?_ ?_ _) | (with_reducible refine Below.drew ?_) | (with_reducible refine below_draws ?_ _) | go_size | (simp [size_ext]; done) | (simp [size_ext]; omega))))).mono ?_); rintro e w1 ⟨rfl, hb⟩; obtain ⟨otk5, dtk5, rfl⟩ := ext_of_below hb; clear hb tk5)
            | (go_at_call 16; have _t := tk6; refine (CF.out _ (by (repeat' (first | (with_reducible exact Below.refl _ _) | (with_reducible assumption) | (with_reducible refine below_ext0 ?_ _ _) | (with_reducible refine below_alloc0 ?_ _) | (with_reducible refine Below.ext ?_ ?_ _ _) | (with_reducible refine Below.alloc ?_ ?_ _) | (with_reducible refine Below.setCell ?_ ?_ _) | (with_reducible refine Below.drew ?_) | (with_reducible refine below_draws ?_ _) | go_size | (simp [size_ext]; done) | (simp [size_ext]; omega))))).mono ?_; rintro e w1 ⟨Atk6, ctk6, rfl, hr, hb⟩; obtain ⟨otk6, dtk6, rfl⟩ := ext_of_below hb; (try simp only [ext_drew, ext_drewN] at hr); have R6 := hid hr; clear hr; clear hb tk6)
            | (go_at_call 15; have _t := tk7; (with_reducible refine (D2.out _ _ _ (by (repeat' (first | (with_reducible exact Below.refl _ _) | (with_reducible assumption) | (with_reducible refine below_ext0 ?_ _ _) | (with_reducible refine below_alloc0 ?_ _) | (with_reducible refine Below.ext ?_ ?_ _ _) | (with_reducible refine Below.alloc ?_ ?_ _) | (with_reducible refine Below.setCell ?_ ?_ _) | (with_reducible refine Below.drew ?_) | (with_reducible refine below_draws ?_ _) | go_size | (simp [size_ext]; done) | (simp [size_ext]; omega)))) R6.out).mono ?_); rintro e w1 ⟨rfl, hb⟩; obtain ⟨otk7, dtk7, rfl⟩ := ext_of_below hb; clear hb tk7))
          go_ret
          have hlw := HLOW.out
          exact ⟨by simp, by (repeat' (first | (with_reducible exact Below.refl _ _) | (with_reducible assumption) | (with_reducible refine below_ext0 ?_ _ _) | (with_reducible refine below_alloc0 ?_ _) | (with_reducible refine Below.ext ?_ ?_ _ _) | (with_reducible refine Below.alloc ?_ ?_ _) | (with_reducible refine Below.setCell ?_ ?_ _) | (with_reducible refine Below.drew ?_) | (with_reducible refine below_draws ?_ _) | go_size | (simp [size_ext]; done) | (simp [size_ext]; omega)))⟩
        | cons a q =>
          simp only [getT_up ho] at CG CG2
          have hq2 : lsum q ≤ 1073741824 := by rw [lsum_cons] at hq; omega
          have hn2 : 1 ≤ n2 := by have := hl2.out; simp at this; omega
          obtain ⟨S, hrun0, hS⟩ := slice_from (i := 1) (H2.out.below HLOW.out) hn2
          have hS' : Rd strR wl w.heap.size S (n2 - 1) (c2 - 1) q := hS
          have hrun : ∀ w' : World, (Instr.slice 22 (.slice A2 n2 c2) (some (.int .i64 1)) none none).run Try.prog w' = .ok (.slice S (n2 - 1) (c2 - 1)) w' := hrun0
          have CG3 := hid fun (w' : World) (hb : Below wl.heap.size wl w') => tget_any (HTR.out.later hb) ((hS'.below (hb.mono hzw)).more (by have := hb.size; omega)) hq2
          obtain ⟨G, hG⟩ : ∃ G, tellG es (getT es q) = G := ⟨_, rfl⟩
          simp only [hG] at CG CG2 CG3
          obtain ⟨G1, G2, G3⟩ := G
          dsimp only at CG CG2 CG3
          have D1 := hid CG.out
          have D2 := hid CG2.out
          have D3 := hid CG3.out
          have n0 : ((n2 : Int) == 0) = false := beq_eq_false_iff_ne.2 (by omega)
          have HQ := hl2
          clear CG CG2 CG3 ho hG hS hS' hrun0
          go_wp2_with (first
            | (go_at_call 15; have _t := tk5; (with_reducible refine (D1.out _ (by (repeat' (first | (with_reducible exact Below.refl _ _) | (with_reducible assumption) | (with_reducible refine below_ext0 ?_ _ _) | (with_reducible refine below_alloc0 ?_ _) | (with_reducible refine Below.ext ?_ ?_ _ _) | (with_reducible refine Below.alloc ?_ ?_ _) | (with_reducible refine Below.setCell ?_ ?_ _) | (with_reducible refine Below.drew ?_) | (with_reducible refine below_draws ?_ _) | go_size | (simp [size_ext]; done) | (simp [size_ext]; omega))))).mono ?_); rintro e w1 ⟨rfl, hb⟩; obtain ⟨otk5, dtk5, rfl⟩ := ext_of_below hb; clear hb tk5)
            | (go_at_call 16; have _t := tk6; refine (CF.out _ (by (repeat' (first | (with_reducible exact Below.refl _ _) | (with_reducible assumption) | (with_reducible refine below_ext0 ?_ _ _) | (with_reducible refine below_alloc0 ?_ _) | (with_reducible refine Below.ext ?_ ?_ _ _) | (with_reducible refine Below.alloc ?_ ?_ _) | (with_reducible refine Below.setCell ?_ ?_ _) | (with_reducible refine Below.drew ?_) | (with_reducible refine below_draws ?_ _) | go_size | (simp [size_ext]; done) | (simp [size_ext]; omega))))).mono ?_; rintro e w1 ⟨Atk6, ctk6, rfl, hr, hb⟩; obtain ⟨otk6, dtk6, rfl⟩ := ext_of_below hb; (try simp only [ext_drew, ext_drewN] at hr); have R6 := hid hr; clear hr; clear hb tk6)
            | (go_at_call 15; have _t := tk7; (with_reducible refine (D2.out _ _ _ (by (repeat' (first | (with_reducible exact Below.refl _ _) | (with_reducible assumption) | (with_reducible refine below_ext0 ?_ _ _) | (with_reducible refine below_alloc0 ?_ _) | (with_reducible refine Below.ext ?_ ?_ _ _) | (with_reducible refine Below.alloc ?_ ?_ _) | (with_reducible refine Below.setCell ?_ ?_ _) | (with_reducible refine Below.drew ?_) | (with_reducible refine below_draws ?_ _) | go_size | (simp [size_ext]; done) | (simp [size_ext]; omega)))) R6.out).mono ?_); rintro e w1 ⟨rfl, hb⟩; obtain ⟨otk7, dtk7, rfl⟩ := ext_of_below hb; clear hb tk7)
            | (go_at_call 15; have _t := tk8; (with_reducible refine (D3.out _ (by (repeat' (first | (with_reducible exact Below.refl _ _) | (with_reducible assumption) | (with_reducible refine below_ext0 ?_ _ _) | (with_reducible refine below_alloc0 ?_ _) | (with_reducible refine Below.ext ?_ ?_ _ _) | (with_reducible refine Below.alloc ?_ ?_ _) | (with_reducible refine Below.setCell ?_ ?_ _) | (with_reducible refine Below.drew ?_) | (with_reducible refine below_draws ?_ _) | go_size | (simp [size_ext]; done) | (simp [size_ext]; omega))))).mono ?_); rintro e w1 ⟨rfl, hb⟩; obtain ⟨otk8, dtk8, rfl⟩ := ext_of_below hb; clear hb tk8))
          go_ret
          have hlw := HLOW.out
          exact ⟨by simp, by (repeat' (first | (with_reducible exact Below.refl _ _) | (with_reducible assumption) | (with_reducible refine below_ext0 ?_ _ _) | (with_reducible refine below_alloc0 ?_ _) | (with_reducible refine Below.ext ?_ ?_ _ _) | (with_reducible refine Below.alloc ?_ ?_ _) | (with_reducible refine Below.setCell ?_ ?_ _) | (with_reducible refine Below.drew ?_) | (with_reducible refine below_draws ?_ _) | go_size | (simp [size_ext]; done) | (simp [size_ext]; omega)))⟩
set_option maxRecDepth 100000 in
theorem contractUpto (H : Type) (enc : TypeId × Value → H) (W : World) (base : Nat) (args : Array Value) (ds gs : List (DataW H)) (before : List MemPlace)
    (hval : ∀ (j : Nat) t v, Try.f4.params[j]? = some t → args[j]? = some v → Value.okWide Try.prog W .any base t v)
    (hW : DataW.Whole enc Try.prog Try.f4.params.toList Rows.tailUpSpec.vars false W args.toList ds gs before) (hsz : (DataW.weightsEach Try.prog (Try.f4.params.toList ++ Rows.tailUpSpec.plain.varTypes Try.prog) (ds ++ gs)).all (· ≤ reachBytes) = true) (hk : Rows.uptoSmall H (ds ++ gs) = true) :
    Calls Try.prog 4 args W fun e W' => ∃ v, e = .returned v ∧ Rows.tailUpSpec.post enc Try.prog Try.f4 false true false false W args v W' := by
  have hW' := hW
  obtain ⟨p, q, hA0, hV, rfl, hfz, hnd⟩ := hW
  have hA : DataW.TrodAll enc Try.prog W 0 (fun _ => true) true Try.f4.params.toList args.toList ds p := hA0
  rw [Try.params4] at hA hval hsz
  obtain ⟨v0, vs0, d0, ds0, p0, q0, hargs, rfl, rfl, k0, r0⟩ := trodAll_cons hA
  obtain ⟨v1, vs1, d1, ds1, p1, q1, rfl, rfl, rfl, k1, r1⟩ := trodAll_cons r0
  obtain ⟨rfl, rfl, rfl⟩ := trodAll_nil r1
  obtain rfl : args = #[v0, v1] := by cases args; simp_all
  obtain ⟨rfl, rfl⟩ := trodVars_none hV
  have lt0 : ∀ x ∈ p0, x.block < W.heap.size := by obtain ⟨m, hm⟩ := k0; exact DataW.trod_lt m _ _ _ hm
  have lt1 : ∀ x ∈ p1, x.block < W.heap.size := by obtain ⟨m, hm⟩ := k1; exact DataW.trod_lt m _ _ _ hm
  have hsz' : ∀ k ∈ _, k ≤ reachBytes := fun k hk => of_decide_eq_true (List.all_eq_true.1 hsz k hk)
  have u0 : ∀ k ∈ d0.weights Try.prog 32, k ≤ reachBytes := fun k hk => hsz' k (by simp [DataW.weightsEach, hk])
  have u1 : ∀ k ∈ d1.weights Try.prog 22, k ≤ reachBytes := fun k hk => hsz' k (by simp [DataW.weightsEach, hk])
  obtain ⟨A0, n0, c0, l0, rfl, w0, z0⟩ := arg_slice Try.underlying32 (opens_slice Try.underlying32 (opens_slice Try.underlying22 (opens_str Try.underlying9) (by kernel_rfl) (by decide) (of_decide_eq_true (by kernel_rfl))) (by kernel_rfl) (by decide) (of_decide_eq_true (by kernel_rfl))) (hval 0 32 v0 rfl rfl) k0 u0
  obtain ⟨A1, n1, c1, l1, rfl, w1, z1⟩ := arg_slice Try.underlying22 (opens_slice Try.underlying22 (opens_str Try.underlying9) (by kernel_rfl) (by decide) (of_decide_eq_true (by kernel_rfl))) (hval 1 22 v1 rfl rfl) k1 u1
  have hsum := bulk_of hk
  simp only [List.append_nil, List.map_cons, List.map_nil, List.sum_cons, List.sum_nil] at hsum
  clear hA0 hA
  refine (walkUpto W A0 n0 c0 l0 w0 A1 n1 c1 l1 w1 (by omega)).mono fun e W' ⟨he, bel⟩ => ?_
  subst he
  exact ⟨_, rfl, _, _, _, [], _, [], hW', trodAll_mk1 (shut_bool Try.underlying4 _), (trodAll_cons_mk (Below.trod laidOut (by kernel_rfl) (of_decide_eq_true (by kernel_rfl)) k0 bel lt0) (trodAll_cons_mk (Below.trod laidOut (by kernel_rfl) (of_decide_eq_true (by kernel_rfl)) k1 bel lt1) trodAll_mk0)), rfl, bel.frame _, fun h => by cases h⟩

set_option maxRecDepth 100000 in
theorem liftedUpto (os : Os) (started : os.Started) (H : Type) (enc : TypeId × Value → H) (F : Stop.Interp) :
    ReturnsInHanded {} Try.checked os 4 .any ((Rows.OpenSpec.upto Rows.tailUpSpec).pre6 enc Try.prog Try.f4 Rows.tailUpUptoRow.domain false) (((Rows.OpenSpec.upto Rows.tailUpSpec).at F).post enc Try.prog Try.f4 false true false false) := by
  refine returnsInHanded_of_cond_sized (C := Try.checked) (s := Rows.OpenSpec.upto Rows.tailUpSpec) (k := Rows.uptoSmall) rfl own started (by kernel_rfl) Try.func4
    (OpenSpec.witness (enc := enc) (C := Try.checked) (s := Rows.OpenSpec.upto Rows.tailUpSpec) (k := Rows.uptoSmall) rfl false ⟨#[], #[.slice none 0 0, .slice none 0 0], []⟩ 8 (by kernel_rfl) (by kernel_rfl) (by kernel_rfl)
      (x := ([.nil, .nil], [], [])) (by kernel_rfl) rfl (by kernel_rfl)) ?_
  intro W base args ds gs before hval hW _ hk hsz _
  exact contractUpto H enc W base args ds gs before hval hW hsz hk

/-- the statement -/
theorem provedUpto : Rows.TailUpUptoSaid :=
  OpenClaim.holds_of_cond 4 Try.f4 rfl rfl rfl rfl rfl rfl rfl ⟨rfl, rfl, rfl, rfl, rfl⟩ rfl rfl rfl rfl rfl (by kernel_rfl) Try.func4 (by kernel_rfl)
    (of_decide_eq_true (by kernel_rfl)) (by unfold Func.isWrapper; first | (rw [if_pos (by decide +kernel)]; kernel_rfl) | (rw [if_neg (by decide +kernel)]; exact ⟨rfl, rfl⟩))
    (fun os started H enc _ F => liftedUpto os started H enc F)

end tailUp
end Go.Proofs.Ytemgbfppdopfbaa
