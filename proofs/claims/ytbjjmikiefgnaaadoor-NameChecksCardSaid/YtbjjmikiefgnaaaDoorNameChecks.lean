/- NameChecks is true of every input: of any labels the program tells what the document tells. Condition: the variable errors.errorType holds what the program's text lays in it (the card ties it). -/
import Derived.Test.YtbjjmikiefgnaaaDoorNameRefB
import Derived.Test.YtbjjmikiefgnaaaDoorLaid
import Derived.OpenShut
import Derived.JoinedCond
namespace Go.Proofs.YtbjjmikiefgnaaaDoor
open Go.ChangeShapes Go.WideShapes Go.ChangeAt Go.RowKit
set_option linter.unusedVariables false
namespace nameChecks

theorem rd_of_blk_str {w : World} {g : Nat} {t : TypeId} {cs : Array Value} (l : List ByteArray) (h : Blk w g t cs) (hl : cs.toList = strsV l) (hs : ∀ s ∈ l, s.size ≤ 140737488355328) (hm : l.length ≤ 1000) : Rd strR w w.heap.size (some ⟨g, 0, none⟩) l.length l.length l := by
  refine ⟨rfl, Nat.le_refl _, by unfold maxLen; omega, by simp only [strR]; omega, fun e => (by cases e), fun i hi => ?_⟩
  refine ⟨g, 0, _, rfl, h.lt, ⟨rfl, hs _ (List.getElem_mem hi)⟩, fun j u hu => ?_⟩
  have hj : j = 0 := by
    cases j with
    | zero => rfl
    | succ j => simp at hu
  subst hj
  simp at hu
  subst hu
  have := h.cell i
  rw [← Array.getElem?_toList, hl] at this
  simpa [strR, strsV, hi] using this
theorem lit_rd (w : World) (g : Nat) (t : TypeId) (s : ByteArray) (hs : s.size ≤ 140737488355328) (hg : g = w.heap.size) : Rd strR (w.alloc (.cells #[.string s] t)) (w.alloc (.cells #[.string s] t)).heap.size (some ⟨g, 0, none⟩) 1 1 [s] :=
  rd_of_blk_str [s] (Blk.new' t _ hg) rfl (by simpa using hs) (by simp)
theorem fact_one : cmpL [⟨#[98]⟩].reverse [⟨#[65]⟩].reverse = 1 := by decide +kernel
theorem toL (a b : List ByteArray) : cmpL a.reverse b.reverse = cmpN a b := rfl
theorem err_same (n : Int) (w : World) (hg : Laid w) : Calls Tryd.prog 11 #[errV n, .int .i64 n] w fun e w' => e = .returned (.bool true) ∧ Below w.heap.size w w' := by
  simpa using error_any n n w hg

theorem fact_any (w : World) (g1 g2 : Nat) (t : TypeId) (e1 : g1 = w.heap.size) (e2 : g2 = (w.alloc (.cells #[.string ⟨#[98]⟩] t)).heap.size) :
    Calls Tryd.prog 21 #[.slice (some ⟨g1, 0, none⟩) 1 1, .slice (some ⟨g2, 0, none⟩) 1 1] ((w.alloc (.cells #[.string ⟨#[98]⟩] t)).alloc (.cells #[.string ⟨#[65]⟩] t)) fun e w' => e = .returned (.int .i64 1) ∧ Below ((w.alloc (.cells #[.string ⟨#[98]⟩] t)).alloc (.cells #[.string ⟨#[65]⟩] t)).heap.size ((w.alloc (.cells #[.string ⟨#[98]⟩] t)).alloc (.cells #[.string ⟨#[65]⟩] t)) w' := by
  have := compare_any _ _ _ _ _ ((lit_rd w g1 t ⟨#[98]⟩ (by decide) e1).later ((Below.refl _ _).alloc (Nat.le_refl _) _)) _ _ _ _ (lit_rd _ g2 t ⟨#[65]⟩ (by decide) e2)
  rwa [fact_one] at this

set_option maxRecDepth 100000 in
set_option maxHeartbeats 8000000 in
theorem walk (w : World) (hL : Laid w) (A1 : Option Addr) (n1 c1 : Nat) (l1 : List ByteArray) (h1 : Rd strR w w.heap.size A1 n1 c1 l1) (A2 : Option Addr) (n2 c2 : Nat) (l2 : List ByteArray) (h2 : Rd strR w w.heap.size A2 n2 c2 l2) :
    Calls Tryd.prog 4 #[.slice A1 n1 c1, .slice A2 n2 c2] w fun e w' => e = .returned (.bool true) ∧ Below w.heap.size w w' := by
  have hlt : 0 < w.heap.size := World.block_lt_of_cell? w _ hL
  have H := hid h1
  have hm := h1.max
  have hcap := h1.cap
  have hlim := h1.lim
  simp only [strR] at hlim
  unfold maxLen at hm
  have CK := hid (name_check w A1 n1 c1 l1 w.heap.size h1)
  have NF := hid (nfault_any w A1 n1 c1 l1 w.heap.size h1)
  have ES := hid (err_same (nameErr l1) w hL)
  have FA := hid fun w' (hb : Below w.heap.size w w') => fold_any w' A1 n1 c1 l1 (h1.later hb)
  have CAB := fun w' (hb : Below w.heap.size w w') => compare_any w' A1 n1 c1 l1 (h1.later hb) A2 n2 c2 l2 (h2.later hb)
  have RN := fun w' (hb : Below w.heap.size w w') => rnames_any w' A1 n1 c1 l1 (h1.later hb) A2 n2 c2 l2 (h2.later hb)
  have SAB := fun w' (hb : Below w.heap.size w w') => same_any w' A1 n1 c1 l1 (h1.later hb) A2 n2 c2 l2 (h2.later hb)
  have UAB := hid fun w' (hb : Below w.heap.size w w') => under_any w' A1 n1 c1 l1 (h1.later hb) A2 n2 c2 l2 (h2.later hb)
  have RB := hid fun w' (hb : Below w.heap.size w w') => rbelow_any w' A1 n1 c1 l1 (h1.later hb) A2 n2 c2 l2 (h2.later hb)
  rw [sameL_iff] at SAB
  simp only [toL] at CAB
  clear h1 h2
  obtain ⟨ab, hab⟩ : ∃ ab, cmpN l1 l2 = ab := ⟨_, rfl⟩
  simp only [hab] at CAB RN SAB
  have HAB := hid hab
  clear hab
  replace CAB := hid CAB
  replace RN := hid RN
  replace SAB := hid SAB
  have tk0 : True := trivial; have tk1 : True := trivial; have tk2 : True := trivial; have tk3 : True := trivial; have tk4 : True := trivial; have tk5 : True := trivial; have tk6 : True := trivial; have tk7 : True := trivial; have tk8 : True := trivial; have tk9 : True := trivial; have tk10 : True := trivial; have tk11 : True := trivial; have tk12 : True := trivial
  go_enter Tryd.func4, Tryd.ntmps4
  go_wp2_with (first
    | (go_at_call 15; have _t := tk1; refine (CK.out).mono ?_; rintro e w1 ⟨rfl, hw⟩; subst w1; clear tk1)
    | (go_at_call 16; have _t := tk2; refine (NF.out).mono ?_; rintro e w1 ⟨rfl, hw⟩; subst w1; clear tk2)
    | (go_at_call 11; have _t := tk3; refine (ES.out).mono ?_; rintro e w1 ⟨rfl, hb⟩; have HB3 := hid hb; obtain ⟨otk3, dtk3, rfl⟩ := ext_of_below hb; clear hb tk3))
  go_loopg [6, 7] n1 (fun gk v6 v7 wi => ∃ k : Nat, k ≤ n1 ∧ gk = n1 - k ∧ v7 = .int .i64 (k : Int) ∧ wi.ownsRow w.heap.size 9 1 v6 k (strsV ((l1.take k).map smallS)) ∧ Below w.heap.size w wi)
  case atStart => exact ⟨0, Nat.zero_le _, rfl, rfl, World.ownsRow_nil _ _ _ _, HB3.out⟩
  case round =>
    obtain ⟨k, hk, rfl, rfl, hown, hlow⟩ := hrel
    have HO := hid hown
    have HLOW := hid hlow
    clear hown hlow
    by_cases hlt' : k < n1
    · obtain ⟨b, o, rfl, _, hc, hz⟩ := (H.out.below HLOW.out).str k hlt'
      have hkl : k < l1.length := by rw [H.out.len]; exact hlt'
      have htk : l1.take (k + 1) = l1.take k ++ [l1[k]] := List.take_succ_eq_append_getElem hkl
      have HTK := hid htk
      obtain ⟨x, hx⟩ : ∃ x, l1[k] = x := ⟨_, rfl⟩
      rw [hx] at hc hz
      have HX := hid hx
      have CS := hid (folded_any x hz)
      have hsz := HLOW.out.size
      have c4 : (k + 1) * 16 ≤ 140737488355328 := by omega
      have c3 : k + 1 ≤ maxLen := by unfold maxLen; omega
      clear htk hx
      go_wp2_with (first
        | (go_at_call 17; refine (CS.out _).mono ?_; rintro e w1 ⟨rfl, hb⟩; obtain ⟨os, d, rfl⟩ := ext_of_below hb; clear hb)
        | (at_builtin; refine wpList_app rfl _ _ 38 rfl w.heap.size 9 1 16 el_str _ k _ rfl ((own_ext HO.out os d).alloc _) _ 1 1 [.string (smallS x)] rfl (src_one _ rfl (by simp [size_ext])) c4 c3 (by simp [size_ext]; omega) ?_; intro v' w1 ho hg ha; have HO1 := hid ho; have HL1 := hid (Below.trans (Below.alloc (Below.ext HLOW.out hsz os d) (by simp [size_ext]; omega) _) (grown_below ((own_ext HO.out os d).alloc _) hg (by simp [size_ext]; omega))); clear ho hg ha))
      go_roundg (n1 - (k + 1))
      case measure => omega
      case rel => exact ⟨k + 1, by omega, rfl, by go_num, by rw [HTK.out, HX.out]; simpa [strsV] using HO1.out, HL1.out⟩
    · obtain rfl : k = n1 := by omega
      have ho := HO.out
      rw [List.take_of_length_le (by rw [H.out.len]; exact Nat.le_refl _)] at ho
      obtain ⟨A', c', rfl, hr⟩ := rd_of_own (R := strR) ho (rels_str (by
        intro s hs
        obtain ⟨t, ht, rfl⟩ := List.mem_map.1 hs
        rw [smallS_size]
        exact H.out.sizes t ht)) (by rw [List.length_map, H.out.len]) HLOW.out.size (by simpa [strR] using hlim) (by decide)
      have HR := hid hr
      have hbw := HLOW.out
      have hbs := HLOW.out.size
      clear hr ho HO
      go_wp2_with fail
      (go_at_call 19; have _t := tk4; refine (FA.out _ (by (repeat' (first | (with_reducible exact Below.refl _ _) | (with_reducible assumption) | (with_reducible refine Below.ext ?_ ?_ _ _) | (with_reducible refine Below.alloc ?_ ?_ _) | (with_reducible refine Below.setCell ?_ ?_ _) | (with_reducible refine Below.drew ?_) | (with_reducible refine below_draws ?_ _) | go_size | (simp [size_ext]; done) | (simp [size_ext]; omega))))).mono ?_; rintro e w1 ⟨Atk4, ctk4, rfl, hr, hb⟩; obtain ⟨otk4, dtk4, rfl⟩ := ext_of_below hb; (try simp only [ext_drew, ext_drewN] at hr); have R5 := hid hr; clear hr; clear hb tk4)
      go_wp2_with fail
      (go_at_call 18; have _t := tk5; refine (texts_any _ _ _ _ _ _ (R5.out.below (by (repeat' (first | (with_reducible exact Below.refl _ _) | (with_reducible assumption) | (with_reducible refine Below.ext ?_ ?_ _ _) | (with_reducible refine Below.alloc ?_ ?_ _) | (with_reducible refine Below.setCell ?_ ?_ _) | (with_reducible refine Below.drew ?_) | (with_reducible refine below_draws ?_ _) | go_size | (simp [size_ext]; done) | (simp [size_ext]; omega))))) _ _ _ _ _ (HR.out.below (by (repeat' (first | (with_reducible exact Below.refl _ _) | (with_reducible assumption) | (with_reducible refine Below.ext ?_ ?_ _ _) | (with_reducible refine Below.alloc ?_ ?_ _) | (with_reducible refine Below.setCell ?_ ?_ _) | (with_reducible refine Below.drew ?_) | (with_reducible refine below_draws ?_ _) | go_size | (simp [size_ext]; done) | (simp [size_ext]; omega)))))).mono ?_; rw [decide_eq_true rfl]; rintro e w1 ⟨rfl, hb⟩; obtain ⟨otk5, dtk5, rfl⟩ := ext_of_below hb; clear hb tk5)
      go_wp2_with fail
      (go_at_call 20; have _t := tk6; refine (RN.out _ (by (repeat' (first | (with_reducible exact Below.refl _ _) | (with_reducible assumption) | (with_reducible refine Below.ext ?_ ?_ _ _) | (with_reducible refine Below.alloc ?_ ?_ _) | (with_reducible refine Below.setCell ?_ ?_ _) | (with_reducible refine Below.drew ?_) | (with_reducible refine below_draws ?_ _) | go_size | (simp [size_ext]; done) | (simp [size_ext]; omega))))).mono ?_; rintro e w1 ⟨rfl, hb⟩; obtain ⟨otk6, dtk6, rfl⟩ := ext_of_below hb; clear hb tk6)
      go_wp2_with fail
      (go_at_call 21; have _t := tk0; refine (fact_any _ _ _ _ (by simp [size_ext]) (by simp [size_ext])).mono ?_; rintro e w1 ⟨rfl, hb⟩; obtain ⟨otk0, dtk0, rfl⟩ := ext_of_below hb; clear hb tk0)
      go_wp2_with fail
      (go_at_call 21; have _t := tk7; refine (CAB.out _ (by (repeat' (first | (with_reducible exact Below.refl _ _) | (with_reducible assumption) | (with_reducible refine Below.ext ?_ ?_ _ _) | (with_reducible refine Below.alloc ?_ ?_ _) | (with_reducible refine Below.setCell ?_ ?_ _) | (with_reducible refine Below.drew ?_) | (with_reducible refine below_draws ?_ _) | go_size | (simp [size_ext]; done) | (simp [size_ext]; omega))))).mono ?_; rintro e w1 ⟨rfl, hb⟩; obtain ⟨otk7, dtk7, rfl⟩ := ext_of_below hb; clear hb tk7)
      trace "one"
      go_wp2_with fail
      (go_at_call 22; have _t := tk8; refine (SAB.out _ (by (repeat' (first | (with_reducible exact Below.refl _ _) | (with_reducible assumption) | (with_reducible refine Below.ext ?_ ?_ _ _) | (with_reducible refine Below.alloc ?_ ?_ _) | (with_reducible refine Below.setCell ?_ ?_ _) | (with_reducible refine Below.drew ?_) | (with_reducible refine below_draws ?_ _) | go_size | (simp [size_ext]; done) | (simp [size_ext]; omega))))).mono ?_; rintro e w1 ⟨rfl, hb⟩; obtain ⟨otk8, dtk8, rfl⟩ := ext_of_below hb; clear hb tk8)
      trace "two"
      go_wp2_with fail
      (go_at_call 23; have _t := tk9; refine (UAB.out _ (by (repeat' (first | (with_reducible exact Below.refl _ _) | (with_reducible assumption) | (with_reducible refine Below.ext ?_ ?_ _ _) | (with_reducible refine Below.alloc ?_ ?_ _) | (with_reducible refine Below.setCell ?_ ?_ _) | (with_reducible refine Below.drew ?_) | (with_reducible refine below_draws ?_ _) | go_size | (simp [size_ext]; done) | (simp [size_ext]; omega))))).mono ?_; rintro e w1 ⟨rfl, hb⟩; obtain ⟨otk9, dtk9, rfl⟩ := ext_of_below hb; clear hb tk9)
      trace "three"
      go_wp2_with fail
      (go_at_call 24; have _t := tk10; refine (RB.out _ (by (repeat' (first | (with_reducible exact Below.refl _ _) | (with_reducible assumption) | (with_reducible refine Below.ext ?_ ?_ _ _) | (with_reducible refine Below.alloc ?_ ?_ _) | (with_reducible refine Below.setCell ?_ ?_ _) | (with_reducible refine Below.drew ?_) | (with_reducible refine below_draws ?_ _) | go_size | (simp [size_ext]; done) | (simp [size_ext]; omega))))).mono ?_; rintro e w1 ⟨rfl, hb⟩; obtain ⟨otk10, dtk10, rfl⟩ := ext_of_below hb; clear hb tk10)
      trace "four"
      go_wp2
      go_ret
      exact ⟨by simp, by (repeat' (first | (with_reducible exact Below.refl _ _) | (with_reducible assumption) | (with_reducible refine Below.ext ?_ ?_ _ _) | (with_reducible refine Below.alloc ?_ ?_ _) | (with_reducible refine Below.setCell ?_ ?_ _) | (with_reducible refine Below.drew ?_) | (with_reducible refine below_draws ?_ _) | go_size | (simp [size_ext]; done) | (simp [size_ext]; omega)))⟩

set_option maxRecDepth 100000 in
theorem contract (H : Type) (enc : TypeId × Value → H) (W : World) (base : Nat) (args : Array Value) (ds gs : List (DataW H)) (before : List MemPlace)
    (hval : ∀ (j : Nat) t v, Tryd.f4.params[j]? = some t → args[j]? = some v → Value.okWide Tryd.prog W .any base t v)
    (hW : DataW.Whole enc Tryd.prog Tryd.f4.params.toList Rows.nameChecksSpec.vars false W args.toList ds gs before) (hsz : (DataW.weightsEach Tryd.prog (Tryd.f4.params.toList ++ Rows.nameChecksSpec.plain.varTypes Tryd.prog) (ds ++ gs)).all (· ≤ reachBytes) = true) (hL : Laid W) :
    Calls Tryd.prog 4 args W fun e W' => ∃ v, e = .returned v ∧ Rows.nameChecksSpec.post enc Tryd.prog Tryd.f4 false true false false W args v W' := by
  have hW' := hW
  obtain ⟨p, q, hA0, hV, rfl, hfz, hnd⟩ := hW
  have hA : DataW.TrodAll enc Tryd.prog W 0 (fun _ => true) true Tryd.f4.params.toList args.toList ds p := hA0
  rw [Tryd.params4] at hA hval hsz
  obtain ⟨v0, vs0, d0, ds0, p0, q0, hargs, rfl, rfl, k0, r0⟩ := trodAll_cons hA
  obtain ⟨v1, vs1, d1, ds1, p1, q1, rfl, rfl, rfl, k1, r1⟩ := trodAll_cons r0
  obtain ⟨rfl, rfl, rfl⟩ := trodAll_nil r1
  obtain rfl : args = #[v0, v1] := by cases args; simp_all
  obtain ⟨rfl, rfl⟩ := trodVars_none hV
  have lt0 : ∀ x ∈ p0, x.block < W.heap.size := by obtain ⟨m, hm⟩ := k0; exact DataW.trod_lt m _ _ _ hm
  have lt1 : ∀ x ∈ p1, x.block < W.heap.size := by obtain ⟨m, hm⟩ := k1; exact DataW.trod_lt m _ _ _ hm
  have hsz' : ∀ k ∈ _, k ≤ reachBytes := fun k hk => of_decide_eq_true (List.all_eq_true.1 hsz k hk)
  have u0 : ∀ k ∈ d0.weights Tryd.prog 38, k ≤ reachBytes := fun k hk => hsz' k (by simp [DataW.weightsEach, hk])
  have u1 : ∀ k ∈ d1.weights Tryd.prog 38, k ≤ reachBytes := fun k hk => hsz' k (by simp [DataW.weightsEach, hk])
  obtain ⟨A0, n0, c0, l0, rfl, w0, z0⟩ := arg_slice Tryd.underlying38 (opens_slice Tryd.underlying38 (opens_str Tryd.underlying9) (by kernel_rfl) (by decide) (of_decide_eq_true (by kernel_rfl))) (hval 0 38 v0 rfl rfl) k0 u0
  obtain ⟨A1, n1, c1, l1, rfl, w1, z1⟩ := arg_slice Tryd.underlying38 (opens_slice Tryd.underlying38 (opens_str Tryd.underlying9) (by kernel_rfl) (by decide) (of_decide_eq_true (by kernel_rfl))) (hval 1 38 v1 rfl rfl) k1 u1
  clear hA0 hA
  refine (walk W hL A0 n0 c0 l0 w0 A1 n1 c1 l1 w1).mono fun e W' ⟨he, bel⟩ => ?_
  subst he
  exact ⟨_, rfl, _, _, _, [], _, [], hW', trodAll_mk1 (shut_bool Tryd.underlying4 _), (trodAll_cons_mk (Below.trod laidOut (by kernel_rfl) (of_decide_eq_true (by kernel_rfl)) k0 bel lt0) (trodAll_cons_mk (Below.trod laidOut (by kernel_rfl) (of_decide_eq_true (by kernel_rfl)) k1 bel lt1) trodAll_mk0)), rfl, bel.frame _, fun h => by cases h⟩

set_option maxRecDepth 100000 in
theorem lifted (os : Os) (started : os.Started) (H : Type) (enc : TypeId × Value → H) :
    ReturnsInHanded {} Tryd.checked os 4 .any (fun w args => (Rows.nameChecksSpec.pre enc Tryd.prog Tryd.f4 [] false w args ∧ laidMetH Tryd.prog laidL w) ∧ sizedMet enc Tryd.prog Tryd.f4 (OpenSpec.ofChange Rows.nameChecksSpec) false w args) (Rows.nameChecksSpec.post enc Tryd.prog Tryd.f4 false true false false) := by
  refine returnsInHanded_of_change_and (C := Tryd.checked) (X := fun w _ => laidMetH Tryd.prog laidL w) (fun _ _ _ hh h => h.of_heap hh) own started (by kernel_rfl) Tryd.func4
    (ChangeSpec.witness_at (enc := enc) (C := Tryd.checked) (os := os) (X := fun w _ => laidMetH Tryd.prog laidL w) false (laidWorld os) #[.slice none 0 0, .slice none 0 0] 8 rfl (by kernel_rfl) (by kernel_rfl) (by kernel_rfl) (by kernel_rfl) (by kernel_rfl) (laidWorld_met os _)) ?_
  intro W base args ds gs before hval hW _ hsz hL _
  exact contract H enc W base args ds gs before hval hW hsz (laid_of hL)

set_option maxRecDepth 100000 in
theorem said : Rows.NameChecksSaid :=
  OpenClaim.holds_of_wide 4 Tryd.f4 rfl rfl rfl rfl rfl rfl rfl ⟨rfl, rfl, rfl, rfl, rfl⟩ rfl rfl rfl rfl rfl (by kernel_rfl) Tryd.func4 (by kernel_rfl)
    (of_decide_eq_true (by kernel_rfl)) (by unfold Func.isWrapper; first | (rw [if_pos (by decide +kernel)]; kernel_rfl) | (rw [if_neg (by decide +kernel)]; exact ⟨rfl, rfl⟩))
    (fun os started H enc _ => lifted os started H enc)
set_option maxRecDepth 100000 in
/-- the statement: the tied card -/
theorem proved : Rows.NameChecksCardSaid :=
  Claim7.holds_tied_plain_at .later [] [.handle] true (true, "43c8b0af65a411a36547a9fc34b32c023afcbbf36dca1feb727a2cd0b49e13d4") true said (fun _ h => by cases h) (by kernel_rfl) (fun _ h => by cases h) nameChecks_row_tie rfl ⟨rfl, rfl⟩ (by kernel_rfl) rfl
    (fun f fn hf hfn => by
      obtain rfl : f = 4 := Option.some.inj ((show Tryd.prog.funcNamed "pointsman/pointsmanlaw1.NameChecks" = some 4 by kernel_rfl).symm.trans hf) |>.symm
      obtain rfl : fn = Tryd.f4 := (Option.some.inj (Tryd.func4.symm.trans hfn)).symm
      exact ⟨by kernel_rfl, fun j t ht => no_stand (by kernel_rfl) j t ht⟩)
    (by kernel_rfl)

end nameChecks
end Go.Proofs.YtbjjmikiefgnaaaDoor
