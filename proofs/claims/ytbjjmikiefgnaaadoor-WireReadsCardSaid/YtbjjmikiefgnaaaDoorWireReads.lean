/- WireReads is true of every input: of any message and any place the program reads what the document tells. Condition: the variable errors.errorType holds what the program's text lays in it (the card ties it). -/
import Derived.Test.YtbjjmikiefgnaaaDoorWireRefA
import Derived.Test.YtbjjmikiefgnaaaDoorLaid
namespace Go.Proofs.YtbjjmikiefgnaaaDoor
open Go.ChangeShapes Go.WideShapes Go.ChangeAt Go.RowKit
set_option linter.unusedVariables false
namespace wireReads

theorem err_zero (w : World) (hg : Laid w) : Calls Tryd.prog 11 #[.nilIface, .int .i64 0] w fun e w' => e = .returned (.bool true) ∧ Below w.heap.size w w' := by
  have := error_any 0 0 w hg
  simpa [errV] using this
theorem err_one (n : Int) (hn : n ≠ 0) (w : World) (hg : Laid w) : Calls Tryd.prog 11 #[.iface 25 (.int .i64 n), .int .i64 n] w fun e w' => e = .returned (.bool true) ∧ Below w.heap.size w w' := by
  have := error_any n n w hg
  rw [errV_ne hn] at this
  simpa using this
theorem fact_rd : rdN [1, 97, 0] 0 = (0, [⟨#[97]⟩], 3) := write_back [] [⟨#[97]⟩] (by decide +kernel)
theorem fact_read {w : World} {g : Nat} (t : TypeId) (hg : g = w.heap.size) : Calls Tryd.prog 29 #[.slice (some ⟨g, 0, none⟩) 3 3, .int .i64 0] (w.alloc (.cells #[.int .u8 1, .int .u8 97, .int .u8 0] t)) fun e w' => ∃ A' c', e = .returned (.tuple #[.slice A' 1 c', .int .i64 3, .nilIface]) ∧ Rd strR w' w'.heap.size A' 1 c' [⟨#[97]⟩] ∧ Below (w.alloc (.cells #[.int .u8 1, .int .u8 97, .int .u8 0] t)).heap.size (w.alloc (.cells #[.int .u8 1, .int .u8 97, .int .u8 0] t)) w' :=
  read_ok (rd_fact t hg) fact_rd rfl

set_option maxRecDepth 100000 in
set_option maxHeartbeats 8000000 in
theorem walk (w : World) (hL : Laid w) (A1 : Option Addr) (n1 c1 : Nat) (m : List UInt8) (h1 : Rd u8R w w.heap.size A1 n1 c1 m) (at_ : Int) (hat : I64 at_) :
    Calls Tryd.prog 6 #[.slice A1 n1 c1, .int .i64 at_] w fun e w' => e = .returned (.bool true) ∧ Below w.heap.size w w' := by
  have hlt : 0 < w.heap.size := World.block_lt_of_cell? w _ hL
  obtain ⟨hat1, hat2⟩ := hat
  have CN := fun w' (hb : Below w.heap.size w w') => nameAt_any w' A1 n1 c1 m (h1.later hb) at_ hat2
  by_cases hf : (rdN m at_).1 = 0
  · obtain ⟨l, hl⟩ : ∃ l, (rdN m at_).2.1 = l := ⟨_, rfl⟩
    obtain ⟨nx, hnx⟩ : ∃ nx, (rdN m at_).2.2 = nx := ⟨_, rfl⟩
    have hr : rdN m at_ = (0, l, nx) := by rw [← hf, ← hl, ← hnx]
    obtain ⟨nl, hnl⟩ : ∃ nl, l.length = nl := ⟨_, rfl⟩
    have CR := hid fun w' (hb : Below w.heap.size w w') => read_ok (h1.later hb) hr hnl
    have CN' : ∀ w', Below w.heap.size w w' → Calls Tryd.prog 30 #[.slice A1 n1 c1, .int .i64 at_] w' fun e w2 => ∃ A' c', e = .returned (.agg #[.slice A' nl c', .int .i64 nx, .int .i64 0]) ∧ Rd strR w2 w2.heap.size A' nl c' l ∧ Below w'.heap.size w' w2 := fun w' hb => by
      refine (CN w' hb).mono ?_
      rintro e w2 ⟨hb2, A', c', he, hrd⟩
      rw [hr] at he hrd
      simp only [hnl] at he hrd
      exact ⟨A', c', he, hrd, hb2⟩
    replace CN' := hid CN'
    have E0 := hid fun w' (hb : Below w.heap.size w w') => err_zero w' (hL.below hb hlt)
    clear hr hl hnx hnl hf CN h1
    have tk0 : True := trivial; have tk1 : True := trivial; have tk2 : True := trivial; have tk3 : True := trivial; have tk4 : True := trivial; have tk5 : True := trivial; have tk6 : True := trivial; have tk7 : True := trivial; have tk8 : True := trivial; have tk9 : True := trivial; have tk10 : True := trivial; have tk11 : True := trivial; have tk12 : True := trivial
    go_enter Tryd.func6, Tryd.ntmps6
    go_wp2_with (first
      | (go_at_call 29; have _t := tk1; (with_reducible refine (fact_read 5 (by simp)).mono ?_); rintro e w1 ⟨Atk1, ctk1, rfl, hr, hb⟩; obtain ⟨otk1, dtk1, rfl⟩ := ext_of_below hb; (try simp only [ext_drew, ext_drewN] at hr); have RF := hid hr; clear hr; clear hb tk1)
      | (go_at_call 18; have _t := tk2; (with_reducible refine (texts_yes (RF.out.below (by (repeat' (first | (with_reducible exact Below.refl _ _) | (with_reducible assumption) | (with_reducible refine Below.ext ?_ ?_ _ _) | (with_reducible refine Below.alloc ?_ ?_ _) | (with_reducible refine Below.setCell ?_ ?_ _) | (with_reducible refine Below.drew ?_) | (with_reducible refine below_draws ?_ _) | go_size | (simp [size_ext]; done) | (simp [size_ext]; omega))))) (rd_one 9 ⟨#[97]⟩ (by decide) (by simp [size_ext]))).mono ?_); rintro e w1 ⟨rfl, hb⟩; obtain ⟨otk2, dtk2, rfl⟩ := ext_of_below hb; clear hb tk2)
      | (go_at_call 30; have _t := tk3; (with_reducible refine (CN'.out _ (by (repeat' (first | (with_reducible exact Below.refl _ _) | (with_reducible assumption) | (with_reducible refine Below.ext ?_ ?_ _ _) | (with_reducible refine Below.alloc ?_ ?_ _) | (with_reducible refine Below.setCell ?_ ?_ _) | (with_reducible refine Below.drew ?_) | (with_reducible refine below_draws ?_ _) | go_size | (simp [size_ext]; done) | (simp [size_ext]; omega))))).mono ?_); rintro e w1 ⟨Atk3, ctk3, rfl, hr, hb⟩; obtain ⟨otk3, dtk3, rfl⟩ := ext_of_below hb; (try simp only [ext_drew, ext_drewN] at hr); have RN := hid hr; clear hr; clear hb tk3)
      | (go_at_call 29; have _t := tk4; (with_reducible refine (CR.out _ (by (repeat' (first | (with_reducible exact Below.refl _ _) | (with_reducible assumption) | (with_reducible refine Below.ext ?_ ?_ _ _) | (with_reducible refine Below.alloc ?_ ?_ _) | (with_reducible refine Below.setCell ?_ ?_ _) | (with_reducible refine Below.drew ?_) | (with_reducible refine below_draws ?_ _) | go_size | (simp [size_ext]; done) | (simp [size_ext]; omega))))).mono ?_); rintro e w1 ⟨Atk4, ctk4, rfl, hr, hb⟩; obtain ⟨otk4, dtk4, rfl⟩ := ext_of_below hb; (try simp only [ext_drew, ext_drewN] at hr); have RR := hid hr; clear hr; clear hb tk4)
      | (go_at_call 11; have _t := tk5; (with_reducible refine (E0.out _ (by (repeat' (first | (with_reducible exact Below.refl _ _) | (with_reducible assumption) | (with_reducible refine Below.ext ?_ ?_ _ _) | (with_reducible refine Below.alloc ?_ ?_ _) | (with_reducible refine Below.setCell ?_ ?_ _) | (with_reducible refine Below.drew ?_) | (with_reducible refine below_draws ?_ _) | go_size | (simp [size_ext]; done) | (simp [size_ext]; omega))))).mono ?_); rintro e w1 ⟨rfl, hb⟩; obtain ⟨otk5, dtk5, rfl⟩ := ext_of_below hb; clear hb tk5)
      | (go_at_call 18; have _t := tk6; (with_reducible refine (texts_yes (RR.out.below (by (repeat' (first | (with_reducible exact Below.refl _ _) | (with_reducible assumption) | (with_reducible refine Below.ext ?_ ?_ _ _) | (with_reducible refine Below.alloc ?_ ?_ _) | (with_reducible refine Below.setCell ?_ ?_ _) | (with_reducible refine Below.drew ?_) | (with_reducible refine below_draws ?_ _) | go_size | (simp [size_ext]; done) | (simp [size_ext]; omega))))) (RN.out.below (by (repeat' (first | (with_reducible exact Below.refl _ _) | (with_reducible assumption) | (with_reducible refine Below.ext ?_ ?_ _ _) | (with_reducible refine Below.alloc ?_ ?_ _) | (with_reducible refine Below.setCell ?_ ?_ _) | (with_reducible refine Below.drew ?_) | (with_reducible refine below_draws ?_ _) | go_size | (simp [size_ext]; done) | (simp [size_ext]; omega)))))).mono ?_); rintro e w1 ⟨rfl, hb⟩; obtain ⟨otk6, dtk6, rfl⟩ := ext_of_below hb; clear hb tk6))
    go_ret
    exact ⟨by simp, by (repeat' (first | (with_reducible exact Below.refl _ _) | (with_reducible assumption) | (with_reducible refine Below.ext ?_ ?_ _ _) | (with_reducible refine Below.alloc ?_ ?_ _) | (with_reducible refine Below.setCell ?_ ?_ _) | (with_reducible refine Below.drew ?_) | (with_reducible refine below_draws ?_ _) | go_size | (simp [size_ext]; done) | (simp [size_ext]; omega)))⟩
  · obtain ⟨k, hk⟩ : ∃ k, (rdN m at_).1 = k := ⟨_, rfl⟩
    have hk0 : k ≠ 0 := by rw [← hk]; exact hf
    have hr : rdN m at_ = (k, [], 0) := by
      unfold rdN at hk ⊢
      by_cases c1 : at_ < 0
      · rw [if_pos c1] at hk ⊢; rw [← hk]
      · rw [if_neg c1] at hk ⊢
        by_cases c2 : (nm m at_.toNat at_.toNat 1).1 = 0
        · rw [if_pos c2] at hk; exact absurd hk.symm hk0
        · rw [if_neg c2] at hk ⊢; rw [← hk]
    have CR := hid fun w' (hb : Below w.heap.size w w') => read_bad (h1.later hb) hk hk0
    have CN' : ∀ w', Below w.heap.size w w' → Calls Tryd.prog 30 #[.slice A1 n1 c1, .int .i64 at_] w' fun e w2 => ∃ A' c', e = .returned (.agg #[.slice A' 0 c', .int .i64 0, .int .i64 k]) ∧ Rd strR w2 w2.heap.size A' 0 c' [] ∧ Below w'.heap.size w' w2 := fun w' hb => by
      refine (CN w' hb).mono ?_
      rintro e w2 ⟨hb2, A', c', he, hrd⟩
      rw [hr] at he hrd
      exact ⟨A', c', he, hrd, hb2⟩
    replace CN' := hid CN'
    have E0 := hid fun w' (hb : Below w.heap.size w w') => err_one k hk0 w' (hL.below hb hlt)
    clear hr hk hk0 hf CN h1
    have tk0 : True := trivial; have tk1 : True := trivial; have tk2 : True := trivial; have tk3 : True := trivial; have tk4 : True := trivial; have tk5 : True := trivial; have tk6 : True := trivial; have tk7 : True := trivial; have tk8 : True := trivial; have tk9 : True := trivial; have tk10 : True := trivial; have tk11 : True := trivial; have tk12 : True := trivial
    go_enter Tryd.func6, Tryd.ntmps6
    go_wp2_with (first
      | (go_at_call 29; have _t := tk1; (with_reducible refine (fact_read 5 (by simp)).mono ?_); rintro e w1 ⟨Atk1, ctk1, rfl, hr, hb⟩; obtain ⟨otk1, dtk1, rfl⟩ := ext_of_below hb; (try simp only [ext_drew, ext_drewN] at hr); have RF := hid hr; clear hr; clear hb tk1)
      | (go_at_call 18; have _t := tk2; (with_reducible refine (texts_yes (RF.out.below (by (repeat' (first | (with_reducible exact Below.refl _ _) | (with_reducible assumption) | (with_reducible refine Below.ext ?_ ?_ _ _) | (with_reducible refine Below.alloc ?_ ?_ _) | (with_reducible refine Below.setCell ?_ ?_ _) | (with_reducible refine Below.drew ?_) | (with_reducible refine below_draws ?_ _) | go_size | (simp [size_ext]; done) | (simp [size_ext]; omega))))) (rd_one 9 ⟨#[97]⟩ (by decide) (by simp [size_ext]))).mono ?_); rintro e w1 ⟨rfl, hb⟩; obtain ⟨otk2, dtk2, rfl⟩ := ext_of_below hb; clear hb tk2)
      | (go_at_call 30; have _t := tk3; (with_reducible refine (CN'.out _ (by (repeat' (first | (with_reducible exact Below.refl _ _) | (with_reducible assumption) | (with_reducible refine Below.ext ?_ ?_ _ _) | (with_reducible refine Below.alloc ?_ ?_ _) | (with_reducible refine Below.setCell ?_ ?_ _) | (with_reducible refine Below.drew ?_) | (with_reducible refine below_draws ?_ _) | go_size | (simp [size_ext]; done) | (simp [size_ext]; omega))))).mono ?_); rintro e w1 ⟨Atk3, ctk3, rfl, hr, hb⟩; obtain ⟨otk3, dtk3, rfl⟩ := ext_of_below hb; (try simp only [ext_drew, ext_drewN] at hr); have RN := hid hr; clear hr; clear hb tk3)
      | (go_at_call 29; have _t := tk4; (with_reducible refine (CR.out _ (by (repeat' (first | (with_reducible exact Below.refl _ _) | (with_reducible assumption) | (with_reducible refine Below.ext ?_ ?_ _ _) | (with_reducible refine Below.alloc ?_ ?_ _) | (with_reducible refine Below.setCell ?_ ?_ _) | (with_reducible refine Below.drew ?_) | (with_reducible refine below_draws ?_ _) | go_size | (simp [size_ext]; done) | (simp [size_ext]; omega))))).mono ?_); rintro e w1 ⟨rfl, hb⟩; obtain ⟨otk4, dtk4, rfl⟩ := ext_of_below hb; clear hb tk4)
      | (go_at_call 11; have _t := tk5; (with_reducible refine (E0.out _ (by (repeat' (first | (with_reducible exact Below.refl _ _) | (with_reducible assumption) | (with_reducible refine Below.ext ?_ ?_ _ _) | (with_reducible refine Below.alloc ?_ ?_ _) | (with_reducible refine Below.setCell ?_ ?_ _) | (with_reducible refine Below.drew ?_) | (with_reducible refine below_draws ?_ _) | go_size | (simp [size_ext]; done) | (simp [size_ext]; omega))))).mono ?_); rintro e w1 ⟨rfl, hb⟩; obtain ⟨otk5, dtk5, rfl⟩ := ext_of_below hb; clear hb tk5)
      | (go_at_call 18; have _t := tk6; (with_reducible refine (texts_yes (B1 := 0) (rd_nil _ 0) (RN.out.below (by (repeat' (first | (with_reducible exact Below.refl _ _) | (with_reducible assumption) | (with_reducible refine Below.ext ?_ ?_ _ _) | (with_reducible refine Below.alloc ?_ ?_ _) | (with_reducible refine Below.setCell ?_ ?_ _) | (with_reducible refine Below.drew ?_) | (with_reducible refine below_draws ?_ _) | go_size | (simp [size_ext]; done) | (simp [size_ext]; omega)))))).mono ?_); rintro e w1 ⟨rfl, hb⟩; obtain ⟨otk6, dtk6, rfl⟩ := ext_of_below hb; clear hb tk6))
    go_ret
    exact ⟨by simp, by (repeat' (first | (with_reducible exact Below.refl _ _) | (with_reducible assumption) | (with_reducible refine Below.ext ?_ ?_ _ _) | (with_reducible refine Below.alloc ?_ ?_ _) | (with_reducible refine Below.setCell ?_ ?_ _) | (with_reducible refine Below.drew ?_) | (with_reducible refine below_draws ?_ _) | go_size | (simp [size_ext]; done) | (simp [size_ext]; omega)))⟩

set_option maxRecDepth 100000 in
theorem contract (H : Type) (enc : TypeId × Value → H) (W : World) (base : Nat) (args : Array Value) (ds gs : List (DataW H)) (before : List MemPlace)
    (hval : ∀ (j : Nat) t v, Tryd.f6.params[j]? = some t → args[j]? = some v → Value.okWide Tryd.prog W .any base t v)
    (hW : DataW.Whole enc Tryd.prog Tryd.f6.params.toList Rows.wireReadsSpec.vars false W args.toList ds gs before) (hsz : (DataW.weightsEach Tryd.prog (Tryd.f6.params.toList ++ Rows.wireReadsSpec.plain.varTypes Tryd.prog) (ds ++ gs)).all (· ≤ reachBytes) = true) (hL : Laid W) :
    Calls Tryd.prog 6 args W fun e W' => ∃ v, e = .returned v ∧ Rows.wireReadsSpec.post enc Tryd.prog Tryd.f6 false true false false W args v W' := by
  have hW' := hW
  obtain ⟨p, q, hA0, hV, rfl, hfz, hnd⟩ := hW
  have hA : DataW.TrodAll enc Tryd.prog W 0 (fun _ => true) true Tryd.f6.params.toList args.toList ds p := hA0
  rw [Tryd.params6] at hA hval hsz
  obtain ⟨v0, vs0, d0, ds0, p0, q0, hargs, rfl, rfl, k0, r0⟩ := trodAll_cons hA
  obtain ⟨v1, vs1, d1, ds1, p1, q1, rfl, rfl, rfl, k1, r1⟩ := trodAll_cons r0
  obtain ⟨rfl, rfl, rfl⟩ := trodAll_nil r1
  obtain rfl : args = #[v0, v1] := by cases args; simp_all
  obtain ⟨rfl, rfl⟩ := trodVars_none hV
  have lt0 : ∀ x ∈ p0, x.block < W.heap.size := by obtain ⟨m, hm⟩ := k0; exact DataW.trod_lt m _ _ _ hm
  have lt1 : ∀ x ∈ p1, x.block < W.heap.size := by obtain ⟨m, hm⟩ := k1; exact DataW.trod_lt m _ _ _ hm
  have hsz' : ∀ k ∈ _, k ≤ reachBytes := fun k hk => of_decide_eq_true (List.all_eq_true.1 hsz k hk)
  have u0 : ∀ k ∈ d0.weights Tryd.prog 24, k ≤ reachBytes := fun k hk => hsz' k (by simp [DataW.weightsEach, hk])
  have u1 : ∀ k ∈ d1.weights Tryd.prog 3, k ≤ reachBytes := fun k hk => hsz' k (by simp [DataW.weightsEach, hk])
  obtain ⟨A0, n0, c0, l0, rfl, w0, z0⟩ := arg_slice Tryd.underlying24 (opens_slice Tryd.underlying24 (opens_u8 Tryd.underlying5) (by kernel_rfl) (by decide) (of_decide_eq_true (by kernel_rfl))) (hval 0 24 v0 rfl rfl) k0 u0
  obtain ⟨a1, rfl, w1, z1⟩ := arg_int Tryd.underlying3 (hval 1 3 v1 rfl rfl) k1 u1
  clear hA0 hA
  refine (walk W hL A0 n0 c0 l0 w0 a1 w1).mono fun e W' ⟨he, bel⟩ => ?_
  subst he
  exact ⟨_, rfl, _, _, _, [], _, [], hW', trodAll_mk1 (shut_bool Tryd.underlying4 _), (trodAll_cons_mk (Below.trod laidOut (by kernel_rfl) (of_decide_eq_true (by kernel_rfl)) k0 bel lt0) (trodAll_cons_mk (Below.trod laidOut (by kernel_rfl) (of_decide_eq_true (by kernel_rfl)) k1 bel lt1) trodAll_mk0)), rfl, bel.frame _, fun h => by cases h⟩

set_option maxRecDepth 100000 in
theorem lifted (os : Os) (started : os.Started) (H : Type) (enc : TypeId × Value → H) :
    ReturnsInHanded {} Tryd.checked os 6 .any (fun w args => (Rows.wireReadsSpec.pre enc Tryd.prog Tryd.f6 [] false w args ∧ laidMetH Tryd.prog laidL w) ∧ sizedMet enc Tryd.prog Tryd.f6 (OpenSpec.ofChange Rows.wireReadsSpec) false w args) (Rows.wireReadsSpec.post enc Tryd.prog Tryd.f6 false true false false) := by
  refine returnsInHanded_of_change_and (C := Tryd.checked) (X := fun w _ => laidMetH Tryd.prog laidL w) (fun _ _ _ hh h => h.of_heap hh) own started (by kernel_rfl) Tryd.func6
    (ChangeSpec.witness_at (enc := enc) (C := Tryd.checked) (os := os) (X := fun w _ => laidMetH Tryd.prog laidL w) false (laidWorld os) #[.slice none 0 0, .int .i64 0] 8 rfl (by kernel_rfl) (by kernel_rfl) (by kernel_rfl) (by kernel_rfl) (by kernel_rfl) (laidWorld_met os _)) ?_
  intro W base args ds gs before hval hW _ hsz hL _
  exact contract H enc W base args ds gs before hval hW hsz (laid_of hL)

set_option maxRecDepth 100000 in
theorem said : Rows.WireReadsSaid :=
  OpenClaim.holds_of_wide 6 Tryd.f6 rfl rfl rfl rfl rfl rfl rfl ⟨rfl, rfl, rfl, rfl, rfl⟩ rfl rfl rfl rfl rfl (by kernel_rfl) Tryd.func6 (by kernel_rfl)
    (of_decide_eq_true (by kernel_rfl)) (by unfold Func.isWrapper; first | (rw [if_pos (by decide +kernel)]; kernel_rfl) | (rw [if_neg (by decide +kernel)]; exact ⟨rfl, rfl⟩))
    (fun os started H enc _ => lifted os started H enc)
set_option maxRecDepth 100000 in
/-- the statement: the tied card -/
theorem proved : Rows.WireReadsCardSaid :=
  Claim7.holds_tied_plain_at .later [] [.handle] true (true, "43c8b0af65a411a36547a9fc34b32c023afcbbf36dca1feb727a2cd0b49e13d4") true said (fun _ h => by cases h) (by kernel_rfl) (fun _ h => by cases h) wireReads_row_tie rfl ⟨rfl, rfl⟩ (by kernel_rfl) rfl
    (fun f fn hf hfn => by
      obtain rfl : f = 6 := Option.some.inj ((show Tryd.prog.funcNamed "pointsman/pointsmanlaw1.WireReads" = some 6 by kernel_rfl).symm.trans hf) |>.symm
      obtain rfl : fn = Tryd.f6 := (Option.some.inj (Tryd.func6.symm.trans hfn)).symm
      exact ⟨by kernel_rfl, fun j t ht => no_stand (by kernel_rfl) j t ht⟩)
    (by kernel_rfl)

end wireReads
end Go.Proofs.YtbjjmikiefgnaaaDoor
