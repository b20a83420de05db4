/- WireMore is true of every input of at most 1048576 values and letters in all: a name that is read is read so, too, with more bytes behind the message; it is one that may be, and can be sent. Condition: the bound on what comes in. -/
import Derived.Test.YtbjjmikiefgnaaaWireL
import Derived.OpenShut
import Derived.JoinedCond
namespace Go.Proofs.Ytbjjmikiefgnaaa
open Go.ChangeShapes Go.WideShapes Go.ChangeAt Go.RowKit
set_option linter.unusedVariables false
theorem sz_u8 (l : List UInt8) : (sliceR u8R).sz l = l.length + 1 := by
  show (l.map fun _ => 1).sum + 1 = _
  induction l with
  | nil => rfl
  | cons a l ih => simp at ih ⊢; omega
namespace wireMore

set_option maxRecDepth 100000 in
set_option maxHeartbeats 8000000 in
theorem walkUpto (w : World) (A1 : Option Addr) (n1 c1 : Nat) (m : List UInt8) (h1 : Rd u8R w w.heap.size A1 n1 c1 m) (at_ : Int) (hat : I64 at_) (A3 : Option Addr) (n3 c3 : Nat) (q : List UInt8) (h3 : Rd u8R w w.heap.size A3 n3 c3 q) (hz : (sliceR u8R).sz m + (sliceR u8R).sz q ≤ 1048576) :
    Calls Try.prog 7 #[.slice A1 n1 c1, .int .i64 at_, .slice A3 n3 c3] w fun e w' => e = .returned (.bool true) ∧ Below w.heap.size w w' := by
  rw [sz_u8, sz_u8, h1.len, h3.len] at hz
  obtain ⟨hat1, hat2⟩ := hat
  have hm1 := h1.max
  have hc1 := h1.cap
  unfold maxLen at hm1
  by_cases hf : (rdN m at_).1 = 0
  · obtain ⟨l, hl⟩ : ∃ l, (rdN m at_).2.1 = l := ⟨_, rfl⟩
    obtain ⟨nx, hnx⟩ : ∃ nx, (rdN m at_).2.2 = nx := ⟨_, rfl⟩
    have hr : rdN m at_ = (0, l, nx) := by rw [← hf, ← hl, ← hnx]
    obtain ⟨a, k, ha, hk, hn, he⟩ := rdN_ok.1 hr
    have hlt := hn.lt
    rw [h1.len] at hlt
    have p1 : at_ < nx := by omega
    have p2 : nx ≤ (n1 : Int) := by omega
    obtain ⟨nl, hnl⟩ : ∃ nl, l.length = nl := ⟨_, rfl⟩
    have hr2 := rdN_app hr q
    obtain ⟨X, hX⟩ : ∃ X, m ++ q = X := ⟨_, rfl⟩
    have hXl : X.length = n1 + n3 := by rw [← hX, List.length_append, h1.len, h3.len]
    rw [hX] at hr2
    have CR := hid fun w' (hb : Below w.heap.size w w') => read_ok (h1.later hb) hr hnl
    have CR2 := hid fun w' A c (h : Rd u8R w' w'.heap.size A (n1 + n3) c X) => read_ok h hr2 hnl
    have CK := hid fun w' A c B (h : Rd strR w' B A nl c l) => (show Calls _ _ _ _ _ from by { have := name_check w' A nl c l B h; rwa [he, errV_zero] at this })
    have CW := hid fun w' A c (h : Rd strR w' w'.heap.size A nl c l) => write_ok (rd_nil w' _) h (by omega) he rfl rfl
    have S1 := hid h1.src_u8
    have S3 := hid h3.src_u8
    have HX := hid hX
    have ab1 : (0 + n1) * 1 ≤ 140737488355328 := by omega
    have ab2 : 0 + n1 ≤ maxLen := by unfold maxLen; omega
    have ab3 : (0 + n1 + n3) * 1 ≤ 140737488355328 := by omega
    have ab4 : 0 + n1 + n3 ≤ maxLen := by unfold maxLen; omega
    clear h1 h3 hf hl hnx hr ha hk hn he hlt hnl hr2 hX hXl hz
    have tk0 : True := trivial; have tk1 : True := trivial; have tk2 : True := trivial; have tk3 : True := trivial; have tk4 : True := trivial; have tk5 : True := trivial; have tk6 : True := trivial; have tk7 : True := trivial; have tk8 : True := trivial; have tk9 : True := trivial; have tk10 : True := trivial; have tk11 : True := trivial; have tk12 : True := trivial
    go_enter Try.func7, Try.ntmps7
    go_wp2_with (first
      | (go_at_call 21; have _t := tk1; (with_reducible refine (fact_w 9 (by simp)).mono ?_); rintro e w1 ⟨Atk1, ctk1, rfl, hr, hb⟩; obtain ⟨otk1, dtk1, rfl⟩ := ext_of_below hb; (try simp only [ext_drew, ext_drewN] at hr); have R1F := hid hr; clear hr; clear hb tk1)
      | (go_at_call 22; have _t := tk2; (with_reducible refine (CR.out _ (by (repeat' (first | (with_reducible exact Below.refl _ _) | (with_reducible assumption) | (with_reducible refine Below.ext ?_ ?_ _ _) | (with_reducible refine Below.alloc ?_ ?_ _) | (with_reducible refine Below.setCell ?_ ?_ _) | (with_reducible refine Below.drew ?_) | (with_reducible refine below_draws ?_ _) | go_size | (simp [size_ext]; done) | (simp [size_ext]; omega))))).mono ?_); rintro e w1 ⟨Ar, cr, rfl, hr, hb⟩; have HB1 := hid (show Below w.heap.size w w1 from Below.trans (by (repeat' (first | (with_reducible exact Below.refl _ _) | (with_reducible assumption) | (with_reducible refine Below.ext ?_ ?_ _ _) | (with_reducible refine Below.alloc ?_ ?_ _) | (with_reducible refine Below.setCell ?_ ?_ _) | (with_reducible refine Below.drew ?_) | (with_reducible refine below_draws ?_ _) | go_size | (simp [size_ext]; done) | (simp [size_ext]; omega)))) (hb.mono (by simp [size_ext]; omega))); have RN := hid hr; clear hr hb tk2)
      | (at_builtin; have _t := tk3; refine wpList_appT rfl _ _ 27 rfl w1.heap.size 5 1 1 el_u8 (.slice (some ⟨w1.heap.size, 0, none⟩) 0 0) 0 [] rfl (own_empty (Nat.le_refl _)) _ n1 c1 _ rfl ((S1.out.later HB1.out).later ((Below.refl _ _).alloc (Nat.le_refl _) _)) ab1 ab2 (by simp) ?_; intro v2 w2 ho2 ha2; have HO2 := hid ho2; have HB2 := hid (Below.trans ((Below.refl w1.heap.size w1).alloc (Nat.le_refl _) (.cells #[] 5)) (ha2.below (own_empty (Nat.le_refl _)) (by simp))); clear ho2 ha2 tk3)
      | (at_builtin; have _t := tk4; refine wpList_appT rfl _ _ 27 rfl w1.heap.size 5 1 1 el_u8 v2 (0 + n1) _ rfl HO2.out _ n3 c3 _ rfl ((S3.out.later HB1.out).later HB2.out) ab3 ab4 HB2.out.size ?_; intro v3 w3 ho3 ha3; have HB3 := hid (HB2.out.trans (ha3.below HO2.out HB2.out.size)); have HL := hid (show ∃ A c, v3 = .slice A (n1 + n3) c ∧ Rd u8R w3 w3.heap.size A (n1 + n3) c X from own_rd_u8 (by have := ho3; rw [← HX.out]; simpa [bytesV] using this) (Nat.le_trans HB2.out.size ha3.grown.size) (by omega)); clear ho3 ha3 tk4; obtain ⟨A3', c3', rfl, hr3⟩ := HL.out; have R3 := hid hr3; clear hr3 HL HO2)
      | (go_at_call 22; have _t := tk5; (with_reducible refine (CR2.out _ _ _ R3.out).mono ?_); rintro e w4 ⟨A4, c4, rfl, hr, hb⟩; have HB4 := hid (HB3.out.trans (hb.mono HB3.out.size)); have RK := hid hr; clear hr hb tk5)
      | (go_at_call 16; have _t := tk6; (with_reducible refine (texts_yes RK.out (RN.out.below HB4.out)).mono ?_); rintro e w5 ⟨rfl, hb⟩; have HB5 := hid (HB4.out.trans (hb.mono HB4.out.size)); clear hb tk6)
      | (go_at_call 21; have _t := tk7; (with_reducible refine (CW.out _ _ _ (RN.out.later HB5.out)).mono ?_); rintro e w6 ⟨A6, c6, rfl, hr, hb⟩; have HB6 := hid (HB5.out.trans (hb.mono HB5.out.size)); clear hr hb tk7)
      | (go_at_call 23; have _t := tk8; (with_reducible refine (CK.out _ _ _ _ (RN.out.below HB6.out)).mono ?_); rintro e w7 ⟨rfl, hw⟩; subst w7; clear tk8))
    go_ret
    exact ⟨by first | rfl | (simp; done) | (simp; omega), HB1.out.trans (HB6.out.mono HB1.out.size)⟩
  · obtain ⟨e, he⟩ : ∃ e, (rdN m at_).1 = e := ⟨_, rfl⟩
    have CR := hid fun w' (hb : Below w.heap.size w w') => read_bad (h1.later hb) he (by rw [← he]; exact hf)
    clear h1 h3 hf he hz
    have tk0 : True := trivial; have tk1 : True := trivial; have tk2 : True := trivial; have tk3 : True := trivial; have tk4 : True := trivial; have tk5 : True := trivial; have tk6 : True := trivial; have tk7 : True := trivial; have tk8 : True := trivial; have tk9 : True := trivial; have tk10 : True := trivial; have tk11 : True := trivial; have tk12 : True := trivial
    go_enter Try.func7, Try.ntmps7
    go_wp2_with (first
      | (go_at_call 21; have _t := tk1; (with_reducible refine (fact_w 9 (by simp)).mono ?_); rintro e w1 ⟨Atk1, ctk1, rfl, hr, hb⟩; obtain ⟨otk1, dtk1, rfl⟩ := ext_of_below hb; (try simp only [ext_drew, ext_drewN] at hr); have R1F := hid hr; clear hr; clear hb tk1)
      | (go_at_call 22; have _t := tk2; (with_reducible refine (CR.out _ (by (repeat' (first | (with_reducible exact Below.refl _ _) | (with_reducible assumption) | (with_reducible refine Below.ext ?_ ?_ _ _) | (with_reducible refine Below.alloc ?_ ?_ _) | (with_reducible refine Below.setCell ?_ ?_ _) | (with_reducible refine Below.drew ?_) | (with_reducible refine below_draws ?_ _) | go_size | (simp [size_ext]; done) | (simp [size_ext]; omega))))).mono ?_); rintro e w1 ⟨rfl, hb⟩; obtain ⟨otk2, dtk2, rfl⟩ := ext_of_below hb; clear hb tk2))
    go_ret
    exact ⟨rfl, by (repeat' (first | (with_reducible exact Below.refl _ _) | (with_reducible assumption) | (with_reducible refine Below.ext ?_ ?_ _ _) | (with_reducible refine Below.alloc ?_ ?_ _) | (with_reducible refine Below.setCell ?_ ?_ _) | (with_reducible refine Below.drew ?_) | (with_reducible refine below_draws ?_ _) | go_size | (simp [size_ext]; done) | (simp [size_ext]; omega)))⟩

set_option maxRecDepth 100000 in
theorem contractUpto (H : Type) (enc : TypeId × Value → H) (W : World) (base : Nat) (args : Array Value) (ds gs : List (DataW H)) (before : List MemPlace)
    (hval : ∀ (j : Nat) t v, Try.f7.params[j]? = some t → args[j]? = some v → Value.okWide Try.prog W .any base t v)
    (hW : DataW.Whole enc Try.prog Try.f7.params.toList Rows.wireMoreSpec.vars false W args.toList ds gs before) (hsz : (DataW.weightsEach Try.prog (Try.f7.params.toList ++ Rows.wireMoreSpec.plain.varTypes Try.prog) (ds ++ gs)).all (· ≤ reachBytes) = true) (hk : Rows.uptoSmall H (ds ++ gs) = true) :
    Calls Try.prog 7 args W fun e W' => ∃ v, e = .returned v ∧ Rows.wireMoreSpec.post enc Try.prog Try.f7 false true false false W args v W' := by
  have hW' := hW
  obtain ⟨p, q, hA0, hV, rfl, hfz, hnd⟩ := hW
  have hA : DataW.TrodAll enc Try.prog W 0 (fun _ => true) true Try.f7.params.toList args.toList ds p := hA0
  rw [Try.params7] at hA hval hsz
  obtain ⟨v0, vs0, d0, ds0, p0, q0, hargs, rfl, rfl, k0, r0⟩ := trodAll_cons hA
  obtain ⟨v1, vs1, d1, ds1, p1, q1, rfl, rfl, rfl, k1, r1⟩ := trodAll_cons r0
  obtain ⟨v2, vs2, d2, ds2, p2, q2, rfl, rfl, rfl, k2, r2⟩ := trodAll_cons r1
  obtain ⟨rfl, rfl, rfl⟩ := trodAll_nil r2
  obtain rfl : args = #[v0, v1, v2] := by cases args; simp_all
  obtain ⟨rfl, rfl⟩ := trodVars_none hV
  have lt0 : ∀ x ∈ p0, x.block < W.heap.size := by obtain ⟨m, hm⟩ := k0; exact DataW.trod_lt m _ _ _ hm
  have lt1 : ∀ x ∈ p1, x.block < W.heap.size := by obtain ⟨m, hm⟩ := k1; exact DataW.trod_lt m _ _ _ hm
  have lt2 : ∀ x ∈ p2, x.block < W.heap.size := by obtain ⟨m, hm⟩ := k2; exact DataW.trod_lt m _ _ _ hm
  have hsz' : ∀ k ∈ _, k ≤ reachBytes := fun k hk => of_decide_eq_true (List.all_eq_true.1 hsz k hk)
  have u0 : ∀ k ∈ d0.weights Try.prog 27, k ≤ reachBytes := fun k hk => hsz' k (by simp [DataW.weightsEach, hk])
  have u1 : ∀ k ∈ d1.weights Try.prog 3, k ≤ reachBytes := fun k hk => hsz' k (by simp [DataW.weightsEach, hk])
  have u2 : ∀ k ∈ d2.weights Try.prog 27, k ≤ reachBytes := fun k hk => hsz' k (by simp [DataW.weightsEach, hk])
  obtain ⟨A0, n0, c0, l0, rfl, w0, z0⟩ := arg_slice Try.underlying27 (opens_slice Try.underlying27 (opens_u8 Try.underlying5) (by kernel_rfl) (by decide) (of_decide_eq_true (by kernel_rfl))) (hval 0 27 v0 rfl rfl) k0 u0
  obtain ⟨a1, rfl, w1, z1⟩ := arg_int Try.underlying3 (hval 1 3 v1 rfl rfl) k1 u1
  obtain ⟨A2, n2, c2, l2, rfl, w2, z2⟩ := arg_slice Try.underlying27 (opens_slice Try.underlying27 (opens_u8 Try.underlying5) (by kernel_rfl) (by decide) (of_decide_eq_true (by kernel_rfl))) (hval 2 27 v2 rfl rfl) k2 u2
  have hsum := bulk_of hk
  simp only [List.append_nil, List.map_cons, List.map_nil, List.sum_cons, List.sum_nil] at hsum
  clear hA0 hA
  refine (walkUpto W A0 n0 c0 l0 w0 a1 w1 A2 n2 c2 l2 w2 (by omega)).mono fun e W' ⟨he, bel⟩ => ?_
  subst he
  exact ⟨_, rfl, _, _, _, [], _, [], hW', trodAll_mk1 (shut_bool Try.underlying4 _), (trodAll_cons_mk (Below.trod laidOut (by kernel_rfl) (of_decide_eq_true (by kernel_rfl)) k0 bel lt0) (trodAll_cons_mk (Below.trod laidOut (by kernel_rfl) (of_decide_eq_true (by kernel_rfl)) k1 bel lt1) (trodAll_cons_mk (Below.trod laidOut (by kernel_rfl) (of_decide_eq_true (by kernel_rfl)) k2 bel lt2) trodAll_mk0))), rfl, bel.frame _, fun h => by cases h⟩

set_option maxRecDepth 100000 in
theorem liftedUpto (os : Os) (started : os.Started) (H : Type) (enc : TypeId × Value → H) (F : Stop.Interp) :
    ReturnsInHanded {} Try.checked os 7 .any ((Rows.OpenSpec.upto Rows.wireMoreSpec).pre6 enc Try.prog Try.f7 Rows.wireMoreUptoRow.domain false) (((Rows.OpenSpec.upto Rows.wireMoreSpec).at F).post enc Try.prog Try.f7 false true false false) := by
  refine returnsInHanded_of_cond_sized (C := Try.checked) (s := Rows.OpenSpec.upto Rows.wireMoreSpec) (k := Rows.uptoSmall) rfl own started (by kernel_rfl) Try.func7
    (OpenSpec.witness (enc := enc) (C := Try.checked) (s := Rows.OpenSpec.upto Rows.wireMoreSpec) (k := Rows.uptoSmall) rfl false ⟨#[], #[.slice none 0 0, .int .i64 0, .slice none 0 0], []⟩ 8 (by kernel_rfl) (by kernel_rfl) (by kernel_rfl)
      (x := ([.nil, .lit (.int .i64 0), .nil], [], [])) (by kernel_rfl) rfl (by kernel_rfl)) ?_
  intro W base args ds gs before hval hW _ hk hsz _
  exact contractUpto H enc W base args ds gs before hval hW hsz hk

/-- the statement -/
theorem provedUpto : Rows.WireMoreUptoSaid :=
  OpenClaim.holds_of_cond 7 Try.f7 rfl rfl rfl rfl rfl rfl rfl ⟨rfl, rfl, rfl, rfl, rfl⟩ rfl rfl rfl rfl rfl (by kernel_rfl) Try.func7 (by kernel_rfl)
    (of_decide_eq_true (by kernel_rfl)) (by unfold Func.isWrapper; first | (rw [if_pos (by decide +kernel)]; kernel_rfl) | (rw [if_neg (by decide +kernel)]; exact ⟨rfl, rfl⟩))
    (fun os started H enc _ F => liftedUpto os started H enc F)

end wireMore
end Go.Proofs.Ytbjjmikiefgnaaa
