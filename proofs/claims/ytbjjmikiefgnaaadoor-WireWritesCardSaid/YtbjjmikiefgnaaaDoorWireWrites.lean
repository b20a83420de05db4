/- WireWrites is true of every input: of any message, any starts and any labels the program writes what the document tells. Condition: the variable errors.errorType holds what the program's text lays in it (the card ties it). -/
import Derived.Test.YtbjjmikiefgnaaaDoorWireRefE
import Derived.Test.YtbjjmikiefgnaaaDoorSameInts
import Derived.Test.YtbjjmikiefgnaaaDoorNameRef
import Derived.Test.YtbjjmikiefgnaaaDoorLaid
namespace Go.Proofs.YtbjjmikiefgnaaaDoor
open Go.ChangeShapes Go.WideShapes Go.ChangeAt Go.RowKit
set_option linter.unusedVariables false
namespace wireWrites

theorem err_zero (w : World) (hg : Laid w) : Calls Tryd.prog 11 #[.nilIface, .int .i64 0] w fun e w' => e = .returned (.bool true) ∧ Below w.heap.size w w' := by
  have := error_any 0 0 w hg
  simpa [errV] using this
theorem err_one (n : Int) (hn : n ≠ 0) (w : World) (hg : Laid w) : Calls Tryd.prog 11 #[.iface 25 (.int .i64 n), .int .i64 n] w fun e w' => e = .returned (.bool true) ∧ Below w.heap.size w w' := by
  have := error_any n n w hg
  rw [errV_ne hn] at this
  simpa using this

set_option maxRecDepth 100000 in
set_option maxHeartbeats 8000000 in
theorem walk (w : World) (hL : Laid w) (A1 : Option Addr) (n1 c1 : Nat) (m : List UInt8) (h1 : Rd u8R w w.heap.size A1 n1 c1 m) (s1 : n1 * 1 ≤ 140737488351232) (A2 : Option Addr) (n2 c2 : Nat) (ss : List Int) (h2 : Rd intR w w.heap.size A2 n2 c2 ss) (s2 : n2 * 8 ≤ 140737488351232) (A3 : Option Addr) (n3 c3 : Nat) (l : List ByteArray) (h3 : Rd strR w w.heap.size A3 n3 c3 l) :
    Calls Tryd.prog 7 #[.slice A1 n1 c1, .slice A2 n2 c2, .slice A3 n3 c3] w fun e w' => e = .returned (.bool true) ∧ Below w.heap.size w w' := by
  have hlt : 0 < w.heap.size := World.block_lt_of_cell? w _ hL
  have hml := h1.len
  have NF := nfault_any w A3 n3 c3 l w.heap.size h3
  by_cases hf : nameErr l = 0
  · rw [hf] at NF
    replace NF := hid NF
    obtain ⟨X, hX⟩ : ∃ X, m ++ sentL l ++ [0] = X := ⟨_, rfl⟩
    obtain ⟨nx, hnx⟩ : ∃ nx, X.length = nx := ⟨_, rfl⟩
    obtain ⟨Y, hY⟩ : ∃ Y, m ++ packT m ss l = Y := ⟨_, rfl⟩
    obtain ⟨ny, hny⟩ : ∃ ny, Y.length = ny := ⟨_, rfl⟩
    obtain ⟨S, hS⟩ : ∃ S, ss ++ packN m ss l m.length = S := ⟨_, rfl⟩
    obtain ⟨ns, hns⟩ : ∃ ns, S.length = ns := ⟨_, rfl⟩
    have hok := nameErr_zero.1 hf
    have hls : lsum l ≤ 254 := by have := hok.2; rw [nsize_lsum] at this; omega
    have CS := fun w' (hb : Below w.heap.size w w') => rsent_any w' A3 n3 c3 l (h3.later hb) hok.1 hls
    obtain ⟨ls, hl⟩ : ∃ ls, lsum l + 1 = ls := ⟨_, rfl⟩
    rw [hl] at CS
    replace CS := hid CS
    have hxl : n1 + ls = nx := by rw [← hnx, ← hX, List.length_append, List.length_append, sentL_len, hml, ← hl]; rfl
    have CW := hid fun w' (hb : Below w.heap.size w w') => write_ok (h1.later hb) (h3.later hb) (by omega) hf hX hnx
    have CK := hid fun w' (hb : Below w.heap.size w w') => packed_ok (h1.later hb) (h2.later hb) (h3.later hb) (by omega) (by omega) hf hY hS hny hns
    have CP := hid fun w' (hb : Below w.heap.size w w') => pack_ok (h1.later hb) (h2.later hb) (h3.later hb) (by omega) (by omega) hf hY hS hny hns
    have E0 := hid fun w' (hb : Below w.heap.size w w') => err_zero w' (hL.below hb hlt)
    have S1 := hid fun w' (hb : Below w.heap.size w w') => (h1.later hb).src_u8
    have HX := hid (show (bytesV m ++ bytesV (sentL l ++ [0])) = bytesV X by rw [← hX]; simp [bytesV])
    have HXL := hid hnx
    have hb1 : nx ≤ 140737488355328 := by omega
    have hp := packT_len m ss l hok.1
    have b3 : 0 < ny := by rw [← hny, ← hY, List.length_append]; omega
    have ab1 : (0 + n1) * 1 ≤ 140737488355328 := by omega
    have ab2 : 0 + n1 ≤ maxLen := by unfold maxLen; omega
    have ab3 : (0 + n1 + ls) * 1 ≤ 140737488355328 := by omega
    have ab4 : 0 + n1 + ls ≤ maxLen := by unfold maxLen; omega
    have ab5 : 0 + n1 + ls = nx := by omega
    clear hp h1 h2 h3 hf hX hnx hY hny hS hns hok hml hls hl hL
    have tk0 : True := trivial; have tk1 : True := trivial; have tk2 : True := trivial; have tk3 : True := trivial; have tk4 : True := trivial; have tk5 : True := trivial; have tk6 : True := trivial; have tk7 : True := trivial; have tk8 : True := trivial; have tk9 : True := trivial; have tk10 : True := trivial; have tk11 : True := trivial; have tk12 : True := trivial
    go_enter Tryd.func7, Tryd.ntmps7
    go_wp2_with (first
      | (go_at_call 16; have _t := tk1; (with_reducible refine (NF.out).mono ?_); rintro e w1 ⟨rfl, hw⟩; subst w1; clear tk1)
      | (at_builtin; have _t := tk2; go_loud (refine wpList_appT rfl _ _ 24 rfl w.heap.size 5 1 1 el_u8 (.slice none 0 0) 0 [] rfl (World.ownsRow_nil _ _ _ _) A1 n1 c1 _ rfl (S1.out _ (by (repeat' (first | (with_reducible exact Below.refl _ _) | (with_reducible assumption) | (with_reducible refine Below.ext ?_ ?_ _ _) | (with_reducible refine Below.alloc ?_ ?_ _) | (with_reducible refine Below.setCell ?_ ?_ _) | (with_reducible refine Below.drew ?_) | (with_reducible refine below_draws ?_ _) | go_size | (simp [size_ext]; done) | (simp [size_ext]; omega))))) ab1 ab2 (by go_size) ?_); intro v2 w2 ho2 ha2; have HO2 := hid ho2; have HB2 := hid (ha2.below (World.ownsRow_nil w w.heap.size 5 1) (Nat.le_refl _)); clear ho2 ha2 tk2)
      | (go_at_call 31; have _t := tk3; (with_reducible refine (CS.out _ HB2.out).mono ?_); rintro e w3 ⟨A3, c3', rfl, hr3, hb3⟩; have HR3 := hid hr3; have HO3 := hid (own_low HO2.out hb3 (Nat.le_refl _)); have HB3 := hid (HB2.out.trans (hb3.mono HB2.out.size)); clear hr3 hb3 tk3)
      | (at_builtin; have _t := tk4; go_loud (refine wpList_appT rfl _ _ 24 rfl w.heap.size 5 1 1 el_u8 _ (0 + n1) _ rfl HO3.out _ ls _ _ rfl HR3.out.src_u8 ab3 ab4 HB3.out.size ?_); intro v4 w4 ho4 ha4; rw [ab5] at ho4; rw [List.nil_append, HX.out] at ho4; rw [← HXL.out] at ho4; have HB4 := hid (HB3.out.trans (ha4.below HO3.out HB3.out.size)); obtain ⟨A4, c4, rfl, hr4⟩ := own_rd_u8 ho4 HB4.out.size (by rw [HXL.out]; exact hb1); rw [HXL.out] at hr4 ⊢; have HR4 := hid hr4; obtain ⟨o4, d4, rfl⟩ := ext_of_below HB4.out; clear ho4 ha4 hr4 tk4 HO2 HO3 HB2 HB3 HR3 HB4)
      | (go_at_call 32; have _t := tk5; (with_reducible refine (CW.out _ (by (repeat' (first | (with_reducible exact Below.refl _ _) | (with_reducible assumption) | (with_reducible refine Below.ext ?_ ?_ _ _) | (with_reducible refine Below.alloc ?_ ?_ _) | (with_reducible refine Below.setCell ?_ ?_ _) | (with_reducible refine Below.drew ?_) | (with_reducible refine below_draws ?_ _) | go_size | (simp [size_ext]; done) | (simp [size_ext]; omega))))).mono ?_); rintro e w1 ⟨Atk5, ctk5, rfl, hr, hb⟩; obtain ⟨otk5, dtk5, rfl⟩ := ext_of_below hb; (try simp only [ext_drew, ext_drewN] at hr); have RX := hid hr; clear hr; clear hb tk5)
      | (go_at_call 11; have _t := tk6; (with_reducible refine (E0.out _ (by (repeat' (first | (with_reducible exact Below.refl _ _) | (with_reducible assumption) | (with_reducible refine Below.ext ?_ ?_ _ _) | (with_reducible refine Below.alloc ?_ ?_ _) | (with_reducible refine Below.setCell ?_ ?_ _) | (with_reducible refine Below.drew ?_) | (with_reducible refine below_draws ?_ _) | go_size | (simp [size_ext]; done) | (simp [size_ext]; omega))))).mono ?_); rintro e w1 ⟨rfl, hb⟩; obtain ⟨otk6, dtk6, rfl⟩ := ext_of_below hb; clear hb tk6)
      | (go_at_call 12; have _t := tk7; (with_reducible refine (bytes_yes (RX.out.below (by (repeat' (first | (with_reducible exact Below.refl _ _) | (with_reducible assumption) | (with_reducible refine Below.ext ?_ ?_ _ _) | (with_reducible refine Below.alloc ?_ ?_ _) | (with_reducible refine Below.setCell ?_ ?_ _) | (with_reducible refine Below.drew ?_) | (with_reducible refine below_draws ?_ _) | go_size | (simp [size_ext]; done) | (simp [size_ext]; omega))))) (HR4.out.below (by (repeat' (first | (with_reducible exact Below.refl _ _) | (with_reducible assumption) | (with_reducible refine Below.ext ?_ ?_ _ _) | (with_reducible refine Below.alloc ?_ ?_ _) | (with_reducible refine Below.setCell ?_ ?_ _) | (with_reducible refine Below.drew ?_) | (with_reducible refine below_draws ?_ _) | go_size | (simp [size_ext]; done) | (simp [size_ext]; omega)))))).mono ?_); rintro e w1 ⟨rfl, hb⟩; obtain ⟨otk7, dtk7, rfl⟩ := ext_of_below hb; clear hb tk7)
      | (go_at_call 33; have _t := tk8; (with_reducible refine (CK.out _ (by (repeat' (first | (with_reducible exact Below.refl _ _) | (with_reducible assumption) | (with_reducible refine Below.ext ?_ ?_ _ _) | (with_reducible refine Below.alloc ?_ ?_ _) | (with_reducible refine Below.setCell ?_ ?_ _) | (with_reducible refine Below.drew ?_) | (with_reducible refine below_draws ?_ _) | go_size | (simp [size_ext]; done) | (simp [size_ext]; omega))))).mono ?_); rintro e w1 ⟨Atk8, ctk8, Btk8, ftk8, rfl, ⟨hr, hr2⟩, hb⟩; have hcaptk8 := hr.cap; obtain ⟨btk8, qtk8, rfl, _⟩ := hr.addr (by omega); obtain ⟨otk8, dtk8, rfl⟩ := ext_of_below hb; (try simp only [ext_drew, ext_drewN] at hr); have RY := hid hr; clear hr; (try simp only [ext_drew, ext_drewN] at hr2); have RS := hid hr2; clear hr2; clear hb tk8)
      | (go_at_call 34; have _t := tk9; (with_reducible refine (CP.out _ (by (repeat' (first | (with_reducible exact Below.refl _ _) | (with_reducible assumption) | (with_reducible refine Below.ext ?_ ?_ _ _) | (with_reducible refine Below.alloc ?_ ?_ _) | (with_reducible refine Below.setCell ?_ ?_ _) | (with_reducible refine Below.drew ?_) | (with_reducible refine below_draws ?_ _) | go_size | (simp [size_ext]; done) | (simp [size_ext]; omega))))).mono ?_); rintro e w1 ⟨Atk9, ctk9, Btk9, ftk9, rfl, ⟨hr, hr2⟩, hb⟩; have hcaptk9 := hr.cap; obtain ⟨btk9, qtk9, rfl, _⟩ := hr.addr (by omega); obtain ⟨otk9, dtk9, rfl⟩ := ext_of_below hb; (try simp only [ext_drew, ext_drewN] at hr); have RY2 := hid hr; clear hr; (try simp only [ext_drew, ext_drewN] at hr2); have RS2 := hid hr2; clear hr2; clear hb tk9)
      | (go_at_call 11; have _t := tk10; (with_reducible refine (E0.out _ (by (repeat' (first | (with_reducible exact Below.refl _ _) | (with_reducible assumption) | (with_reducible refine Below.ext ?_ ?_ _ _) | (with_reducible refine Below.alloc ?_ ?_ _) | (with_reducible refine Below.setCell ?_ ?_ _) | (with_reducible refine Below.drew ?_) | (with_reducible refine below_draws ?_ _) | go_size | (simp [size_ext]; done) | (simp [size_ext]; omega))))).mono ?_); rintro e w1 ⟨rfl, hb⟩; obtain ⟨otk10, dtk10, rfl⟩ := ext_of_below hb; clear hb tk10)
      | (go_at_call 12; have _t := tk11; (with_reducible refine (bytes_yes (RY2.out.below (by (repeat' (first | (with_reducible exact Below.refl _ _) | (with_reducible assumption) | (with_reducible refine Below.ext ?_ ?_ _ _) | (with_reducible refine Below.alloc ?_ ?_ _) | (with_reducible refine Below.setCell ?_ ?_ _) | (with_reducible refine Below.drew ?_) | (with_reducible refine below_draws ?_ _) | go_size | (simp [size_ext]; done) | (simp [size_ext]; omega))))) (RY.out.below (by (repeat' (first | (with_reducible exact Below.refl _ _) | (with_reducible assumption) | (with_reducible refine Below.ext ?_ ?_ _ _) | (with_reducible refine Below.alloc ?_ ?_ _) | (with_reducible refine Below.setCell ?_ ?_ _) | (with_reducible refine Below.drew ?_) | (with_reducible refine below_draws ?_ _) | go_size | (simp [size_ext]; done) | (simp [size_ext]; omega)))))).mono ?_); rintro e w1 ⟨rfl, hb⟩; obtain ⟨otk11, dtk11, rfl⟩ := ext_of_below hb; clear hb tk11)
      | (go_at_call 35; have _t := tk12; (with_reducible refine (ints_yes (RS2.out.below (by (repeat' (first | (with_reducible exact Below.refl _ _) | (with_reducible assumption) | (with_reducible refine Below.ext ?_ ?_ _ _) | (with_reducible refine Below.alloc ?_ ?_ _) | (with_reducible refine Below.setCell ?_ ?_ _) | (with_reducible refine Below.drew ?_) | (with_reducible refine below_draws ?_ _) | go_size | (simp [size_ext]; done) | (simp [size_ext]; omega))))) (RS.out.below (by (repeat' (first | (with_reducible exact Below.refl _ _) | (with_reducible assumption) | (with_reducible refine Below.ext ?_ ?_ _ _) | (with_reducible refine Below.alloc ?_ ?_ _) | (with_reducible refine Below.setCell ?_ ?_ _) | (with_reducible refine Below.drew ?_) | (with_reducible refine below_draws ?_ _) | go_size | (simp [size_ext]; done) | (simp [size_ext]; omega)))))).mono ?_); rintro e w1 ⟨rfl, hb⟩; obtain ⟨otk12, dtk12, rfl⟩ := ext_of_below hb; clear hb tk12))
    go_ret
    exact ⟨by simp, by (repeat' (first | (with_reducible exact Below.refl _ _) | (with_reducible assumption) | (with_reducible refine Below.ext ?_ ?_ _ _) | (with_reducible refine Below.alloc ?_ ?_ _) | (with_reducible refine Below.setCell ?_ ?_ _) | (with_reducible refine Below.drew ?_) | (with_reducible refine below_draws ?_ _) | go_size | (simp [size_ext]; done) | (simp [size_ext]; omega)))⟩
  · have CW := hid fun w' (hb : Below w.heap.size w w') => write_bad (h1.later hb) (h3.later hb) (by omega) rfl hf
    have CP := hid fun w' (hb : Below w.heap.size w w') => pack_bad (h1.later hb) (h2.later hb) (h3.later hb) (by omega) (by omega) rfl hf
    obtain ⟨k, hk⟩ : ∃ k, nameErr l = k := ⟨_, rfl⟩
    rw [hk] at CW CP hf NF
    replace NF := hid NF
    have k0 : (k == 0) = false := by rw [beq_eq_false_iff_ne]; exact hf
    have E0 := hid fun w' (hb : Below w.heap.size w w') => err_one k hf w' (hL.below hb hlt)
    clear h1 h2 h3 hml hk
    have tk0 : True := trivial; have tk1 : True := trivial; have tk2 : True := trivial; have tk3 : True := trivial; have tk4 : True := trivial; have tk5 : True := trivial; have tk6 : True := trivial; have tk7 : True := trivial; have tk8 : True := trivial; have tk9 : True := trivial; have tk10 : True := trivial; have tk11 : True := trivial; have tk12 : True := trivial
    go_enter Tryd.func7, Tryd.ntmps7
    go_wp2_with (first
      | (go_at_call 16; have _t := tk1; (with_reducible refine (NF.out).mono ?_); rintro e w1 ⟨rfl, hw⟩; subst w1; clear tk1)
      | (go_at_call 32; have _t := tk5; (with_reducible refine (CW.out _ (by (repeat' (first | (with_reducible exact Below.refl _ _) | (with_reducible assumption) | (with_reducible refine Below.ext ?_ ?_ _ _) | (with_reducible refine Below.alloc ?_ ?_ _) | (with_reducible refine Below.setCell ?_ ?_ _) | (with_reducible refine Below.drew ?_) | (with_reducible refine below_draws ?_ _) | go_size | (simp [size_ext]; done) | (simp [size_ext]; omega))))).mono ?_); rintro e w1 ⟨rfl, hb⟩; obtain ⟨otk5, dtk5, rfl⟩ := ext_of_below hb; clear hb tk5)
      | (go_at_call 11; have _t := tk6; (with_reducible refine (E0.out _ (by (repeat' (first | (with_reducible exact Below.refl _ _) | (with_reducible assumption) | (with_reducible refine Below.ext ?_ ?_ _ _) | (with_reducible refine Below.alloc ?_ ?_ _) | (with_reducible refine Below.setCell ?_ ?_ _) | (with_reducible refine Below.drew ?_) | (with_reducible refine below_draws ?_ _) | go_size | (simp [size_ext]; done) | (simp [size_ext]; omega))))).mono ?_); rintro e w1 ⟨rfl, hb⟩; obtain ⟨otk6, dtk6, rfl⟩ := ext_of_below hb; clear hb tk6)
      | (go_at_call 12; have _t := tk7; (with_reducible refine (bytes_yes (B1 := 0) (rd_nil _ 0) (B2 := 0) (rd_nil _ 0)).mono ?_); rintro e w1 ⟨rfl, hb⟩; obtain ⟨otk7, dtk7, rfl⟩ := ext_of_below hb; clear hb tk7)
      | (go_at_call 34; have _t := tk9; (with_reducible refine (CP.out _ (by (repeat' (first | (with_reducible exact Below.refl _ _) | (with_reducible assumption) | (with_reducible refine Below.ext ?_ ?_ _ _) | (with_reducible refine Below.alloc ?_ ?_ _) | (with_reducible refine Below.setCell ?_ ?_ _) | (with_reducible refine Below.drew ?_) | (with_reducible refine below_draws ?_ _) | go_size | (simp [size_ext]; done) | (simp [size_ext]; omega))))).mono ?_); rintro e w1 ⟨rfl, hb⟩; obtain ⟨otk9, dtk9, rfl⟩ := ext_of_below hb; clear hb tk9)
      | (go_at_call 11; have _t := tk10; (with_reducible refine (E0.out _ (by (repeat' (first | (with_reducible exact Below.refl _ _) | (with_reducible assumption) | (with_reducible refine Below.ext ?_ ?_ _ _) | (with_reducible refine Below.alloc ?_ ?_ _) | (with_reducible refine Below.setCell ?_ ?_ _) | (with_reducible refine Below.drew ?_) | (with_reducible refine below_draws ?_ _) | go_size | (simp [size_ext]; done) | (simp [size_ext]; omega))))).mono ?_); rintro e w1 ⟨rfl, hb⟩; obtain ⟨otk10, dtk10, rfl⟩ := ext_of_below hb; clear hb tk10)
      | (go_at_call 12; have _t := tk11; (with_reducible refine (bytes_yes (B1 := 0) (rd_nil _ 0) (B2 := 0) (rd_nil _ 0)).mono ?_); rintro e w1 ⟨rfl, hb⟩; obtain ⟨otk11, dtk11, rfl⟩ := ext_of_below hb; clear hb tk11)
      | (go_at_call 35; have _t := tk12; (with_reducible refine (ints_yes (B1 := 0) (rd_nil _ 0) (B2 := 0) (rd_nil _ 0)).mono ?_); rintro e w1 ⟨rfl, hb⟩; obtain ⟨otk12, dtk12, rfl⟩ := ext_of_below hb; clear hb tk12))
    go_ret
    exact ⟨by simp, by (repeat' (first | (with_reducible exact Below.refl _ _) | (with_reducible assumption) | (with_reducible refine Below.ext ?_ ?_ _ _) | (with_reducible refine Below.alloc ?_ ?_ _) | (with_reducible refine Below.setCell ?_ ?_ _) | (with_reducible refine Below.drew ?_) | (with_reducible refine below_draws ?_ _) | go_size | (simp [size_ext]; done) | (simp [size_ext]; omega)))⟩

set_option maxRecDepth 100000 in
theorem contract (H : Type) (enc : TypeId × Value → H) (W : World) (base : Nat) (args : Array Value) (ds gs : List (DataW H)) (before : List MemPlace)
    (hval : ∀ (j : Nat) t v, Tryd.f7.params[j]? = some t → args[j]? = some v → Value.okWide Tryd.prog W .any base t v)
    (hW : DataW.Whole enc Tryd.prog Tryd.f7.params.toList Rows.wireWritesSpec.vars false W args.toList ds gs before) (hsz : (DataW.weightsEach Tryd.prog (Tryd.f7.params.toList ++ Rows.wireWritesSpec.plain.varTypes Tryd.prog) (ds ++ gs)).all (· ≤ reachBytes) = true) (hL : Laid W) :
    Calls Tryd.prog 7 args W fun e W' => ∃ v, e = .returned v ∧ Rows.wireWritesSpec.post enc Tryd.prog Tryd.f7 false true false false W args v W' := by
  have hW' := hW
  obtain ⟨p, q, hA0, hV, rfl, hfz, hnd⟩ := hW
  have hA : DataW.TrodAll enc Tryd.prog W 0 (fun _ => true) true Tryd.f7.params.toList args.toList ds p := hA0
  rw [Tryd.params7] at hA hval hsz
  obtain ⟨v0, vs0, d0, ds0, p0, q0, hargs, rfl, rfl, k0, r0⟩ := trodAll_cons hA
  obtain ⟨v1, vs1, d1, ds1, p1, q1, rfl, rfl, rfl, k1, r1⟩ := trodAll_cons r0
  obtain ⟨v2, vs2, d2, ds2, p2, q2, rfl, rfl, rfl, k2, r2⟩ := trodAll_cons r1
  obtain ⟨rfl, rfl, rfl⟩ := trodAll_nil r2
  obtain rfl : args = #[v0, v1, v2] := by cases args; simp_all
  obtain ⟨rfl, rfl⟩ := trodVars_none hV
  have lt0 : ∀ x ∈ p0, x.block < W.heap.size := by obtain ⟨m, hm⟩ := k0; exact DataW.trod_lt m _ _ _ hm
  have lt1 : ∀ x ∈ p1, x.block < W.heap.size := by obtain ⟨m, hm⟩ := k1; exact DataW.trod_lt m _ _ _ hm
  have lt2 : ∀ x ∈ p2, x.block < W.heap.size := by obtain ⟨m, hm⟩ := k2; exact DataW.trod_lt m _ _ _ hm
  have hsz' : ∀ k ∈ _, k ≤ reachBytes := fun k hk => of_decide_eq_true (List.all_eq_true.1 hsz k hk)
  have u0 : ∀ k ∈ d0.weights Tryd.prog 24, k ≤ reachBytes := fun k hk => hsz' k (by simp [DataW.weightsEach, hk])
  have u1 : ∀ k ∈ d1.weights Tryd.prog 59, k ≤ reachBytes := fun k hk => hsz' k (by simp [DataW.weightsEach, hk])
  have u2 : ∀ k ∈ d2.weights Tryd.prog 38, k ≤ reachBytes := fun k hk => hsz' k (by simp [DataW.weightsEach, hk])
  obtain ⟨A0, n0, c0, l0, rfl, w0, z0⟩ := arg_slice Tryd.underlying24 (opens_slice Tryd.underlying24 (opens_u8 Tryd.underlying5) (by kernel_rfl) (by decide) (of_decide_eq_true (by kernel_rfl))) (hval 0 24 v0 rfl rfl) k0 u0
  have s0 := arg_lim Tryd.underlying24 1 (of_decide_eq_true (by kernel_rfl)) k0 u0
  obtain ⟨A1, n1, c1, l1, rfl, w1, z1⟩ := arg_slice Tryd.underlying59 (opens_slice Tryd.underlying59 (opens_int Tryd.underlying3) (by kernel_rfl) (by decide) (of_decide_eq_true (by kernel_rfl))) (hval 1 59 v1 rfl rfl) k1 u1
  have s1 := arg_lim Tryd.underlying59 8 (of_decide_eq_true (by kernel_rfl)) k1 u1
  obtain ⟨A2, n2, c2, l2, rfl, w2, z2⟩ := arg_slice Tryd.underlying38 (opens_slice Tryd.underlying38 (opens_str Tryd.underlying9) (by kernel_rfl) (by decide) (of_decide_eq_true (by kernel_rfl))) (hval 2 38 v2 rfl rfl) k2 u2
  clear hA0 hA
  refine (walk W hL A0 n0 c0 l0 w0 s0 A1 n1 c1 l1 w1 s1 A2 n2 c2 l2 w2).mono fun e W' ⟨he, bel⟩ => ?_
  subst he
  exact ⟨_, rfl, _, _, _, [], _, [], hW', trodAll_mk1 (shut_bool Tryd.underlying4 _), (trodAll_cons_mk (Below.trod laidOut (by kernel_rfl) (of_decide_eq_true (by kernel_rfl)) k0 bel lt0) (trodAll_cons_mk (Below.trod laidOut (by kernel_rfl) (of_decide_eq_true (by kernel_rfl)) k1 bel lt1) (trodAll_cons_mk (Below.trod laidOut (by kernel_rfl) (of_decide_eq_true (by kernel_rfl)) k2 bel lt2) trodAll_mk0))), rfl, bel.frame _, fun h => by cases h⟩

set_option maxRecDepth 100000 in
theorem lifted (os : Os) (started : os.Started) (H : Type) (enc : TypeId × Value → H) :
    ReturnsInHanded {} Tryd.checked os 7 .any (fun w args => (Rows.wireWritesSpec.pre enc Tryd.prog Tryd.f7 [] false w args ∧ laidMetH Tryd.prog laidL w) ∧ sizedMet enc Tryd.prog Tryd.f7 (OpenSpec.ofChange Rows.wireWritesSpec) false w args) (Rows.wireWritesSpec.post enc Tryd.prog Tryd.f7 false true false false) := by
  refine returnsInHanded_of_change_and (C := Tryd.checked) (X := fun w _ => laidMetH Tryd.prog laidL w) (fun _ _ _ hh h => h.of_heap hh) own started (by kernel_rfl) Tryd.func7
    (ChangeSpec.witness_at (enc := enc) (C := Tryd.checked) (os := os) (X := fun w _ => laidMetH Tryd.prog laidL w) false (laidWorld os) #[.slice none 0 0, .slice none 0 0, .slice none 0 0] 8 rfl (by kernel_rfl) (by kernel_rfl) (by kernel_rfl) (by kernel_rfl) (by kernel_rfl) (laidWorld_met os _)) ?_
  intro W base args ds gs before hval hW _ hsz hL _
  exact contract H enc W base args ds gs before hval hW hsz (laid_of hL)

set_option maxRecDepth 100000 in
theorem said : Rows.WireWritesSaid :=
  OpenClaim.holds_of_wide 7 Tryd.f7 rfl rfl rfl rfl rfl rfl rfl ⟨rfl, rfl, rfl, rfl, rfl⟩ rfl rfl rfl rfl rfl (by kernel_rfl) Tryd.func7 (by kernel_rfl)
    (of_decide_eq_true (by kernel_rfl)) (by unfold Func.isWrapper; first | (rw [if_pos (by decide +kernel)]; kernel_rfl) | (rw [if_neg (by decide +kernel)]; exact ⟨rfl, rfl⟩))
    (fun os started H enc _ => lifted os started H enc)
set_option maxRecDepth 100000 in
/-- the statement: the tied card -/
theorem proved : Rows.WireWritesCardSaid :=
  Claim7.holds_tied_plain_at .later [] [.handle] true (true, "43c8b0af65a411a36547a9fc34b32c023afcbbf36dca1feb727a2cd0b49e13d4") true said (fun _ h => by cases h) (by kernel_rfl) (fun _ h => by cases h) wireWrites_row_tie rfl ⟨rfl, rfl⟩ (by kernel_rfl) rfl
    (fun f fn hf hfn => by
      obtain rfl : f = 7 := Option.some.inj ((show Tryd.prog.funcNamed "pointsman/pointsmanlaw1.WireWrites" = some 7 by kernel_rfl).symm.trans hf) |>.symm
      obtain rfl : fn = Tryd.f7 := (Option.some.inj (Tryd.func7.symm.trans hfn)).symm
      exact ⟨by kernel_rfl, fun j t ht => no_stand (by kernel_rfl) j t ht⟩)
    (by kernel_rfl)

end wireWrites
end Go.Proofs.YtbjjmikiefgnaaaDoor
