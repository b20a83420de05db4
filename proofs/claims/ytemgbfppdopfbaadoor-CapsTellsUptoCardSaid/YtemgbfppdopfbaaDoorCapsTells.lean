/- CapsTells is true of every input of at most 1,048,576 bytes in all (the second form): of any name and any bits the program's letters are what the document tells. Conditions: the bound on what comes in, which the second form states; the variable errors.errorType holds what the program's text lays in it (the card ties it). -/
import Derived.Test.YtemgbfppdopfbaaDoorCapsTb
import Derived.Test.YtemgbfppdopfbaaDoorQuietExt
import Derived.Test.YtemgbfppdopfbaaDoorLaid
import Derived.Deep.DeepHandedRow
namespace Go.Proofs.YtemgbfppdopfbaaDoor
open Go.ChangeShapes Go.WideShapes Go.ChangeAt Go.RowKit
set_option linter.unusedVariables false
set_option linter.unusedSimpArgs false
namespace capsTells
theorem fact_a1 : (posN [⟨#[97, 49]⟩] 1).length = 1 := by decide +kernel
theorem sz_lsum (l : List ByteArray) : (sliceR strR).sz l = lsum l + 1 := rfl
theorem err_nil (w : World) (hg : Laid w) : Calls Tryd.prog 11 #[.nilIface, .int .i64 0] w fun e w' => e = .returned (.bool true) ∧ Below w.heap.size w w' := by
  simpa [errV] using error_any 0 0 w hg
theorem err_two (w : World) (hg : Laid w) : Calls Tryd.prog 11 #[.iface 26 (.int .i64 2), .int .i64 2] w fun e w' => e = .returned (.bool true) ∧ Below w.heap.size w w' := by
  simpa [errV] using error_any 2 2 w hg
theorem texts_nil (w : World) : Calls Tryd.prog 12 #[.slice none 0 0, .slice none 0 0] w fun e w' => e = .returned (.bool true) ∧ Below w.heap.size w w' := by
  have := texts_any w none 0 0 [] w.heap.size (rd_nil _ _) none 0 0 [] w.heap.size (rd_nil _ _)
  simpa using this

set_option maxRecDepth 100000 in
set_option maxHeartbeats 8000000 in
theorem walkUpto (w : World) (hL : Laid w) (A1 : Option Addr) (n1 c1 : Nat) (ns : List ByteArray) (h1 : Rd strR w w.heap.size A1 n1 c1 ns) (A2 : Option Addr) (n2 c2 : Nat) (a : List Bool) (h2 : Rd boolR w w.heap.size A2 n2 c2 a)
    (hz : (sliceR strR).sz ns + (sliceR boolR).sz a ≤ 1048576) :
    Calls Tryd.prog 3 #[.slice A1 n1 c1, .slice A2 n2 c2] w fun e w' => e = .returned (.bool true) ∧ Below w.heap.size w w' := by
  rw [sz_lsum] at hz
  have hlz : lsum ns ≤ 1048576 := by omega
  have hN := posN_lsum ns
  have hl1 := h1.len
  rw [hl1] at hN
  obtain ⟨N, hNN⟩ : ∃ N, (posN ns n1).length = N := ⟨_, rfl⟩
  have CL := fun w' (hb : Below w.heap.size w w') => lettersN_any w' A1 n1 c1 ns (h1.later hb) (by omega)
  have CB := fun w' (hb : Below w.heap.size w w') => bits_any w' A1 n1 c1 ns (h1.later hb) (by omega)
  have CG := fun w' (hb : Below w.heap.size w w') => greats_ref w' A1 n1 c1 ns (h1.later hb) hlz
  rw [hNN] at CL CB CG hN
  have D1 := hid CL
  have D2 := hid CB
  have D3 := hid CG
  have H1 := hid h1
  have H2 := hid h2
  have HNN := hid hNN
  have HL1 := hid hl1
  have CS := hid fun (hs : n2 < N) w' (hb : Below w.heap.size w w') => mix_short w' A1 n1 c1 ns (h1.later hb) hlz A2 n2 c2 a (h2.later hb) (by omega)
  have CO := hid fun (hs : N ≤ n2) w' (hb : Below w.heap.size w w') => mix_ok w' A1 n1 c1 ns (h1.later hb) hlz A2 n2 c2 a (h2.later hb) (by omega)
  have CM := hid fun (hs : N ≤ n2) w' (hb : Below w.heap.size w w') => mixed_ref w' A1 n1 c1 ns (h1.later hb) hlz A2 n2 c2 a (h2.later hb) (by omega)
  have hlt : 0 < w.heap.size := World.block_lt_of_cell? w _ hL
  have HE := hid fun w' (hb : Below w.heap.size w w') => err_nil w' (hL.below hb hlt)
  have HE2 := hid fun w' (hb : Below w.heap.size w w') => err_two w' (hL.below hb hlt)
  clear h1 h2 CL CB CG hNN hl1 hz hL hlt
  have tk0 : True := trivial; have tk1 : True := trivial; have tk2 : True := trivial; have tk3 : True := trivial; have tk4 : True := trivial; have tk5 : True := trivial; have tk6 : True := trivial; have tk7 : True := trivial; have tk8 : True := trivial; have tk9 : True := trivial; have tk10 : True := trivial; have tk11 : True := trivial; have tk12 : True := trivial
  go_enter Tryd.func3, Tryd.ntmps3
  go_wp2_with (first
    | (go_at_call 8; have _t := tk1; (with_reducible refine (D1.out _ (by (repeat' (first | (with_reducible exact Below.refl _ _) | (with_reducible assumption) | (with_reducible refine below_ext0 ?_ _ _) | (with_reducible refine below_alloc0 ?_ _) | (with_reducible refine Below.ext ?_ ?_ _ _) | (with_reducible refine Below.alloc ?_ ?_ _) | (with_reducible refine Below.setCell ?_ ?_ _) | (with_reducible refine Below.drew ?_) | (with_reducible refine below_draws ?_ _) | go_size | (simp [size_ext]; done) | (simp [size_ext]; omega))))).mono ?_); rintro e w1 ⟨rfl, hb⟩; obtain ⟨otk1, dtk1, rfl⟩ := ext_of_below hb; clear hb tk1)
    | (go_at_call 8; have _t := tk0; refine (lettersN_any _ _ _ _ _ (rd_litC 9 (cs := #[.string ⟨#[97, 49]⟩]) [⟨#[97, 49]⟩] 1 (by simp [size_ext]) rfl (by simp; decide) rfl (by decide)) (by rw [fact_a1]; decide)).mono ?_; rw [fact_a1]; rintro e w1 ⟨rfl, hb⟩; obtain ⟨otk0, dtk0, rfl⟩ := ext_of_below hb; clear hb tk0)
    | (go_at_call 6; have _t := tk3; (with_reducible refine (D3.out _ (by (repeat' (first | (with_reducible exact Below.refl _ _) | (with_reducible assumption) | (with_reducible refine below_ext0 ?_ _ _) | (with_reducible refine below_alloc0 ?_ _) | (with_reducible refine Below.ext ?_ ?_ _ _) | (with_reducible refine Below.alloc ?_ ?_ _) | (with_reducible refine Below.setCell ?_ ?_ _) | (with_reducible refine Below.drew ?_) | (with_reducible refine below_draws ?_ _) | go_size | (simp [size_ext]; done) | (simp [size_ext]; omega))))).mono ?_); rintro e w1 ⟨Atk3, ctk3, rfl, hr, hb⟩; obtain ⟨otk3, dtk3, rfl⟩ := ext_of_below hb; (try simp only [ext_drew, ext_drewN] at hr); have R3 := hid hr; clear hr; clear hb tk3)
    | (go_at_call 7; have _t := tk2; (with_reducible refine (D2.out _ (by (repeat' (first | (with_reducible exact Below.refl _ _) | (with_reducible assumption) | (with_reducible refine below_ext0 ?_ _ _) | (with_reducible refine below_alloc0 ?_ _) | (with_reducible refine Below.ext ?_ ?_ _ _) | (with_reducible refine Below.alloc ?_ ?_ _) | (with_reducible refine Below.setCell ?_ ?_ _) | (with_reducible refine Below.drew ?_) | (with_reducible refine below_draws ?_ _) | go_size | (simp [size_ext]; done) | (simp [size_ext]; omega))))).mono ?_); rintro e w1 ⟨Atk2, ctk2, rfl, hr, hb⟩; obtain ⟨otk2, dtk2, rfl⟩ := ext_of_below hb; (try simp only [ext_drew, ext_drewN] at hr); have R2 := hid hr; clear hr; clear hb tk2))
  have HW3 := hid (show Below (ext w otk3 dtk3).heap.size (ext w otk3 dtk3) (ext (ext w otk3 dtk3) otk2 dtk2) from (by (repeat' (first | (with_reducible exact Below.refl _ _) | (with_reducible assumption) | (with_reducible refine below_ext0 ?_ _ _) | (with_reducible refine below_alloc0 ?_ _) | (with_reducible refine Below.ext ?_ ?_ _ _) | (with_reducible refine Below.alloc ?_ ?_ _) | (with_reducible refine Below.setCell ?_ ?_ _) | (with_reducible refine Below.drew ?_) | (with_reducible refine below_draws ?_ _) | go_size | (simp [size_ext]; done) | (simp [size_ext]; omega)))))
  have HW0 := hid (show Below w.heap.size w (ext (ext w otk3 dtk3) otk2 dtk2) from (by (repeat' (first | (with_reducible exact Below.refl _ _) | (with_reducible assumption) | (with_reducible refine below_ext0 ?_ _ _) | (with_reducible refine below_alloc0 ?_ _) | (with_reducible refine Below.ext ?_ ?_ _ _) | (with_reducible refine Below.alloc ?_ ?_ _) | (with_reducible refine Below.setCell ?_ ?_ _) | (with_reducible refine Below.drew ?_) | (with_reducible refine below_draws ?_ _) | go_size | (simp [size_ext]; done) | (simp [size_ext]; omega)))))
  go_loopg [7] N (fun gk v7 wi => ∃ i : Nat, i ≤ N ∧ gk = N - i ∧ v7 = .int .i64 (i : Int) ∧ Below (ext (ext w otk3 dtk3) otk2 dtk2).heap.size (ext (ext w otk3 dtk3) otk2 dtk2) wi)
  case atStart => exact ⟨0, Nat.zero_le _, rfl, rfl, (by (repeat' (first | (with_reducible exact Below.refl _ _) | (with_reducible assumption) | (with_reducible refine below_ext0 ?_ _ _) | (with_reducible refine below_alloc0 ?_ _) | (with_reducible refine Below.ext ?_ ?_ _ _) | (with_reducible refine Below.alloc ?_ ?_ _) | (with_reducible refine Below.setCell ?_ ?_ _) | (with_reducible refine Below.drew ?_) | (with_reducible refine below_draws ?_ _) | go_size | (simp [size_ext]; done) | (simp [size_ext]; omega))))⟩
  case round =>
    obtain ⟨i, hi, rfl, rfl, hlow⟩ := hrel
    have HLOW := hid hlow
    have R38 := hid ((R3.out.later HW3.out).later hlow)
    have R28 := hid (R2.out.later hlow)
    have HB := hid (HW0.out.trans (hlow.mono HW0.out.size))
    have hzw := HB.out.size
    clear hlow
    by_cases hlt : i < N
    · obtain ⟨q1, p1, rfl, l1, x1⟩ := R38.out.boolD i hlt
      obtain ⟨q2, p2, rfl, l2, x2⟩ := R28.out.boolD i hlt
      have t0 : (i : Int) < (N : Int) := by omega
      obtain ⟨u, hu⟩ : ∃ u, (bitsN (ns.map bytesOf)).getD i false = u := ⟨_, rfl⟩
      rw [hu] at x1 x2
      have hlw := HLOW.out
      have hzz := hlw.size
      clear hu
      cases u
      all_goals
        go_wp2_with fail
        refine wp_region_ext (by kernel_rfl) (by kernel_rfl) ?_
        repeat (go_big_quiet_step ((fail)))
        refine wpQuiet_nil ?_
        rintro _ ⟨⟨os, d⟩, rfl⟩
        simp only [exts]
        go_wp2
        go_roundg (N - (i + 1))
        case measure => omega
        case rel => exact ⟨i + 1, by omega, rfl, by go_num, hlw.trans (Below.mono (by (repeat' (first | (with_reducible exact Below.refl _ _) | (with_reducible assumption) | (with_reducible refine below_ext0 ?_ _ _) | (with_reducible refine below_alloc0 ?_ _) | (with_reducible refine Below.ext ?_ ?_ _ _) | (with_reducible refine Below.alloc ?_ ?_ _) | (with_reducible refine Below.setCell ?_ ?_ _) | (with_reducible refine Below.drew ?_) | (with_reducible refine below_draws ?_ _) | go_size | (simp [size_ext]; done) | (simp [size_ext]; omega))) : Below wr.heap.size wr _) hzz)⟩
    · obtain rfl : N = i := by omega
      by_cases s2 : n2 < N
      · have T2 := hid (CS.out s2)
        have t1 : (n2 : Int) < (N : Int) := by omega
        have hlw := HB.out
        go_wp2_with (first
          | (go_at_call 10; have _t := tk4; (with_reducible refine (T2.out _ (by (repeat' (first | (with_reducible exact Below.refl _ _) | (with_reducible assumption) | (with_reducible refine below_ext0 ?_ _ _) | (with_reducible refine below_alloc0 ?_ _) | (with_reducible refine Below.ext ?_ ?_ _ _) | (with_reducible refine Below.alloc ?_ ?_ _) | (with_reducible refine Below.setCell ?_ ?_ _) | (with_reducible refine Below.drew ?_) | (with_reducible refine below_draws ?_ _) | go_size | (simp [size_ext]; done) | (simp [size_ext]; omega))))).mono ?_); rintro e w1 ⟨rfl, hb⟩; obtain ⟨otk4, dtk4, rfl⟩ := ext_of_below hb; clear hb tk4)
          | (go_at_call 11; have _t := tk5; (with_reducible refine (HE2.out _ (by (repeat' (first | (with_reducible exact Below.refl _ _) | (with_reducible assumption) | (with_reducible refine below_ext0 ?_ _ _) | (with_reducible refine below_alloc0 ?_ _) | (with_reducible refine Below.ext ?_ ?_ _ _) | (with_reducible refine Below.alloc ?_ ?_ _) | (with_reducible refine Below.setCell ?_ ?_ _) | (with_reducible refine Below.drew ?_) | (with_reducible refine below_draws ?_ _) | go_size | (simp [size_ext]; done) | (simp [size_ext]; omega))))).mono ?_); rintro e w1 ⟨rfl, hb⟩; obtain ⟨otk5, dtk5, rfl⟩ := ext_of_below hb; clear hb tk5)
          | (go_at_call 12; have _t := tk6; (with_reducible refine (texts_nil _).mono ?_); rintro e w1 ⟨rfl, hb⟩; obtain ⟨otk6, dtk6, rfl⟩ := ext_of_below hb; clear hb tk6))
        go_ret
        exact ⟨by simp, (by (repeat' (first | (with_reducible exact Below.refl _ _) | (with_reducible assumption) | (with_reducible refine below_ext0 ?_ _ _) | (with_reducible refine below_alloc0 ?_ _) | (with_reducible refine Below.ext ?_ ?_ _ _) | (with_reducible refine Below.alloc ?_ ?_ _) | (with_reducible refine Below.setCell ?_ ?_ _) | (with_reducible refine Below.drew ?_) | (with_reducible refine below_draws ?_ _) | go_size | (simp [size_ext]; done) | (simp [size_ext]; omega))))⟩
      · have T2 := hid (CO.out (by omega))
        have T3 := hid (CM.out (by omega))
        have t1 : ¬ (n2 : Int) < (N : Int) := by omega
        have hlw := HB.out
        go_wp2_with (first
          | (go_at_call 9; have _t := tk7; (with_reducible refine (T3.out _ (by (repeat' (first | (with_reducible exact Below.refl _ _) | (with_reducible assumption) | (with_reducible refine below_ext0 ?_ _ _) | (with_reducible refine below_alloc0 ?_ _) | (with_reducible refine Below.ext ?_ ?_ _ _) | (with_reducible refine Below.alloc ?_ ?_ _) | (with_reducible refine Below.setCell ?_ ?_ _) | (with_reducible refine Below.drew ?_) | (with_reducible refine below_draws ?_ _) | go_size | (simp [size_ext]; done) | (simp [size_ext]; omega))))).mono ?_); rintro e w1 ⟨Atk7, ctk7, rfl, hr, hb⟩; obtain ⟨otk7, dtk7, rfl⟩ := ext_of_below hb; (try simp only [ext_drew, ext_drewN] at hr); have R7 := hid hr; clear hr; clear hb tk7)
          | (go_at_call 10; have _t := tk4; (with_reducible refine (T2.out _ (by (repeat' (first | (with_reducible exact Below.refl _ _) | (with_reducible assumption) | (with_reducible refine below_ext0 ?_ _ _) | (with_reducible refine below_alloc0 ?_ _) | (with_reducible refine Below.ext ?_ ?_ _ _) | (with_reducible refine Below.alloc ?_ ?_ _) | (with_reducible refine Below.setCell ?_ ?_ _) | (with_reducible refine Below.drew ?_) | (with_reducible refine below_draws ?_ _) | go_size | (simp [size_ext]; done) | (simp [size_ext]; omega))))).mono ?_); rintro e w1 ⟨Atk4, ctk4, rfl, hr, hb⟩; obtain ⟨otk4, dtk4, rfl⟩ := ext_of_below hb; (try simp only [ext_drew, ext_drewN] at hr); have R4 := hid hr; clear hr; clear hb tk4)
          | (go_at_call 11; have _t := tk5; (with_reducible refine (HE.out _ (by (repeat' (first | (with_reducible exact Below.refl _ _) | (with_reducible assumption) | (with_reducible refine below_ext0 ?_ _ _) | (with_reducible refine below_alloc0 ?_ _) | (with_reducible refine Below.ext ?_ ?_ _ _) | (with_reducible refine Below.alloc ?_ ?_ _) | (with_reducible refine Below.setCell ?_ ?_ _) | (with_reducible refine Below.drew ?_) | (with_reducible refine below_draws ?_ _) | go_size | (simp [size_ext]; done) | (simp [size_ext]; omega))))).mono ?_); rintro e w1 ⟨rfl, hb⟩; obtain ⟨otk5, dtk5, rfl⟩ := ext_of_below hb; clear hb tk5)
          | (go_at_call 12; have _t := tk6; refine (texts_any _ _ _ _ _ _ (R4.out.below (by (repeat' (first | (with_reducible exact Below.refl _ _) | (with_reducible assumption) | (with_reducible refine below_ext0 ?_ _ _) | (with_reducible refine below_alloc0 ?_ _) | (with_reducible refine Below.ext ?_ ?_ _ _) | (with_reducible refine Below.alloc ?_ ?_ _) | (with_reducible refine Below.setCell ?_ ?_ _) | (with_reducible refine Below.drew ?_) | (with_reducible refine below_draws ?_ _) | go_size | (simp [size_ext]; done) | (simp [size_ext]; omega))))) _ _ _ _ _ (R7.out.below (by (repeat' (first | (with_reducible exact Below.refl _ _) | (with_reducible assumption) | (with_reducible refine below_ext0 ?_ _ _) | (with_reducible refine below_alloc0 ?_ _) | (with_reducible refine Below.ext ?_ ?_ _ _) | (with_reducible refine Below.alloc ?_ ?_ _) | (with_reducible refine Below.setCell ?_ ?_ _) | (with_reducible refine Below.drew ?_) | (with_reducible refine below_draws ?_ _) | go_size | (simp [size_ext]; done) | (simp [size_ext]; omega)))))).mono ?_; rw [decide_eq_true rfl]; rintro e w1 ⟨rfl, hb⟩; obtain ⟨otk6, dtk6, rfl⟩ := ext_of_below hb; clear hb tk6))
        go_ret
        exact ⟨by simp, (by (repeat' (first | (with_reducible exact Below.refl _ _) | (with_reducible assumption) | (with_reducible refine below_ext0 ?_ _ _) | (with_reducible refine below_alloc0 ?_ _) | (with_reducible refine Below.ext ?_ ?_ _ _) | (with_reducible refine Below.alloc ?_ ?_ _) | (with_reducible refine Below.setCell ?_ ?_ _) | (with_reducible refine Below.drew ?_) | (with_reducible refine below_draws ?_ _) | go_size | (simp [size_ext]; done) | (simp [size_ext]; omega))))⟩
set_option maxRecDepth 100000 in
theorem contractUpto (H : Type) (enc : TypeId × Value → H) (W : World) (base : Nat) (args : Array Value) (ds gs : List (DataW H)) (before : List MemPlace)
    (hval : ∀ (j : Nat) t v, Tryd.f3.params[j]? = some t → args[j]? = some v → Value.okWide Tryd.prog W .any base t v)
    (hW : DataW.Whole enc Tryd.prog Tryd.f3.params.toList Rows.capsTellsSpec.vars false W args.toList ds gs before) (hsz : (DataW.weightsEach Tryd.prog (Tryd.f3.params.toList ++ Rows.capsTellsSpec.plain.varTypes Tryd.prog) (ds ++ gs)).all (· ≤ reachBytes) = true) (hk : Rows.uptoSmall H (ds ++ gs) = true) (hL : Laid W) :
    Calls Tryd.prog 3 args W fun e W' => ∃ v, e = .returned v ∧ Rows.capsTellsSpec.post enc Tryd.prog Tryd.f3 false true false false W args v W' := by
  have hW' := hW
  obtain ⟨p, q, hA0, hV, rfl, hfz, hnd⟩ := hW
  have hA : DataW.TrodAll enc Tryd.prog W 0 (fun _ => true) true Tryd.f3.params.toList args.toList ds p := hA0
  rw [Tryd.params3] at hA hval hsz
  obtain ⟨v0, vs0, d0, ds0, p0, q0, hargs, rfl, rfl, k0, r0⟩ := trodAll_cons hA
  obtain ⟨v1, vs1, d1, ds1, p1, q1, rfl, rfl, rfl, k1, r1⟩ := trodAll_cons r0
  obtain ⟨rfl, rfl, rfl⟩ := trodAll_nil r1
  obtain rfl : args = #[v0, v1] := by cases args; simp_all
  obtain ⟨rfl, rfl⟩ := trodVars_none hV
  have lt0 : ∀ x ∈ p0, x.block < W.heap.size := by obtain ⟨m, hm⟩ := k0; exact DataW.trod_lt m _ _ _ hm
  have lt1 : ∀ x ∈ p1, x.block < W.heap.size := by obtain ⟨m, hm⟩ := k1; exact DataW.trod_lt m _ _ _ hm
  have hsz' : ∀ k ∈ _, k ≤ reachBytes := fun k hk => of_decide_eq_true (List.all_eq_true.1 hsz k hk)
  have u0 : ∀ k ∈ d0.weights Tryd.prog 22, k ≤ reachBytes := fun k hk => hsz' k (by simp [DataW.weightsEach, hk])
  have u1 : ∀ k ∈ d1.weights Tryd.prog 23, k ≤ reachBytes := fun k hk => hsz' k (by simp [DataW.weightsEach, hk])
  obtain ⟨A0, n0, c0, l0, rfl, w0, z0⟩ := arg_slice Tryd.underlying22 (opens_slice Tryd.underlying22 (opens_str Tryd.underlying9) (by kernel_rfl) (by decide) (of_decide_eq_true (by kernel_rfl))) (hval 0 22 v0 rfl rfl) k0 u0
  obtain ⟨A1, n1, c1, l1, rfl, w1, z1⟩ := arg_slice Tryd.underlying23 (opens_slice Tryd.underlying23 (opens_bool Tryd.underlying4) (by kernel_rfl) (by decide) (of_decide_eq_true (by kernel_rfl))) (hval 1 23 v1 rfl rfl) k1 u1
  have hsum := bulk_of hk
  simp only [List.append_nil, List.map_cons, List.map_nil, List.sum_cons, List.sum_nil] at hsum
  clear hA0 hA
  refine (walkUpto W hL A0 n0 c0 l0 w0 A1 n1 c1 l1 w1 (by omega)).mono fun e W' ⟨he, bel⟩ => ?_
  subst he
  exact ⟨_, rfl, _, _, _, [], _, [], hW', trodAll_mk1 (shut_bool Tryd.underlying4 _), (trodAll_cons_mk (Below.trod laidOut (by kernel_rfl) (of_decide_eq_true (by kernel_rfl)) k0 bel lt0) (trodAll_cons_mk (Below.trod laidOut (by kernel_rfl) (of_decide_eq_true (by kernel_rfl)) k1 bel lt1) trodAll_mk0)), rfl, bel.frame _, fun h => by cases h⟩

set_option maxRecDepth 100000 in
theorem reads (os : Os) {H : Type} (enc : TypeId × Value → H) : ∃ places, DataW.whole enc Tryd.prog ((laidWorld os).forCall (fun _ _ => 0) ⟨#[], #[.slice none 0 0, .slice none 0 0], []⟩).memory Tryd.f3.params.toList Rows.capsTellsSpec.vars false #[.slice none 0 0, .slice none 0 0].toList 8 = some ([.nil, .nil], [], places) :=
  ⟨[], by kernel_rfl⟩
set_option maxRecDepth 100000 in
theorem liftedUpto (os : Os) (started : os.Started) (H : Type) (enc : TypeId × Value → H) (F : Stop.Interp) :
    ReturnsInHanded {} Tryd.checked os 3 .any ((Rows.OpenSpec.upto Rows.capsTellsSpec).preRow enc Tryd.prog Tryd.f3 Rows.capsTellsUptoRow.domain false Rows.capsTellsUptoRow.laid) (((Rows.OpenSpec.upto Rows.capsTellsSpec).at F).post enc Tryd.prog Tryd.f3 false true false false) := by
  obtain ⟨places, hx⟩ := reads os enc
  refine returnsInHanded_of_row (C := Tryd.checked) (s := Rows.OpenSpec.upto Rows.capsTellsSpec) own started (by kernel_rfl) Tryd.func3
    (witness_row_at (enc := enc) (C := Tryd.checked) false (laidWorld os) #[.slice none 0 0, .slice none 0 0] rfl (by kernel_rfl) (by kernel_rfl) (by kernel_rfl)
      (OpenSpec.preRow_of_cond 8 hx (by kernel_rfl) (fun k hk => by cases hk; kernel_rfl) (by kernel_rfl) (laidWorld_met os _))) ?_
  intro W base args ds gs before hval hW _ hk hsz hL _ _
  exact contractUpto H enc W base args ds gs before hval hW hsz (hk _ rfl) (laid_of hL)

set_option maxRecDepth 100000 in
theorem saidUpto : Rows.CapsTellsUptoSaid :=
  OpenClaim.holds_of_cond 3 Tryd.f3 rfl rfl rfl rfl rfl rfl rfl ⟨rfl, rfl, rfl, rfl, rfl⟩ rfl rfl rfl rfl rfl (by kernel_rfl) Tryd.func3 (by kernel_rfl)
    (of_decide_eq_true (by kernel_rfl)) (by unfold Func.isWrapper; first | (rw [if_pos (by decide +kernel)]; kernel_rfl) | (rw [if_neg (by decide +kernel)]; exact ⟨rfl, rfl⟩))
    (fun os started H enc _ F => by rw [OpenClaim.pre_eq_preRow]; exact liftedUpto os started H enc F)
set_option maxRecDepth 100000 in
/-- the statement: the tied card, its second form -/
theorem provedUpto : Rows.CapsTellsUptoCardSaid :=
  Claim7.holds_tied_plain_at .later [] [.handle] true (true, "fedb56e697800a5ef9ed6258c803c93366b7746e1fd0340723167b168cfea7a6") true saidUpto (fun _ h => by cases h) (by kernel_rfl) (fun _ h => by cases h) capsTellsUpto_row_tie rfl ⟨rfl, rfl⟩ (by kernel_rfl) rfl
    (fun f fn hf hfn => by
      obtain rfl : f = 3 := Option.some.inj ((show Tryd.prog.funcNamed "pointsman/pointsmanlaw2.CapsTells" = some 3 by kernel_rfl).symm.trans hf) |>.symm
      obtain rfl : fn = Tryd.f3 := (Option.some.inj (Tryd.func3.symm.trans hfn)).symm
      exact ⟨by kernel_rfl, fun j t ht => no_stand (by kernel_rfl) j t ht⟩)
    (by kernel_rfl)

end capsTells
end Go.Proofs.YtemgbfppdopfbaaDoor
