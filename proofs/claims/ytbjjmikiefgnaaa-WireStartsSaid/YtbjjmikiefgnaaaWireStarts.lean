/- WireStarts is true of every input: at each place that is told of a name that was packed behind a message its last labels begin, as many as stand there. No condition. -/
import Derived.Test.YtbjjmikiefgnaaaWireL
import Derived.OpenShut
import Derived.JoinedCond
namespace Go.Proofs.Ytbjjmikiefgnaaa
open Go.ChangeShapes Go.WideShapes Go.ChangeAt Go.RowKit
set_option linter.unusedVariables false
namespace wireStarts

theorem getD_of {l : List Int} {i : Nat} (h : i < l.length) : l.getD i 0 = l[i] := by rw [List.getD_eq_getElem?_getD, List.getElem?_eq_getElem h]; rfl
set_option maxRecDepth 100000 in
set_option maxHeartbeats 8000000 in
theorem walk (w : World) (A1 : Option Addr) (n1 c1 : Nat) (m : List UInt8) (h1 : Rd u8R w w.heap.size A1 n1 c1 m) (s1 : n1 * 1 ≤ 140737488351232) (A2 : Option Addr) (n2 c2 : Nat) (l : List ByteArray) (h2 : Rd strR w w.heap.size A2 n2 c2 l) (A3 : Option Addr) (n3 c3 : Nat) (l3 : List ByteArray) (h3 : Rd strR w w.heap.size A3 n3 c3 l3) :
    Calls Try.prog 9 #[.slice A1 n1 c1, .slice A2 n2 c2, .slice A3 n3 c3] w fun e w' => e = .returned (.bool true) ∧ Below w.heap.size w w' := by
  have hm1 := h1.max
  have hc1 := h1.cap
  have hm2 := h2.max
  have hc2 := h2.cap
  unfold maxLen at hm1 hm2
  have hml := h1.len
  have hll := h2.len
  have H2 := hid h2
  by_cases hf : nameErr l = 0
  · obtain ⟨X, hX⟩ : ∃ X, m ++ packT m [] l = X := ⟨_, rfl⟩
    obtain ⟨nx, hnx⟩ : ∃ nx, X.length = nx := ⟨_, rfl⟩
    obtain ⟨S, hS⟩ : ∃ S, [] ++ packN m [] l m.length = S := ⟨_, rfl⟩
    obtain ⟨ns, hns⟩ : ∃ ns, S.length = ns := ⟨_, rfl⟩
    have hok := nameErr_zero.1 hf
    have hls : lsum l ≤ 254 := by have := hok.2; rw [nsize_lsum] at this; omega
    have hll2 := lsum_len l
    have hp := packT_len m [] l hok.1
    have e1 : nx = n1 + (packT m [] l).length := by rw [← hnx, ← hX, List.length_append, hml]
    have b1 : nx + 256 ≤ 140737488355328 := by omega
    have hpl := packN_len m [] l m.length
    have b2 : ns ≤ n2 := by rw [← hns, ← hS, ← hll]; simpa using hpl
    have b3 : n2 ≤ 254 := by omega
    have hst : ∀ k, k < ns → ∃ nx', rdN X (S.getD k 0) = (0, l.drop k, nx') := by
      intro k hk
      have hk' : k < (packN m [] l m.length).length := by rw [← hns, ← hS] at hk; simpa using hk
      obtain ⟨_, nx', h⟩ := pack_starts m [] l hf k hk'
      refine ⟨nx', ?_⟩
      rw [hX] at h
      rw [← hS, List.nil_append, getD_of hk']
      exact h
    have CP := hid fun w' (hb : Below w.heap.size w w') => pack_ok (h1.later hb) (rd_nil w' _) (h2.later hb) (by omega) (by omega) hf hX hS hnx hns
    have HST := hid hst
    have HSL := hid hns
    have HLL := hid hll
    have H3 := hid h3
    clear h1 h2 h3 hX hS hnx hok hls hll2 hp e1 hpl hst hml hns hll s1
    have tk0 : True := trivial; have tk1 : True := trivial; have tk2 : True := trivial; have tk3 : True := trivial; have tk4 : True := trivial; have tk5 : True := trivial; have tk6 : True := trivial; have tk7 : True := trivial; have tk8 : True := trivial; have tk9 : True := trivial; have tk10 : True := trivial; have tk11 : True := trivial; have tk12 : True := trivial
    go_enter Try.func9, Try.ntmps9
    go_wp2_with (first
      | (go_at_call 21; (with_reducible refine (fact_w 9 (by simp)).mono ?_); rintro e w1 ⟨A0, c0, rfl, hr, hb⟩; have HB1 := hid (((Below.refl _ w).alloc (Nat.le_refl _) _).trans (hb.mono (by simp))); clear hr hb)
      | (go_at_call 24; (with_reducible refine (CP.out _ HB1.out).mono ?_); rintro e w2 ⟨Ax, cx, As, cs, rfl, ⟨hr, hr2⟩, hb⟩; have HB2 := hid (HB1.out.trans (hb.mono HB1.out.size)); have RX := hid hr; have RS := hid hr2; clear hr hr2 hb))
    go_loopg [12] ns (fun gk u12 wi => ∃ k : Nat, k ≤ ns ∧ gk = ns - k ∧ u12 = .int .i64 (k : Int) ∧ Below w2.heap.size w2 wi)
    case atStart => exact ⟨0, Nat.zero_le _, rfl, rfl, Below.refl _ _⟩
    case round =>
      obtain ⟨k, hk, rfl, rfl, hlow⟩ := hrel
      have HLOW := hid hlow
      clear hlow
      have hcs := RS.out.cap
      have hms := RS.out.max
      unfold maxLen at hms
      by_cases hlt : k < ns
      · obtain ⟨bs, os, rfl, _, hcell, z1, z2⟩ := (RS.out.below HLOW.out).int k hlt
        obtain ⟨nx', hrd⟩ := HST.out k hlt
        obtain ⟨s, hs⟩ : ∃ s, S[k]'(by rw [HSL.out]; exact hlt) = s := ⟨_, rfl⟩
        rw [hs] at hcell z1 z2
        rw [getD_of (by rw [HSL.out]; exact hlt), hs] at hrd
        have CR := hid (read_ok (RX.out.later HLOW.out) hrd (k := n2 - k) (by rw [List.length_drop, HLL.out]))
        obtain ⟨bn, on, rfl, _⟩ := H2.out.addr (by omega)
        have RD := hid ((H2.out.dropS (k := k) (by omega)).below (HB2.out.trans (HLOW.out.mono HB2.out.size)))
        have q0 : ¬ c2 = k := by omega
        have q1 : (k : Int) ≤ (n2 : Int) := by omega
        have q2 : (k : Int) < (ns : Int) := by omega
        clear hs hrd
        go_wp2_with (first
          | (go_at_call 22; (with_reducible refine CR.out.mono ?_); rintro e w3 ⟨Ar, cr, rfl, hr, hb⟩; have HB3 := hid hb; have RR := hid hr; clear hr hb)
          | (go_at_call 16; (with_reducible refine (texts_yes RR.out (RD.out.below (HB3.out.mono (Nat.le_trans HB2.out.size HLOW.out.size)))).mono ?_); rintro e w4 ⟨rfl, hb⟩; have HB4 := hid hb; clear hb))
        go_roundg (ns - (k + 1))
        case measure => omega
        case rel => exact ⟨k + 1, by omega, rfl, by go_num, HLOW.out.trans ((HB3.out.mono HLOW.out.size).trans (HB4.out.mono (Nat.le_trans HLOW.out.size HB3.out.size)))⟩
      · obtain rfl : k = ns := by omega
        have HBW := hid (HB2.out.trans (HLOW.out.mono HB2.out.size))
        by_cases hf3 : nameErr l3 = 0
        · obtain ⟨Y, hY⟩ : ∃ Y, X ++ packT X S l3 = Y := ⟨_, rfl⟩
          obtain ⟨ny, hny⟩ : ∃ ny, Y.length = ny := ⟨_, rfl⟩
          obtain ⟨S', hS'⟩ : ∃ S', S ++ packN X S l3 X.length = S' := ⟨_, rfl⟩
          obtain ⟨ns', hns'⟩ : ∃ ns', S'.length = ns' := ⟨_, rfl⟩
          have b4 : k ≤ ns' := by rw [← hns', ← hS', List.length_append, HSL.out]; omega
          have b4' : (k : Int) ≤ (ns' : Int) := by omega
          have hst : ∀ i (hi : i < ns'), ∃ l' nx', rdN Y (S'.getD i 0) = (0, l', nx') := by
            intro i hi
            by_cases c : i < k
            · obtain ⟨nx', h⟩ := HST.out i c
              refine ⟨l.drop i, nx', ?_⟩
              have := rdN_app h (packT X S l3)
              rw [hY] at this
              have e : S'.getD i 0 = S.getD i 0 := by rw [← hS', List.getD_eq_getElem?_getD, List.getD_eq_getElem?_getD, List.getElem?_append_left (by rw [HSL.out]; exact c)]
              rw [e]; exact this
            · have hj : i - k < (packN X S l3 X.length).length := by rw [← hS', List.length_append, HSL.out] at hns'; omega
              obtain ⟨_, nx', h⟩ := pack_starts X S l3 hf3 (i - k) hj
              refine ⟨l3.drop (i - k), nx', ?_⟩
              rw [hY] at h
              have e : S'.getD i 0 = (packN X S l3 X.length)[i - k] := by
                rw [← hS', List.getD_eq_getElem?_getD, List.getElem?_append_right (by rw [HSL.out]; omega), HSL.out, List.getElem?_eq_getElem hj]; rfl
              rw [e]; exact h
          have HST' := hid hst
          have HSL' := hid hns'
          have CP2 := hid (pack_ok (RX.out.later HLOW.out) (RS.out.later HLOW.out) (H3.out.later HBW.out) b1 (by omega) hf3 hY hS' hny hns')
          clear hY hny hS' hst hns'
          go_wp2_with (go_at_call 24; (with_reducible refine CP2.out.mono ?_); rintro e w3 ⟨Ay, cy, At, ct, rfl, ⟨hr, hr2⟩, hb⟩; have HB3 := hid (HBW.out.trans (hb.mono HBW.out.size)); have RY := hid hr; have RT := hid hr2; clear hr hr2 hb)
          go_loopg [19] ns' (fun gk u19 wi => ∃ i : Nat, i ≤ ns' ∧ gk = ns' - i ∧ u19 = .int .i64 (i : Int) ∧ Below w3.heap.size w3 wi)
          case atStart => exact ⟨0, Nat.zero_le _, rfl, rfl, Below.refl _ _⟩
          case round =>
            obtain ⟨i, hi, rfl, rfl, hlow⟩ := hrel
            have HLOW3 := hid hlow
            clear hlow
            have hct := RT.out.cap
            have hmt := RT.out.max
            unfold maxLen at hmt
            by_cases hlt : i < ns'
            · obtain ⟨bs, os, rfl, _, hcell, z1, z2⟩ := (RT.out.below HLOW3.out).int i hlt
              obtain ⟨l', nx', hrd⟩ := HST'.out i hlt
              obtain ⟨s, hs⟩ : ∃ s, S'[i]'(by rw [HSL'.out]; exact hlt) = s := ⟨_, rfl⟩
              rw [hs] at hcell z1 z2
              rw [getD_of (by rw [HSL'.out]; exact hlt), hs] at hrd
              have CR := hid (read_ok (RY.out.later HLOW3.out) hrd rfl)
              have q2 : (i : Int) < (ns' : Int) := by omega
              clear hs hrd
              go_wp2_with (go_at_call 22; (with_reducible refine CR.out.mono ?_); rintro e w4 ⟨Ar, cr, rfl, hr, hb⟩; have HB4 := hid hb; clear hr hb)
              go_roundg (ns' - (i + 1))
              case measure => omega
              case rel => exact ⟨i + 1, by omega, rfl, by go_num, HLOW3.out.trans (HB4.out.mono HLOW3.out.size)⟩
            · obtain rfl : i = ns' := by omega
              go_wp2
              go_ret
              exact ⟨by first | (simp; done) | (simp; omega), HB3.out.trans (HLOW3.out.mono HB3.out.size)⟩
        · obtain ⟨e, he⟩ : ∃ e, nameErr l3 = e := ⟨_, rfl⟩
          have CP2 := hid (pack_bad (RX.out.later HLOW.out) (RS.out.later HLOW.out) (H3.out.later HBW.out) b1 (by omega) he (by rw [← he]; exact hf3))
          clear he hf3
          go_wp2_with (go_at_call 24; (with_reducible refine CP2.out.mono ?_); rintro e w3 ⟨rfl, hb⟩; have HB3 := hid (HBW.out.trans (hb.mono HBW.out.size)); clear hb)
          go_ret
          exact ⟨rfl, HB3.out⟩
  · obtain ⟨e, he⟩ : ∃ e, nameErr l = e := ⟨_, rfl⟩
    have CP := hid fun w' (hb : Below w.heap.size w w') => pack_bad (h1.later hb) (rd_nil w' _) (h2.later hb) (by omega) (by omega) he (by rw [← he]; exact hf)
    clear h1 h2 h3 hml hll hf he s1
    have tk0 : True := trivial; have tk1 : True := trivial; have tk2 : True := trivial; have tk3 : True := trivial; have tk4 : True := trivial; have tk5 : True := trivial; have tk6 : True := trivial; have tk7 : True := trivial; have tk8 : True := trivial; have tk9 : True := trivial; have tk10 : True := trivial; have tk11 : True := trivial; have tk12 : True := trivial
    go_enter Try.func9, Try.ntmps9
    go_wp2_with (first
      | (go_at_call 21; have _t := tk1; (with_reducible refine (fact_w 9 (by simp)).mono ?_); rintro e w1 ⟨Atk1, ctk1, rfl, hr, hb⟩; obtain ⟨otk1, dtk1, rfl⟩ := ext_of_below hb; (try simp only [ext_drew, ext_drewN] at hr); have R1F := hid hr; clear hr; clear hb tk1)
      | (go_at_call 24; have _t := tk3; (with_reducible refine (CP.out _ (by (repeat' (first | (with_reducible exact Below.refl _ _) | (with_reducible assumption) | (with_reducible refine Below.ext ?_ ?_ _ _) | (with_reducible refine Below.alloc ?_ ?_ _) | (with_reducible refine Below.setCell ?_ ?_ _) | (with_reducible refine Below.drew ?_) | (with_reducible refine below_draws ?_ _) | go_size | (simp [size_ext]; done) | (simp [size_ext]; omega))))).mono ?_); rintro e w1 ⟨rfl, hb⟩; obtain ⟨otk3, dtk3, rfl⟩ := ext_of_below hb; clear hb tk3))
    go_ret
    exact ⟨rfl, by (repeat' (first | (with_reducible exact Below.refl _ _) | (with_reducible assumption) | (with_reducible refine Below.ext ?_ ?_ _ _) | (with_reducible refine Below.alloc ?_ ?_ _) | (with_reducible refine Below.setCell ?_ ?_ _) | (with_reducible refine Below.drew ?_) | (with_reducible refine below_draws ?_ _) | go_size | (simp [size_ext]; done) | (simp [size_ext]; omega)))⟩

set_option maxRecDepth 100000 in
theorem contract (H : Type) (enc : TypeId × Value → H) (W : World) (base : Nat) (args : Array Value) (ds gs : List (DataW H)) (before : List MemPlace)
    (hval : ∀ (j : Nat) t v, Try.f9.params[j]? = some t → args[j]? = some v → Value.okWide Try.prog W .any base t v)
    (hW : DataW.Whole enc Try.prog Try.f9.params.toList Rows.wireStartsSpec.vars false W args.toList ds gs before) (hsz : (DataW.weightsEach Try.prog (Try.f9.params.toList ++ Rows.wireStartsSpec.plain.varTypes Try.prog) (ds ++ gs)).all (· ≤ reachBytes) = true) :
    Calls Try.prog 9 args W fun e W' => ∃ v, e = .returned v ∧ Rows.wireStartsSpec.post enc Try.prog Try.f9 false true false false W args v W' := by
  have hW' := hW
  obtain ⟨p, q, hA0, hV, rfl, hfz, hnd⟩ := hW
  have hA : DataW.TrodAll enc Try.prog W 0 (fun _ => true) true Try.f9.params.toList args.toList ds p := hA0
  rw [Try.params9] at hA hval hsz
  obtain ⟨v0, vs0, d0, ds0, p0, q0, hargs, rfl, rfl, k0, r0⟩ := trodAll_cons hA
  obtain ⟨v1, vs1, d1, ds1, p1, q1, rfl, rfl, rfl, k1, r1⟩ := trodAll_cons r0
  obtain ⟨v2, vs2, d2, ds2, p2, q2, rfl, rfl, rfl, k2, r2⟩ := trodAll_cons r1
  obtain ⟨rfl, rfl, rfl⟩ := trodAll_nil r2
  obtain rfl : args = #[v0, v1, v2] := by cases args; simp_all
  obtain ⟨rfl, rfl⟩ := trodVars_none hV
  have lt0 : ∀ x ∈ p0, x.block < W.heap.size := by obtain ⟨m, hm⟩ := k0; exact DataW.trod_lt m _ _ _ hm
  have lt1 : ∀ x ∈ p1, x.block < W.heap.size := by obtain ⟨m, hm⟩ := k1; exact DataW.trod_lt m _ _ _ hm
  have lt2 : ∀ x ∈ p2, x.block < W.heap.size := by obtain ⟨m, hm⟩ := k2; exact DataW.trod_lt m _ _ _ hm
  have hsz' : ∀ k ∈ _, k ≤ reachBytes := fun k hk => of_decide_eq_true (List.all_eq_true.1 hsz k hk)
  have u0 : ∀ k ∈ d0.weights Try.prog 27, k ≤ reachBytes := fun k hk => hsz' k (by simp [DataW.weightsEach, hk])
  have u1 : ∀ k ∈ d1.weights Try.prog 36, k ≤ reachBytes := fun k hk => hsz' k (by simp [DataW.weightsEach, hk])
  have u2 : ∀ k ∈ d2.weights Try.prog 36, k ≤ reachBytes := fun k hk => hsz' k (by simp [DataW.weightsEach, hk])
  obtain ⟨A0, n0, c0, l0, rfl, w0, z0⟩ := arg_slice Try.underlying27 (opens_slice Try.underlying27 (opens_u8 Try.underlying5) (by kernel_rfl) (by decide) (of_decide_eq_true (by kernel_rfl))) (hval 0 27 v0 rfl rfl) k0 u0
  have s0 := arg_lim Try.underlying27 1 (of_decide_eq_true (by kernel_rfl)) k0 u0
  obtain ⟨A1, n1, c1, l1, rfl, w1, z1⟩ := arg_slice Try.underlying36 (opens_slice Try.underlying36 (opens_str Try.underlying9) (by kernel_rfl) (by decide) (of_decide_eq_true (by kernel_rfl))) (hval 1 36 v1 rfl rfl) k1 u1
  obtain ⟨A2, n2, c2, l2, rfl, w2, z2⟩ := arg_slice Try.underlying36 (opens_slice Try.underlying36 (opens_str Try.underlying9) (by kernel_rfl) (by decide) (of_decide_eq_true (by kernel_rfl))) (hval 2 36 v2 rfl rfl) k2 u2
  clear hA0 hA
  refine (walk W A0 n0 c0 l0 w0 s0 A1 n1 c1 l1 w1 A2 n2 c2 l2 w2).mono fun e W' ⟨he, bel⟩ => ?_
  subst he
  exact ⟨_, rfl, _, _, _, [], _, [], hW', trodAll_mk1 (shut_bool Try.underlying4 _), (trodAll_cons_mk (Below.trod laidOut (by kernel_rfl) (of_decide_eq_true (by kernel_rfl)) k0 bel lt0) (trodAll_cons_mk (Below.trod laidOut (by kernel_rfl) (of_decide_eq_true (by kernel_rfl)) k1 bel lt1) (trodAll_cons_mk (Below.trod laidOut (by kernel_rfl) (of_decide_eq_true (by kernel_rfl)) k2 bel lt2) trodAll_mk0))), rfl, bel.frame _, fun h => by cases h⟩

set_option maxRecDepth 100000 in
theorem lifted (os : Os) (started : os.Started) (H : Type) (enc : TypeId × Value → H) :
    ReturnsInHanded {} Try.checked os 9 .any (Rows.wireStartsSpec.pre6 enc Try.prog Try.f9 Rows.wireStartsRow.domain false) (Rows.wireStartsSpec.post enc Try.prog Try.f9 false true false false) := by
  refine returnsInHanded_of_change_sized (C := Try.checked) own started (by kernel_rfl) Try.func9
    (ChangeSpec.witness6 (enc := enc) (C := Try.checked) false ⟨#[], #[.slice none 0 0, .slice none 0 0, .slice none 0 0], []⟩ 8 (by kernel_rfl) (by kernel_rfl) (by kernel_rfl) (by kernel_rfl)) ?_
  intro W base args ds gs before hval hW _ hsz _
  exact contract H enc W base args ds gs before hval hW hsz

/-- the statement -/
theorem proved : Rows.WireStartsSaid :=
  OpenClaim.holds_of_wide 9 Try.f9 rfl rfl rfl rfl rfl rfl rfl ⟨rfl, rfl, rfl, rfl, rfl⟩ rfl rfl rfl rfl rfl (by kernel_rfl) Try.func9 (by kernel_rfl)
    (of_decide_eq_true (by kernel_rfl)) (by unfold Func.isWrapper; first | (rw [if_pos (by decide +kernel)]; kernel_rfl) | (rw [if_neg (by decide +kernel)]; exact ⟨rfl, rfl⟩))
    (fun os started H enc _ => lifted os started H enc)

end wireStarts
end Go.Proofs.Ytbjjmikiefgnaaa
