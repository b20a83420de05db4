/- TrieOrder, where it asks nothing: values for unlike bits, put in two orders, are told alike; what is told is for bits that the address begins with, and none of those that were put for more of its bits. Condition: the bound on what comes in. -/
import Derived.Test.YtbpflpmhnmdeoaaTrieF
import Derived.Test.YtbpflpmhnmdeoaaTriePuts
namespace Go.Proofs.Ytbpflpmhnmdeoaa
open Go.ChangeShapes Go.WideShapes Go.ChangeAt Go.RowKit
set_option linter.unusedVariables false
namespace trieOrder

/-- a step of unlike ones -/
theorem step_v {bs : List BT} (hU : Unl bs) {ks : List Nat} {k : Nat} : stepV (valsI bs ks) (bAt bs k).1 (bAt bs k).2.1 (bAt bs k).2.2.1 = valsI bs (ks ++ [k]) := (valsI_snoc bs ks k).symm
theorem step_c {bs : List BT} (hU : Unl bs) {ks : List Nat} (hks : ∀ x ∈ ks, x < bs.length) {k : Nat} (hk : k < bs.length) (hn : k ∉ ks) (c : Int) : stepC (valsI bs ks) c (bAt bs k).1 (bAt bs k).2.1 = c + 1 := by
  unfold stepC cntV
  have hr : rightB (bAt bs k).1 (bAt bs k).2.1 = true := hU.1 k hk
  rw [if_pos hr, show keyB (bAt bs k).1 (bAt bs k).2.1 = keyAt bs k from rfl, valsI_none hU hks hk hn]
  rfl
theorem err_ok {bs : List BT} (hU : Unl bs) {k : Nat} (hk : k < bs.length) : errB (bAt bs k).1 (bAt bs k).2.1 = .nilIface := if_pos (hU.1 k hk)

set_option maxRecDepth 100000 in
set_option maxHeartbeats 8000000 in
theorem walk_out (w : World) (A1 : Option Addr) (n1 c1 : Nat) (ads : List (List UInt8)) (h1 : Rd (sliceR u8R) w w.heap.size A1 n1 c1 ads) (A2 : Option Addr) (n2 c2 : Nat) (ns : List Int) (h2 : Rd intR w w.heap.size A2 n2 c2 ns)
    (A3 : Option Addr) (n3 c3 : Nat) (os : List Int) (h3 : Rd intR w w.heap.size A3 n3 c3 os) (A4 : Option Addr) (n4 c4 : Nat) (qs : List (List UInt8)) (h4 : Rd (sliceR u8R) w w.heap.size A4 n4 c4 qs)
    (hz : (sliceR (sliceR u8R)).sz ads + (sliceR intR).sz ns + (sliceR intR).sz os + (sliceR (sliceR u8R)).sz qs ≤ 1048576)
    (hout : 60 < min n1 n2 ∨ 60 < n4 ∨ n3 ≠ min n1 n2 ∨ ¬ Unl (begL ads ns (min n1 n2))) :
    Calls Try.prog 7 #[.slice A1 n1 c1, .slice A2 n2 c2, .slice A3 n3 c3, .slice A4 n4 c4] w fun e w' => e = .returned (.bool true) ∧ Below w.heap.size w w' := by
  have z1 := triePuts.sz_ge (R := sliceR u8R) (fun a => Nat.le_add_left _ _) ads
  have z3 := triePuts.sz_ge (R := intR) (fun a => Nat.le_refl _) os
  have z4 := triePuts.sz_ge (R := sliceR u8R) (fun a => Nat.le_add_left _ _) qs
  rw [h1.len] at z1
  rw [h3.len] at z3
  rw [h4.len] at z4
  obtain ⟨k, hk⟩ : ∃ k, k = min n1 n2 := ⟨_, rfl⟩
  rw [← hk] at hout
  have hk2 : k ≤ 1048576 := by omega
  have hn3 : n3 ≤ 1048576 := by omega
  have hn4 : n4 ≤ 1048576 := by omega
  have CB := hid fun w' (hb : Below w.heap.size w w') => begins_any hb.size (h1.below hb) (h2.below hb) k hk hk2
  have CT := hid (tried_true)
  have H3 := hid h3
  have H4 := hid h4
  have ll := hid (begL_len ads ns k)
  have lv : Hid (∀ i, i < (begL ads ns k).length → (bAt (begL ads ns k) i).2.2.1 = (i : Int)) := fun i hi => by
    rw [begL_len] at hi
    unfold bAt
    rw [begL_get hi]
  generalize begL ads ns k = bs at *
  have HOUT := hid hout
  clear h1 h2 h3 h4 hz z1 z3 z4 hk hout
  have CU := hid fun w' (A : Option Addr) (c : Nat) (hR : Rd beginR w' w'.heap.size A k c bs) => unlike_any (Nat.le_refl _) hR
  have tk0 : True := trivial; have tk1 : True := trivial; have tk2 : True := trivial; have tk3 : True := trivial; have tk4 : True := trivial; have tk5 : True := trivial; have tk6 : True := trivial; have tk7 : True := trivial; have tk8 : True := trivial; have tk9 : True := trivial; have tk10 : True := trivial; have tk11 : True := trivial; have tk12 : True := trivial
  by_cases hk60 : 60 < k
  · have q1 : (60 : Int) < (k : Int) := by omega
    go_enter Try.func7, Try.ntmps7
    go_wp2_with (first
      | (go_at_call 15; have _t := tk1; refine (CT.out _).mono ?_; rintro e w1 ⟨rfl, hb⟩; obtain ⟨otk1, dtk1, rfl⟩ := ext_of_below hb; clear hb tk1)
      | (go_at_call 17; have _t := tk3; (with_reducible refine (CB.out _ (by (repeat' (first | (with_reducible exact Below.refl _ _) | (with_reducible assumption) | (with_reducible refine below_ext0 ?_ _ _) | (with_reducible refine below_alloc0 ?_ _) | (with_reducible refine Below.ext ?_ ?_ _ _) | (with_reducible refine Below.alloc ?_ ?_ _) | (with_reducible refine Below.setCell ?_ ?_ _) | (with_reducible refine Below.drew ?_) | (with_reducible refine below_draws ?_ _) | go_size | (simp [size_ext]; done) | (simp [size_ext]; omega))))).mono ?_); rintro e w1 ⟨A, c, rfl, _, hb⟩; obtain ⟨o3, d3, rfl⟩ := ext_of_below hb; clear hb tk3))
    go_ret
    exact ⟨rfl, by (repeat' (first | (with_reducible exact Below.refl _ _) | (with_reducible assumption) | (with_reducible refine below_ext0 ?_ _ _) | (with_reducible refine below_alloc0 ?_ _) | (with_reducible refine Below.ext ?_ ?_ _ _) | (with_reducible refine Below.alloc ?_ ?_ _) | (with_reducible refine Below.setCell ?_ ?_ _) | (with_reducible refine Below.drew ?_) | (with_reducible refine below_draws ?_ _) | go_size | (simp [size_ext]; done) | (simp [size_ext]; omega)))⟩
  have q1 : ¬ (60 : Int) < (k : Int) := by omega
  by_cases hn60 : 60 < n4
  · have q2 : (60 : Int) < (n4 : Int) := by omega
    go_enter Try.func7, Try.ntmps7
    go_wp2_with (first
      | (go_at_call 15; have _t := tk1; refine (CT.out _).mono ?_; rintro e w1 ⟨rfl, hb⟩; obtain ⟨otk1, dtk1, rfl⟩ := ext_of_below hb; clear hb tk1)
      | (go_at_call 17; have _t := tk3; (with_reducible refine (CB.out _ (by (repeat' (first | (with_reducible exact Below.refl _ _) | (with_reducible assumption) | (with_reducible refine below_ext0 ?_ _ _) | (with_reducible refine below_alloc0 ?_ _) | (with_reducible refine Below.ext ?_ ?_ _ _) | (with_reducible refine Below.alloc ?_ ?_ _) | (with_reducible refine Below.setCell ?_ ?_ _) | (with_reducible refine Below.drew ?_) | (with_reducible refine below_draws ?_ _) | go_size | (simp [size_ext]; done) | (simp [size_ext]; omega))))).mono ?_); rintro e w1 ⟨A, c, rfl, _, hb⟩; obtain ⟨o3, d3, rfl⟩ := ext_of_below hb; clear hb tk3))
    go_ret
    exact ⟨rfl, by (repeat' (first | (with_reducible exact Below.refl _ _) | (with_reducible assumption) | (with_reducible refine below_ext0 ?_ _ _) | (with_reducible refine below_alloc0 ?_ _) | (with_reducible refine Below.ext ?_ ?_ _ _) | (with_reducible refine Below.alloc ?_ ?_ _) | (with_reducible refine Below.setCell ?_ ?_ _) | (with_reducible refine Below.drew ?_) | (with_reducible refine below_draws ?_ _) | go_size | (simp [size_ext]; done) | (simp [size_ext]; omega)))⟩
  have q2 : ¬ (60 : Int) < (n4 : Int) := by omega
  by_cases hne : n3 = k
  case neg =>
    have q3 : ((n3 : Int) != (k : Int)) = true := by rw [bne_iff_ne]; omega
    clear hne
    go_enter Try.func7, Try.ntmps7
    go_wp2_with (first
      | (go_at_call 15; have _t := tk1; refine (CT.out _).mono ?_; rintro e w1 ⟨rfl, hb⟩; obtain ⟨otk1, dtk1, rfl⟩ := ext_of_below hb; clear hb tk1)
      | (go_at_call 17; have _t := tk3; (with_reducible refine (CB.out _ (by (repeat' (first | (with_reducible exact Below.refl _ _) | (with_reducible assumption) | (with_reducible refine below_ext0 ?_ _ _) | (with_reducible refine below_alloc0 ?_ _) | (with_reducible refine Below.ext ?_ ?_ _ _) | (with_reducible refine Below.alloc ?_ ?_ _) | (with_reducible refine Below.setCell ?_ ?_ _) | (with_reducible refine Below.drew ?_) | (with_reducible refine below_draws ?_ _) | go_size | (simp [size_ext]; done) | (simp [size_ext]; omega))))).mono ?_); rintro e w1 ⟨A, c, rfl, _, hb⟩; obtain ⟨o3, d3, rfl⟩ := ext_of_below hb; clear hb tk3))
    go_ret
    exact ⟨rfl, by (repeat' (first | (with_reducible exact Below.refl _ _) | (with_reducible assumption) | (with_reducible refine below_ext0 ?_ _ _) | (with_reducible refine below_alloc0 ?_ _) | (with_reducible refine Below.ext ?_ ?_ _ _) | (with_reducible refine Below.alloc ?_ ?_ _) | (with_reducible refine Below.setCell ?_ ?_ _) | (with_reducible refine Below.drew ?_) | (with_reducible refine below_draws ?_ _) | go_size | (simp [size_ext]; done) | (simp [size_ext]; omega)))⟩
  subst hne
  obtain ⟨Z, hZ, hmk⟩ := make_bools n3 hn3
  have HZ := hid hZ
  clear hZ
  cases hu : unlB bs with
  | false =>
    rw [hu] at CU
    have HU := hid hu
    clear hu hmk
    go_enter Try.func7, Try.ntmps7
    go_wp2_with (first
      | (go_at_call 15; have _t := tk1; refine (CT.out _).mono ?_; rintro e w1 ⟨rfl, hb⟩; obtain ⟨otk1, dtk1, rfl⟩ := ext_of_below hb; clear hb tk1)
      | (go_at_call 17; have _t := tk3; (with_reducible refine (CB.out _ (by (repeat' (first | (with_reducible exact Below.refl _ _) | (with_reducible assumption) | (with_reducible refine below_ext0 ?_ _ _) | (with_reducible refine below_alloc0 ?_ _) | (with_reducible refine Below.ext ?_ ?_ _ _) | (with_reducible refine Below.alloc ?_ ?_ _) | (with_reducible refine Below.setCell ?_ ?_ _) | (with_reducible refine Below.drew ?_) | (with_reducible refine below_draws ?_ _) | go_size | (simp [size_ext]; done) | (simp [size_ext]; omega))))).mono ?_); rintro e w1 ⟨A, c, rfl, hown, hb⟩; have RB := hid (hown.rd' ll.out (by show n3 * 40 ≤ _; omega) (by decide)); have HO := hid hown; have BB := hid (Below.trans (by (repeat' (first | (with_reducible exact Below.refl _ _) | (with_reducible assumption) | (with_reducible refine below_ext0 ?_ _ _) | (with_reducible refine below_alloc0 ?_ _) | (with_reducible refine Below.ext ?_ ?_ _ _) | (with_reducible refine Below.alloc ?_ ?_ _) | (with_reducible refine Below.setCell ?_ ?_ _) | (with_reducible refine Below.drew ?_) | (with_reducible refine below_draws ?_ _) | go_size | (simp [size_ext]; done) | (simp [size_ext]; omega)))) (hb.mono (by simp [size_ext])) : Below w.heap.size w w1); clear hb hown tk3)
      | (go_at_call 21; have _t := tk4; refine (CU.out _ _ _ RB.out).mono ?_; rintro e w1 ⟨rfl, hb⟩; obtain ⟨otk4, dtk4, rfl⟩ := ext_of_below hb; clear hb tk4))
    go_ret
    have bb := BB.out
    have bz := BB.out.size
    exact ⟨rfl, by (repeat' (first | (with_reducible exact Below.refl _ _) | (with_reducible assumption) | (with_reducible refine below_ext0 ?_ _ _) | (with_reducible refine below_alloc0 ?_ _) | (with_reducible refine Below.ext ?_ ?_ _ _) | (with_reducible refine Below.alloc ?_ ?_ _) | (with_reducible refine Below.setCell ?_ ?_ _) | (with_reducible refine Below.drew ?_) | (with_reducible refine below_draws ?_ _) | go_size | (simp [size_ext]; done) | (simp [size_ext]; omega)))⟩
  | true =>
    exfalso
    have hU := (unlB_iff bs).1 hu
    rcases HOUT.out with h | h | h | h
    · exact hk60 h
    · exact hn60 h
    · exact h rfl
    · exact h hU

end trieOrder
end Go.Proofs.Ytbpflpmhnmdeoaa
