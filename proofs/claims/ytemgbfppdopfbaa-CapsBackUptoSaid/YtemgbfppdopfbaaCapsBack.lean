/- CapsBack is true of every input of at most 1,048,576 bytes in all (the second form): mixed by its own bits a name is as it was; mixed by any it has those, and is the same but for small letters; unlike bits make unlike names. Condition: the bound on what comes in, which the second form states. -/
import Derived.Test.YtemgbfppdopfbaaCapsF
import Derived.Test.YtemgbfppdopfbaaCapsG
import Derived.Test.YtemgbfppdopfbaaQuietExt
namespace Go.Proofs.Ytemgbfppdopfbaa
open Go.ChangeShapes Go.WideShapes Go.ChangeAt Go.RowKit
set_option linter.unusedVariables false
set_option linter.unusedSimpArgs false
namespace capsBack
theorem fact_a1 : (posN [⟨#[97, 49]⟩] 1).length = 1 := by decide +kernel
theorem sz_lsum (l : List ByteArray) : (sliceR strR).sz l = lsum l + 1 := rfl
theorem sums (ns : List ByteArray) : (posN ns ns.length).length = (bitsN (ns.map bytesOf)).length := posN_len ns
set_option maxRecDepth 100000 in
set_option maxHeartbeats 8000000 in
theorem walkUpto (w : World) (A1 : Option Addr) (n1 c1 : Nat) (ns : List ByteArray) (h1 : Rd strR w w.heap.size A1 n1 c1 ns) (A2 : Option Addr) (n2 c2 : Nat) (a : List Bool) (h2 : Rd boolR w w.heap.size A2 n2 c2 a)
    (A3 : Option Addr) (n3 c3 : Nat) (b : List Bool) (h3 : Rd boolR w w.heap.size A3 n3 c3 b) (hz : (sliceR strR).sz ns + (sliceR boolR).sz a + (sliceR boolR).sz b ≤ 1048576) :
    Calls Try.prog 3 #[.slice A1 n1 c1, .slice A2 n2 c2, .slice A3 n3 c3] w fun e w' => e = .returned (.bool true) ∧ Below w.heap.size w w' := by
  rw [sz_lsum] at hz
  have hlz : lsum ns ≤ 1048576 := by omega
  have hN := posN_lsum ns
  have hNb := sums ns
  have hl1 := h1.len
  rw [hl1] at hN hNb
  have hl2 := h2.len
  have hl3 := h3.len
  obtain ⟨N, hNN⟩ : ∃ N, (posN ns n1).length = N := ⟨_, rfl⟩
  have CL := fun w' (hb : Below w.heap.size w w') => lettersN_any w' A1 n1 c1 ns (h1.later hb) (by omega)
  have CB := fun w' (hb : Below w.heap.size w w') => bits_any w' A1 n1 c1 ns (h1.later hb) (by omega)
  have CM := fun w' (hb : Below w.heap.size w w') A c (hr : Rd boolR w' w'.heap.size A N c (bitsN (ns.map bytesOf))) => mix_ok w' A1 n1 c1 ns (h1.later hb) hlz A N c _ hr (by omega)
  rw [hNN] at CL CB hN hNb
  simp only [mixS_own] at CM
  have D1 := hid CL
  have D2 := hid CB
  have D3 := hid CM
  have H1 := hid h1
  have H2 := hid h2
  have H3 := hid h3
  have HNN := hid hNN
  have HNB := hid hNb
  have HL1 := hid hl1
  have HL2 := hid hl2
  have HL3 := hid hl3
  have CS2 := hid fun (hs : n2 < N) w' (hb : Below w.heap.size w w') => mix_short w' A1 n1 c1 ns (h1.later hb) hlz A2 n2 c2 a (h2.later hb) (by omega)
  have CS3 := hid fun (hs : n3 < N) w' (hb : Below w.heap.size w w') => mix_short w' A1 n1 c1 ns (h1.later hb) hlz A3 n3 c3 b (h3.later hb) (by omega)
  have CO2 := hid fun (hs : N ≤ n2) w' (hb : Below w.heap.size w w') => mix_ok w' A1 n1 c1 ns (h1.later hb) hlz A2 n2 c2 a (h2.later hb) (by omega)
  have CO3 := hid fun (hs : N ≤ n3) w' (hb : Below w.heap.size w w') => mix_ok w' A1 n1 c1 ns (h1.later hb) hlz A3 n3 c3 b (h3.later hb) (by omega)
  clear h1 h2 h3 CL CB CM hNN hNb hl1 hl2 hl3 hz
  have tk0 : True := trivial; have tk1 : True := trivial; have tk2 : True := trivial; have tk3 : True := trivial; have tk4 : True := trivial; have tk5 : True := trivial; have tk6 : True := trivial; have tk7 : True := trivial; have tk8 : True := trivial; have tk9 : True := trivial; have tk10 : True := trivial; have tk11 : True := trivial; have tk12 : True := trivial
  by_cases s2 : n2 < N
  · have T2 := hid (CS2.out s2)
    have t0 : (n2 : Int) < (N : Int) := by omega
    have t0n : decide (n2 < N) = true := decide_eq_true s2
    by_cases s3 : n3 < N
    · have T3 := hid (CS3.out s3)
      have t1 : (n3 : Int) < (N : Int) := by omega
      have t1n : decide (n3 < N) = true := decide_eq_true s3
      go_enter Try.func3, Try.ntmps3
      go_wp2_with (first
        | (go_at_call 7; have _t := tk0; refine (lettersN_any _ _ _ _ _ (rd_litC 9 (cs := #[.string ⟨#[97, 49]⟩]) [⟨#[97, 49]⟩] 1 rfl rfl (by simp; decide) rfl (by decide)) (by rw [fact_a1]; decide)).mono ?_; rw [fact_a1]; rintro e w1 ⟨rfl, hb⟩; obtain ⟨otk0, dtk0, rfl⟩ := ext_of_below hb; clear hb tk0)
        | (go_at_call 7; have _t := tk1; (with_reducible refine (D1.out _ (by (repeat' (first | (with_reducible exact Below.refl _ _) | (with_reducible assumption) | (with_reducible refine below_ext0 ?_ _ _) | (with_reducible refine below_alloc0 ?_ _) | (with_reducible refine Below.ext ?_ ?_ _ _) | (with_reducible refine Below.alloc ?_ ?_ _) | (with_reducible refine Below.setCell ?_ ?_ _) | (with_reducible refine Below.drew ?_) | (with_reducible refine below_draws ?_ _) | go_size | (simp [size_ext]; done) | (simp [size_ext]; omega))))).mono ?_); rintro e w1 ⟨rfl, hb⟩; obtain ⟨otk1, dtk1, rfl⟩ := ext_of_below hb; clear hb tk1)
        | (go_at_call 9; have _t := tk2; (with_reducible refine (D2.out _ (by (repeat' (first | (with_reducible exact Below.refl _ _) | (with_reducible assumption) | (with_reducible refine below_ext0 ?_ _ _) | (with_reducible refine below_alloc0 ?_ _) | (with_reducible refine Below.ext ?_ ?_ _ _) | (with_reducible refine Below.alloc ?_ ?_ _) | (with_reducible refine Below.setCell ?_ ?_ _) | (with_reducible refine Below.drew ?_) | (with_reducible refine below_draws ?_ _) | go_size | (simp [size_ext]; done) | (simp [size_ext]; omega))))).mono ?_); rintro e w1 ⟨Atk2, ctk2, rfl, hr, hb⟩; obtain ⟨otk2, dtk2, rfl⟩ := ext_of_below hb; (try simp only [ext_drew, ext_drewN] at hr); have R2 := hid hr; clear hr; clear hb tk2)
        | (go_at_call 8; have _t := tk3; (with_reducible refine (D3.out _ (by (repeat' (first | (with_reducible exact Below.refl _ _) | (with_reducible assumption) | (with_reducible refine below_ext0 ?_ _ _) | (with_reducible refine below_alloc0 ?_ _) | (with_reducible refine Below.ext ?_ ?_ _ _) | (with_reducible refine Below.alloc ?_ ?_ _) | (with_reducible refine Below.setCell ?_ ?_ _) | (with_reducible refine Below.drew ?_) | (with_reducible refine below_draws ?_ _) | go_size | (simp [size_ext]; done) | (simp [size_ext]; omega)))) _ _ R2.out).mono ?_); rintro e w1 ⟨Atk3, ctk3, rfl, hr, hb⟩; obtain ⟨otk3, dtk3, rfl⟩ := ext_of_below hb; (try simp only [ext_drew, ext_drewN] at hr); have R3 := hid hr; clear hr; clear hb tk3)
        | (go_at_call 10; have _t := tk4; refine (texts_any _ _ _ _ _ _ (R3.out.below (by (repeat' (first | (with_reducible exact Below.refl _ _) | (with_reducible assumption) | (with_reducible refine below_ext0 ?_ _ _) | (with_reducible refine below_alloc0 ?_ _) | (with_reducible refine Below.ext ?_ ?_ _ _) | (with_reducible refine Below.alloc ?_ ?_ _) | (with_reducible refine Below.setCell ?_ ?_ _) | (with_reducible refine Below.drew ?_) | (with_reducible refine below_draws ?_ _) | go_size | (simp [size_ext]; done) | (simp [size_ext]; omega))))) _ _ _ _ _ (H1.out.below (by (repeat' (first | (with_reducible exact Below.refl _ _) | (with_reducible assumption) | (with_reducible refine below_ext0 ?_ _ _) | (with_reducible refine below_alloc0 ?_ _) | (with_reducible refine Below.ext ?_ ?_ _ _) | (with_reducible refine Below.alloc ?_ ?_ _) | (with_reducible refine Below.setCell ?_ ?_ _) | (with_reducible refine Below.drew ?_) | (with_reducible refine below_draws ?_ _) | go_size | (simp [size_ext]; done) | (simp [size_ext]; omega)))))).mono ?_; rw [decide_eq_true rfl]; rintro e w1 ⟨rfl, hb⟩; obtain ⟨otk4, dtk4, rfl⟩ := ext_of_below hb; clear hb tk4)
        | (go_at_call 8; have _t := tk5; (with_reducible refine (T2.out _ (by (repeat' (first | (with_reducible exact Below.refl _ _) | (with_reducible assumption) | (with_reducible refine below_ext0 ?_ _ _) | (with_reducible refine below_alloc0 ?_ _) | (with_reducible refine Below.ext ?_ ?_ _ _) | (with_reducible refine Below.alloc ?_ ?_ _) | (with_reducible refine Below.setCell ?_ ?_ _) | (with_reducible refine Below.drew ?_) | (with_reducible refine below_draws ?_ _) | go_size | (simp [size_ext]; done) | (simp [size_ext]; omega))))).mono ?_); rintro e w1 ⟨rfl, hb⟩; obtain ⟨otk5, dtk5, rfl⟩ := ext_of_below hb; clear hb tk5)
        | (go_at_call 8; have _t := tk6; (with_reducible refine (T3.out _ (by (repeat' (first | (with_reducible exact Below.refl _ _) | (with_reducible assumption) | (with_reducible refine below_ext0 ?_ _ _) | (with_reducible refine below_alloc0 ?_ _) | (with_reducible refine Below.ext ?_ ?_ _ _) | (with_reducible refine Below.alloc ?_ ?_ _) | (with_reducible refine Below.setCell ?_ ?_ _) | (with_reducible refine Below.drew ?_) | (with_reducible refine below_draws ?_ _) | go_size | (simp [size_ext]; done) | (simp [size_ext]; omega))))).mono ?_); rintro e w1 ⟨rfl, hb⟩; obtain ⟨otk6, dtk6, rfl⟩ := ext_of_below hb; clear hb tk6))
      go_ret
      exact ⟨by simp, (by (repeat' (first | (with_reducible exact Below.refl _ _) | (with_reducible assumption) | (with_reducible refine below_ext0 ?_ _ _) | (with_reducible refine below_alloc0 ?_ _) | (with_reducible refine Below.ext ?_ ?_ _ _) | (with_reducible refine Below.alloc ?_ ?_ _) | (with_reducible refine Below.setCell ?_ ?_ _) | (with_reducible refine Below.drew ?_) | (with_reducible refine below_draws ?_ _) | go_size | (simp [size_ext]; done) | (simp [size_ext]; omega))))⟩
    · have T3 := hid (CO3.out (by omega))
      go_enter Try.func3, Try.ntmps3
      go_wp2_with (first
        | (go_at_call 7; have _t := tk0; refine (lettersN_any _ _ _ _ _ (rd_litC 9 (cs := #[.string ⟨#[97, 49]⟩]) [⟨#[97, 49]⟩] 1 rfl rfl (by simp; decide) rfl (by decide)) (by rw [fact_a1]; decide)).mono ?_; rw [fact_a1]; rintro e w1 ⟨rfl, hb⟩; obtain ⟨otk0, dtk0, rfl⟩ := ext_of_below hb; clear hb tk0)
        | (go_at_call 7; have _t := tk1; (with_reducible refine (D1.out _ (by (repeat' (first | (with_reducible exact Below.refl _ _) | (with_reducible assumption) | (with_reducible refine below_ext0 ?_ _ _) | (with_reducible refine below_alloc0 ?_ _) | (with_reducible refine Below.ext ?_ ?_ _ _) | (with_reducible refine Below.alloc ?_ ?_ _) | (with_reducible refine Below.setCell ?_ ?_ _) | (with_reducible refine Below.drew ?_) | (with_reducible refine below_draws ?_ _) | go_size | (simp [size_ext]; done) | (simp [size_ext]; omega))))).mono ?_); rintro e w1 ⟨rfl, hb⟩; obtain ⟨otk1, dtk1, rfl⟩ := ext_of_below hb; clear hb tk1)
        | (go_at_call 9; have _t := tk2; (with_reducible refine (D2.out _ (by (repeat' (first | (with_reducible exact Below.refl _ _) | (with_reducible assumption) | (with_reducible refine below_ext0 ?_ _ _) | (with_reducible refine below_alloc0 ?_ _) | (with_reducible refine Below.ext ?_ ?_ _ _) | (with_reducible refine Below.alloc ?_ ?_ _) | (with_reducible refine Below.setCell ?_ ?_ _) | (with_reducible refine Below.drew ?_) | (with_reducible refine below_draws ?_ _) | go_size | (simp [size_ext]; done) | (simp [size_ext]; omega))))).mono ?_); rintro e w1 ⟨Atk2, ctk2, rfl, hr, hb⟩; obtain ⟨otk2, dtk2, rfl⟩ := ext_of_below hb; (try simp only [ext_drew, ext_drewN] at hr); have R2 := hid hr; clear hr; clear hb tk2)
        | (go_at_call 8; have _t := tk3; (with_reducible refine (D3.out _ (by (repeat' (first | (with_reducible exact Below.refl _ _) | (with_reducible assumption) | (with_reducible refine below_ext0 ?_ _ _) | (with_reducible refine below_alloc0 ?_ _) | (with_reducible refine Below.ext ?_ ?_ _ _) | (with_reducible refine Below.alloc ?_ ?_ _) | (with_reducible refine Below.setCell ?_ ?_ _) | (with_reducible refine Below.drew ?_) | (with_reducible refine below_draws ?_ _) | go_size | (simp [size_ext]; done) | (simp [size_ext]; omega)))) _ _ R2.out).mono ?_); rintro e w1 ⟨Atk3, ctk3, rfl, hr, hb⟩; obtain ⟨otk3, dtk3, rfl⟩ := ext_of_below hb; (try simp only [ext_drew, ext_drewN] at hr); have R3 := hid hr; clear hr; clear hb tk3)
        | (go_at_call 10; have _t := tk4; refine (texts_any _ _ _ _ _ _ (R3.out.below (by (repeat' (first | (with_reducible exact Below.refl _ _) | (with_reducible assumption) | (with_reducible refine below_ext0 ?_ _ _) | (with_reducible refine below_alloc0 ?_ _) | (with_reducible refine Below.ext ?_ ?_ _ _) | (with_reducible refine Below.alloc ?_ ?_ _) | (with_reducible refine Below.setCell ?_ ?_ _) | (with_reducible refine Below.drew ?_) | (with_reducible refine below_draws ?_ _) | go_size | (simp [size_ext]; done) | (simp [size_ext]; omega))))) _ _ _ _ _ (H1.out.below (by (repeat' (first | (with_reducible exact Below.refl _ _) | (with_reducible assumption) | (with_reducible refine below_ext0 ?_ _ _) | (with_reducible refine below_alloc0 ?_ _) | (with_reducible refine Below.ext ?_ ?_ _ _) | (with_reducible refine Below.alloc ?_ ?_ _) | (with_reducible refine Below.setCell ?_ ?_ _) | (with_reducible refine Below.drew ?_) | (with_reducible refine below_draws ?_ _) | go_size | (simp [size_ext]; done) | (simp [size_ext]; omega)))))).mono ?_; rw [decide_eq_true rfl]; rintro e w1 ⟨rfl, hb⟩; obtain ⟨otk4, dtk4, rfl⟩ := ext_of_below hb; clear hb tk4)
        | (go_at_call 8; have _t := tk5; (with_reducible refine (T2.out _ (by (repeat' (first | (with_reducible exact Below.refl _ _) | (with_reducible assumption) | (with_reducible refine below_ext0 ?_ _ _) | (with_reducible refine below_alloc0 ?_ _) | (with_reducible refine Below.ext ?_ ?_ _ _) | (with_reducible refine Below.alloc ?_ ?_ _) | (with_reducible refine Below.setCell ?_ ?_ _) | (with_reducible refine Below.drew ?_) | (with_reducible refine below_draws ?_ _) | go_size | (simp [size_ext]; done) | (simp [size_ext]; omega))))).mono ?_); rintro e w1 ⟨rfl, hb⟩; obtain ⟨otk5, dtk5, rfl⟩ := ext_of_below hb; clear hb tk5)
        | (go_at_call 8; have _t := tk6; (with_reducible refine (T3.out _ (by (repeat' (first | (with_reducible exact Below.refl _ _) | (with_reducible assumption) | (with_reducible refine below_ext0 ?_ _ _) | (with_reducible refine below_alloc0 ?_ _) | (with_reducible refine Below.ext ?_ ?_ _ _) | (with_reducible refine Below.alloc ?_ ?_ _) | (with_reducible refine Below.setCell ?_ ?_ _) | (with_reducible refine Below.drew ?_) | (with_reducible refine below_draws ?_ _) | go_size | (simp [size_ext]; done) | (simp [size_ext]; omega))))).mono ?_); rintro e w1 ⟨Atk6, ctk6, rfl, hr, hb⟩; obtain ⟨otk6, dtk6, rfl⟩ := ext_of_below hb; (try simp only [ext_drew, ext_drewN] at hr); have R6 := hid hr; clear hr; clear hb tk6))
      go_ret
      exact ⟨by simp, (by (repeat' (first | (with_reducible exact Below.refl _ _) | (with_reducible assumption) | (with_reducible refine below_ext0 ?_ _ _) | (with_reducible refine below_alloc0 ?_ _) | (with_reducible refine Below.ext ?_ ?_ _ _) | (with_reducible refine Below.alloc ?_ ?_ _) | (with_reducible refine Below.setCell ?_ ?_ _) | (with_reducible refine Below.drew ?_) | (with_reducible refine below_draws ?_ _) | go_size | (simp [size_ext]; done) | (simp [size_ext]; omega))))⟩
  · have T2 := hid (CO2.out (by omega))
    by_cases s3 : n3 < N
    · have T3 := hid (CS3.out s3)
      have t1 : (n3 : Int) < (N : Int) := by omega
      have t1n : decide (n3 < N) = true := decide_eq_true s3
      go_enter Try.func3, Try.ntmps3
      go_wp2_with (first
        | (go_at_call 7; have _t := tk0; refine (lettersN_any _ _ _ _ _ (rd_litC 9 (cs := #[.string ⟨#[97, 49]⟩]) [⟨#[97, 49]⟩] 1 rfl rfl (by simp; decide) rfl (by decide)) (by rw [fact_a1]; decide)).mono ?_; rw [fact_a1]; rintro e w1 ⟨rfl, hb⟩; obtain ⟨otk0, dtk0, rfl⟩ := ext_of_below hb; clear hb tk0)
        | (go_at_call 7; have _t := tk1; (with_reducible refine (D1.out _ (by (repeat' (first | (with_reducible exact Below.refl _ _) | (with_reducible assumption) | (with_reducible refine below_ext0 ?_ _ _) | (with_reducible refine below_alloc0 ?_ _) | (with_reducible refine Below.ext ?_ ?_ _ _) | (with_reducible refine Below.alloc ?_ ?_ _) | (with_reducible refine Below.setCell ?_ ?_ _) | (with_reducible refine Below.drew ?_) | (with_reducible refine below_draws ?_ _) | go_size | (simp [size_ext]; done) | (simp [size_ext]; omega))))).mono ?_); rintro e w1 ⟨rfl, hb⟩; obtain ⟨otk1, dtk1, rfl⟩ := ext_of_below hb; clear hb tk1)
        | (go_at_call 9; have _t := tk2; (with_reducible refine (D2.out _ (by (repeat' (first | (with_reducible exact Below.refl _ _) | (with_reducible assumption) | (with_reducible refine below_ext0 ?_ _ _) | (with_reducible refine below_alloc0 ?_ _) | (with_reducible refine Below.ext ?_ ?_ _ _) | (with_reducible refine Below.alloc ?_ ?_ _) | (with_reducible refine Below.setCell ?_ ?_ _) | (with_reducible refine Below.drew ?_) | (with_reducible refine below_draws ?_ _) | go_size | (simp [size_ext]; done) | (simp [size_ext]; omega))))).mono ?_); rintro e w1 ⟨Atk2, ctk2, rfl, hr, hb⟩; obtain ⟨otk2, dtk2, rfl⟩ := ext_of_below hb; (try simp only [ext_drew, ext_drewN] at hr); have R2 := hid hr; clear hr; clear hb tk2)
        | (go_at_call 8; have _t := tk3; (with_reducible refine (D3.out _ (by (repeat' (first | (with_reducible exact Below.refl _ _) | (with_reducible assumption) | (with_reducible refine below_ext0 ?_ _ _) | (with_reducible refine below_alloc0 ?_ _) | (with_reducible refine Below.ext ?_ ?_ _ _) | (with_reducible refine Below.alloc ?_ ?_ _) | (with_reducible refine Below.setCell ?_ ?_ _) | (with_reducible refine Below.drew ?_) | (with_reducible refine below_draws ?_ _) | go_size | (simp [size_ext]; done) | (simp [size_ext]; omega)))) _ _ R2.out).mono ?_); rintro e w1 ⟨Atk3, ctk3, rfl, hr, hb⟩; obtain ⟨otk3, dtk3, rfl⟩ := ext_of_below hb; (try simp only [ext_drew, ext_drewN] at hr); have R3 := hid hr; clear hr; clear hb tk3)
        | (go_at_call 10; have _t := tk4; refine (texts_any _ _ _ _ _ _ (R3.out.below (by (repeat' (first | (with_reducible exact Below.refl _ _) | (with_reducible assumption) | (with_reducible refine below_ext0 ?_ _ _) | (with_reducible refine below_alloc0 ?_ _) | (with_reducible refine Below.ext ?_ ?_ _ _) | (with_reducible refine Below.alloc ?_ ?_ _) | (with_reducible refine Below.setCell ?_ ?_ _) | (with_reducible refine Below.drew ?_) | (with_reducible refine below_draws ?_ _) | go_size | (simp [size_ext]; done) | (simp [size_ext]; omega))))) _ _ _ _ _ (H1.out.below (by (repeat' (first | (with_reducible exact Below.refl _ _) | (with_reducible assumption) | (with_reducible refine below_ext0 ?_ _ _) | (with_reducible refine below_alloc0 ?_ _) | (with_reducible refine Below.ext ?_ ?_ _ _) | (with_reducible refine Below.alloc ?_ ?_ _) | (with_reducible refine Below.setCell ?_ ?_ _) | (with_reducible refine Below.drew ?_) | (with_reducible refine below_draws ?_ _) | go_size | (simp [size_ext]; done) | (simp [size_ext]; omega)))))).mono ?_; rw [decide_eq_true rfl]; rintro e w1 ⟨rfl, hb⟩; obtain ⟨otk4, dtk4, rfl⟩ := ext_of_below hb; clear hb tk4)
        | (go_at_call 8; have _t := tk5; (with_reducible refine (T2.out _ (by (repeat' (first | (with_reducible exact Below.refl _ _) | (with_reducible assumption) | (with_reducible refine below_ext0 ?_ _ _) | (with_reducible refine below_alloc0 ?_ _) | (with_reducible refine Below.ext ?_ ?_ _ _) | (with_reducible refine Below.alloc ?_ ?_ _) | (with_reducible refine Below.setCell ?_ ?_ _) | (with_reducible refine Below.drew ?_) | (with_reducible refine below_draws ?_ _) | go_size | (simp [size_ext]; done) | (simp [size_ext]; omega))))).mono ?_); rintro e w1 ⟨Atk5, ctk5, rfl, hr, hb⟩; obtain ⟨otk5, dtk5, rfl⟩ := ext_of_below hb; (try simp only [ext_drew, ext_drewN] at hr); have R5 := hid hr; clear hr; clear hb tk5)
        | (go_at_call 8; have _t := tk6; (with_reducible refine (T3.out _ (by (repeat' (first | (with_reducible exact Below.refl _ _) | (with_reducible assumption) | (with_reducible refine below_ext0 ?_ _ _) | (with_reducible refine below_alloc0 ?_ _) | (with_reducible refine Below.ext ?_ ?_ _ _) | (with_reducible refine Below.alloc ?_ ?_ _) | (with_reducible refine Below.setCell ?_ ?_ _) | (with_reducible refine Below.drew ?_) | (with_reducible refine below_draws ?_ _) | go_size | (simp [size_ext]; done) | (simp [size_ext]; omega))))).mono ?_); rintro e w1 ⟨rfl, hb⟩; obtain ⟨otk6, dtk6, rfl⟩ := ext_of_below hb; clear hb tk6))
      go_ret
      exact ⟨by simp, (by (repeat' (first | (with_reducible exact Below.refl _ _) | (with_reducible assumption) | (with_reducible refine below_ext0 ?_ _ _) | (with_reducible refine below_alloc0 ?_ _) | (with_reducible refine Below.ext ?_ ?_ _ _) | (with_reducible refine Below.alloc ?_ ?_ _) | (with_reducible refine Below.setCell ?_ ?_ _) | (with_reducible refine Below.drew ?_) | (with_reducible refine below_draws ?_ _) | go_size | (simp [size_ext]; done) | (simp [size_ext]; omega))))⟩
    · have T3 := hid (CO3.out (by omega))
      have hxl : (posN (mixS ns a) n1).length = N := by
        have e1 := sums (mixS ns a)
        rw [mixS_len, HL1.out, mixS_bits ns a (by rw [← HNB.out, HL2.out]; omega), List.length_take, ← HNB.out, HL2.out] at e1
        omega
      have CB2 := fun w' A c (hr : Rd strR w' w'.heap.size A n1 c (mixS ns a)) => bits_any w' A n1 c (mixS ns a) hr (by omega)
      rw [hxl, mixS_bits ns a (by rw [← HNB.out, HL2.out]; omega), ← HNB.out] at CB2
      have D7 := hid CB2
      have D8 := hid fun w' A c (hr : Rd strR w' w'.heap.size A n1 c (mixS ns a)) (hb : Below w.heap.size w w') => same_any w' A n1 c (mixS ns a) hr A1 n1 c1 ns (H1.out.later hb)
      rw [mixS_same] at D8
      have HT := hid (show decide (mixS ns a = mixS ns b) = alikeK a b N from by
        unfold alikeK
        congr 1
        rw [mixS_inj (by rw [← HNB.out, HL2.out]; omega) (by rw [← HNB.out, HL3.out]; omega), ← HNB.out])
      clear CB2 hxl
      go_enter Try.func3, Try.ntmps3
      go_wp2_with (first
        | (go_at_call 7; have _t := tk0; refine (lettersN_any _ _ _ _ _ (rd_litC 9 (cs := #[.string ⟨#[97, 49]⟩]) [⟨#[97, 49]⟩] 1 rfl rfl (by simp; decide) rfl (by decide)) (by rw [fact_a1]; decide)).mono ?_; rw [fact_a1]; rintro e w1 ⟨rfl, hb⟩; obtain ⟨otk0, dtk0, rfl⟩ := ext_of_below hb; clear hb tk0)
        | (go_at_call 7; have _t := tk1; (with_reducible refine (D1.out _ (by (repeat' (first | (with_reducible exact Below.refl _ _) | (with_reducible assumption) | (with_reducible refine below_ext0 ?_ _ _) | (with_reducible refine below_alloc0 ?_ _) | (with_reducible refine Below.ext ?_ ?_ _ _) | (with_reducible refine Below.alloc ?_ ?_ _) | (with_reducible refine Below.setCell ?_ ?_ _) | (with_reducible refine Below.drew ?_) | (with_reducible refine below_draws ?_ _) | go_size | (simp [size_ext]; done) | (simp [size_ext]; omega))))).mono ?_); rintro e w1 ⟨rfl, hb⟩; obtain ⟨otk1, dtk1, rfl⟩ := ext_of_below hb; clear hb tk1)
        | (go_at_call 9; have _t := tk2; (with_reducible refine (D2.out _ (by (repeat' (first | (with_reducible exact Below.refl _ _) | (with_reducible assumption) | (with_reducible refine below_ext0 ?_ _ _) | (with_reducible refine below_alloc0 ?_ _) | (with_reducible refine Below.ext ?_ ?_ _ _) | (with_reducible refine Below.alloc ?_ ?_ _) | (with_reducible refine Below.setCell ?_ ?_ _) | (with_reducible refine Below.drew ?_) | (with_reducible refine below_draws ?_ _) | go_size | (simp [size_ext]; done) | (simp [size_ext]; omega))))).mono ?_); rintro e w1 ⟨Atk2, ctk2, rfl, hr, hb⟩; obtain ⟨otk2, dtk2, rfl⟩ := ext_of_below hb; (try simp only [ext_drew, ext_drewN] at hr); have R2 := hid hr; clear hr; clear hb tk2)
        | (go_at_call 8; have _t := tk3; (with_reducible refine (D3.out _ (by (repeat' (first | (with_reducible exact Below.refl _ _) | (with_reducible assumption) | (with_reducible refine below_ext0 ?_ _ _) | (with_reducible refine below_alloc0 ?_ _) | (with_reducible refine Below.ext ?_ ?_ _ _) | (with_reducible refine Below.alloc ?_ ?_ _) | (with_reducible refine Below.setCell ?_ ?_ _) | (with_reducible refine Below.drew ?_) | (with_reducible refine below_draws ?_ _) | go_size | (simp [size_ext]; done) | (simp [size_ext]; omega)))) _ _ R2.out).mono ?_); rintro e w1 ⟨Atk3, ctk3, rfl, hr, hb⟩; obtain ⟨otk3, dtk3, rfl⟩ := ext_of_below hb; (try simp only [ext_drew, ext_drewN] at hr); have R3 := hid hr; clear hr; clear hb tk3)
        | (go_at_call 10; have _t := tk4; refine (texts_any _ _ _ _ _ _ (R3.out.below (by (repeat' (first | (with_reducible exact Below.refl _ _) | (with_reducible assumption) | (with_reducible refine below_ext0 ?_ _ _) | (with_reducible refine below_alloc0 ?_ _) | (with_reducible refine Below.ext ?_ ?_ _ _) | (with_reducible refine Below.alloc ?_ ?_ _) | (with_reducible refine Below.setCell ?_ ?_ _) | (with_reducible refine Below.drew ?_) | (with_reducible refine below_draws ?_ _) | go_size | (simp [size_ext]; done) | (simp [size_ext]; omega))))) _ _ _ _ _ (H1.out.below (by (repeat' (first | (with_reducible exact Below.refl _ _) | (with_reducible assumption) | (with_reducible refine below_ext0 ?_ _ _) | (with_reducible refine below_alloc0 ?_ _) | (with_reducible refine Below.ext ?_ ?_ _ _) | (with_reducible refine Below.alloc ?_ ?_ _) | (with_reducible refine Below.setCell ?_ ?_ _) | (with_reducible refine Below.drew ?_) | (with_reducible refine below_draws ?_ _) | go_size | (simp [size_ext]; done) | (simp [size_ext]; omega)))))).mono ?_; rw [decide_eq_true rfl]; rintro e w1 ⟨rfl, hb⟩; obtain ⟨otk4, dtk4, rfl⟩ := ext_of_below hb; clear hb tk4)
        | (go_at_call 8; have _t := tk5; (with_reducible refine (T2.out _ (by (repeat' (first | (with_reducible exact Below.refl _ _) | (with_reducible assumption) | (with_reducible refine below_ext0 ?_ _ _) | (with_reducible refine below_alloc0 ?_ _) | (with_reducible refine Below.ext ?_ ?_ _ _) | (with_reducible refine Below.alloc ?_ ?_ _) | (with_reducible refine Below.setCell ?_ ?_ _) | (with_reducible refine Below.drew ?_) | (with_reducible refine below_draws ?_ _) | go_size | (simp [size_ext]; done) | (simp [size_ext]; omega))))).mono ?_); rintro e w1 ⟨Atk5, ctk5, rfl, hr, hb⟩; obtain ⟨otk5, dtk5, rfl⟩ := ext_of_below hb; (try simp only [ext_drew, ext_drewN] at hr); have R5 := hid hr; clear hr; clear hb tk5)
        | (go_at_call 8; have _t := tk6; (with_reducible refine (T3.out _ (by (repeat' (first | (with_reducible exact Below.refl _ _) | (with_reducible assumption) | (with_reducible refine below_ext0 ?_ _ _) | (with_reducible refine below_alloc0 ?_ _) | (with_reducible refine Below.ext ?_ ?_ _ _) | (with_reducible refine Below.alloc ?_ ?_ _) | (with_reducible refine Below.setCell ?_ ?_ _) | (with_reducible refine Below.drew ?_) | (with_reducible refine below_draws ?_ _) | go_size | (simp [size_ext]; done) | (simp [size_ext]; omega))))).mono ?_); rintro e w1 ⟨Atk6, ctk6, rfl, hr, hb⟩; obtain ⟨otk6, dtk6, rfl⟩ := ext_of_below hb; (try simp only [ext_drew, ext_drewN] at hr); have R6 := hid hr; clear hr; clear hb tk6)
        | (go_at_call 9; have _t := tk7; (with_reducible refine (D7.out _ _ _ (R5.out.later (by (repeat' (first | (with_reducible exact Below.refl _ _) | (with_reducible assumption) | (with_reducible refine below_ext0 ?_ _ _) | (with_reducible refine below_alloc0 ?_ _) | (with_reducible refine Below.ext ?_ ?_ _ _) | (with_reducible refine Below.alloc ?_ ?_ _) | (with_reducible refine Below.setCell ?_ ?_ _) | (with_reducible refine Below.drew ?_) | (with_reducible refine below_draws ?_ _) | go_size | (simp [size_ext]; done) | (simp [size_ext]; omega)))))).mono ?_); rintro e w1 ⟨Atk7, ctk7, rfl, hr, hb⟩; obtain ⟨otk7, dtk7, rfl⟩ := ext_of_below hb; (try simp only [ext_drew, ext_drewN] at hr); have R7 := hid hr; clear hr; clear hb tk7)
        | (go_at_call 11; have _t := tk8; (with_reducible refine (D8.out _ _ _ (R5.out.later (by (repeat' (first | (with_reducible exact Below.refl _ _) | (with_reducible assumption) | (with_reducible refine below_ext0 ?_ _ _) | (with_reducible refine below_alloc0 ?_ _) | (with_reducible refine Below.ext ?_ ?_ _ _) | (with_reducible refine Below.alloc ?_ ?_ _) | (with_reducible refine Below.setCell ?_ ?_ _) | (with_reducible refine Below.drew ?_) | (with_reducible refine below_draws ?_ _) | go_size | (simp [size_ext]; done) | (simp [size_ext]; omega))))) (by (repeat' (first | (with_reducible exact Below.refl _ _) | (with_reducible assumption) | (with_reducible refine below_ext0 ?_ _ _) | (with_reducible refine below_alloc0 ?_ _) | (with_reducible refine Below.ext ?_ ?_ _ _) | (with_reducible refine Below.alloc ?_ ?_ _) | (with_reducible refine Below.setCell ?_ ?_ _) | (with_reducible refine Below.drew ?_) | (with_reducible refine below_draws ?_ _) | go_size | (simp [size_ext]; done) | (simp [size_ext]; omega))))).mono ?_); rintro e w8 ⟨rfl, hb⟩; have R58 := hid ((R5.out.later (by (repeat' (first | (with_reducible exact Below.refl _ _) | (with_reducible assumption) | (with_reducible refine below_ext0 ?_ _ _) | (with_reducible refine below_alloc0 ?_ _) | (with_reducible refine Below.ext ?_ ?_ _ _) | (with_reducible refine Below.alloc ?_ ?_ _) | (with_reducible refine Below.setCell ?_ ?_ _) | (with_reducible refine Below.drew ?_) | (with_reducible refine below_draws ?_ _) | go_size | (simp [size_ext]; done) | (simp [size_ext]; omega))))).later hb); have R68 := hid ((R6.out.later (by (repeat' (first | (with_reducible exact Below.refl _ _) | (with_reducible assumption) | (with_reducible refine below_ext0 ?_ _ _) | (with_reducible refine below_alloc0 ?_ _) | (with_reducible refine Below.ext ?_ ?_ _ _) | (with_reducible refine Below.alloc ?_ ?_ _) | (with_reducible refine Below.setCell ?_ ?_ _) | (with_reducible refine Below.drew ?_) | (with_reducible refine below_draws ?_ _) | go_size | (simp [size_ext]; done) | (simp [size_ext]; omega))))).later hb); have R78 := hid (R7.out.later hb); have HB8 := hid (Below.trans (by (repeat' (first | (with_reducible exact Below.refl _ _) | (with_reducible assumption) | (with_reducible refine below_ext0 ?_ _ _) | (with_reducible refine below_alloc0 ?_ _) | (with_reducible refine Below.ext ?_ ?_ _ _) | (with_reducible refine Below.alloc ?_ ?_ _) | (with_reducible refine Below.setCell ?_ ?_ _) | (with_reducible refine Below.drew ?_) | (with_reducible refine below_draws ?_ _) | go_size | (simp [size_ext]; done) | (simp [size_ext]; omega))) : Below w.heap.size w _) (hb.mono (by simp [size_ext]; omega))); clear hb tk8))
      have z8 := HB8.out.size
      clear R2 R3 R5 R6 R7 D1 D2 D3 D7 D8 T2 T3 CS2 CS3 CO2 CO3
      go_loopg [16, 17] N (fun gk v16 v17 wi => ∃ i : Nat, i ≤ N ∧ gk = N - i ∧ v17 = .int .i64 (i : Int) ∧ v16 = .bool (alikeK a b i) ∧ Below w8.heap.size w8 wi)
      case atStart => exact ⟨0, Nat.zero_le _, rfl, rfl, by rw [alikeK_zero], Below.refl _ _⟩
      case round =>
        obtain ⟨i, hi, rfl, rfl, rfl, hlow⟩ := hrel
        have HLOW := hid hlow
        have hzw := hlow.size
        clear hlow
        by_cases hlt : i < N
        · obtain ⟨q1, p1, hA7, l1, x1⟩ := (R78.out.later HLOW.out).boolD i hlt
          obtain ⟨q2, p2, hA2, l2, x2⟩ := (H2.out.below (HB8.out.trans (HLOW.out.mono z8))).boolD i (by omega)
          obtain ⟨q3, p3, hA3, l3, x3⟩ := (H3.out.below (HB8.out.trans (HLOW.out.mono z8))).boolD i (by omega)
          subst hA7
          subst hA2
          subst hA3
          rw [take_getD hlt] at x1
          have hs := hid (alikeK_succ a b i (by rw [HL2.out]; omega) (by rw [HL3.out]; omega))
          obtain ⟨al, hal⟩ : ∃ al, alikeK a b i = al := ⟨_, rfl⟩
          obtain ⟨u, hu⟩ : ∃ u, a.getD i false = u := ⟨_, rfl⟩
          obtain ⟨v, hv⟩ : ∃ v, b.getD i false = v := ⟨_, rfl⟩
          rw [hu] at x1 x2
          rw [hv] at x3
          rw [hal, hu, hv] at hs
          rw [hal]
          have hlw := HLOW.out
          have t0 : (i : Int) < (N : Int) := by omega
          have t2 : (i : Int) < (n2 : Int) := by omega
          have t3 : (i : Int) < (n3 : Int) := by omega
          have y1 : q1 < wr.heap.size := l1
          have y2 : q2 < wr.heap.size := by omega
          have y3 : q3 < wr.heap.size := by omega
          clear hal hu hv
          cases u <;> cases v
          all_goals
            have HS := hid hs.out
            simp only [beq_self_eq_true, Bool.and_true, Bool.and_false, show (false == true) = false from rfl, show (true == false) = false from rfl] at HS
            clear hs
            go_wp2_with fail
            refine wp_region_ext (by kernel_rfl) (by kernel_rfl) ?_
            repeat (go_big_quiet_step ((fail)))
            refine wpQuiet_nil ?_
            rintro _ ⟨⟨os, d⟩, rfl⟩
            simp only [exts]
            go_wp2_with fail
            refine wp_region_ext (by kernel_rfl) (by kernel_rfl) ?_
            repeat (go_big_quiet_step ((fail)))
            refine wpQuiet_nil ?_
            rintro _ ⟨⟨os, d⟩, rfl⟩
            simp only [exts]
            go_wp2
            go_roundg (N - (i + 1))
            case measure => omega
            case rel => exact ⟨i + 1, by omega, rfl, by go_num, by rw [HS.out], by (repeat' (first | (with_reducible exact Below.refl _ _) | (with_reducible assumption) | (with_reducible refine below_ext0 ?_ _ _) | (with_reducible refine below_alloc0 ?_ _) | (with_reducible refine Below.ext ?_ ?_ _ _) | (with_reducible refine Below.alloc ?_ ?_ _) | (with_reducible refine Below.setCell ?_ ?_ _) | (with_reducible refine Below.drew ?_) | (with_reducible refine below_draws ?_ _) | go_size | (simp [size_ext]; done) | (simp [size_ext]; omega)))⟩
        · obtain rfl : N = i := by omega
          have CT := hid fun (w' : World) (hb : Below wr.heap.size wr w') => texts_any w' _ _ _ _ _ ((R58.out.later HLOW.out).below hb) _ _ _ _ _ ((R68.out.later HLOW.out).below hb)
          rw [HT.out] at CT
          obtain ⟨al, hal⟩ : ∃ al, alikeK a b N = al := ⟨_, rfl⟩
          rw [hal] at CT ⊢
          clear HT hal
          go_wp2_with (go_at_call 10; have _t := tk9; (with_reducible refine (CT.out _ (Below.refl _ _)).mono ?_); rintro e w1 ⟨rfl, hb⟩; obtain ⟨otk9, dtk9, rfl⟩ := ext_of_below hb; clear hb tk9)
          go_ret
          have hlw := HB8.out.trans (HLOW.out.mono z8)
          exact ⟨by cases al <;> simp, by (repeat' (first | (with_reducible exact Below.refl _ _) | (with_reducible assumption) | (with_reducible refine below_ext0 ?_ _ _) | (with_reducible refine below_alloc0 ?_ _) | (with_reducible refine Below.ext ?_ ?_ _ _) | (with_reducible refine Below.alloc ?_ ?_ _) | (with_reducible refine Below.setCell ?_ ?_ _) | (with_reducible refine Below.drew ?_) | (with_reducible refine below_draws ?_ _) | go_size | (simp [size_ext]; done) | (simp [size_ext]; omega)))⟩
set_option maxRecDepth 100000 in
theorem contractUpto (H : Type) (enc : TypeId × Value → H) (W : World) (base : Nat) (args : Array Value) (ds gs : List (DataW H)) (before : List MemPlace)
    (hval : ∀ (j : Nat) t v, Try.f3.params[j]? = some t → args[j]? = some v → Value.okWide Try.prog W .any base t v)
    (hW : DataW.Whole enc Try.prog Try.f3.params.toList Rows.capsBackSpec.vars false W args.toList ds gs before) (hsz : (DataW.weightsEach Try.prog (Try.f3.params.toList ++ Rows.capsBackSpec.plain.varTypes Try.prog) (ds ++ gs)).all (· ≤ reachBytes) = true) (hk : Rows.uptoSmall H (ds ++ gs) = true) :
    Calls Try.prog 3 args W fun e W' => ∃ v, e = .returned v ∧ Rows.capsBackSpec.post enc Try.prog Try.f3 false true false false W args v W' := by
  have hW' := hW
  obtain ⟨p, q, hA0, hV, rfl, hfz, hnd⟩ := hW
  have hA : DataW.TrodAll enc Try.prog W 0 (fun _ => true) true Try.f3.params.toList args.toList ds p := hA0
  rw [Try.params3] at hA hval hsz
  obtain ⟨v0, vs0, d0, ds0, p0, q0, hargs, rfl, rfl, k0, r0⟩ := trodAll_cons hA
  obtain ⟨v1, vs1, d1, ds1, p1, q1, rfl, rfl, rfl, k1, r1⟩ := trodAll_cons r0
  obtain ⟨v2, vs2, d2, ds2, p2, q2, rfl, rfl, rfl, k2, r2⟩ := trodAll_cons r1
  obtain ⟨rfl, rfl, rfl⟩ := trodAll_nil r2
  obtain rfl : args = #[v0, v1, v2] := by cases args; simp_all
  obtain ⟨rfl, rfl⟩ := trodVars_none hV
  have lt0 : ∀ x ∈ p0, x.block < W.heap.size := by obtain ⟨m, hm⟩ := k0; exact DataW.trod_lt m _ _ _ hm
  have lt1 : ∀ x ∈ p1, x.block < W.heap.size := by obtain ⟨m, hm⟩ := k1; exact DataW.trod_lt m _ _ _ hm
  have lt2 : ∀ x ∈ p2, x.block < W.heap.size := by obtain ⟨m, hm⟩ := k2; exact DataW.trod_lt m _ _ _ hm
  have hsz' : ∀ k ∈ _, k ≤ reachBytes := fun k hk => of_decide_eq_true (List.all_eq_true.1 hsz k hk)
  have u0 : ∀ k ∈ d0.weights Try.prog 22, k ≤ reachBytes := fun k hk => hsz' k (by simp [DataW.weightsEach, hk])
  have u1 : ∀ k ∈ d1.weights Try.prog 23, k ≤ reachBytes := fun k hk => hsz' k (by simp [DataW.weightsEach, hk])
  have u2 : ∀ k ∈ d2.weights Try.prog 23, k ≤ reachBytes := fun k hk => hsz' k (by simp [DataW.weightsEach, hk])
  obtain ⟨A0, n0, c0, l0, rfl, w0, z0⟩ := arg_slice Try.underlying22 (opens_slice Try.underlying22 (opens_str Try.underlying9) (by kernel_rfl) (by decide) (of_decide_eq_true (by kernel_rfl))) (hval 0 22 v0 rfl rfl) k0 u0
  obtain ⟨A1, n1, c1, l1, rfl, w1, z1⟩ := arg_slice Try.underlying23 (opens_slice Try.underlying23 (opens_bool Try.underlying4) (by kernel_rfl) (by decide) (of_decide_eq_true (by kernel_rfl))) (hval 1 23 v1 rfl rfl) k1 u1
  obtain ⟨A2, n2, c2, l2, rfl, w2, z2⟩ := arg_slice Try.underlying23 (opens_slice Try.underlying23 (opens_bool Try.underlying4) (by kernel_rfl) (by decide) (of_decide_eq_true (by kernel_rfl))) (hval 2 23 v2 rfl rfl) k2 u2
  have hsum := bulk_of hk
  simp only [List.append_nil, List.map_cons, List.map_nil, List.sum_cons, List.sum_nil] at hsum
  clear hA0 hA
  refine (walkUpto W A0 n0 c0 l0 w0 A1 n1 c1 l1 w1 A2 n2 c2 l2 w2 (by omega)).mono fun e W' ⟨he, bel⟩ => ?_
  subst he
  exact ⟨_, rfl, _, _, _, [], _, [], hW', trodAll_mk1 (shut_bool Try.underlying4 _), (trodAll_cons_mk (Below.trod laidOut (by kernel_rfl) (of_decide_eq_true (by kernel_rfl)) k0 bel lt0) (trodAll_cons_mk (Below.trod laidOut (by kernel_rfl) (of_decide_eq_true (by kernel_rfl)) k1 bel lt1) (trodAll_cons_mk (Below.trod laidOut (by kernel_rfl) (of_decide_eq_true (by kernel_rfl)) k2 bel lt2) trodAll_mk0))), rfl, bel.frame _, fun h => by cases h⟩

set_option maxRecDepth 100000 in
theorem liftedUpto (os : Os) (started : os.Started) (H : Type) (enc : TypeId × Value → H) (F : Stop.Interp) :
    ReturnsInHanded {} Try.checked os 3 .any ((Rows.OpenSpec.upto Rows.capsBackSpec).pre6 enc Try.prog Try.f3 Rows.capsBackUptoRow.domain false) (((Rows.OpenSpec.upto Rows.capsBackSpec).at F).post enc Try.prog Try.f3 false true false false) := by
  refine returnsInHanded_of_cond_sized (C := Try.checked) (s := Rows.OpenSpec.upto Rows.capsBackSpec) (k := Rows.uptoSmall) rfl own started (by kernel_rfl) Try.func3
    (OpenSpec.witness (enc := enc) (C := Try.checked) (s := Rows.OpenSpec.upto Rows.capsBackSpec) (k := Rows.uptoSmall) rfl false ⟨#[], #[.slice none 0 0, .slice none 0 0, .slice none 0 0], []⟩ 8 (by kernel_rfl) (by kernel_rfl) (by kernel_rfl)
      (x := ([.nil, .nil, .nil], [], [])) (by kernel_rfl) rfl (by kernel_rfl)) ?_
  intro W base args ds gs before hval hW _ hk hsz _
  exact contractUpto H enc W base args ds gs before hval hW hsz hk

/-- the statement -/
theorem provedUpto : Rows.CapsBackUptoSaid :=
  OpenClaim.holds_of_cond 3 Try.f3 rfl rfl rfl rfl rfl rfl rfl ⟨rfl, rfl, rfl, rfl, rfl⟩ rfl rfl rfl rfl rfl (by kernel_rfl) Try.func3 (by kernel_rfl)
    (of_decide_eq_true (by kernel_rfl)) (by unfold Func.isWrapper; first | (rw [if_pos (by decide +kernel)]; kernel_rfl) | (rw [if_neg (by decide +kernel)]; exact ⟨rfl, rfl⟩))
    (fun os started H enc _ F => liftedUpto os started H enc F)

end capsBack
end Go.Proofs.Ytemgbfppdopfbaa
