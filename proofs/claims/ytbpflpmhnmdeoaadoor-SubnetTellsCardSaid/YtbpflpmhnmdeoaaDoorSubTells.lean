/- SubnetTells is true of every address, number, subnet and bytes: the program masks, tells, finds and tests a subnet as the document says. Conditions: the variable errors.errorType holds what the program's text lays in it (the card ties it). -/
import Derived.Test.YtbpflpmhnmdeoaaDoorSubRefH
import Derived.Test.YtbpflpmhnmdeoaaDoorBack
import Derived.Test.YtbpflpmhnmdeoaaDoorLaid
import Derived.OpenShut
import Derived.JoinedCond
namespace Go.Proofs.YtbpflpmhnmdeoaaDoor
open Go.ChangeShapes Go.WideShapes Go.ChangeAt Go.RowKit
set_option linter.unusedVariables false
set_option linter.unusedSimpArgs false
namespace subnetTells
theorem err_same (n : Int) (w : World) (hg : Laid w) : Calls Tryd.prog 6 #[errV n, .int .i64 n] w fun e w' => e = .returned (.bool true) ∧ Below w.heap.size w w' := by
  have := error_any n n w hg
  simpa using this
theorem bytes_yes' {w : World} {A1 : Option Addr} {n1 c1 B1 : Nat} {l : List UInt8} {A2 : Option Addr} {n2 c2 B2 : Nat} (h1 : Rd u8R w B1 A1 n1 c1 l) (h2 : Rd u8R w B2 A2 n2 c2 l) :
    Calls Tryd.prog 23 #[.slice A1 n1 c1, .slice A2 n2 c2] w fun e w' => e = .returned (.bool true) ∧ Below w.heap.size w w' := by
  have := bytes_any w _ _ _ _ _ h1 _ _ _ _ _ h2
  simpa using this

/-- both tell the subnet of bytes -/
theorem dec_two {w : World} {A : Option Addr} {n c : Nat} {l : List UInt8} (h : Rd u8R w w.heap.size A n c l) :
    ∃ F S C m X E, (∀ w', Below w.heap.size w w' → Calls Tryd.prog 30 #[.slice A n c] w' fun e w2 => ∃ A' c', e = .returned (.tuple #[subnetV F S C A' m c', errV E]) ∧ Rd u8R w2 w2.heap.size A' m c' X ∧ Below w'.heap.size w' w2) ∧
      (∀ w', Below w.heap.size w w' → Calls Tryd.prog 29 #[.slice A n c] w' fun e w2 => ∃ A' c', e = .returned (.tuple #[subnetV F S C A' m c', .int .i64 E]) ∧ Rd u8R w2 w2.heap.size A' m c' X ∧ Below w'.heap.size w' w2) := by
  by_cases hn : n < 4
  · refine ⟨0, 0, 0, 0, [], 2, fun w' hb => ?_, fun w' hb => ?_⟩
    · have h' := h.later hb
      refine (Decode_short w' A n c hn (by have := h.max; unfold maxLen at this; omega) h.cap).mono ?_
      rintro e w2 ⟨rfl, hb2⟩
      exact ⟨none, 0, rfl, rd_nil _ _, hb2⟩
    · refine (subof_short hn).mono ?_
      rintro e w2 ⟨rfl, hb2⟩
      exact ⟨none, 0, rfl, rd_nil _ _, hb2⟩
  · have hn4 : 4 ≤ n := by omega
    obtain ⟨b, o, rfl, lb⟩ := h.addr (by omega)
    by_cases hk : SOk (decF l) (decS l) (decC l) (famN (decF l))
    · by_cases hr : RestOk l
      · refine ⟨decF l, decS l, decC l, famN (decF l), addrL l, 0, fun w' hb => ?_, fun w' hb => ?_⟩
        · refine (Decode_ok w' b o n c l (h.later hb) hn4 hk hr).mono ?_
          rintro e w2 ⟨A', m', c', rfl, rfl, hrd, hb2⟩
          exact ⟨A', c', rfl, hrd, hb2⟩
        · refine (subof_main (h.later hb) hn4 hk).mono ?_
          rintro e w2 ⟨⟨h1, _⟩, hb2⟩
          obtain ⟨A', c', rfl, hrd⟩ := h1 hr
          exact ⟨A', c', rfl, hrd, hb2⟩
      · refine ⟨0, 0, 0, 0, [], 1, fun w' hb => ?_, fun w' hb => ?_⟩
        · refine (Decode_syntax w' b o n c l (h.later hb) hn4 hk hr).mono ?_
          rintro e w2 ⟨rfl, hb2⟩
          exact ⟨none, 0, rfl, rd_nil _ _, hb2⟩
        · refine (subof_main (h.later hb) hn4 hk).mono ?_
          rintro e w2 ⟨⟨_, h1⟩, hb2⟩
          obtain rfl := h1 hr
          exact ⟨none, 0, rfl, rd_nil _ _, hb2⟩
    · refine ⟨0, 0, 0, 0, [], 6, fun w' hb => ?_, fun w' hb => ?_⟩
      · refine (Decode_range w' b o n c l (h.later hb) hn4 hk).mono ?_
        rintro e w2 ⟨rfl, hb2⟩
        exact ⟨none, 0, rfl, rd_nil _ _, hb2⟩
      · refine (subof_range (h.later hb) hn4 hk).mono ?_
        rintro e w2 ⟨rfl, hb2⟩
        exact ⟨none, 0, rfl, rd_nil _ _, hb2⟩

/-- the program's Mask, as the law meets it; and what is wanted -/
theorem mask_two {w : World} {A : Option Addr} {n c : Nat} {l : List UInt8} (h : Rd u8R w w.heap.size A n c l) (m : Int) :
    ∃ nm X E, (∀ w', Below w.heap.size w w' → Calls Tryd.prog 22 #[.slice A n c, .int .i64 m] w' fun e w2 => ∃ A' c', e = .returned (.tuple #[.slice A' nm c', errV E]) ∧ Rd u8R w2 w2.heap.size A' nm c' X ∧ Below w'.heap.size w' w2) ∧
      (((0 ≤ m ∧ m ≤ 8 * (n : Int)) ∧ E = 0 ∧ ∀ w', Below w.heap.size w w' → Calls Tryd.prog 21 #[.slice A n c, .int .i64 m] w' fun e w2 => ∃ A' c', e = .returned (.slice A' nm c') ∧ Rd u8R w2 w2.heap.size A' nm c' X ∧ Below w'.heap.size w' w2) ∨
        (¬ (0 ≤ m ∧ m ≤ 8 * (n : Int)) ∧ E = 6 ∧ nm = 0 ∧ X = [])) := by
  by_cases hm : 0 ≤ m ∧ m ≤ 8 * (n : Int)
  · exact ⟨n, maskL l m, 0, fun w' hb => Mask_ok w' A n c l _ (h.later hb) m hm.1 hm.2, .inl ⟨hm, rfl, fun w' hb => masked_any (h.later hb) hm.1 hm.2⟩⟩
  · refine ⟨0, [], 6, fun w' hb => ?_, .inr ⟨hm, rfl, rfl, rfl⟩⟩
    have hl := h.lim
    simp only [u8R, Nat.mul_one] at hl
    refine (Mask_bad w' A n c hl m hm).mono ?_
    rintro e w2 ⟨rfl, hb2⟩
    exact ⟨none, 0, rfl, rd_nil _ _, hb2⟩
theorem enc_two {w : World} {A : Option Addr} {n c : Nat} {l : List UInt8} (h : Rd u8R w w.heap.size A n c l) (f s sc : Int) :
    ∃ nm X E, (∀ w', Below w.heap.size w w' → Calls Tryd.prog 26 #[subnetV f s sc A n c] w' fun e w2 => ∃ A' c', e = .returned (.tuple #[.slice A' nm c', errV E]) ∧ Rd u8R w2 w2.heap.size A' nm c' X ∧ Below w'.heap.size w' w2) ∧
      (∀ w', Calls Tryd.prog 24 #[subnetV f s sc A n c] w' fun e w2 => e = .returned (.int .i64 E) ∧ Below w'.heap.size w' w2) ∧
      ((E = 0 ∧ ∀ w', Below w.heap.size w w' → Calls Tryd.prog 25 #[subnetV f s sc A n c] w' fun e w2 => ∃ A' c', e = .returned (.slice A' nm c') ∧ Rd u8R w2 w2.heap.size A' nm c' X ∧ Below w'.heap.size w' w2) ∨
        (E ≠ 0 ∧ nm = 0 ∧ X = [])) := by
  have e := errS_zero f s sc n
  by_cases hk : SOk f s sc n
  · have h0 := e.2 hk
    refine ⟨(encL f s sc l).length, encL f s sc l, 0, fun w' hb => ?_, fun w' => by have := sfault_any w' f s sc A n c; rwa [h0] at this, .inl ⟨rfl, fun w' hb => ?_⟩⟩
    · refine (Encode_ok w' f s sc A n c l (h.later hb) hk).mono ?_
      rintro e w2 ⟨A', m', c', rfl, hr, hb2⟩
      have := hr.len
      subst this
      exact ⟨A', c', rfl, hr, hb2⟩
    · refine (sbytes_any (h.later hb) hk).mono ?_
      rintro e w2 ⟨A', m', c', rfl, hr, hb2⟩
      have := hr.len
      subst this
      exact ⟨A', c', rfl, hr, hb2⟩
  · have h0 : errS f s sc n ≠ 0 := fun h => hk (e.1 h)
    refine ⟨0, [], errS f s sc n, fun w' hb => ?_, fun w' => sfault_any w' f s sc A n c, .inr ⟨h0, rfl, rfl⟩⟩
    refine (Encode_bad w' f s sc A n c hk).mono ?_
    rintro e w2 ⟨rfl, hb2⟩
    exact ⟨none, 0, by rw [show errV (errS f s sc n) = .iface 28 (.int .i64 (errS f s sc n)) from if_neg h0], rd_nil _ _, hb2⟩

set_option maxRecDepth 100000 in
set_option maxHeartbeats 8000000 in
theorem walk (w : World) (hL : Laid w) (A1 : Option Addr) (n1 c1 : Nat) (l1 : List UInt8) (h1 : Rd u8R w w.heap.size A1 n1 c1 l1) (n : Int) (hn : I64 n) (x : Int × Int × Int × List UInt8 × Unit) (cs : Array Value) (hx : subnetR.rel w w.heap.size x cs.toList) (A2 : Option Addr) (n2 c2 : Nat) (l2 : List UInt8) (h2 : Rd u8R w w.heap.size A2 n2 c2 l2) :
    Calls Tryd.prog 5 #[.slice A1 n1 c1, .int .i64 n, .agg cs, .slice A2 n2 c2] w fun e w' => e = .returned (.bool true) ∧ Below w.heap.size w w' := by
  have hlt : 0 < w.heap.size := World.block_lt_of_cell? w _ hL
  obtain ⟨f, s, sc, A3, n3, c3, l3, he, rfl, hf, hs, hsc, h3⟩ := subnet_of hx
  clear hx he
  have hl1 := h1.lim
  simp only [u8R, Nat.mul_one] at hl1
  obtain ⟨i1, i2⟩ := hn
  obtain ⟨nm, X, E1, CM, CMd⟩ := mask_two h1 n
  obtain ⟨ne, Y, E2, CE, CF, CB⟩ := enc_two h3 f s sc
  obtain ⟨F, S, C, nd, Z, E3, CD, CO⟩ := dec_two h2
  have CI := fun w' (hb : Below w.heap.size w w') => In_any w' A1 n1 c1 l1 (h1.later hb) f s sc A3 n3 c3 l3 (h3.later hb)
  have CN := fun w' (hb : Below w.heap.size w w') => inside_any (h1.later hb) f s sc (h3.later hb)
  generalize inB f s sc l1 l3 = tin at CI CN
  have EA := hid fun w' (hb : Below w.heap.size w w') => err_same E1 w' (hL.below hb hlt)
  have EB := hid fun w' (hb : Below w.heap.size w w') => err_same E2 w' (hL.below hb hlt)
  have EC := hid fun w' (hb : Below w.heap.size w w') => err_same E3 w' (hL.below hb hlt)
  generalize errV E3 = v3 at CD EC
  replace CD := hid CD
  replace CO := hid CO
  replace CI := hid CI
  replace CN := hid CN
  generalize hv1 : errV E1 = v1 at CM EA
  generalize hv2 : errV E2 = v2 at CE EB
  replace CM := hid CM
  replace CE := hid CE
  replace CF := hid CF
  clear hv1 hv2 h1 h2 h3
  have w8 : IntKind.i64.wrap (8 * (n1 : Int)) = 8 * (n1 : Int) := IntWalk.i64_in _ (by omega)
  rcases CMd with ⟨hm, rfl, CMd⟩ | ⟨hm, rfl, rfl, rfl⟩ <;> rcases CB with ⟨rfl, CB⟩ | ⟨he2, rfl, rfl⟩
  case' inl.inl => replace CMd := hid CMd; replace CB := hid CB; have m0 : ¬ n < 0 := (by omega); have m1 : decide (n < 0) = false := decide_eq_false m0; have m2 : ¬ 8 * (n1 : Int) < n := (by omega); have m3 : decide (8 * (n1 : Int) < n) = false := decide_eq_false m2; clear hm
  case' inl.inr => replace CMd := hid CMd; have q0 : (E2 == 0) = false := (by rw [beq_eq_false_iff_ne]; exact he2); have m0 : ¬ n < 0 := (by omega); have m1 : decide (n < 0) = false := decide_eq_false m0; have m2 : ¬ 8 * (n1 : Int) < n := (by omega); have m3 : decide (8 * (n1 : Int) < n) = false := decide_eq_false m2; clear hm he2
  case' inr.inl => replace CB := hid CB; have hmm : n < 0 ∨ (0 ≤ n ∧ 8 * (n1 : Int) < n) := (by omega); clear hm; rcases hmm with m0 | ⟨m0', m2⟩
  case' inr.inr => have q0 : (E2 == 0) = false := (by rw [beq_eq_false_iff_ne]; exact he2); have hmm : n < 0 ∨ (0 ≤ n ∧ 8 * (n1 : Int) < n) := (by omega); clear hm he2; rcases hmm with m0 | ⟨m0', m2⟩
  case' inr.inl.inl => have m1 : decide (n < 0) = true := decide_eq_true m0
  case' inr.inr.inl => have m1 : decide (n < 0) = true := decide_eq_true m0
  case' inr.inl.inr => have m0 : ¬ n < 0 := (by omega); have m1 : decide (n < 0) = false := decide_eq_false m0; have m3 : decide (8 * (n1 : Int) < n) = true := decide_eq_true m2
  case' inr.inr.inr => have m0 : ¬ n < 0 := (by omega); have m1 : decide (n < 0) = false := decide_eq_false m0; have m3 : decide (8 * (n1 : Int) < n) = true := decide_eq_true m2
  all_goals
    have tk0 : True := trivial; have tk1 : True := trivial; have tk2 : True := trivial; have tk3 : True := trivial; have tk4 : True := trivial; have tk5 : True := trivial; have tk6 : True := trivial; have tk7 : True := trivial; have tk8 : True := trivial; have tk9 : True := trivial; have tk10 : True := trivial; have tk11 : True := trivial; have tk12 : True := trivial
    go_enter Tryd.func5, Tryd.ntmps5
    go_wp2_with (first
      | (go_at_call 21; have _t := tk1; (with_reducible refine (CMd.out _ (by (repeat' (first | (with_reducible exact Below.refl _ _) | (with_reducible assumption) | (with_reducible refine below_ext0 ?_ _ _) | (with_reducible refine below_alloc0 ?_ _) | (with_reducible refine Below.ext ?_ ?_ _ _) | (with_reducible refine Below.alloc ?_ ?_ _) | (with_reducible refine Below.setCell ?_ ?_ _) | (with_reducible refine Below.drew ?_) | (with_reducible refine below_draws ?_ _) | go_size | (simp [size_ext]; done) | (simp [size_ext]; omega))))).mono ?_); rintro e w1 ⟨Atk1, ctk1, rfl, hr, hb⟩; obtain ⟨otk1, dtk1, rfl⟩ := ext_of_below hb; (try simp only [ext_drew, ext_drewN] at hr); have R1 := hid hr; clear hr; clear hb tk1)
      | (go_at_call 22; have _t := tk2; (with_reducible refine (CM.out _ (by (repeat' (first | (with_reducible exact Below.refl _ _) | (with_reducible assumption) | (with_reducible refine below_ext0 ?_ _ _) | (with_reducible refine below_alloc0 ?_ _) | (with_reducible refine Below.ext ?_ ?_ _ _) | (with_reducible refine Below.alloc ?_ ?_ _) | (with_reducible refine Below.setCell ?_ ?_ _) | (with_reducible refine Below.drew ?_) | (with_reducible refine below_draws ?_ _) | go_size | (simp [size_ext]; done) | (simp [size_ext]; omega))))).mono ?_); rintro e w1 ⟨Atk2, ctk2, rfl, hr, hb⟩; obtain ⟨otk2, dtk2, rfl⟩ := ext_of_below hb; (try simp only [ext_drew, ext_drewN] at hr); have R2 := hid hr; clear hr; clear hb tk2)
      | (go_at_call 6; have _t := tk3; (with_reducible refine (EA.out _ (by (repeat' (first | (with_reducible exact Below.refl _ _) | (with_reducible assumption) | (with_reducible refine below_ext0 ?_ _ _) | (with_reducible refine below_alloc0 ?_ _) | (with_reducible refine Below.ext ?_ ?_ _ _) | (with_reducible refine Below.alloc ?_ ?_ _) | (with_reducible refine Below.setCell ?_ ?_ _) | (with_reducible refine Below.drew ?_) | (with_reducible refine below_draws ?_ _) | go_size | (simp [size_ext]; done) | (simp [size_ext]; omega))))).mono ?_); rintro e w1 ⟨rfl, hb⟩; obtain ⟨otk3, dtk3, rfl⟩ := ext_of_below hb; clear hb tk3)
      | (go_at_call 23; have _t := tk4; (with_reducible refine (bytes_yes' (R2.out.below (by (repeat' (first | (with_reducible exact Below.refl _ _) | (with_reducible assumption) | (with_reducible refine below_ext0 ?_ _ _) | (with_reducible refine below_alloc0 ?_ _) | (with_reducible refine Below.ext ?_ ?_ _ _) | (with_reducible refine Below.alloc ?_ ?_ _) | (with_reducible refine Below.setCell ?_ ?_ _) | (with_reducible refine Below.drew ?_) | (with_reducible refine below_draws ?_ _) | go_size | (simp [size_ext]; done) | (simp [size_ext]; omega))))) (R1.out.below (by (repeat' (first | (with_reducible exact Below.refl _ _) | (with_reducible assumption) | (with_reducible refine below_ext0 ?_ _ _) | (with_reducible refine below_alloc0 ?_ _) | (with_reducible refine Below.ext ?_ ?_ _ _) | (with_reducible refine Below.alloc ?_ ?_ _) | (with_reducible refine Below.setCell ?_ ?_ _) | (with_reducible refine Below.drew ?_) | (with_reducible refine below_draws ?_ _) | go_size | (simp [size_ext]; done) | (simp [size_ext]; omega)))))).mono ?_); rintro e w1 ⟨rfl, hb⟩; obtain ⟨otk4, dtk4, rfl⟩ := ext_of_below hb; clear hb tk4)
      | (go_at_call 23; have _t := tk4; (with_reducible refine (bytes_yes' (R2.out.below (by (repeat' (first | (with_reducible exact Below.refl _ _) | (with_reducible assumption) | (with_reducible refine below_ext0 ?_ _ _) | (with_reducible refine below_alloc0 ?_ _) | (with_reducible refine Below.ext ?_ ?_ _ _) | (with_reducible refine Below.alloc ?_ ?_ _) | (with_reducible refine Below.setCell ?_ ?_ _) | (with_reducible refine Below.drew ?_) | (with_reducible refine below_draws ?_ _) | go_size | (simp [size_ext]; done) | (simp [size_ext]; omega))))) (rd_nil _ 0)).mono ?_); rintro e w1 ⟨rfl, hb⟩; obtain ⟨otk4, dtk4, rfl⟩ := ext_of_below hb; clear hb tk4)
      | (go_at_call 24; have _t := tk5; (with_reducible refine (CF.out _).mono ?_); rintro e w1 ⟨rfl, hb⟩; obtain ⟨otk5, dtk5, rfl⟩ := ext_of_below hb; clear hb tk5)
      | (go_at_call 25; have _t := tk6; (with_reducible refine (CB.out _ (by (repeat' (first | (with_reducible exact Below.refl _ _) | (with_reducible assumption) | (with_reducible refine below_ext0 ?_ _ _) | (with_reducible refine below_alloc0 ?_ _) | (with_reducible refine Below.ext ?_ ?_ _ _) | (with_reducible refine Below.alloc ?_ ?_ _) | (with_reducible refine Below.setCell ?_ ?_ _) | (with_reducible refine Below.drew ?_) | (with_reducible refine below_draws ?_ _) | go_size | (simp [size_ext]; done) | (simp [size_ext]; omega))))).mono ?_); rintro e w1 ⟨Atk6, ctk6, rfl, hr, hb⟩; obtain ⟨otk6, dtk6, rfl⟩ := ext_of_below hb; (try simp only [ext_drew, ext_drewN] at hr); have R3 := hid hr; clear hr; clear hb tk6)
      | (go_at_call 26; have _t := tk7; (with_reducible refine (CE.out _ (by (repeat' (first | (with_reducible exact Below.refl _ _) | (with_reducible assumption) | (with_reducible refine below_ext0 ?_ _ _) | (with_reducible refine below_alloc0 ?_ _) | (with_reducible refine Below.ext ?_ ?_ _ _) | (with_reducible refine Below.alloc ?_ ?_ _) | (with_reducible refine Below.setCell ?_ ?_ _) | (with_reducible refine Below.drew ?_) | (with_reducible refine below_draws ?_ _) | go_size | (simp [size_ext]; done) | (simp [size_ext]; omega))))).mono ?_); rintro e w1 ⟨Atk7, ctk7, rfl, hr, hb⟩; obtain ⟨otk7, dtk7, rfl⟩ := ext_of_below hb; (try simp only [ext_drew, ext_drewN] at hr); have R4 := hid hr; clear hr; clear hb tk7)
      | (go_at_call 6; have _t := tk8; (with_reducible refine (EB.out _ (by (repeat' (first | (with_reducible exact Below.refl _ _) | (with_reducible assumption) | (with_reducible refine below_ext0 ?_ _ _) | (with_reducible refine below_alloc0 ?_ _) | (with_reducible refine Below.ext ?_ ?_ _ _) | (with_reducible refine Below.alloc ?_ ?_ _) | (with_reducible refine Below.setCell ?_ ?_ _) | (with_reducible refine Below.drew ?_) | (with_reducible refine below_draws ?_ _) | go_size | (simp [size_ext]; done) | (simp [size_ext]; omega))))).mono ?_); rintro e w1 ⟨rfl, hb⟩; obtain ⟨otk8, dtk8, rfl⟩ := ext_of_below hb; clear hb tk8)
      | (go_at_call 23; have _t := tk9; (with_reducible refine (bytes_yes' (R4.out.below (by (repeat' (first | (with_reducible exact Below.refl _ _) | (with_reducible assumption) | (with_reducible refine below_ext0 ?_ _ _) | (with_reducible refine below_alloc0 ?_ _) | (with_reducible refine Below.ext ?_ ?_ _ _) | (with_reducible refine Below.alloc ?_ ?_ _) | (with_reducible refine Below.setCell ?_ ?_ _) | (with_reducible refine Below.drew ?_) | (with_reducible refine below_draws ?_ _) | go_size | (simp [size_ext]; done) | (simp [size_ext]; omega))))) (R3.out.below (by (repeat' (first | (with_reducible exact Below.refl _ _) | (with_reducible assumption) | (with_reducible refine below_ext0 ?_ _ _) | (with_reducible refine below_alloc0 ?_ _) | (with_reducible refine Below.ext ?_ ?_ _ _) | (with_reducible refine Below.alloc ?_ ?_ _) | (with_reducible refine Below.setCell ?_ ?_ _) | (with_reducible refine Below.drew ?_) | (with_reducible refine below_draws ?_ _) | go_size | (simp [size_ext]; done) | (simp [size_ext]; omega)))))).mono ?_); rintro e w1 ⟨rfl, hb⟩; obtain ⟨otk9, dtk9, rfl⟩ := ext_of_below hb; clear hb tk9)
      | (go_at_call 23; have _t := tk9; (with_reducible refine (bytes_yes' (R4.out.below (by (repeat' (first | (with_reducible exact Below.refl _ _) | (with_reducible assumption) | (with_reducible refine below_ext0 ?_ _ _) | (with_reducible refine below_alloc0 ?_ _) | (with_reducible refine Below.ext ?_ ?_ _ _) | (with_reducible refine Below.alloc ?_ ?_ _) | (with_reducible refine Below.setCell ?_ ?_ _) | (with_reducible refine Below.drew ?_) | (with_reducible refine below_draws ?_ _) | go_size | (simp [size_ext]; done) | (simp [size_ext]; omega))))) (rd_nil _ 0)).mono ?_); rintro e w1 ⟨rfl, hb⟩; obtain ⟨otk9, dtk9, rfl⟩ := ext_of_below hb; clear hb tk9))
    refine wp_region_ext (by kernel_rfl) (by kernel_rfl) ?_
    repeat (go_big_quiet_step ((first | (go_at_call 27; with_reducible exact Calls.quiet_ext (CI.out _ (by ((first | (with_reducible refine exts_below ?_ ?_ _) | skip); (repeat' (first | (with_reducible exact Below.refl _ _) | (with_reducible assumption) | (with_reducible refine below_ext0 ?_ _ _) | (with_reducible refine below_alloc0 ?_ _) | (with_reducible refine Below.ext ?_ ?_ _ _) | (with_reducible refine Below.alloc ?_ ?_ _) | (with_reducible refine Below.setCell ?_ ?_ _) | (with_reducible refine Below.drew ?_) | (with_reducible refine below_draws ?_ _) | go_size | (simp [size_ext]; done) | (simp [size_ext]; omega))))))) | (go_at_call 28; with_reducible exact Calls.quiet_ext (CN.out _ (by ((first | (with_reducible refine exts_below ?_ ?_ _) | skip); (repeat' (first | (with_reducible exact Below.refl _ _) | (with_reducible assumption) | (with_reducible refine below_ext0 ?_ _ _) | (with_reducible refine below_alloc0 ?_ _) | (with_reducible refine Below.ext ?_ ?_ _ _) | (with_reducible refine Below.alloc ?_ ?_ _) | (with_reducible refine Below.setCell ?_ ?_ _) | (with_reducible refine Below.drew ?_) | (with_reducible refine below_draws ?_ _) | go_size | (simp [size_ext]; done) | (simp [size_ext]; omega))))))))))
    refine wpQuiet_nil ?_
    rintro _ ⟨⟨os, d⟩, rfl⟩
    simp only [exts]
    go_wp2_with (first
      | (go_at_call 29; have _t := tk12; (with_reducible refine (CO.out _ (by (repeat' (first | (with_reducible exact Below.refl _ _) | (with_reducible assumption) | (with_reducible refine below_ext0 ?_ _ _) | (with_reducible refine below_alloc0 ?_ _) | (with_reducible refine Below.ext ?_ ?_ _ _) | (with_reducible refine Below.alloc ?_ ?_ _) | (with_reducible refine Below.setCell ?_ ?_ _) | (with_reducible refine Below.drew ?_) | (with_reducible refine below_draws ?_ _) | go_size | (simp [size_ext]; done) | (simp [size_ext]; omega))))).mono ?_); rintro e w1 ⟨Atk12, ctk12, rfl, hr, hb⟩; obtain ⟨otk12, dtk12, rfl⟩ := ext_of_below hb; (try simp only [ext_drew, ext_drewN] at hr); have R5 := hid hr; clear hr; clear hb tk12)
      | (go_at_call 30; have _t := tk0; (with_reducible refine (CD.out _ (by (repeat' (first | (with_reducible exact Below.refl _ _) | (with_reducible assumption) | (with_reducible refine below_ext0 ?_ _ _) | (with_reducible refine below_alloc0 ?_ _) | (with_reducible refine Below.ext ?_ ?_ _ _) | (with_reducible refine Below.alloc ?_ ?_ _) | (with_reducible refine Below.setCell ?_ ?_ _) | (with_reducible refine Below.drew ?_) | (with_reducible refine below_draws ?_ _) | go_size | (simp [size_ext]; done) | (simp [size_ext]; omega))))).mono ?_); rintro e w1 ⟨Atk0, ctk0, rfl, hr, hb⟩; obtain ⟨otk0, dtk0, rfl⟩ := ext_of_below hb; (try simp only [ext_drew, ext_drewN] at hr); have R6 := hid hr; clear hr; clear hb tk0)
      | (go_at_call 6; have _t := tk10; (with_reducible refine (EC.out _ (by (repeat' (first | (with_reducible exact Below.refl _ _) | (with_reducible assumption) | (with_reducible refine below_ext0 ?_ _ _) | (with_reducible refine below_alloc0 ?_ _) | (with_reducible refine Below.ext ?_ ?_ _ _) | (with_reducible refine Below.alloc ?_ ?_ _) | (with_reducible refine Below.setCell ?_ ?_ _) | (with_reducible refine Below.drew ?_) | (with_reducible refine below_draws ?_ _) | go_size | (simp [size_ext]; done) | (simp [size_ext]; omega))))).mono ?_); rintro e w1 ⟨rfl, hb⟩; obtain ⟨otk10, dtk10, rfl⟩ := ext_of_below hb; clear hb tk10)
      | (go_at_call 31; have _t := tk11; (with_reducible refine (subnetBack.nets_same _ _ _ _ _ _ _ _ _ _ _ (R5.out.later (by (repeat' (first | (with_reducible exact Below.refl _ _) | (with_reducible assumption) | (with_reducible refine below_ext0 ?_ _ _) | (with_reducible refine below_alloc0 ?_ _) | (with_reducible refine Below.ext ?_ ?_ _ _) | (with_reducible refine Below.alloc ?_ ?_ _) | (with_reducible refine Below.setCell ?_ ?_ _) | (with_reducible refine Below.drew ?_) | (with_reducible refine below_draws ?_ _) | go_size | (simp [size_ext]; done) | (simp [size_ext]; omega))))) (R6.out.later (by (repeat' (first | (with_reducible exact Below.refl _ _) | (with_reducible assumption) | (with_reducible refine below_ext0 ?_ _ _) | (with_reducible refine below_alloc0 ?_ _) | (with_reducible refine Below.ext ?_ ?_ _ _) | (with_reducible refine Below.alloc ?_ ?_ _) | (with_reducible refine Below.setCell ?_ ?_ _) | (with_reducible refine Below.drew ?_) | (with_reducible refine below_draws ?_ _) | go_size | (simp [size_ext]; done) | (simp [size_ext]; omega)))))).mono ?_); rintro e w1 ⟨rfl, hb⟩; obtain ⟨otk11, dtk11, rfl⟩ := ext_of_below hb; clear hb tk11))
    go_ret
    exact ⟨by first | rfl | (simp; done), by (repeat' (first | (with_reducible exact Below.refl _ _) | (with_reducible assumption) | (with_reducible refine below_ext0 ?_ _ _) | (with_reducible refine below_alloc0 ?_ _) | (with_reducible refine Below.ext ?_ ?_ _ _) | (with_reducible refine Below.alloc ?_ ?_ _) | (with_reducible refine Below.setCell ?_ ?_ _) | (with_reducible refine Below.drew ?_) | (with_reducible refine below_draws ?_ _) | go_size | (simp [size_ext]; done) | (simp [size_ext]; omega)))⟩

set_option maxRecDepth 100000 in
theorem contract (H : Type) (enc : TypeId × Value → H) (W : World) (base : Nat) (args : Array Value) (ds gs : List (DataW H)) (before : List MemPlace)
    (hval : ∀ (j : Nat) t v, Tryd.f5.params[j]? = some t → args[j]? = some v → Value.okWide Tryd.prog W .any base t v)
    (hW : DataW.Whole enc Tryd.prog Tryd.f5.params.toList Rows.subnetTellsSpec.vars false W args.toList ds gs before) (hsz : (DataW.weightsEach Tryd.prog (Tryd.f5.params.toList ++ Rows.subnetTellsSpec.plain.varTypes Tryd.prog) (ds ++ gs)).all (· ≤ reachBytes) = true) (hL : Laid W) :
    Calls Tryd.prog 5 args W fun e W' => ∃ v, e = .returned v ∧ Rows.subnetTellsSpec.post enc Tryd.prog Tryd.f5 false true false false W args v W' := by
  have hW' := hW
  obtain ⟨p, q, hA0, hV, rfl, hfz, hnd⟩ := hW
  have hA : DataW.TrodAll enc Tryd.prog W 0 (fun _ => true) true Tryd.f5.params.toList args.toList ds p := hA0
  rw [Tryd.params5] at hA hval hsz
  obtain ⟨v0, vs0, d0, ds0, p0, q0, hargs, rfl, rfl, k0, r0⟩ := trodAll_cons hA
  obtain ⟨v1, vs1, d1, ds1, p1, q1, rfl, rfl, rfl, k1, r1⟩ := trodAll_cons r0
  obtain ⟨v2, vs2, d2, ds2, p2, q2, rfl, rfl, rfl, k2, r2⟩ := trodAll_cons r1
  obtain ⟨v3, vs3, d3, ds3, p3, q3, rfl, rfl, rfl, k3, r3⟩ := trodAll_cons r2
  obtain ⟨rfl, rfl, rfl⟩ := trodAll_nil r3
  obtain rfl : args = #[v0, v1, v2, v3] := by cases args; simp_all
  obtain ⟨rfl, rfl⟩ := trodVars_none hV
  have lt0 : ∀ x ∈ p0, x.block < W.heap.size := by obtain ⟨m, hm⟩ := k0; exact DataW.trod_lt m _ _ _ hm
  have lt1 : ∀ x ∈ p1, x.block < W.heap.size := by obtain ⟨m, hm⟩ := k1; exact DataW.trod_lt m _ _ _ hm
  have lt2 : ∀ x ∈ p2, x.block < W.heap.size := by obtain ⟨m, hm⟩ := k2; exact DataW.trod_lt m _ _ _ hm
  have lt3 : ∀ x ∈ p3, x.block < W.heap.size := by obtain ⟨m, hm⟩ := k3; exact DataW.trod_lt m _ _ _ hm
  have hsz' : ∀ k ∈ _, k ≤ reachBytes := fun k hk => of_decide_eq_true (List.all_eq_true.1 hsz k hk)
  have u0 : ∀ k ∈ d0.weights Tryd.prog 44, k ≤ reachBytes := fun k hk => hsz' k (by simp [DataW.weightsEach, hk])
  have u1 : ∀ k ∈ d1.weights Tryd.prog 3, k ≤ reachBytes := fun k hk => hsz' k (by simp [DataW.weightsEach, hk])
  have u2 : ∀ k ∈ d2.weights Tryd.prog 56, k ≤ reachBytes := fun k hk => hsz' k (by simp [DataW.weightsEach, hk])
  have u3 : ∀ k ∈ d3.weights Tryd.prog 44, k ≤ reachBytes := fun k hk => hsz' k (by simp [DataW.weightsEach, hk])
  obtain ⟨A0, n0, c0, l0, rfl, w0, z0⟩ := arg_slice Tryd.underlying44 (opens_slice Tryd.underlying44 (opens_u8 Tryd.underlying5) (by kernel_rfl) (by decide) (of_decide_eq_true (by kernel_rfl))) (hval 0 44 v0 rfl rfl) k0 u0
  obtain ⟨a1, rfl, w1, z1⟩ := arg_int Tryd.underlying3 (hval 1 3 v1 rfl rfl) k1 u1
  obtain ⟨x2, cs2, rfl, w2, z2⟩ := arg_struct Tryd.underlying56 opens_subnet (hval 2 56 v2 rfl rfl) k2 u2
  obtain ⟨A3, n3, c3, l3, rfl, w3, z3⟩ := arg_slice Tryd.underlying44 (opens_slice Tryd.underlying44 (opens_u8 Tryd.underlying5) (by kernel_rfl) (by decide) (of_decide_eq_true (by kernel_rfl))) (hval 3 44 v3 rfl rfl) k3 u3
  clear hA0 hA
  refine (walk W hL A0 n0 c0 l0 w0 a1 w1 x2 cs2 w2 A3 n3 c3 l3 w3).mono fun e W' ⟨he, bel⟩ => ?_
  subst he
  exact ⟨_, rfl, _, _, _, [], _, [], hW', trodAll_mk1 (shut_bool Tryd.underlying4 _), (trodAll_cons_mk (Below.trod laidOut (by kernel_rfl) (of_decide_eq_true (by kernel_rfl)) k0 bel lt0) (trodAll_cons_mk (Below.trod laidOut (by kernel_rfl) (of_decide_eq_true (by kernel_rfl)) k1 bel lt1) (trodAll_cons_mk (Below.trod laidOut (by kernel_rfl) (of_decide_eq_true (by kernel_rfl)) k2 bel lt2) (trodAll_cons_mk (Below.trod laidOut (by kernel_rfl) (of_decide_eq_true (by kernel_rfl)) k3 bel lt3) trodAll_mk0)))), rfl, bel.frame _, fun h => by cases h⟩

set_option maxRecDepth 100000 in
theorem lifted (os : Os) (started : os.Started) (H : Type) (enc : TypeId × Value → H) :
    ReturnsInHanded {} Tryd.checked os 5 .any (fun w args => (Rows.subnetTellsSpec.pre enc Tryd.prog Tryd.f5 [] false w args ∧ laidMetH Tryd.prog laidL w) ∧ sizedMet enc Tryd.prog Tryd.f5 (OpenSpec.ofChange Rows.subnetTellsSpec) false w args) (Rows.subnetTellsSpec.post enc Tryd.prog Tryd.f5 false true false false) := by
  refine returnsInHanded_of_change_and (C := Tryd.checked) (X := fun w _ => laidMetH Tryd.prog laidL w) (fun _ _ _ hh h => h.of_heap hh) own started (by kernel_rfl) Tryd.func5
    (ChangeSpec.witness_at (enc := enc) (C := Tryd.checked) (os := os) (X := fun w _ => laidMetH Tryd.prog laidL w) false (laidWorld os) #[.slice none 0 0, .int .i64 0, .agg #[.int .i64 0, .int .i64 0, .int .i64 0, .slice none 0 0], .slice none 0 0] 8 rfl (by kernel_rfl) (by kernel_rfl) (by kernel_rfl) (by kernel_rfl) (by kernel_rfl) (laidWorld_met os _)) ?_
  intro W base args ds gs before hval hW _ hsz hL _
  exact contract H enc W base args ds gs before hval hW hsz (laid_of hL)

set_option maxRecDepth 100000 in
theorem said : Rows.SubnetTellsSaid :=
  OpenClaim.holds_of_wide 5 Tryd.f5 rfl rfl rfl rfl rfl rfl rfl ⟨rfl, rfl, rfl, rfl, rfl⟩ rfl rfl rfl rfl rfl (by kernel_rfl) Tryd.func5 (by kernel_rfl)
    (of_decide_eq_true (by kernel_rfl)) (by unfold Func.isWrapper; first | (rw [if_pos (by decide +kernel)]; kernel_rfl) | (rw [if_neg (by decide +kernel)]; exact ⟨rfl, rfl⟩))
    (fun os started H enc _ => lifted os started H enc)
set_option maxRecDepth 100000 in
/-- the statement: the tied card -/
theorem proved : Rows.SubnetTellsCardSaid :=
  Claim7.holds_tied_plain_at .later [] [.handle] true (true, "df0c2fda799b29952eb4d8e308b8fffc052671a95d9ea74bea9bf22128061645") true said (fun _ h => by cases h) (by kernel_rfl) (fun _ h => by cases h) subnetTells_row_tie rfl ⟨rfl, rfl⟩ (by kernel_rfl) rfl
    (fun f fn hf hfn => by
      obtain rfl : f = 5 := Option.some.inj ((show Tryd.prog.funcNamed "pointsman/pointsmanlaw2.SubnetTells" = some 5 by kernel_rfl).symm.trans hf) |>.symm
      obtain rfl : fn = Tryd.f5 := (Option.some.inj (Tryd.func5.symm.trans hfn)).symm
      exact ⟨by kernel_rfl, fun j t ht => no_stand (by kernel_rfl) j t ht⟩)
    (by kernel_rfl)

end subnetTells
end Go.Proofs.YtbpflpmhnmdeoaaDoor
