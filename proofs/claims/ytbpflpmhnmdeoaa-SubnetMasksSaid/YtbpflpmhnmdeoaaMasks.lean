/- SubnetMasks is true of every input: masked by one number and then by another one an address is masked by the less; who is in a subnet is in each with less of it; two addresses are in one just if they are alike, masked. No condition. -/
import Derived.Test.YtbpflpmhnmdeoaaInAny
import Derived.Test.YtbpflpmhnmdeoaaEncode
import Derived.OpenShut
import Derived.JoinedCond
namespace Go.Proofs.Ytbpflpmhnmdeoaa
open Go.ChangeShapes Go.WideShapes Go.ChangeAt Go.RowKit
set_option linter.unusedVariables false
namespace subnetMasks

theorem Encode_good (w : World) (f s sc : Int) (A : Option Addr) (n c : Nat) (l : List UInt8) (h : Rd u8R w w.heap.size A n c l) (k : SOk f s sc n) :
    Calls Try.prog 27 #[subnetV f s sc A n c] w fun e w' => ∃ A' m' c', e = .returned (.tuple #[.slice A' m' c', .nilIface]) ∧ Below w.heap.size w w' :=
  (Encode_ok w f s sc A n c l h k).mono fun e w' ⟨A', m', c', he, _, hb⟩ => ⟨A', m', c', he, hb⟩

set_option maxRecDepth 100000 in
set_option maxHeartbeats 8000000 in
theorem walk_bad (w : World) (A1 : Option Addr) (n1 c1 : Nat) (l1 : List UInt8) (h1 : Rd u8R w w.heap.size A1 n1 c1 l1) (A2 : Option Addr) (n2 c2 : Nat) (l2 : List UInt8) (h2 : Rd u8R w w.heap.size A2 n2 c2 l2) (m n fam : Int)
    (hbad : ¬ (0 ≤ m ∧ m ≤ 8 * (n1 : Int)) ∨ (0 ≤ m ∧ m ≤ 8 * (n1 : Int) ∧ ¬ (0 ≤ n ∧ n ≤ 8 * (n1 : Int)))) :
    Calls Try.prog 9 #[.slice A1 n1 c1, .slice A2 n2 c2, .int .i64 m, .int .i64 n, .int .i64 fam] w fun e w' => e = .returned (.bool true) ∧ Below w.heap.size w w' := by
  have lim := h1.lim
  simp only [u8R, Nat.mul_one] at lim
  have CK := hid masked_true
  have tk0 : True := trivial; have tk1 : True := trivial; have tk2 : True := trivial; have tk3 : True := trivial; have tk4 : True := trivial; have tk5 : True := trivial; have tk6 : True := trivial; have tk7 : True := trivial; have tk8 : True := trivial; have tk9 : True := trivial; have tk10 : True := trivial; have tk11 : True := trivial; have tk12 : True := trivial
  rcases hbad with hb | ⟨m0, m1, hb⟩
  · have C1 := hid fun w' => Mask_bad w' A1 n1 c1 lim m hb
    clear hb h1 h2
    go_enter Try.func9, Try.ntmps9
    go_wp2_with (first | (go_at_call 23; have _t := tk0; refine (CK.out _).mono ?_; rintro e w1 ⟨rfl, hb⟩; obtain ⟨otk0, dtk0, rfl⟩ := ext_of_below hb; clear hb tk0) | (go_at_call 25; have _t := tk1; refine (C1.out _).mono ?_; rintro e w1 ⟨rfl, hb⟩; obtain ⟨otk1, dtk1, rfl⟩ := ext_of_below hb; clear hb tk1))
    go_ret
    exact ⟨rfl, by (repeat' (first | (with_reducible exact Below.refl _ _) | (with_reducible assumption) | (with_reducible refine Below.ext ?_ ?_ _ _) | (with_reducible refine Below.alloc ?_ ?_ _) | (with_reducible refine Below.setCell ?_ ?_ _) | (with_reducible refine Below.drew ?_) | (with_reducible refine below_draws ?_ _) | go_size | (simp [size_ext]; done) | (simp [size_ext]; omega)))⟩
  · have C1 := hid fun w' (hb : Below w.heap.size w w') => Mask_ok w' A1 n1 c1 l1 _ (h1.later hb) m m0 m1
    have C2 := hid fun w' A c => Mask_bad w' A n1 c lim n hb
    clear hb h1 h2
    go_enter Try.func9, Try.ntmps9
    go_wp2_with (first | (go_at_call 23; have _t := tk0; refine (CK.out _).mono ?_; rintro e w1 ⟨rfl, hb⟩; obtain ⟨otk0, dtk0, rfl⟩ := ext_of_below hb; clear hb tk0) | (go_at_call 25; have _t := tk1; refine (C1.out _ (by (repeat' (first | (with_reducible exact Below.refl _ _) | (with_reducible assumption) | (with_reducible refine Below.ext ?_ ?_ _ _) | (with_reducible refine Below.alloc ?_ ?_ _) | (with_reducible refine Below.setCell ?_ ?_ _) | (with_reducible refine Below.drew ?_) | (with_reducible refine below_draws ?_ _) | go_size | (simp [size_ext]; done) | (simp [size_ext]; omega))))).mono ?_; rintro e w1 ⟨Atk1, ctk1, rfl, hr, hb⟩; obtain ⟨otk1, dtk1, rfl⟩ := ext_of_below hb; (try simp only [ext_drew, ext_drewN] at hr); have R1 := hid hr; clear hr; clear hb tk1) | (go_at_call 25; have _t := tk2; refine (C2.out _ _ _).mono ?_; rintro e w1 ⟨rfl, hb⟩; obtain ⟨otk2, dtk2, rfl⟩ := ext_of_below hb; clear hb tk2))
    go_ret
    exact ⟨rfl, by (repeat' (first | (with_reducible exact Below.refl _ _) | (with_reducible assumption) | (with_reducible refine Below.ext ?_ ?_ _ _) | (with_reducible refine Below.alloc ?_ ?_ _) | (with_reducible refine Below.setCell ?_ ?_ _) | (with_reducible refine Below.drew ?_) | (with_reducible refine below_draws ?_ _) | go_size | (simp [size_ext]; done) | (simp [size_ext]; omega)))⟩

set_option maxRecDepth 100000 in
set_option maxHeartbeats 16000000 in
theorem walk_ok (w : World) (A1 : Option Addr) (n1 c1 : Nat) (l1 : List UInt8) (h1 : Rd u8R w w.heap.size A1 n1 c1 l1) (A2 : Option Addr) (n2 c2 : Nat) (l2 : List UInt8) (h2 : Rd u8R w w.heap.size A2 n2 c2 l2) (m n fam : Int)
    (m0 : 0 ≤ m) (m1 : m ≤ 8 * (n1 : Int)) (k0 : 0 ≤ n) (k1 : n ≤ 8 * (n1 : Int)) (mm : Int) (hmm : (n < m ∧ mm = n) ∨ (¬ n < m ∧ mm = m)) :
    Calls Try.prog 9 #[.slice A1 n1 c1, .slice A2 n2 c2, .int .i64 m, .int .i64 n, .int .i64 fam] w fun e w' => e = .returned (.bool true) ∧ Below w.heap.size w w' := by
  have lim2 := h2.lim
  simp only [u8R, Nat.mul_one] at lim2
  have lim1 := h1.lim
  simp only [u8R, Nat.mul_one] at lim1
  have e1 := h1.len
  have e2 := h2.len
  have CK := hid masked_true
  have C1 := hid fun w' (hb : Below w.heap.size w w') => Mask_ok w' A1 n1 c1 l1 _ (h1.later hb) m m0 m1
  have hmask : maskL (maskL l1 m) n = maskL l1 mm := by
    rw [maskL_maskL]
    rcases hmm with ⟨h, rfl⟩ | ⟨h, rfl⟩
    · rw [if_neg (by omega)]
    · rw [if_pos (by omega)]
  have HM := hid hmask
  have C3 := hid fun w' (hb : Below w.heap.size w w') => Mask_ok w' A1 n1 c1 l1 _ (h1.later hb) mm (by omega) (by omega)
  have C4 := fun w' (hb : Below w.heap.size w w') => In_any w' A2 n2 c2 l2 (h2.later hb) fam m 0 A1 n1 c1 l1 (h1.later hb)
  have C5 := fun w' (hb : Below w.heap.size w w') => In_any w' A2 n2 c2 l2 (h2.later hb) fam mm 0 A1 n1 c1 l1 (h1.later hb)
  have C8 := fun w' (hb : Below w.heap.size w w') => In_any w' A1 n1 c1 l1 (h1.later hb) fam m 0 A1 n1 c1 l1 (h1.later hb)
  have C6a := fun k => hid fun w' (hb : Below w.heap.size w w') => Encode_good w' fam m 0 A1 n1 c1 l1 (h1.later hb) k
  have C6b := fun k => hid fun w' => Encode_bad w' fam m 0 A1 n1 c1 k
  have hless : inB fam m 0 l2 l1 = true → inB fam mm 0 l2 l1 = true := by
    intro hb
    obtain ⟨k, e, hm⟩ := inB_iff.1 hb
    have h4 := k.s1
    exact inB_iff.2 ⟨⟨k.fam, by omega, by omega, k.sc0, k.sc1⟩, e, maskL_less hm (by omega)⟩
  have hself : SOk fam m 0 n1 → inB fam m 0 l1 l1 = true := fun k => inB_iff.2 ⟨e1 ▸ k, rfl, rfl⟩
  have hno : ¬ SOk fam m 0 n1 → inB fam m 0 l2 l1 = false := fun k => by
    rw [← Bool.not_eq_true, inB_iff, e1]
    exact fun h => k h.1
  have hyes : SOk fam m 0 n1 → inB fam m 0 l2 l1 = (decide (n1 = n2) && decide (maskL l2 m = maskL l1 m)) := fun k => by
    unfold inB
    rw [e1, e2, decide_eq_true k]
    by_cases e : n1 = n2
    · simp [e]
    · simp [e, Ne.symm e]
  have C7a := fun w' (hb : Below w.heap.size w w') (h : m ≤ 8 * (n2 : Int)) => Mask_ok w' A2 n2 c2 l2 _ (h2.later hb) m m0 h
  have C7b := fun w' (h : 8 * (n2 : Int) < m) => Mask_bad w' A2 n2 c2 lim2 m (by omega)
  clear h1 h2 e1 e2 hmask
  have tk0 : True := trivial; have tk1 : True := trivial; have tk2 : True := trivial; have tk3 : True := trivial; have tk4 : True := trivial; have tk5 : True := trivial; have tk6 : True := trivial; have tk7 : True := trivial; have tk8 : True := trivial; have tk9 : True := trivial; have tk10 : True := trivial; have tk11 : True := trivial; have tk12 : True := trivial
  by_cases hk : SOk fam m 0 n1
  · rw [hyes hk] at C4 hless
    rw [hself hk] at C8
    have C6 := C6a hk
    clear hyes hself hno hk C6a C6b
    have C8 := hid C8
    have ways : (8 * (n2 : Int) < m ∧ decide (n1 = n2) = false) ∨ (m ≤ 8 * (n2 : Int) ∧ decide (n1 = n2) = false) ∨ (n1 = n2 ∧ m ≤ 8 * (n2 : Int)) := by
      by_cases h : m ≤ 8 * (n2 : Int)
      · by_cases e : n1 = n2
        · exact .inr (.inr ⟨e, h⟩)
        · exact .inr (.inl ⟨h, by simp [e]⟩)
      · exact .inl ⟨by omega, by simp; omega⟩
    rcases ways with ⟨h, e⟩ | ⟨h, e⟩ | ⟨rfl, h⟩
    · rw [e] at C4
      simp only [Bool.false_and] at C4
      have C4 := hid C4
      have C7 := hid fun w' => C7b w' h
      clear hless e C5 C7a C7b h
      have hall : ∀ a b : List UInt8, ∃ al, decide (a = b) = al := fun a b => ⟨_, rfl⟩
      obtain ⟨al, hal⟩ := hall [] (maskL l1 m)
      have HAL := hid hal
      clear hal hall
      rcases hmm with ⟨hmn, rfl⟩ | ⟨hmn, rfl⟩
      all_goals
        go_enter Try.func9, Try.ntmps9
        go_wp2_with (first
          | (go_at_call 23; have _t := tk0; refine (CK.out _).mono ?_; rintro e w1 ⟨rfl, hb⟩; obtain ⟨otk0, dtk0, rfl⟩ := ext_of_below hb; clear hb tk0)
          | (go_at_call 25; have _t := tk1; refine (C1.out _ (by (repeat' (first | (with_reducible exact Below.refl _ _) | (with_reducible assumption) | (with_reducible refine Below.ext ?_ ?_ _ _) | (with_reducible refine Below.alloc ?_ ?_ _) | (with_reducible refine Below.setCell ?_ ?_ _) | (with_reducible refine Below.drew ?_) | (with_reducible refine below_draws ?_ _) | go_size | (simp [size_ext]; done) | (simp [size_ext]; omega))))).mono ?_; rintro e w1 ⟨Atk1, ctk1, rfl, hr, hb⟩; obtain ⟨otk1, dtk1, rfl⟩ := ext_of_below hb; (try simp only [ext_drew, ext_drewN] at hr); have R1 := hid hr; clear hr; clear hb tk1)
          | (go_at_call 25; have _t := tk2; refine (Mask_ok _ _ _ _ _ _ (R1.out.below (by (repeat' (first | (with_reducible exact Below.refl _ _) | (with_reducible assumption) | (with_reducible refine Below.ext ?_ ?_ _ _) | (with_reducible refine Below.alloc ?_ ?_ _) | (with_reducible refine Below.setCell ?_ ?_ _) | (with_reducible refine Below.drew ?_) | (with_reducible refine below_draws ?_ _) | go_size | (simp [size_ext]; done) | (simp [size_ext]; omega))))) _ k0 k1).mono ?_; rintro e w1 ⟨A', c', rfl, hr, hb⟩; rw [HM.out] at hr; obtain ⟨otk2, dtk2, rfl⟩ := ext_of_below hb; (try simp only [ext_drew, ext_drewN] at hr); have R2 := hid hr; clear hr; clear hb tk2)
          | (go_at_call 25; have _t := tk3; refine (C3.out _ (by (repeat' (first | (with_reducible exact Below.refl _ _) | (with_reducible assumption) | (with_reducible refine Below.ext ?_ ?_ _ _) | (with_reducible refine Below.alloc ?_ ?_ _) | (with_reducible refine Below.setCell ?_ ?_ _) | (with_reducible refine Below.drew ?_) | (with_reducible refine below_draws ?_ _) | go_size | (simp [size_ext]; done) | (simp [size_ext]; omega))))).mono ?_; rintro e w1 ⟨Atk3, ctk3, rfl, hr, hb⟩; obtain ⟨otk3, dtk3, rfl⟩ := ext_of_below hb; (try simp only [ext_drew, ext_drewN] at hr); have R3 := hid hr; clear hr; clear hb tk3)
          | (go_at_call 26; have _t := tk4; refine (bytes_any _ _ _ _ _ _ (R2.out.below (by (repeat' (first | (with_reducible exact Below.refl _ _) | (with_reducible assumption) | (with_reducible refine Below.ext ?_ ?_ _ _) | (with_reducible refine Below.alloc ?_ ?_ _) | (with_reducible refine Below.setCell ?_ ?_ _) | (with_reducible refine Below.drew ?_) | (with_reducible refine below_draws ?_ _) | go_size | (simp [size_ext]; done) | (simp [size_ext]; omega))))) _ _ _ _ _ (R3.out.below (by (repeat' (first | (with_reducible exact Below.refl _ _) | (with_reducible assumption) | (with_reducible refine Below.ext ?_ ?_ _ _) | (with_reducible refine Below.alloc ?_ ?_ _) | (with_reducible refine Below.setCell ?_ ?_ _) | (with_reducible refine Below.drew ?_) | (with_reducible refine below_draws ?_ _) | go_size | (simp [size_ext]; done) | (simp [size_ext]; omega)))))).mono ?_; rw [decide_eq_true rfl]; rintro e w1 ⟨rfl, hb⟩; obtain ⟨otk4, dtk4, rfl⟩ := ext_of_below hb; clear hb tk4)
          | (go_at_call 24; have _t := tk5; refine (C4.out _ (by (repeat' (first | (with_reducible exact Below.refl _ _) | (with_reducible assumption) | (with_reducible refine Below.ext ?_ ?_ _ _) | (with_reducible refine Below.alloc ?_ ?_ _) | (with_reducible refine Below.setCell ?_ ?_ _) | (with_reducible refine Below.drew ?_) | (with_reducible refine below_draws ?_ _) | go_size | (simp [size_ext]; done) | (simp [size_ext]; omega))))).mono ?_; rintro e w1 ⟨rfl, hb⟩; obtain ⟨otk5, dtk5, rfl⟩ := ext_of_below hb; clear hb tk5)
          | (go_at_call 27; refine (C6.out _ (by (repeat' (first | (with_reducible exact Below.refl _ _) | (with_reducible assumption) | (with_reducible refine Below.ext ?_ ?_ _ _) | (with_reducible refine Below.alloc ?_ ?_ _) | (with_reducible refine Below.setCell ?_ ?_ _) | (with_reducible refine Below.drew ?_) | (with_reducible refine below_draws ?_ _) | go_size | (simp [size_ext]; done) | (simp [size_ext]; omega))))).mono ?_; rintro e w1 ⟨A', m', c', rfl, hb⟩; obtain ⟨os, d, rfl⟩ := ext_of_below hb; clear hb)
          | (go_at_call 25; have _t := tk6; refine (C7.out _).mono ?_; rintro e w1 ⟨rfl, hb⟩; obtain ⟨otk6, dtk6, rfl⟩ := ext_of_below hb; clear hb tk6)
          | (go_at_call 26; have _t := tk7; refine (bytes_any _ _ _ _ _ _ (rd_nil _ 0) _ _ _ _ _ (R1.out.below (by (repeat' (first | (with_reducible exact Below.refl _ _) | (with_reducible assumption) | (with_reducible refine Below.ext ?_ ?_ _ _) | (with_reducible refine Below.alloc ?_ ?_ _) | (with_reducible refine Below.setCell ?_ ?_ _) | (with_reducible refine Below.drew ?_) | (with_reducible refine below_draws ?_ _) | go_size | (simp [size_ext]; done) | (simp [size_ext]; omega)))))).mono ?_; rw [HAL.out]; rintro e w1 ⟨rfl, hb⟩; obtain ⟨otk7, dtk7, rfl⟩ := ext_of_below hb; clear hb tk7))
        refine wp_region_ext (by kernel_rfl) (by kernel_rfl) ?_
        repeat (go_big_quiet_step ((first | (go_at_call 24; with_reducible exact Calls.quiet_ext (C8.out _ (by ((first | (with_reducible refine exts_below ?_ ?_ _) | skip); (repeat' (first | (with_reducible exact Below.refl _ _) | (with_reducible assumption) | (with_reducible refine Below.ext ?_ ?_ _ _) | (with_reducible refine Below.alloc ?_ ?_ _) | (with_reducible refine Below.setCell ?_ ?_ _) | (with_reducible refine Below.drew ?_) | (with_reducible refine below_draws ?_ _) | go_size | (simp [size_ext]; done) | (simp [size_ext]; omega))))))) | (go_at_call 24; with_reducible exact Calls.quiet_ext (C4.out _ (by ((first | (with_reducible refine exts_below ?_ ?_ _) | skip); (repeat' (first | (with_reducible exact Below.refl _ _) | (with_reducible assumption) | (with_reducible refine Below.ext ?_ ?_ _ _) | (with_reducible refine Below.alloc ?_ ?_ _) | (with_reducible refine Below.setCell ?_ ?_ _) | (with_reducible refine Below.drew ?_) | (with_reducible refine below_draws ?_ _) | go_size | (simp [size_ext]; done) | (simp [size_ext]; omega))))))))))
        refine wpQuiet_nil ?_
        rintro _ ⟨⟨os, d⟩, rfl⟩
        simp only [exts]
        go_wp2
        go_ret
        exact ⟨rfl, by (repeat' (first | (with_reducible exact Below.refl _ _) | (with_reducible assumption) | (with_reducible refine Below.ext ?_ ?_ _ _) | (with_reducible refine Below.alloc ?_ ?_ _) | (with_reducible refine Below.setCell ?_ ?_ _) | (with_reducible refine Below.drew ?_) | (with_reducible refine below_draws ?_ _) | go_size | (simp [size_ext]; done) | (simp [size_ext]; omega)))⟩
    · rw [e] at C4
      simp only [Bool.false_and] at C4
      have C4 := hid C4
      have C7 := hid fun w' hb => C7a w' hb h
      obtain ⟨al, hal⟩ : ∃ al, decide (maskL l2 m = maskL l1 m) = al := ⟨_, rfl⟩
      have HAL := hid hal
      have e' : ((n1 : Int) == (n2 : Int)) = false := by rw [beq_eq_false_iff_ne]; simp at e; omega
      have e'' : (n1 == n2) = false := by rw [beq_eq_false_iff_ne]; simp at e; omega
      have e3 : decide (n1 = n2) = false := e
      clear hless e C5 C7a C7b h hal
      rcases hmm with ⟨hmn, rfl⟩ | ⟨hmn, rfl⟩
      all_goals
        go_enter Try.func9, Try.ntmps9
        go_wp2_with (first
          | (go_at_call 23; have _t := tk0; refine (CK.out _).mono ?_; rintro e w1 ⟨rfl, hb⟩; obtain ⟨otk0, dtk0, rfl⟩ := ext_of_below hb; clear hb tk0)
          | (go_at_call 25; have _t := tk1; refine (C1.out _ (by (repeat' (first | (with_reducible exact Below.refl _ _) | (with_reducible assumption) | (with_reducible refine Below.ext ?_ ?_ _ _) | (with_reducible refine Below.alloc ?_ ?_ _) | (with_reducible refine Below.setCell ?_ ?_ _) | (with_reducible refine Below.drew ?_) | (with_reducible refine below_draws ?_ _) | go_size | (simp [size_ext]; done) | (simp [size_ext]; omega))))).mono ?_; rintro e w1 ⟨Atk1, ctk1, rfl, hr, hb⟩; obtain ⟨otk1, dtk1, rfl⟩ := ext_of_below hb; (try simp only [ext_drew, ext_drewN] at hr); have R1 := hid hr; clear hr; clear hb tk1)
          | (go_at_call 25; have _t := tk2; refine (Mask_ok _ _ _ _ _ _ (R1.out.below (by (repeat' (first | (with_reducible exact Below.refl _ _) | (with_reducible assumption) | (with_reducible refine Below.ext ?_ ?_ _ _) | (with_reducible refine Below.alloc ?_ ?_ _) | (with_reducible refine Below.setCell ?_ ?_ _) | (with_reducible refine Below.drew ?_) | (with_reducible refine below_draws ?_ _) | go_size | (simp [size_ext]; done) | (simp [size_ext]; omega))))) _ k0 k1).mono ?_; rintro e w1 ⟨A', c', rfl, hr, hb⟩; rw [HM.out] at hr; obtain ⟨otk2, dtk2, rfl⟩ := ext_of_below hb; (try simp only [ext_drew, ext_drewN] at hr); have R2 := hid hr; clear hr; clear hb tk2)
          | (go_at_call 25; have _t := tk3; refine (C3.out _ (by (repeat' (first | (with_reducible exact Below.refl _ _) | (with_reducible assumption) | (with_reducible refine Below.ext ?_ ?_ _ _) | (with_reducible refine Below.alloc ?_ ?_ _) | (with_reducible refine Below.setCell ?_ ?_ _) | (with_reducible refine Below.drew ?_) | (with_reducible refine below_draws ?_ _) | go_size | (simp [size_ext]; done) | (simp [size_ext]; omega))))).mono ?_; rintro e w1 ⟨Atk3, ctk3, rfl, hr, hb⟩; obtain ⟨otk3, dtk3, rfl⟩ := ext_of_below hb; (try simp only [ext_drew, ext_drewN] at hr); have R3 := hid hr; clear hr; clear hb tk3)
          | (go_at_call 26; have _t := tk4; refine (bytes_any _ _ _ _ _ _ (R2.out.below (by (repeat' (first | (with_reducible exact Below.refl _ _) | (with_reducible assumption) | (with_reducible refine Below.ext ?_ ?_ _ _) | (with_reducible refine Below.alloc ?_ ?_ _) | (with_reducible refine Below.setCell ?_ ?_ _) | (with_reducible refine Below.drew ?_) | (with_reducible refine below_draws ?_ _) | go_size | (simp [size_ext]; done) | (simp [size_ext]; omega))))) _ _ _ _ _ (R3.out.below (by (repeat' (first | (with_reducible exact Below.refl _ _) | (with_reducible assumption) | (with_reducible refine Below.ext ?_ ?_ _ _) | (with_reducible refine Below.alloc ?_ ?_ _) | (with_reducible refine Below.setCell ?_ ?_ _) | (with_reducible refine Below.drew ?_) | (with_reducible refine below_draws ?_ _) | go_size | (simp [size_ext]; done) | (simp [size_ext]; omega)))))).mono ?_; rw [decide_eq_true rfl]; rintro e w1 ⟨rfl, hb⟩; obtain ⟨otk4, dtk4, rfl⟩ := ext_of_below hb; clear hb tk4)
          | (go_at_call 24; have _t := tk5; refine (C4.out _ (by (repeat' (first | (with_reducible exact Below.refl _ _) | (with_reducible assumption) | (with_reducible refine Below.ext ?_ ?_ _ _) | (with_reducible refine Below.alloc ?_ ?_ _) | (with_reducible refine Below.setCell ?_ ?_ _) | (with_reducible refine Below.drew ?_) | (with_reducible refine below_draws ?_ _) | go_size | (simp [size_ext]; done) | (simp [size_ext]; omega))))).mono ?_; rintro e w1 ⟨rfl, hb⟩; obtain ⟨otk5, dtk5, rfl⟩ := ext_of_below hb; clear hb tk5)
          | (go_at_call 27; refine (C6.out _ (by (repeat' (first | (with_reducible exact Below.refl _ _) | (with_reducible assumption) | (with_reducible refine Below.ext ?_ ?_ _ _) | (with_reducible refine Below.alloc ?_ ?_ _) | (with_reducible refine Below.setCell ?_ ?_ _) | (with_reducible refine Below.drew ?_) | (with_reducible refine below_draws ?_ _) | go_size | (simp [size_ext]; done) | (simp [size_ext]; omega))))).mono ?_; rintro e w1 ⟨A', m', c', rfl, hb⟩; obtain ⟨os, d, rfl⟩ := ext_of_below hb; clear hb)
          | (go_at_call 25; have _t := tk6; refine (C7.out _ (by (repeat' (first | (with_reducible exact Below.refl _ _) | (with_reducible assumption) | (with_reducible refine Below.ext ?_ ?_ _ _) | (with_reducible refine Below.alloc ?_ ?_ _) | (with_reducible refine Below.setCell ?_ ?_ _) | (with_reducible refine Below.drew ?_) | (with_reducible refine below_draws ?_ _) | go_size | (simp [size_ext]; done) | (simp [size_ext]; omega))))).mono ?_; rintro e w1 ⟨Atk6, ctk6, rfl, hr, hb⟩; obtain ⟨otk6, dtk6, rfl⟩ := ext_of_below hb; (try simp only [ext_drew, ext_drewN] at hr); have R4 := hid hr; clear hr; clear hb tk6)
          | (go_at_call 26; have _t := tk7; refine (bytes_any _ _ _ _ _ _ (R4.out.below (by (repeat' (first | (with_reducible exact Below.refl _ _) | (with_reducible assumption) | (with_reducible refine Below.ext ?_ ?_ _ _) | (with_reducible refine Below.alloc ?_ ?_ _) | (with_reducible refine Below.setCell ?_ ?_ _) | (with_reducible refine Below.drew ?_) | (with_reducible refine below_draws ?_ _) | go_size | (simp [size_ext]; done) | (simp [size_ext]; omega))))) _ _ _ _ _ (R1.out.below (by (repeat' (first | (with_reducible exact Below.refl _ _) | (with_reducible assumption) | (with_reducible refine Below.ext ?_ ?_ _ _) | (with_reducible refine Below.alloc ?_ ?_ _) | (with_reducible refine Below.setCell ?_ ?_ _) | (with_reducible refine Below.drew ?_) | (with_reducible refine below_draws ?_ _) | go_size | (simp [size_ext]; done) | (simp [size_ext]; omega)))))).mono ?_; rw [HAL.out]; rintro e w1 ⟨rfl, hb⟩; obtain ⟨otk7, dtk7, rfl⟩ := ext_of_below hb; clear hb tk7))
        refine wp_region_ext (by kernel_rfl) (by kernel_rfl) ?_
        repeat (go_big_quiet_step ((first | (go_at_call 24; with_reducible exact Calls.quiet_ext (C8.out _ (by ((first | (with_reducible refine exts_below ?_ ?_ _) | skip); (repeat' (first | (with_reducible exact Below.refl _ _) | (with_reducible assumption) | (with_reducible refine Below.ext ?_ ?_ _ _) | (with_reducible refine Below.alloc ?_ ?_ _) | (with_reducible refine Below.setCell ?_ ?_ _) | (with_reducible refine Below.drew ?_) | (with_reducible refine below_draws ?_ _) | go_size | (simp [size_ext]; done) | (simp [size_ext]; omega))))))) | (go_at_call 24; with_reducible exact Calls.quiet_ext (C4.out _ (by ((first | (with_reducible refine exts_below ?_ ?_ _) | skip); (repeat' (first | (with_reducible exact Below.refl _ _) | (with_reducible assumption) | (with_reducible refine Below.ext ?_ ?_ _ _) | (with_reducible refine Below.alloc ?_ ?_ _) | (with_reducible refine Below.setCell ?_ ?_ _) | (with_reducible refine Below.drew ?_) | (with_reducible refine below_draws ?_ _) | go_size | (simp [size_ext]; done) | (simp [size_ext]; omega))))))))))
        refine wpQuiet_nil ?_
        rintro _ ⟨⟨os, d⟩, rfl⟩
        simp only [exts]
        go_wp2
        go_ret
        exact ⟨rfl, by (repeat' (first | (with_reducible exact Below.refl _ _) | (with_reducible assumption) | (with_reducible refine Below.ext ?_ ?_ _ _) | (with_reducible refine Below.alloc ?_ ?_ _) | (with_reducible refine Below.setCell ?_ ?_ _) | (with_reducible refine Below.drew ?_) | (with_reducible refine below_draws ?_ _) | go_size | (simp [size_ext]; done) | (simp [size_ext]; omega)))⟩
    · simp only [decide_true, Bool.true_and] at C4 hless
      have C7 := hid fun w' hb => C7a w' hb h
      obtain ⟨al, hal⟩ : ∃ al, decide (maskL l2 m = maskL l1 m) = al := ⟨_, rfl⟩
      rw [hal] at C4 hless
      have HAL := hid hal
      have e' : ((n1 : Int) == (n1 : Int)) = true := beq_self_eq_true _
      have C4 := hid C4
      clear C7a C7b h hal
      cases al
      · clear hless C5
        rcases hmm with ⟨hmn, rfl⟩ | ⟨hmn, rfl⟩
        all_goals
          go_enter Try.func9, Try.ntmps9
          go_wp2_with (first
            | (go_at_call 23; have _t := tk0; refine (CK.out _).mono ?_; rintro e w1 ⟨rfl, hb⟩; obtain ⟨otk0, dtk0, rfl⟩ := ext_of_below hb; clear hb tk0)
            | (go_at_call 25; have _t := tk1; refine (C1.out _ (by (repeat' (first | (with_reducible exact Below.refl _ _) | (with_reducible assumption) | (with_reducible refine Below.ext ?_ ?_ _ _) | (with_reducible refine Below.alloc ?_ ?_ _) | (with_reducible refine Below.setCell ?_ ?_ _) | (with_reducible refine Below.drew ?_) | (with_reducible refine below_draws ?_ _) | go_size | (simp [size_ext]; done) | (simp [size_ext]; omega))))).mono ?_; rintro e w1 ⟨Atk1, ctk1, rfl, hr, hb⟩; obtain ⟨otk1, dtk1, rfl⟩ := ext_of_below hb; (try simp only [ext_drew, ext_drewN] at hr); have R1 := hid hr; clear hr; clear hb tk1)
            | (go_at_call 25; have _t := tk2; refine (Mask_ok _ _ _ _ _ _ (R1.out.below (by (repeat' (first | (with_reducible exact Below.refl _ _) | (with_reducible assumption) | (with_reducible refine Below.ext ?_ ?_ _ _) | (with_reducible refine Below.alloc ?_ ?_ _) | (with_reducible refine Below.setCell ?_ ?_ _) | (with_reducible refine Below.drew ?_) | (with_reducible refine below_draws ?_ _) | go_size | (simp [size_ext]; done) | (simp [size_ext]; omega))))) _ k0 k1).mono ?_; rintro e w1 ⟨A', c', rfl, hr, hb⟩; rw [HM.out] at hr; obtain ⟨otk2, dtk2, rfl⟩ := ext_of_below hb; (try simp only [ext_drew, ext_drewN] at hr); have R2 := hid hr; clear hr; clear hb tk2)
            | (go_at_call 25; have _t := tk3; refine (C3.out _ (by (repeat' (first | (with_reducible exact Below.refl _ _) | (with_reducible assumption) | (with_reducible refine Below.ext ?_ ?_ _ _) | (with_reducible refine Below.alloc ?_ ?_ _) | (with_reducible refine Below.setCell ?_ ?_ _) | (with_reducible refine Below.drew ?_) | (with_reducible refine below_draws ?_ _) | go_size | (simp [size_ext]; done) | (simp [size_ext]; omega))))).mono ?_; rintro e w1 ⟨Atk3, ctk3, rfl, hr, hb⟩; obtain ⟨otk3, dtk3, rfl⟩ := ext_of_below hb; (try simp only [ext_drew, ext_drewN] at hr); have R3 := hid hr; clear hr; clear hb tk3)
            | (go_at_call 26; have _t := tk4; refine (bytes_any _ _ _ _ _ _ (R2.out.below (by (repeat' (first | (with_reducible exact Below.refl _ _) | (with_reducible assumption) | (with_reducible refine Below.ext ?_ ?_ _ _) | (with_reducible refine Below.alloc ?_ ?_ _) | (with_reducible refine Below.setCell ?_ ?_ _) | (with_reducible refine Below.drew ?_) | (with_reducible refine below_draws ?_ _) | go_size | (simp [size_ext]; done) | (simp [size_ext]; omega))))) _ _ _ _ _ (R3.out.below (by (repeat' (first | (with_reducible exact Below.refl _ _) | (with_reducible assumption) | (with_reducible refine Below.ext ?_ ?_ _ _) | (with_reducible refine Below.alloc ?_ ?_ _) | (with_reducible refine Below.setCell ?_ ?_ _) | (with_reducible refine Below.drew ?_) | (with_reducible refine below_draws ?_ _) | go_size | (simp [size_ext]; done) | (simp [size_ext]; omega)))))).mono ?_; rw [decide_eq_true rfl]; rintro e w1 ⟨rfl, hb⟩; obtain ⟨otk4, dtk4, rfl⟩ := ext_of_below hb; clear hb tk4)
            | (go_at_call 24; have _t := tk5; refine (C4.out _ (by (repeat' (first | (with_reducible exact Below.refl _ _) | (with_reducible assumption) | (with_reducible refine Below.ext ?_ ?_ _ _) | (with_reducible refine Below.alloc ?_ ?_ _) | (with_reducible refine Below.setCell ?_ ?_ _) | (with_reducible refine Below.drew ?_) | (with_reducible refine below_draws ?_ _) | go_size | (simp [size_ext]; done) | (simp [size_ext]; omega))))).mono ?_; rintro e w1 ⟨rfl, hb⟩; obtain ⟨otk5, dtk5, rfl⟩ := ext_of_below hb; clear hb tk5)
            | (go_at_call 27; refine (C6.out _ (by (repeat' (first | (with_reducible exact Below.refl _ _) | (with_reducible assumption) | (with_reducible refine Below.ext ?_ ?_ _ _) | (with_reducible refine Below.alloc ?_ ?_ _) | (with_reducible refine Below.setCell ?_ ?_ _) | (with_reducible refine Below.drew ?_) | (with_reducible refine below_draws ?_ _) | go_size | (simp [size_ext]; done) | (simp [size_ext]; omega))))).mono ?_; rintro e w1 ⟨A', m', c', rfl, hb⟩; obtain ⟨os, d, rfl⟩ := ext_of_below hb; clear hb)
            | (go_at_call 25; have _t := tk6; refine (C7.out _ (by (repeat' (first | (with_reducible exact Below.refl _ _) | (with_reducible assumption) | (with_reducible refine Below.ext ?_ ?_ _ _) | (with_reducible refine Below.alloc ?_ ?_ _) | (with_reducible refine Below.setCell ?_ ?_ _) | (with_reducible refine Below.drew ?_) | (with_reducible refine below_draws ?_ _) | go_size | (simp [size_ext]; done) | (simp [size_ext]; omega))))).mono ?_; rintro e w1 ⟨Atk6, ctk6, rfl, hr, hb⟩; obtain ⟨otk6, dtk6, rfl⟩ := ext_of_below hb; (try simp only [ext_drew, ext_drewN] at hr); have R4 := hid hr; clear hr; clear hb tk6)
            | (go_at_call 26; have _t := tk7; refine (bytes_any _ _ _ _ _ _ (R4.out.below (by (repeat' (first | (with_reducible exact Below.refl _ _) | (with_reducible assumption) | (with_reducible refine Below.ext ?_ ?_ _ _) | (with_reducible refine Below.alloc ?_ ?_ _) | (with_reducible refine Below.setCell ?_ ?_ _) | (with_reducible refine Below.drew ?_) | (with_reducible refine below_draws ?_ _) | go_size | (simp [size_ext]; done) | (simp [size_ext]; omega))))) _ _ _ _ _ (R1.out.below (by (repeat' (first | (with_reducible exact Below.refl _ _) | (with_reducible assumption) | (with_reducible refine Below.ext ?_ ?_ _ _) | (with_reducible refine Below.alloc ?_ ?_ _) | (with_reducible refine Below.setCell ?_ ?_ _) | (with_reducible refine Below.drew ?_) | (with_reducible refine below_draws ?_ _) | go_size | (simp [size_ext]; done) | (simp [size_ext]; omega)))))).mono ?_; rw [HAL.out]; rintro e w1 ⟨rfl, hb⟩; obtain ⟨otk7, dtk7, rfl⟩ := ext_of_below hb; clear hb tk7))
          refine wp_region_ext (by kernel_rfl) (by kernel_rfl) ?_
          repeat (go_big_quiet_step ((first | (go_at_call 24; with_reducible exact Calls.quiet_ext (C8.out _ (by ((first | (with_reducible refine exts_below ?_ ?_ _) | skip); (repeat' (first | (with_reducible exact Below.refl _ _) | (with_reducible assumption) | (with_reducible refine Below.ext ?_ ?_ _ _) | (with_reducible refine Below.alloc ?_ ?_ _) | (with_reducible refine Below.setCell ?_ ?_ _) | (with_reducible refine Below.drew ?_) | (with_reducible refine below_draws ?_ _) | go_size | (simp [size_ext]; done) | (simp [size_ext]; omega))))))) | (go_at_call 24; with_reducible exact Calls.quiet_ext (C4.out _ (by ((first | (with_reducible refine exts_below ?_ ?_ _) | skip); (repeat' (first | (with_reducible exact Below.refl _ _) | (with_reducible assumption) | (with_reducible refine Below.ext ?_ ?_ _ _) | (with_reducible refine Below.alloc ?_ ?_ _) | (with_reducible refine Below.setCell ?_ ?_ _) | (with_reducible refine Below.drew ?_) | (with_reducible refine below_draws ?_ _) | go_size | (simp [size_ext]; done) | (simp [size_ext]; omega))))))))))
          refine wpQuiet_nil ?_
          rintro _ ⟨⟨os, d⟩, rfl⟩
          simp only [exts]
          go_wp2
          go_ret
          exact ⟨rfl, by (repeat' (first | (with_reducible exact Below.refl _ _) | (with_reducible assumption) | (with_reducible refine Below.ext ?_ ?_ _ _) | (with_reducible refine Below.alloc ?_ ?_ _) | (with_reducible refine Below.setCell ?_ ?_ _) | (with_reducible refine Below.drew ?_) | (with_reducible refine below_draws ?_ _) | go_size | (simp [size_ext]; done) | (simp [size_ext]; omega)))⟩
      · rw [hless rfl] at C5
        have C5 := hid C5
        clear hless
        rcases hmm with ⟨hmn, rfl⟩ | ⟨hmn, rfl⟩
        all_goals
          go_enter Try.func9, Try.ntmps9
          go_wp2_with (first
            | (go_at_call 23; have _t := tk0; refine (CK.out _).mono ?_; rintro e w1 ⟨rfl, hb⟩; obtain ⟨otk0, dtk0, rfl⟩ := ext_of_below hb; clear hb tk0)
            | (go_at_call 25; have _t := tk1; refine (C1.out _ (by (repeat' (first | (with_reducible exact Below.refl _ _) | (with_reducible assumption) | (with_reducible refine Below.ext ?_ ?_ _ _) | (with_reducible refine Below.alloc ?_ ?_ _) | (with_reducible refine Below.setCell ?_ ?_ _) | (with_reducible refine Below.drew ?_) | (with_reducible refine below_draws ?_ _) | go_size | (simp [size_ext]; done) | (simp [size_ext]; omega))))).mono ?_; rintro e w1 ⟨Atk1, ctk1, rfl, hr, hb⟩; obtain ⟨otk1, dtk1, rfl⟩ := ext_of_below hb; (try simp only [ext_drew, ext_drewN] at hr); have R1 := hid hr; clear hr; clear hb tk1)
            | (go_at_call 25; have _t := tk2; refine (Mask_ok _ _ _ _ _ _ (R1.out.below (by (repeat' (first | (with_reducible exact Below.refl _ _) | (with_reducible assumption) | (with_reducible refine Below.ext ?_ ?_ _ _) | (with_reducible refine Below.alloc ?_ ?_ _) | (with_reducible refine Below.setCell ?_ ?_ _) | (with_reducible refine Below.drew ?_) | (with_reducible refine below_draws ?_ _) | go_size | (simp [size_ext]; done) | (simp [size_ext]; omega))))) _ k0 k1).mono ?_; rintro e w1 ⟨A', c', rfl, hr, hb⟩; rw [HM.out] at hr; obtain ⟨otk2, dtk2, rfl⟩ := ext_of_below hb; (try simp only [ext_drew, ext_drewN] at hr); have R2 := hid hr; clear hr; clear hb tk2)
            | (go_at_call 25; have _t := tk3; refine (C3.out _ (by (repeat' (first | (with_reducible exact Below.refl _ _) | (with_reducible assumption) | (with_reducible refine Below.ext ?_ ?_ _ _) | (with_reducible refine Below.alloc ?_ ?_ _) | (with_reducible refine Below.setCell ?_ ?_ _) | (with_reducible refine Below.drew ?_) | (with_reducible refine below_draws ?_ _) | go_size | (simp [size_ext]; done) | (simp [size_ext]; omega))))).mono ?_; rintro e w1 ⟨Atk3, ctk3, rfl, hr, hb⟩; obtain ⟨otk3, dtk3, rfl⟩ := ext_of_below hb; (try simp only [ext_drew, ext_drewN] at hr); have R3 := hid hr; clear hr; clear hb tk3)
            | (go_at_call 26; have _t := tk4; refine (bytes_any _ _ _ _ _ _ (R2.out.below (by (repeat' (first | (with_reducible exact Below.refl _ _) | (with_reducible assumption) | (with_reducible refine Below.ext ?_ ?_ _ _) | (with_reducible refine Below.alloc ?_ ?_ _) | (with_reducible refine Below.setCell ?_ ?_ _) | (with_reducible refine Below.drew ?_) | (with_reducible refine below_draws ?_ _) | go_size | (simp [size_ext]; done) | (simp [size_ext]; omega))))) _ _ _ _ _ (R3.out.below (by (repeat' (first | (with_reducible exact Below.refl _ _) | (with_reducible assumption) | (with_reducible refine Below.ext ?_ ?_ _ _) | (with_reducible refine Below.alloc ?_ ?_ _) | (with_reducible refine Below.setCell ?_ ?_ _) | (with_reducible refine Below.drew ?_) | (with_reducible refine below_draws ?_ _) | go_size | (simp [size_ext]; done) | (simp [size_ext]; omega)))))).mono ?_; rw [decide_eq_true rfl]; rintro e w1 ⟨rfl, hb⟩; obtain ⟨otk4, dtk4, rfl⟩ := ext_of_below hb; clear hb tk4)
            | (go_at_call 24; have _t := tk5; refine (C4.out _ (by (repeat' (first | (with_reducible exact Below.refl _ _) | (with_reducible assumption) | (with_reducible refine Below.ext ?_ ?_ _ _) | (with_reducible refine Below.alloc ?_ ?_ _) | (with_reducible refine Below.setCell ?_ ?_ _) | (with_reducible refine Below.drew ?_) | (with_reducible refine below_draws ?_ _) | go_size | (simp [size_ext]; done) | (simp [size_ext]; omega))))).mono ?_; rintro e w1 ⟨rfl, hb⟩; obtain ⟨otk5, dtk5, rfl⟩ := ext_of_below hb; clear hb tk5)
            | (go_at_call 24; have _t := tk10; refine (C5.out _ (by (repeat' (first | (with_reducible exact Below.refl _ _) | (with_reducible assumption) | (with_reducible refine Below.ext ?_ ?_ _ _) | (with_reducible refine Below.alloc ?_ ?_ _) | (with_reducible refine Below.setCell ?_ ?_ _) | (with_reducible refine Below.drew ?_) | (with_reducible refine below_draws ?_ _) | go_size | (simp [size_ext]; done) | (simp [size_ext]; omega))))).mono ?_; rintro e w1 ⟨rfl, hb⟩; obtain ⟨otk10, dtk10, rfl⟩ := ext_of_below hb; clear hb tk10)
            | (go_at_call 27; refine (C6.out _ (by (repeat' (first | (with_reducible exact Below.refl _ _) | (with_reducible assumption) | (with_reducible refine Below.ext ?_ ?_ _ _) | (with_reducible refine Below.alloc ?_ ?_ _) | (with_reducible refine Below.setCell ?_ ?_ _) | (with_reducible refine Below.drew ?_) | (with_reducible refine below_draws ?_ _) | go_size | (simp [size_ext]; done) | (simp [size_ext]; omega))))).mono ?_; rintro e w1 ⟨A', m', c', rfl, hb⟩; obtain ⟨os, d, rfl⟩ := ext_of_below hb; clear hb)
            | (go_at_call 25; have _t := tk6; refine (C7.out _ (by (repeat' (first | (with_reducible exact Below.refl _ _) | (with_reducible assumption) | (with_reducible refine Below.ext ?_ ?_ _ _) | (with_reducible refine Below.alloc ?_ ?_ _) | (with_reducible refine Below.setCell ?_ ?_ _) | (with_reducible refine Below.drew ?_) | (with_reducible refine below_draws ?_ _) | go_size | (simp [size_ext]; done) | (simp [size_ext]; omega))))).mono ?_; rintro e w1 ⟨Atk6, ctk6, rfl, hr, hb⟩; obtain ⟨otk6, dtk6, rfl⟩ := ext_of_below hb; (try simp only [ext_drew, ext_drewN] at hr); have R4 := hid hr; clear hr; clear hb tk6)
            | (go_at_call 26; have _t := tk7; refine (bytes_any _ _ _ _ _ _ (R4.out.below (by (repeat' (first | (with_reducible exact Below.refl _ _) | (with_reducible assumption) | (with_reducible refine Below.ext ?_ ?_ _ _) | (with_reducible refine Below.alloc ?_ ?_ _) | (with_reducible refine Below.setCell ?_ ?_ _) | (with_reducible refine Below.drew ?_) | (with_reducible refine below_draws ?_ _) | go_size | (simp [size_ext]; done) | (simp [size_ext]; omega))))) _ _ _ _ _ (R1.out.below (by (repeat' (first | (with_reducible exact Below.refl _ _) | (with_reducible assumption) | (with_reducible refine Below.ext ?_ ?_ _ _) | (with_reducible refine Below.alloc ?_ ?_ _) | (with_reducible refine Below.setCell ?_ ?_ _) | (with_reducible refine Below.drew ?_) | (with_reducible refine below_draws ?_ _) | go_size | (simp [size_ext]; done) | (simp [size_ext]; omega)))))).mono ?_; rw [HAL.out]; rintro e w1 ⟨rfl, hb⟩; obtain ⟨otk7, dtk7, rfl⟩ := ext_of_below hb; clear hb tk7))
          refine wp_region_ext (by kernel_rfl) (by kernel_rfl) ?_
          repeat (go_big_quiet_step ((first | (go_at_call 24; with_reducible exact Calls.quiet_ext (C8.out _ (by ((first | (with_reducible refine exts_below ?_ ?_ _) | skip); (repeat' (first | (with_reducible exact Below.refl _ _) | (with_reducible assumption) | (with_reducible refine Below.ext ?_ ?_ _ _) | (with_reducible refine Below.alloc ?_ ?_ _) | (with_reducible refine Below.setCell ?_ ?_ _) | (with_reducible refine Below.drew ?_) | (with_reducible refine below_draws ?_ _) | go_size | (simp [size_ext]; done) | (simp [size_ext]; omega))))))) | (go_at_call 24; with_reducible exact Calls.quiet_ext (C4.out _ (by ((first | (with_reducible refine exts_below ?_ ?_ _) | skip); (repeat' (first | (with_reducible exact Below.refl _ _) | (with_reducible assumption) | (with_reducible refine Below.ext ?_ ?_ _ _) | (with_reducible refine Below.alloc ?_ ?_ _) | (with_reducible refine Below.setCell ?_ ?_ _) | (with_reducible refine Below.drew ?_) | (with_reducible refine below_draws ?_ _) | go_size | (simp [size_ext]; done) | (simp [size_ext]; omega))))))))))
          refine wpQuiet_nil ?_
          rintro _ ⟨⟨os, d⟩, rfl⟩
          simp only [exts]
          go_wp2
          go_ret
          exact ⟨rfl, by (repeat' (first | (with_reducible exact Below.refl _ _) | (with_reducible assumption) | (with_reducible refine Below.ext ?_ ?_ _ _) | (with_reducible refine Below.alloc ?_ ?_ _) | (with_reducible refine Below.setCell ?_ ?_ _) | (with_reducible refine Below.drew ?_) | (with_reducible refine below_draws ?_ _) | go_size | (simp [size_ext]; done) | (simp [size_ext]; omega)))⟩
  · rw [hno hk] at C4
    have C6 := C6b hk
    have C4 := hid C4
    clear hyes hself hno hless hk C5 C7a C7b C8 C6a C6b
    rcases hmm with ⟨hmn, rfl⟩ | ⟨hmn, rfl⟩
    all_goals
      go_enter Try.func9, Try.ntmps9
      go_wp2_with (first
        | (go_at_call 23; have _t := tk0; refine (CK.out _).mono ?_; rintro e w1 ⟨rfl, hb⟩; obtain ⟨otk0, dtk0, rfl⟩ := ext_of_below hb; clear hb tk0)
        | (go_at_call 25; have _t := tk1; refine (C1.out _ (by (repeat' (first | (with_reducible exact Below.refl _ _) | (with_reducible assumption) | (with_reducible refine Below.ext ?_ ?_ _ _) | (with_reducible refine Below.alloc ?_ ?_ _) | (with_reducible refine Below.setCell ?_ ?_ _) | (with_reducible refine Below.drew ?_) | (with_reducible refine below_draws ?_ _) | go_size | (simp [size_ext]; done) | (simp [size_ext]; omega))))).mono ?_; rintro e w1 ⟨Atk1, ctk1, rfl, hr, hb⟩; obtain ⟨otk1, dtk1, rfl⟩ := ext_of_below hb; (try simp only [ext_drew, ext_drewN] at hr); have R1 := hid hr; clear hr; clear hb tk1)
        | (go_at_call 25; have _t := tk2; refine (Mask_ok _ _ _ _ _ _ (R1.out.below (by (repeat' (first | (with_reducible exact Below.refl _ _) | (with_reducible assumption) | (with_reducible refine Below.ext ?_ ?_ _ _) | (with_reducible refine Below.alloc ?_ ?_ _) | (with_reducible refine Below.setCell ?_ ?_ _) | (with_reducible refine Below.drew ?_) | (with_reducible refine below_draws ?_ _) | go_size | (simp [size_ext]; done) | (simp [size_ext]; omega))))) _ k0 k1).mono ?_; rintro e w1 ⟨A', c', rfl, hr, hb⟩; rw [HM.out] at hr; obtain ⟨otk2, dtk2, rfl⟩ := ext_of_below hb; (try simp only [ext_drew, ext_drewN] at hr); have R2 := hid hr; clear hr; clear hb tk2)
        | (go_at_call 25; have _t := tk3; refine (C3.out _ (by (repeat' (first | (with_reducible exact Below.refl _ _) | (with_reducible assumption) | (with_reducible refine Below.ext ?_ ?_ _ _) | (with_reducible refine Below.alloc ?_ ?_ _) | (with_reducible refine Below.setCell ?_ ?_ _) | (with_reducible refine Below.drew ?_) | (with_reducible refine below_draws ?_ _) | go_size | (simp [size_ext]; done) | (simp [size_ext]; omega))))).mono ?_; rintro e w1 ⟨Atk3, ctk3, rfl, hr, hb⟩; obtain ⟨otk3, dtk3, rfl⟩ := ext_of_below hb; (try simp only [ext_drew, ext_drewN] at hr); have R3 := hid hr; clear hr; clear hb tk3)
        | (go_at_call 26; have _t := tk4; refine (bytes_any _ _ _ _ _ _ (R2.out.below (by (repeat' (first | (with_reducible exact Below.refl _ _) | (with_reducible assumption) | (with_reducible refine Below.ext ?_ ?_ _ _) | (with_reducible refine Below.alloc ?_ ?_ _) | (with_reducible refine Below.setCell ?_ ?_ _) | (with_reducible refine Below.drew ?_) | (with_reducible refine below_draws ?_ _) | go_size | (simp [size_ext]; done) | (simp [size_ext]; omega))))) _ _ _ _ _ (R3.out.below (by (repeat' (first | (with_reducible exact Below.refl _ _) | (with_reducible assumption) | (with_reducible refine Below.ext ?_ ?_ _ _) | (with_reducible refine Below.alloc ?_ ?_ _) | (with_reducible refine Below.setCell ?_ ?_ _) | (with_reducible refine Below.drew ?_) | (with_reducible refine below_draws ?_ _) | go_size | (simp [size_ext]; done) | (simp [size_ext]; omega)))))).mono ?_; rw [decide_eq_true rfl]; rintro e w1 ⟨rfl, hb⟩; obtain ⟨otk4, dtk4, rfl⟩ := ext_of_below hb; clear hb tk4)
        | (go_at_call 24; have _t := tk5; refine (C4.out _ (by (repeat' (first | (with_reducible exact Below.refl _ _) | (with_reducible assumption) | (with_reducible refine Below.ext ?_ ?_ _ _) | (with_reducible refine Below.alloc ?_ ?_ _) | (with_reducible refine Below.setCell ?_ ?_ _) | (with_reducible refine Below.drew ?_) | (with_reducible refine below_draws ?_ _) | go_size | (simp [size_ext]; done) | (simp [size_ext]; omega))))).mono ?_; rintro e w1 ⟨rfl, hb⟩; obtain ⟨otk5, dtk5, rfl⟩ := ext_of_below hb; clear hb tk5)
        | (go_at_call 27; refine (C6.out _).mono ?_; rintro e w1 ⟨rfl, hb⟩; obtain ⟨os, d, rfl⟩ := ext_of_below hb; clear hb)
        | (go_at_call 24; have _t := tk6; refine (C4.out _ (by (repeat' (first | (with_reducible exact Below.refl _ _) | (with_reducible assumption) | (with_reducible refine Below.ext ?_ ?_ _ _) | (with_reducible refine Below.alloc ?_ ?_ _) | (with_reducible refine Below.setCell ?_ ?_ _) | (with_reducible refine Below.drew ?_) | (with_reducible refine below_draws ?_ _) | go_size | (simp [size_ext]; done) | (simp [size_ext]; omega))))).mono ?_; rintro e w1 ⟨rfl, hb⟩; obtain ⟨otk6, dtk6, rfl⟩ := ext_of_below hb; clear hb tk6))
      go_ret
      exact ⟨rfl, by (repeat' (first | (with_reducible exact Below.refl _ _) | (with_reducible assumption) | (with_reducible refine Below.ext ?_ ?_ _ _) | (with_reducible refine Below.alloc ?_ ?_ _) | (with_reducible refine Below.setCell ?_ ?_ _) | (with_reducible refine Below.drew ?_) | (with_reducible refine below_draws ?_ _) | go_size | (simp [size_ext]; done) | (simp [size_ext]; omega)))⟩
set_option maxHeartbeats 1000000 in
theorem walk (w : World) (A1 : Option Addr) (n1 c1 : Nat) (l1 : List UInt8) (h1 : Rd u8R w w.heap.size A1 n1 c1 l1) (A2 : Option Addr) (n2 c2 : Nat) (l2 : List UInt8) (h2 : Rd u8R w w.heap.size A2 n2 c2 l2) (m : Int) (_ : I64 m) (n : Int) (_ : I64 n) (fam : Int) (_ : I64 fam) :
    Calls Try.prog 9 #[.slice A1 n1 c1, .slice A2 n2 c2, .int .i64 m, .int .i64 n, .int .i64 fam] w fun e w' => e = .returned (.bool true) ∧ Below w.heap.size w w' := by
  by_cases hm : 0 ≤ m ∧ m ≤ 8 * (n1 : Int)
  · by_cases hn : 0 ≤ n ∧ n ≤ 8 * (n1 : Int)
    · by_cases h : n < m
      · exact walk_ok w A1 n1 c1 l1 h1 A2 n2 c2 l2 h2 m n fam hm.1 hm.2 hn.1 hn.2 _ (.inl ⟨h, rfl⟩)
      · exact walk_ok w A1 n1 c1 l1 h1 A2 n2 c2 l2 h2 m n fam hm.1 hm.2 hn.1 hn.2 _ (.inr ⟨h, rfl⟩)
    · exact walk_bad w A1 n1 c1 l1 h1 A2 n2 c2 l2 h2 m n fam (.inr ⟨hm.1, hm.2, hn⟩)
  · exact walk_bad w A1 n1 c1 l1 h1 A2 n2 c2 l2 h2 m n fam (.inl hm)

theorem contract (H : Type) (enc : TypeId × Value → H) (W : World) (base : Nat) (args : Array Value) (ds gs : List (DataW H)) (before : List MemPlace)
    (hval : ∀ (j : Nat) t v, Try.f9.params[j]? = some t → args[j]? = some v → Value.okWide Try.prog W .any base t v)
    (hW : DataW.Whole enc Try.prog Try.f9.params.toList Rows.subnetMasksSpec.vars false W args.toList ds gs before) (hsz : (DataW.weightsEach Try.prog (Try.f9.params.toList ++ Rows.subnetMasksSpec.plain.varTypes Try.prog) (ds ++ gs)).all (· ≤ reachBytes) = true) :
    Calls Try.prog 9 args W fun e W' => ∃ v, e = .returned v ∧ Rows.subnetMasksSpec.post enc Try.prog Try.f9 false true false false W args v W' := by
  have hW' := hW
  obtain ⟨p, q, hA0, hV, rfl, hfz, hnd⟩ := hW
  have hA : DataW.TrodAll enc Try.prog W 0 (fun _ => true) true Try.f9.params.toList args.toList ds p := hA0
  rw [Try.params9] at hA hval hsz
  obtain ⟨v0, vs0, d0, ds0, p0, q0, hargs, rfl, rfl, k0, r0⟩ := trodAll_cons hA
  obtain ⟨v1, vs1, d1, ds1, p1, q1, rfl, rfl, rfl, k1, r1⟩ := trodAll_cons r0
  obtain ⟨v2, vs2, d2, ds2, p2, q2, rfl, rfl, rfl, k2, r2⟩ := trodAll_cons r1
  obtain ⟨v3, vs3, d3, ds3, p3, q3, rfl, rfl, rfl, k3, r3⟩ := trodAll_cons r2
  obtain ⟨v4, vs4, d4, ds4, p4, q4, rfl, rfl, rfl, k4, r4⟩ := trodAll_cons r3
  obtain ⟨rfl, rfl, rfl⟩ := trodAll_nil r4
  obtain rfl : args = #[v0, v1, v2, v3, v4] := by cases args; simp_all
  obtain ⟨rfl, rfl⟩ := trodVars_none hV
  have lt0 : ∀ x ∈ p0, x.block < W.heap.size := by obtain ⟨m, hm⟩ := k0; exact DataW.trod_lt m _ _ _ hm
  have lt1 : ∀ x ∈ p1, x.block < W.heap.size := by obtain ⟨m, hm⟩ := k1; exact DataW.trod_lt m _ _ _ hm
  have lt2 : ∀ x ∈ p2, x.block < W.heap.size := by obtain ⟨m, hm⟩ := k2; exact DataW.trod_lt m _ _ _ hm
  have lt3 : ∀ x ∈ p3, x.block < W.heap.size := by obtain ⟨m, hm⟩ := k3; exact DataW.trod_lt m _ _ _ hm
  have lt4 : ∀ x ∈ p4, x.block < W.heap.size := by obtain ⟨m, hm⟩ := k4; exact DataW.trod_lt m _ _ _ hm
  have hsz' : ∀ k ∈ _, k ≤ reachBytes := fun k hk => of_decide_eq_true (List.all_eq_true.1 hsz k hk)
  have u0 : ∀ k ∈ d0.weights Try.prog 36, k ≤ reachBytes := fun k hk => hsz' k (by simp [DataW.weightsEach, hk])
  have u1 : ∀ k ∈ d1.weights Try.prog 36, k ≤ reachBytes := fun k hk => hsz' k (by simp [DataW.weightsEach, hk])
  have u2 : ∀ k ∈ d2.weights Try.prog 3, k ≤ reachBytes := fun k hk => hsz' k (by simp [DataW.weightsEach, hk])
  have u3 : ∀ k ∈ d3.weights Try.prog 3, k ≤ reachBytes := fun k hk => hsz' k (by simp [DataW.weightsEach, hk])
  have u4 : ∀ k ∈ d4.weights Try.prog 3, k ≤ reachBytes := fun k hk => hsz' k (by simp [DataW.weightsEach, hk])
  obtain ⟨A0, n0, c0, l0, rfl, w0, z0⟩ := arg_slice Try.underlying36 (opens_slice Try.underlying36 (opens_u8 Try.underlying5) (by kernel_rfl) (by decide) (of_decide_eq_true (by kernel_rfl))) (hval 0 36 v0 rfl rfl) k0 u0
  obtain ⟨A1, n1, c1, l1, rfl, w1, z1⟩ := arg_slice Try.underlying36 (opens_slice Try.underlying36 (opens_u8 Try.underlying5) (by kernel_rfl) (by decide) (of_decide_eq_true (by kernel_rfl))) (hval 1 36 v1 rfl rfl) k1 u1
  obtain ⟨a2, rfl, w2, z2⟩ := arg_int Try.underlying3 (hval 2 3 v2 rfl rfl) k2 u2
  obtain ⟨a3, rfl, w3, z3⟩ := arg_int Try.underlying3 (hval 3 3 v3 rfl rfl) k3 u3
  obtain ⟨a4, rfl, w4, z4⟩ := arg_int Try.underlying3 (hval 4 3 v4 rfl rfl) k4 u4
  clear hA0 hA
  refine (walk W A0 n0 c0 l0 w0 A1 n1 c1 l1 w1 a2 w2 a3 w3 a4 w4).mono fun e W' ⟨he, bel⟩ => ?_
  subst he
  exact ⟨_, rfl, _, _, _, [], _, [], hW', trodAll_mk1 (shut_bool Try.underlying4 _), (trodAll_cons_mk (Below.trod laidOut (by kernel_rfl) (of_decide_eq_true (by kernel_rfl)) k0 bel lt0) (trodAll_cons_mk (Below.trod laidOut (by kernel_rfl) (of_decide_eq_true (by kernel_rfl)) k1 bel lt1) (trodAll_cons_mk (Below.trod laidOut (by kernel_rfl) (of_decide_eq_true (by kernel_rfl)) k2 bel lt2) (trodAll_cons_mk (Below.trod laidOut (by kernel_rfl) (of_decide_eq_true (by kernel_rfl)) k3 bel lt3) (trodAll_cons_mk (Below.trod laidOut (by kernel_rfl) (of_decide_eq_true (by kernel_rfl)) k4 bel lt4) trodAll_mk0))))), rfl, bel.frame _, fun h => by cases h⟩

set_option maxRecDepth 100000 in
theorem lifted (os : Os) (started : os.Started) (H : Type) (enc : TypeId × Value → H) :
    ReturnsInHanded {} Try.checked os 9 .any (Rows.subnetMasksSpec.pre6 enc Try.prog Try.f9 Rows.subnetMasksRow.domain false) (Rows.subnetMasksSpec.post enc Try.prog Try.f9 false true false false) := by
  refine returnsInHanded_of_change_sized (C := Try.checked) own started (by kernel_rfl) Try.func9
    (ChangeSpec.witness6 (enc := enc) (C := Try.checked) false ⟨#[], #[.slice none 0 0, .slice none 0 0, .int .i64 0, .int .i64 0, .int .i64 0], []⟩ 8 (by kernel_rfl) (by kernel_rfl) (by kernel_rfl) (by kernel_rfl)) ?_
  intro W base args ds gs before hval hW _ hsz _
  exact contract H enc W base args ds gs before hval hW hsz

/-- the statement -/
theorem proved : Rows.SubnetMasksSaid :=
  OpenClaim.holds_of_wide 9 Try.f9 rfl rfl rfl rfl rfl rfl rfl ⟨rfl, rfl, rfl, rfl, rfl⟩ rfl rfl rfl rfl rfl (by kernel_rfl) Try.func9 (by kernel_rfl)
    (of_decide_eq_true (by kernel_rfl)) (by unfold Func.isWrapper; first | (rw [if_pos (by decide +kernel)]; kernel_rfl) | (rw [if_neg (by decide +kernel)]; exact ⟨rfl, rfl⟩))
    (fun os started H enc _ => lifted os started H enc)

end subnetMasks
end Go.Proofs.Ytbpflpmhnmdeoaa
