/- Names: alike, Same, Fold, Under; two lists of texts. -/
import Derived.Test.YtemgbfppdopfbaaDoorNameA
import Derived.Lib.Bytealg
namespace Go.Proofs.YtemgbfppdopfbaaDoor
open Go.RowKit
set_option linter.unusedVariables false
set_option linter.unusedSimpArgs false

theorem str_beq (a b : ByteArray) : (a.toList == b.toList) = decide (a = b) := by
  rw [ByteArray.toList_eq, ByteArray.toList_eq, Bool.eq_iff_iff, beq_iff_eq, decide_eq_true_iff]
  constructor
  · intro h
    cases a; cases b
    simp only at h
    rw [Array.toList_inj.1 h]
  · intro h; rw [h]
theorem below_drawsN {B : Nat} {a w : World} (h : Below B a w) (n : Nat) : Below B a (w.drewN n) := ⟨h.os, h.tape, h.output, h.size, h.block⟩
theorem take_succ_map {α β : Type} {l : List α} {m : List β} {γ : Type} {f : α → γ} {g : β → γ} {k : Nat} (h : (l.take k).map f = (m.take k).map g) (hl : k < l.length) (hm : k < m.length) (he : f l[k] = g m[k]) : (l.take (k + 1)).map f = (m.take (k + 1)).map g := by
  rw [List.take_succ_eq_append_getElem hl, List.take_succ_eq_append_getElem hm, List.map_append, List.map_append, h]; simp [he]

theorem alike_any (s t : ByteArray) (hs : s.size ≤ 140737488355328) (ht : t.size ≤ 140737488355328) (w : World) :
    Calls Tryd.prog 75 #[.string s, .string t] w fun e w' => e = .returned (.bool (decide (smallS s = smallS t))) ∧ Below w.heap.size w w' := by
  have C1 := hid (small_any s hs)
  have C2 := hid (small_any t ht)
  clear hs ht
  have tk0 : True := trivial; have tk1 : True := trivial; have tk2 : True := trivial; have tk3 : True := trivial; have tk4 : True := trivial; have tk5 : True := trivial; have tk6 : True := trivial; have tk7 : True := trivial; have tk8 : True := trivial; have tk9 : True := trivial; have tk10 : True := trivial; have tk11 : True := trivial; have tk12 : True := trivial
  go_enter Tryd.func75, Tryd.ntmps75
  go_wp2_with (first | (go_at_call 67; have _t := tk1; refine (C1.out _).mono ?_; rintro e w1 ⟨rfl, hb⟩; obtain ⟨otk1, dtk1, rfl⟩ := ext_of_below hb; clear hb tk1) | (go_at_call 67; have _t := tk2; refine (C2.out _).mono ?_; rintro e w1 ⟨rfl, hb⟩; obtain ⟨otk2, dtk2, rfl⟩ := ext_of_below hb; clear hb tk2))
  go_ret
  exact ⟨by rw [← str_beq]; rfl, by (repeat' (first | (with_reducible exact Below.refl _ _) | (with_reducible assumption) | (with_reducible refine below_ext0 ?_ _ _) | (with_reducible refine below_alloc0 ?_ _) | (with_reducible refine Below.ext ?_ ?_ _ _) | (with_reducible refine Below.alloc ?_ ?_ _) | (with_reducible refine Below.setCell ?_ ?_ _) | (with_reducible refine Below.drew ?_) | (with_reducible refine below_draws ?_ _) | go_size | (simp [size_ext]; done) | (simp [size_ext]; omega)))⟩

set_option maxHeartbeats 2000000 in
theorem texts_any (w : World) (A1 : Option Addr) (n1 c1 : Nat) (l1 : List ByteArray) (B1 : Nat) (h1 : Rd strR w B1 A1 n1 c1 l1) (A2 : Option Addr) (n2 c2 : Nat) (l2 : List ByteArray) (B2 : Nat) (h2 : Rd strR w B2 A2 n2 c2 l2) :
    Calls Tryd.prog 12 #[.slice A1 n1 c1, .slice A2 n2 c2] w fun e w' => e = .returned (.bool (decide (l1 = l2))) ∧ Below w.heap.size w w' := by
  have m1 := h1.max
  have k1 := h1.cap
  have m2 := h2.max
  have k2 := h2.cap
  unfold maxLen at m1 m2
  have H1 := hid h1
  have H2 := hid h2
  clear h1 h2
  by_cases hn : n1 = n2
  · subst hn
    go_enter Tryd.func12, Tryd.ntmps12
    go_wp2
    go_loopg [5] n1 (fun g v wi => ∃ k m : Nat, k ≤ n1 ∧ g = n1 - k ∧ v = .int .i64 k ∧ wi = w.drewN m ∧ l1.take k = l2.take k)
    case atStart => exact ⟨0, 0, Nat.zero_le _, rfl, rfl, rfl, rfl⟩
    case round =>
      obtain ⟨k, m, hk, rfl, rfl, rfl, ht⟩ := hrel
      have HT := hid ht
      clear ht
      by_cases hlt : k < n1
      · obtain ⟨b1, o1, rfl, _, hc1, _⟩ := H1.out.str k hlt
        obtain ⟨b2, o2, rfl, _, hc2, _⟩ := H2.out.str k hlt
        have q1 : k < l1.length := by rw [H1.out.len]; exact hlt
        have q2 : k < l2.length := by rw [H2.out.len]; exact hlt
        have hkz : (k : Int) < (n1 : Int) := by omega
        obtain ⟨x, hx⟩ : ∃ x, l1[k] = x := ⟨_, rfl⟩
        obtain ⟨y, hy⟩ : ∃ y, l2[k] = y := ⟨_, rfl⟩
        rw [hx] at hc1
        rw [hy] at hc2
        have HXY := hid (And.intro hx hy)
        clear hx hy
        by_cases he : x = y
        · subst he
          have hv : (x.toList != x.toList) = false := by simp
          have hv' : (x.toList == x.toList) = true := by simp
          go_wp2_with fail
          go_quiet (fail)
          go_wp2
          go_roundg (n1 - (k + 1))
          case measure => omega
          case rel => exact ⟨k + 1, _, by omega, rfl, by go_num, rfl, by rw [List.take_succ_eq_append_getElem q1, List.take_succ_eq_append_getElem q2, HT.out, HXY.out.1, HXY.out.2]⟩
        · have hv' : (x.toList == y.toList) = false := by rw [str_beq]; simp [he]
          have hv : (x.toList != y.toList) = true := by rw [bne, hv']; rfl
          have hr : decide (l1 = l2) = false := decide_eq_false fun h => he (by rw [← HXY.out.1, ← HXY.out.2]; simp [h])
          clear he
          go_wp2_with fail
          go_quiet (fail)
          go_wp2
          go_ret
          exact ⟨by first | rfl | (rw [hr]; rfl), by first | exact below_drawsN (below_drawsN (Below.refl _ _) _) _ | exact below_drawsN (Below.refl _ _) _⟩
      · have hr : decide (l1 = l2) = true := decide_eq_true (by
          have h := HT.out
          rwa [List.take_of_length_le (by have := H1.out.len; omega), List.take_of_length_le (by have := H2.out.len; omega)] at h)
        go_wp2
        go_ret
        exact ⟨by first | rfl | (rw [hr]; rfl), below_drawsN (Below.refl _ _) _⟩
  · have hv : ((n1 : Int) != (n2 : Int)) = true := by rw [bne_iff_ne]; omega
    have hr : decide (l1 = l2) = false := decide_eq_false fun h => hn (by rw [← H1.out.len, ← H2.out.len, h])
    go_enter Tryd.func12, Tryd.ntmps12
    go_wp2
    go_ret
    exact ⟨by first | rfl | (rw [hr]; rfl), Below.refl _ _⟩

/-- are they the same, folded? -/
def sameL (a b : List ByteArray) : Bool := decide (a.map smallS = b.map smallS)

set_option maxHeartbeats 2000000 in
theorem equalFunc_any (w : World) (A1 : Option Addr) (n1 c1 : Nat) (l1 : List ByteArray) (h1 : Rd strR w w.heap.size A1 n1 c1 l1) (A2 : Option Addr) (n2 c2 : Nat) (l2 : List ByteArray) (h2 : Rd strR w w.heap.size A2 n2 c2 l2) :
    Calls Tryd.prog 74 #[.slice A1 n1 c1, .slice A2 n2 c2, .func (Fn.func 75) #[] #[]] w fun e w' => e = .returned (.bool (sameL l1 l2)) ∧ Below w.heap.size w w' := by
  have m1 := h1.max
  have k1 := h1.cap
  have m2 := h2.max
  have k2 := h2.cap
  unfold maxLen at m1 m2
  have H1 := hid h1
  have H2 := hid h2
  clear h1 h2
  by_cases hn : n1 = n2
  · subst hn
    go_enter Tryd.func74, Tryd.ntmps74
    go_wp2
    go_loopg [17] n1 (fun g v wi => ∃ k : Nat, k ≤ n1 ∧ g = n1 - k ∧ v = .int .i64 k ∧ Below w.heap.size w wi ∧ (l1.take k).map smallS = (l2.take k).map smallS)
    case atStart => exact ⟨0, Nat.zero_le _, rfl, rfl, Below.refl _ _, rfl⟩
    case round =>
      obtain ⟨k, hk, rfl, rfl, hlow, ht⟩ := hrel
      have HT := hid ht
      have HLOW := hid hlow
      clear ht hlow
      by_cases hlt : k < n1
      · obtain ⟨b1, o1, rfl, _, hc1, z1⟩ := (H1.out.below HLOW.out).str k hlt
        obtain ⟨b2, o2, rfl, _, hc2, z2⟩ := (H2.out.below HLOW.out).str k hlt
        have q1 : k < l1.length := by rw [H1.out.len]; exact hlt
        have q2 : k < l2.length := by rw [H2.out.len]; exact hlt
        have hkz : (k : Int) < (n1 : Int) := by omega
        obtain ⟨x, hx⟩ : ∃ x, l1[k] = x := ⟨_, rfl⟩
        obtain ⟨y, hy⟩ : ∃ y, l2[k] = y := ⟨_, rfl⟩
        rw [hx] at hc1 z1
        rw [hy] at hc2 z2
        have HXY := hid (And.intro hx hy)
        have CA := alike_any x y z1 z2
        clear hx hy
        by_cases he : smallS x = smallS y
        · rw [decide_eq_true he] at CA
          replace CA := hid CA
          have HE := hid he
          clear he
          go_wp2_with (go_at_call 75; refine (CA.out _).mono ?_; rintro e w1 ⟨rfl, hb⟩; obtain ⟨os, d, rfl⟩ := ext_of_below hb; have hs := HLOW.out.size; clear hb)
          go_roundg (n1 - (k + 1))
          case measure => omega
          case rel => exact ⟨k + 1, by omega, rfl, by go_num, Below.ext HLOW.out HLOW.out.size _ _, take_succ_map HT.out q1 q2 (by rw [HXY.out.1, HXY.out.2, HE.out])⟩
        · rw [decide_eq_false he] at CA
          replace CA := hid CA
          have hr : sameL l1 l2 = false := decide_eq_false fun h => he (by
            have := congrArg (fun q => q[k]?) h
            simp only [List.getElem?_map, List.getElem?_eq_getElem q1, List.getElem?_eq_getElem q2, Option.map_some, Option.some.injEq] at this
            rw [← HXY.out.1, ← HXY.out.2, this])
          have HR := hid hr
          clear he hr
          go_wp2_with (go_at_call 75; refine (CA.out _).mono ?_; rintro e w1 ⟨rfl, hb⟩; obtain ⟨os, d, rfl⟩ := ext_of_below hb; clear hb)
          go_ret
          exact ⟨by rw [HR.out]; rfl, Below.ext HLOW.out HLOW.out.size _ _⟩
      · have hr : sameL l1 l2 = true := decide_eq_true (by
          have h := HT.out
          rwa [List.take_of_length_le (by have := H1.out.len; omega), List.take_of_length_le (by have := H2.out.len; omega)] at h)
        have HR := hid hr
        clear hr
        go_wp2
        go_ret
        exact ⟨by rw [HR.out]; rfl, HLOW.out⟩
  · have hv : ((n1 : Int) != (n2 : Int)) = true := by rw [bne_iff_ne]; omega
    have hr : sameL l1 l2 = false := decide_eq_false fun h => hn (by have := congrArg List.length h; simp [H1.out.len, H2.out.len] at this; exact this)
    have HR := hid hr
    clear hr
    go_enter Tryd.func74, Tryd.ntmps74
    go_wp2
    go_ret
    exact ⟨by rw [HR.out]; rfl, Below.refl _ _⟩

theorem same_any (w : World) (A1 : Option Addr) (n1 c1 : Nat) (l1 : List ByteArray) (h1 : Rd strR w w.heap.size A1 n1 c1 l1) (A2 : Option Addr) (n2 c2 : Nat) (l2 : List ByteArray) (h2 : Rd strR w w.heap.size A2 n2 c2 l2) :
    Calls Tryd.prog 69 #[.slice A1 n1 c1, .slice A2 n2 c2] w fun e w' => e = .returned (.bool (sameL l1 l2)) ∧ Below w.heap.size w w' := by
  have C := hid (equalFunc_any w A1 n1 c1 l1 h1 A2 n2 c2 l2 h2)
  clear h1 h2
  go_enter Tryd.func69, Tryd.ntmps69
  go_wp2_with fail
  refine C.out.mono ?_
  rintro e w1 ⟨rfl, hb⟩
  obtain ⟨os, d, rfl⟩ := ext_of_below hb
  clear hb
  go_wp2
  go_ret
  exact ⟨rfl, by (repeat' (first | (with_reducible exact Below.refl _ _) | (with_reducible assumption) | (with_reducible refine below_ext0 ?_ _ _) | (with_reducible refine below_alloc0 ?_ _) | (with_reducible refine Below.ext ?_ ?_ _ _) | (with_reducible refine Below.alloc ?_ ?_ _) | (with_reducible refine Below.setCell ?_ ?_ _) | (with_reducible refine Below.drew ?_) | (with_reducible refine below_draws ?_ _) | go_size | (simp [size_ext]; done) | (simp [size_ext]; omega)))⟩
end Go.Proofs.YtemgbfppdopfbaaDoor
