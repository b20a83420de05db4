/- The document's answers on rows of beginnings: Right, Unlike. -/
import Derived.Test.YtbpflpmhnmdeoaaTrieQ
namespace Go.Proofs.Ytbpflpmhnmdeoaa
open Go.RowKit
set_option linter.unusedVariables false

abbrev beginV (A : Option Addr) (n c : Nat) (m v : Int) : Value := .agg #[.slice A n c, .int .i64 m, .int .i64 v]
set_option maxRecDepth 100000 in
theorem right_any {A : Option Addr} {n c : Nat} {l : List UInt8} (hl : l.length = n) (hn : n ≤ 140737488355328) (m v : Int) (hm : I64 m) (w : World) :
    Calls Try.prog 32 #[beginV A n c m v] w fun e w' => e = .returned (.bool (rightB l m)) ∧ Below w.heap.size w w' := by
  have ways : (16 < n ∧ rightB l m = false) ∨ (n ≤ 16 ∧ m < 0 ∧ rightB l m = false) ∨ (n ≤ 16 ∧ 0 ≤ m ∧ 8 * (n : Int) < m ∧ rightB l m = false) ∨ (n ≤ 16 ∧ 0 ≤ m ∧ m ≤ 8 * (n : Int) ∧ rightB l m = true) := by
    unfold rightB
    rw [hl]
    by_cases h1 : n ≤ 16 <;> by_cases h2 : 0 ≤ m <;> by_cases h3 : m ≤ 8 * (n : Int) <;> simp [h1, h2, h3] <;> omega
  obtain ⟨hm1, hm2⟩ := hm
  rcases ways with ⟨h1, h⟩ | ⟨h1, h2, h⟩ | ⟨h1, h2, h3, h⟩ | ⟨h1, h2, h3, h⟩
  all_goals
    rw [h]
    clear h hl
    go_enter Try.func32, Try.ntmps32
    go_wp2
    go_ret
    exact ⟨by first | rfl | (simp; done) | (simp; omega), by (repeat' (first | (with_reducible exact Below.refl _ _) | (with_reducible assumption) | (with_reducible refine below_ext0 ?_ _ _) | (with_reducible refine below_alloc0 ?_ _) | (with_reducible refine Below.ext ?_ ?_ _ _) | (with_reducible refine Below.alloc ?_ ?_ _) | (with_reducible refine Below.setCell ?_ ?_ _) | (with_reducible refine Below.drew ?_) | (with_reducible refine below_draws ?_ _) | go_size | (simp [size_ext]; done) | (simp [size_ext]; omega)))⟩

theorem rightB_alike {a b : List UInt8} {m : Int} (ha : rightB a m = true) (hb : rightB b m = true) : (∀ i, i < m.toNat → bitL a i = bitL b i) ↔ keyB a m = keyB b m := by
  obtain ⟨_, a1, a2⟩ := of_decide_eq_true ha
  obtain ⟨_, b1, b2⟩ := of_decide_eq_true hb
  exact (bits_alike (by omega) (by omega)).symm
theorem keyB_len {a : List UInt8} {m : Int} (ha : rightB a m = true) : (keyB a m).length = m.toNat := by
  obtain ⟨_, a1, a2⟩ := of_decide_eq_true ha
  unfold keyB
  rw [List.length_take, bitsL_len]
  omega
theorem key_ne {a b : List UInt8} {m k : Int} (ha : rightB a m = true) (hb : rightB b k = true) (h : m ≠ k) : keyB a m ≠ keyB b k := fun e => by
  have := congrArg List.length e
  rw [keyB_len ha, keyB_len hb] at this
  obtain ⟨_, a1, _⟩ := of_decide_eq_true ha
  obtain ⟨_, b1, _⟩ := of_decide_eq_true hb
  omega
open Classical in
noncomputable def unlB (bs : List BT) : Bool := decide (Unl bs)
theorem unlB_iff (bs : List BT) : unlB bs = true ↔ Unl bs := by unfold unlB; simp
theorem unlB_true {bs : List BT} (h : Unl bs) : unlB bs = true := (unlB_iff bs).2 h
theorem unlB_false {bs : List BT} (h : ¬ Unl bs) : unlB bs = false := by
  cases e : unlB bs
  · rfl
  · exact absurd ((unlB_iff bs).1 e) h
theorem alike_below {w : World} {B1 n1 c1 : Nat} {A1 : Option Addr} {l1 : List UInt8} (h1 : Rd u8R w B1 A1 n1 c1 l1) {B2 n2 c2 : Nat} {A2 : Option Addr} {l2 : List UInt8} (h2 : Rd u8R w B2 A2 n2 c2 l2) (m : Nat) {y : Int} (hy : y = (m : Int)) (hm1 : m ≤ 8 * n1) (hm2 : m ≤ 8 * n2) :
    Calls Try.prog 20 #[.slice A1 n1 c1, .slice A2 n2 c2, .int .i64 y] w fun e w' => e = .returned (.bool (decide (∀ i, i < m → bitL l1 i = bitL l2 i))) ∧ Below w.heap.size w w' :=
  (alike_any h1 h2 m hy hm1 hm2).mono fun _ _ ⟨h, e⟩ => ⟨h, by subst e; exact Below.refl _ _⟩

set_option maxRecDepth 100000 in
set_option maxHeartbeats 4000000 in
theorem unlike_any {w : World} {B : Nat} (hB : B ≤ w.heap.size) {A : Option Addr} {n c : Nat} {bs : List BT} (h : Rd beginR w B A n c bs) :
    Calls Try.prog 21 #[.slice A n c] w fun e w' => e = .returned (.bool (unlB bs)) ∧ Below w.heap.size w w' := by
  have hl := h.len
  have hm := h.max
  have hc := h.cap
  unfold maxLen at hm
  have H := hid h
  have HL := hid hl
  clear h hl
  go_enter Try.func21, Try.ntmps21
  go_wp2
  go_loopg [3] n (fun gk v3 wi => ∃ i : Nat, i ≤ n ∧ gk = n - i ∧ v3 = .int .i64 (i : Int) ∧ Below w.heap.size w wi ∧ (∀ k, k < i → rightAt bs k = true) ∧ ∀ k j, k < i → j < k → keyAt bs j ≠ keyAt bs k)
  case atStart => exact ⟨0, Nat.zero_le _, rfl, rfl, Below.refl _ _, fun k hk => by omega, fun k j hk => by omega⟩
  case round =>
    obtain ⟨i, hi, rfl, rfl, hlow, hri, hke⟩ := hrel
    have HLOW := hid hlow
    have HRI := hid hri
    have HKE := hid hke
    have zw := hlow.size
    clear hlow hri hke
    by_cases hlt : i < n
    · obtain ⟨b, o, A1, n1, c1, rfl, lb, e0, e1, e2, r1, I1, I2⟩ := (H.out.below (HLOW.out.mono hB)).begin_ i hlt
      have lim1 := r1.lim
      simp only [u8R, Nat.mul_one] at lim1
      have CR := fun w' => right_any r1.len lim1 (c := c1) (A := A1) _ ((bAt bs i).2.2.1) I1 w'
      obtain ⟨x, hx⟩ : ∃ x, bAt bs i = x := ⟨_, rfl⟩
      unfold bAt at hx CR
      rw [hx] at e1 e2 r1 I1 I2 CR
      have HX := hid (show bAt bs i = x from hx)
      obtain ⟨a, m, v, u⟩ := x
      dsimp only at e1 e2 r1 I1 I2 CR
      have R1 := hid r1
      have HI1 := hid I1
      have hrr : rightAt bs i = rightB a m := by unfold rightAt; rw [HX.out]
      have g3 : (i : Int) < (n : Int) := by omega
      cases hr : rightB a m with
      | false =>
        have hu : unlB bs = false := unlB_false fun hU => by
          have := hU.1 i (by rw [HL.out]; exact hlt)
          rw [hrr, hr] at this; cases this
        rw [hr] at CR
        have HC := hid CR
        have HU := hid hu
        clear CR hu hr hrr r1 I1 I2 hx
        go_wp2_with (go_at_call 32; (with_reducible refine (HC.out _).mono ?_); rintro e w1 ⟨rfl, hb⟩; obtain ⟨o1, d1, rfl⟩ := ext_of_below hb; clear hb)
        go_ret
        have hlo := HLOW.out
        exact ⟨by rw [HU.out]; rfl, by (repeat' (first | (with_reducible exact Below.refl _ _) | (with_reducible assumption) | (with_reducible refine below_ext0 ?_ _ _) | (with_reducible refine below_alloc0 ?_ _) | (with_reducible refine Below.ext ?_ ?_ _ _) | (with_reducible refine Below.alloc ?_ ?_ _) | (with_reducible refine Below.setCell ?_ ?_ _) | (with_reducible refine Below.drew ?_) | (with_reducible refine below_draws ?_ _) | go_size | (simp [size_ext]; done) | (simp [size_ext]; omega)))⟩
      | true =>
        rw [hr] at CR
        have HC := hid CR
        have HR := hid hr
        have HRR := hid hrr
        clear CR hr hrr r1 I1 I2 hx
        go_wp2_with (go_at_call 32; (with_reducible refine (HC.out _).mono ?_); rintro e w1 ⟨rfl, hb⟩; obtain ⟨o1, d1, rfl⟩ := ext_of_below hb; clear hb)
        have BW := hid (Below.trans HLOW.out (by (repeat' (first | (with_reducible exact Below.refl _ _) | (with_reducible assumption) | (with_reducible refine below_ext0 ?_ _ _) | (with_reducible refine below_alloc0 ?_ _) | (with_reducible refine Below.ext ?_ ?_ _ _) | (with_reducible refine Below.alloc ?_ ?_ _) | (with_reducible refine Below.setCell ?_ ?_ _) | (with_reducible refine Below.drew ?_) | (with_reducible refine below_draws ?_ _) | go_size | (simp [size_ext]; done) | (simp [size_ext]; omega)))) : Below w.heap.size w (ext wr o1 d1))
        have AR := hid (show rightAt bs i = true by rw [HRR.out, HR.out])
        obtain ⟨wo, hwo⟩ : ∃ wo, ext wr o1 d1 = wo := ⟨_, rfl⟩
        rw [hwo] at BW ⊢
        clear hwo e0 e1 e2 HC
        go_loopg [4] i (fun gk v4 wi => ∃ j : Nat, j ≤ i ∧ gk = i - j ∧ v4 = .int .i64 (j : Int) ∧ Below w.heap.size w wi ∧ ∀ j', j' < j → keyAt bs j' ≠ keyAt bs i)
        case atStart => exact ⟨0, Nat.zero_le _, rfl, rfl, BW.out, fun k hk => by omega⟩
        case round =>
          obtain ⟨j, hj, rfl, rfl, hlow2, hkj⟩ := hrel
          have HLOW2 := hid hlow2
          have HKJ := hid hkj
          have zw2 := hlow2.size
          clear hlow2 hkj
          by_cases hlt2 : j < i
          · obtain ⟨b3, o3, A3, n3, c3, hA3, lb3, p0, p1, p2, r3, I3, I4⟩ := (H.out.below (HLOW2.out.mono hB)).begin_ i hlt
            cases hA3
            obtain ⟨b4, o4, A4, n4, c4, hA4, lb4, q0, q1, q2, r4, I5, I6⟩ := (H.out.below (HLOW2.out.mono hB)).begin_ j (by omega)
            cases hA4
            have hx1 := HX.out
            obtain ⟨y, hy⟩ : ∃ x, bAt bs j = x := ⟨_, rfl⟩
            unfold bAt at hx1 hy
            rw [hx1] at p1 p2 r3 I3 I4
            rw [hy] at q1 q2 r4 I5 I6
            have HY := hid (show bAt bs j = y from hy)
            obtain ⟨a2, m2, v2, u2⟩ := y
            dsimp only at p1 p2 r3 I3 I4 q1 q2 r4 I5 I6
            have AJ := HRI.out j hlt2
            have g4 : (j : Int) < (n : Int) := by omega
            have g5 : (j : Int) < (i : Int) := by omega
            have hr2 : rightB a2 m2 = true := by rw [← AJ]; unfold rightAt; rw [HY.out]
            have lb5 : b < wr.heap.size := by omega
            by_cases hmm : m2 = m
            · subst hmm
              obtain ⟨_, t1, t2⟩ := of_decide_eq_true HR.out
              obtain ⟨_, t3, t4⟩ := of_decide_eq_true hr2
              obtain ⟨k, rfl⟩ : ∃ k : Nat, m2 = (k : Int) := ⟨m2.toNat, by omega⟩
              have hal := rightB_alike hr2 HR.out
              rw [show ((k : Int).toNat) = k from rfl] at hal
              have CA := fun w' (hb : Below wr.heap.size wr w') => alike_below ((r4.below (hb.mono (by omega)))) ((r3.below (hb.mono (by omega)))) k rfl (by rw [← r4.len]; omega) (by rw [← r3.len]; omega)
              obtain ⟨al, hal2⟩ : ∃ al, decide (∀ i, i < k → bitL a2 i = bitL a i) = al := ⟨_, rfl⟩
              rw [hal2] at CA
              cases al with
              | true =>
                have hke := hal.1 (of_decide_eq_true hal2)
                have hu : unlB bs = false := unlB_false fun hU => hU.2 i j (by rw [HL.out]; exact hlt) hlt2 (by unfold keyAt; rw [HX.out, HY.out]; exact hke)
                have HU := hid hu
                have HC := hid CA
                clear hu hke hal hal2 CA r3 r4 I3 I4 I5 I6 hx1 hy
                have hlo := HLOW2.out
                go_wp2_with fail
                refine wp_region_ext (by kernel_rfl) (by kernel_rfl) ?_
                repeat (go_big_quiet_step ((go_at_call 20; with_reducible exact Calls.quiet_ext (HC.out _ (by ((first | (with_reducible refine exts_below ?_ ?_ _) | skip); (repeat' (first | (with_reducible exact Below.refl _ _) | (with_reducible assumption) | (with_reducible refine below_ext0 ?_ _ _) | (with_reducible refine below_alloc0 ?_ _) | (with_reducible refine Below.ext ?_ ?_ _ _) | (with_reducible refine Below.alloc ?_ ?_ _) | (with_reducible refine Below.setCell ?_ ?_ _) | (with_reducible refine Below.drew ?_) | (with_reducible refine below_draws ?_ _) | go_size | (simp [size_ext]; done) | (simp [size_ext]; omega)))))))))
                refine wpQuiet_nil ?_
                rintro _ ⟨⟨os, d⟩, rfl⟩
                simp only [exts]
                go_wp2
                go_ret
                exact ⟨by rw [HU.out]; rfl, by (repeat' (first | (with_reducible exact Below.refl _ _) | (with_reducible assumption) | (with_reducible refine below_ext0 ?_ _ _) | (with_reducible refine below_alloc0 ?_ _) | (with_reducible refine Below.ext ?_ ?_ _ _) | (with_reducible refine Below.alloc ?_ ?_ _) | (with_reducible refine Below.setCell ?_ ?_ _) | (with_reducible refine Below.drew ?_) | (with_reducible refine below_draws ?_ _) | go_size | (simp [size_ext]; done) | (simp [size_ext]; omega)))⟩
              | false =>
                have hke := fun e => (of_decide_eq_false hal2) (hal.2 e)
                have HKE2 := hid (show keyAt bs j ≠ keyAt bs i by unfold keyAt; rw [HX.out, HY.out]; exact hke)
                have HC := hid CA
                clear hke hal hal2 CA r3 r4 I3 I4 I5 I6 hx1 hy
                have hlo := HLOW2.out
                go_wp2_with fail
                refine wp_region_ext (by kernel_rfl) (by kernel_rfl) ?_
                repeat (go_big_quiet_step ((go_at_call 20; with_reducible exact Calls.quiet_ext (HC.out _ (by ((first | (with_reducible refine exts_below ?_ ?_ _) | skip); (repeat' (first | (with_reducible exact Below.refl _ _) | (with_reducible assumption) | (with_reducible refine below_ext0 ?_ _ _) | (with_reducible refine below_alloc0 ?_ _) | (with_reducible refine Below.ext ?_ ?_ _ _) | (with_reducible refine Below.alloc ?_ ?_ _) | (with_reducible refine Below.setCell ?_ ?_ _) | (with_reducible refine Below.drew ?_) | (with_reducible refine below_draws ?_ _) | go_size | (simp [size_ext]; done) | (simp [size_ext]; omega)))))))))
                refine wpQuiet_nil ?_
                rintro _ ⟨⟨os, d⟩, rfl⟩
                simp only [exts]
                go_wp2
                go_roundg (i - (j + 1))
                case measure => omega
                case rel => exact ⟨j + 1, by omega, rfl, by go_num, by (repeat' (first | (with_reducible exact Below.refl _ _) | (with_reducible assumption) | (with_reducible refine below_ext0 ?_ _ _) | (with_reducible refine below_alloc0 ?_ _) | (with_reducible refine Below.ext ?_ ?_ _ _) | (with_reducible refine Below.alloc ?_ ?_ _) | (with_reducible refine Below.setCell ?_ ?_ _) | (with_reducible refine Below.drew ?_) | (with_reducible refine below_draws ?_ _) | go_size | (simp [size_ext]; done) | (simp [size_ext]; omega))), fun j' hj' => by
                  by_cases e : j' = j
                  · subst e; exact HKE2.out
                  · exact HKJ.out j' (by omega)⟩
            · have g6 : (m2 == m) = false := by rw [beq_eq_false_iff_ne]; exact hmm
              have HKE2 := hid (show keyAt bs j ≠ keyAt bs i by unfold keyAt; rw [HX.out, HY.out]; exact key_ne hr2 HR.out hmm)
              clear hmm r3 r4 I3 I4 I5 I6 hx1 hy
              have hlo := HLOW2.out
              go_wp2_with fail
              refine wp_region_ext (by kernel_rfl) (by kernel_rfl) ?_
              repeat (go_big_quiet_step ((fail)))
              refine wpQuiet_nil ?_
              rintro _ ⟨⟨os, d⟩, rfl⟩
              simp only [exts]
              go_wp2
              go_roundg (i - (j + 1))
              case measure => omega
              case rel => exact ⟨j + 1, by omega, rfl, by go_num, by (repeat' (first | (with_reducible exact Below.refl _ _) | (with_reducible assumption) | (with_reducible refine below_ext0 ?_ _ _) | (with_reducible refine below_alloc0 ?_ _) | (with_reducible refine Below.ext ?_ ?_ _ _) | (with_reducible refine Below.alloc ?_ ?_ _) | (with_reducible refine Below.setCell ?_ ?_ _) | (with_reducible refine Below.drew ?_) | (with_reducible refine below_draws ?_ _) | go_size | (simp [size_ext]; done) | (simp [size_ext]; omega))), fun j' hj' => by
                by_cases e : j' = j
                · subst e; exact HKE2.out
                · exact HKJ.out j' (by omega)⟩
          · obtain rfl : j = i := by omega
            go_wp2
            go_roundg (n - (j + 1))
            case measure => omega
            case rel => exact ⟨j + 1, by omega, rfl, by go_num, HLOW2.out, fun k hk => by
              by_cases e : k = j
              · subst e; exact AR.out
              · exact HRI.out k (by omega), fun k j' hk hj' => by
              by_cases e : k = j
              · subst e; exact HKJ.out j' hj'
              · exact HKE.out k j' (by omega) hj'⟩
    · obtain rfl : i = n := by omega
      have hu : unlB bs = true := unlB_true ⟨fun k hk => HRI.out k (by rw [← HL.out]; exact hk), fun k j hk hj => HKE.out k j (by rw [← HL.out]; exact hk) hj⟩
      have HU := hid hu
      clear hu
      go_wp2
      go_ret
      exact ⟨by rw [HU.out]; rfl, HLOW.out⟩
end Go.Proofs.Ytbpflpmhnmdeoaa
