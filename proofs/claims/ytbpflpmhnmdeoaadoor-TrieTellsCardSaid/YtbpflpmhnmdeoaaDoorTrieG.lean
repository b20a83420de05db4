/- The document's answers on rows of beginnings: Kinds, Longest. -/
import Derived.Test.YtbpflpmhnmdeoaaDoorTrieR
import Derived.Test.YtbpflpmhnmdeoaaDoorTrieE
namespace Go.Proofs.YtbpflpmhnmdeoaaDoor
open Go.RowKit
set_option linter.unusedVariables false

set_option maxRecDepth 100000 in
set_option maxHeartbeats 4000000 in
theorem kinds_any {w : World} {B : Nat} (hB : B ≤ w.heap.size) {A : Option Addr} {n c : Nat} {bs : List BT} (h : Rd beginR w B A n c bs) (hri : ∀ i, i < bs.length → rightAt bs i = true) (hn : n ≤ 1048576) :
    Calls Tryd.prog 17 #[.slice A n c] w fun e w' => e = .returned (.int .i64 (kindsK bs bs.length : Int)) ∧ Below w.heap.size w w' := by
  have hl := h.len
  have hm := h.max
  have hc := h.cap
  unfold maxLen at hm
  have H := hid h
  have HL := hid hl
  have HRI := hid hri
  rw [hl]
  clear h hl hri
  go_enter Tryd.func17, Tryd.ntmps17
  go_wp2
  go_loopg [3, 4] n (fun gk v3 v4 wi => ∃ i : Nat, i ≤ n ∧ gk = n - i ∧ v4 = .int .i64 (i : Int) ∧ v3 = .int .i64 (kindsK bs i : Int) ∧ Below w.heap.size w wi)
  case atStart => exact ⟨0, Nat.zero_le _, rfl, rfl, rfl, Below.refl _ _⟩
  case round =>
    obtain ⟨i, hi, rfl, rfl, rfl, hlow⟩ := hrel
    have HLOW := hid hlow
    have zw := hlow.size
    have kl := kindsK_le bs i
    clear hlow
    by_cases hlt : i < n
    · have g3 : (i : Int) < (n : Int) := by omega
      have KS : Hid (kindsK bs (i + 1) = if freshB bs i = true then kindsK bs i + 1 else kindsK bs i) := rfl
      generalize kindsK bs i = K at *
      go_wp2
      go_loopg [5, 6] i (fun gk v5 v6 wi => ∃ (j : Nat) (fr : Bool), j ≤ i ∧ gk = i - j ∧ v6 = .int .i64 (j : Int) ∧ v5 = .bool fr ∧ Below wr.heap.size wr wi ∧ (fr = true ↔ ∀ j', j' < j → keyAt bs j' ≠ keyAt bs i))
      case atStart => exact ⟨0, true, Nat.zero_le _, rfl, rfl, rfl, Below.refl _ _, ⟨fun _ j hj => by omega, fun _ => rfl⟩⟩
      case round =>
        obtain ⟨j, fr, hj, rfl, rfl, rfl, hlow2, hkj⟩ := hrel
        have HLOW2 := hid (HLOW.out.trans (hlow2.mono zw))
        have HLOW3 := hid hlow2
        have HKJ := hid hkj
        have zw2 := HLOW2.out.size
        have zw3 := hlow2.size
        clear hlow2 hkj
        by_cases hlt2 : j < i
        · obtain ⟨b, o, A3, n3, c3, rfl, lb3, p0, p1, p2, r3, I3, I4⟩ := (H.out.below (HLOW2.out.mono hB)).begin_ i hlt
          obtain ⟨b4, o4, A4, n4, c4, hA4, lb4, q0, q1, q2, r4, I5, I6⟩ := (H.out.below (HLOW2.out.mono hB)).begin_ j (by omega)
          cases hA4
          have AI := HRI.out i (by rw [HL.out]; exact hlt)
          have AJ := HRI.out j (by rw [HL.out]; omega)
          obtain ⟨x, hx1⟩ : ∃ x, bAt bs i = x := ⟨_, rfl⟩
          obtain ⟨y, hy⟩ : ∃ x, bAt bs j = x := ⟨_, rfl⟩
          have HX := hid hx1
          have HY := hid hy
          unfold rightAt at AI AJ
          rw [hx1] at AI
          rw [hy] at AJ
          unfold bAt at hx1 hy
          rw [hx1] at p1 p2 r3 I3 I4
          rw [hy] at q1 q2 r4 I5 I6
          obtain ⟨a, m, v, u⟩ := x
          obtain ⟨a2, m2, v2, u2⟩ := y
          dsimp only at p1 p2 r3 I3 I4 q1 q2 r4 I5 I6 AI AJ
          have g4 : (j : Int) < (n : Int) := by omega
          have g5 : (j : Int) < (i : Int) := by omega
          have lb5 : b < wr.heap.size := by omega
          by_cases hmm : m2 = m
          · subst hmm
            obtain ⟨_, t1, t2⟩ := of_decide_eq_true AI
            obtain ⟨_, t3, t4⟩ := of_decide_eq_true AJ
            obtain ⟨k, rfl⟩ : ∃ k : Nat, m2 = (k : Int) := ⟨m2.toNat, by omega⟩
            have hal := rightB_alike AJ AI
            rw [show ((k : Int).toNat) = k from rfl] at hal
            have CA := fun w' (hb : Below wr.heap.size wr w') => alike_below ((r4.below (hb.mono (by omega)))) ((r3.below (hb.mono (by omega)))) k rfl (by rw [← r4.len]; omega) (by rw [← r3.len]; omega)
            obtain ⟨al, hal2⟩ : ∃ al, decide (∀ i, i < k → bitL a2 i = bitL a i) = al := ⟨_, rfl⟩
            rw [hal2] at CA
            cases al with
            | true =>
              have hke := hal.1 (of_decide_eq_true hal2)
              have HNF := hid (show (false = true ↔ ∀ j', j' < j + 1 → keyAt bs j' ≠ keyAt bs i) from ⟨fun h => (by cases h), fun h => absurd (show keyAt bs j = keyAt bs i by unfold keyAt; rw [HX.out, HY.out]; exact hke) (h j (by omega))⟩)
              have HC := hid CA
              clear hke hal hal2 CA r3 r4 I3 I4 I5 I6 hx1 hy AI AJ
              have hlo := HLOW3.out
              go_wp2_with fail
              refine wp_region_ext (by kernel_rfl) (by kernel_rfl) ?_
              repeat (go_big_quiet_step ((go_at_call 35; with_reducible exact Calls.quiet_ext (HC.out _ (by ((first | (with_reducible refine exts_below ?_ ?_ _) | skip); (repeat' (first | (with_reducible exact Below.refl _ _) | (with_reducible assumption) | (with_reducible refine below_ext0 ?_ _ _) | (with_reducible refine below_alloc0 ?_ _) | (with_reducible refine Below.ext ?_ ?_ _ _) | (with_reducible refine Below.alloc ?_ ?_ _) | (with_reducible refine Below.setCell ?_ ?_ _) | (with_reducible refine Below.drew ?_) | (with_reducible refine below_draws ?_ _) | go_size | (simp [size_ext]; done) | (simp [size_ext]; omega)))))))))
              refine wpQuiet_nil ?_
              rintro _ ⟨⟨os, d⟩, rfl⟩
              simp only [exts]
              go_wp2
              go_roundg (i - (j + 1))
              case measure => omega
              case rel => exact ⟨j + 1, false, by omega, rfl, by go_num, rfl, by (repeat' (first | (with_reducible exact Below.refl _ _) | (with_reducible assumption) | (with_reducible refine below_ext0 ?_ _ _) | (with_reducible refine below_alloc0 ?_ _) | (with_reducible refine Below.ext ?_ ?_ _ _) | (with_reducible refine Below.alloc ?_ ?_ _) | (with_reducible refine Below.setCell ?_ ?_ _) | (with_reducible refine Below.drew ?_) | (with_reducible refine below_draws ?_ _) | go_size | (simp [size_ext]; done) | (simp [size_ext]; omega))), HNF.out⟩
            | false =>
              have hke := fun e => (of_decide_eq_false hal2) (hal.2 e)
              have HNF := hid (show (fr = true ↔ ∀ j', j' < j + 1 → keyAt bs j' ≠ keyAt bs i) from ⟨fun h j' hj' => by
                by_cases e : j' = j
                · subst e; unfold keyAt; rw [HX.out, HY.out]; exact hke
                · exact HKJ.out.1 h j' (by omega), fun h => HKJ.out.2 fun j' hj' => h j' (by omega)⟩)
              have HC := hid CA
              clear hke hal hal2 CA r3 r4 I3 I4 I5 I6 hx1 hy AI AJ
              have hlo := HLOW3.out
              go_wp2_with fail
              refine wp_region_ext (by kernel_rfl) (by kernel_rfl) ?_
              repeat (go_big_quiet_step ((go_at_call 35; with_reducible exact Calls.quiet_ext (HC.out _ (by ((first | (with_reducible refine exts_below ?_ ?_ _) | skip); (repeat' (first | (with_reducible exact Below.refl _ _) | (with_reducible assumption) | (with_reducible refine below_ext0 ?_ _ _) | (with_reducible refine below_alloc0 ?_ _) | (with_reducible refine Below.ext ?_ ?_ _ _) | (with_reducible refine Below.alloc ?_ ?_ _) | (with_reducible refine Below.setCell ?_ ?_ _) | (with_reducible refine Below.drew ?_) | (with_reducible refine below_draws ?_ _) | go_size | (simp [size_ext]; done) | (simp [size_ext]; omega)))))))))
              refine wpQuiet_nil ?_
              rintro _ ⟨⟨os, d⟩, rfl⟩
              simp only [exts]
              go_wp2
              go_roundg (i - (j + 1))
              case measure => omega
              case rel => exact ⟨j + 1, fr, by omega, rfl, by go_num, rfl, by (repeat' (first | (with_reducible exact Below.refl _ _) | (with_reducible assumption) | (with_reducible refine below_ext0 ?_ _ _) | (with_reducible refine below_alloc0 ?_ _) | (with_reducible refine Below.ext ?_ ?_ _ _) | (with_reducible refine Below.alloc ?_ ?_ _) | (with_reducible refine Below.setCell ?_ ?_ _) | (with_reducible refine Below.drew ?_) | (with_reducible refine below_draws ?_ _) | go_size | (simp [size_ext]; done) | (simp [size_ext]; omega))), HNF.out⟩
          · have g6 : (m2 == m) = false := by rw [beq_eq_false_iff_ne]; exact hmm
            have HNF := hid (show (fr = true ↔ ∀ j', j' < j + 1 → keyAt bs j' ≠ keyAt bs i) from ⟨fun h j' hj' => by
              by_cases e : j' = j
              · subst e; unfold keyAt; rw [HX.out, HY.out]; exact key_ne AJ AI hmm
              · exact HKJ.out.1 h j' (by omega), fun h => HKJ.out.2 fun j' hj' => h j' (by omega)⟩)
            clear hmm r3 r4 I3 I4 I5 I6 hx1 hy AI AJ
            have hlo := HLOW3.out
            go_wp2_with fail
            refine wp_region_ext (by kernel_rfl) (by kernel_rfl) ?_
            repeat (go_big_quiet_step ((fail)))
            refine wpQuiet_nil ?_
            rintro _ ⟨⟨os, d⟩, rfl⟩
            simp only [exts]
            go_wp2
            go_roundg (i - (j + 1))
            case measure => omega
            case rel => exact ⟨j + 1, fr, by omega, rfl, by go_num, rfl, by (repeat' (first | (with_reducible exact Below.refl _ _) | (with_reducible assumption) | (with_reducible refine below_ext0 ?_ _ _) | (with_reducible refine below_alloc0 ?_ _) | (with_reducible refine Below.ext ?_ ?_ _ _) | (with_reducible refine Below.alloc ?_ ?_ _) | (with_reducible refine Below.setCell ?_ ?_ _) | (with_reducible refine Below.drew ?_) | (with_reducible refine below_draws ?_ _) | go_size | (simp [size_ext]; done) | (simp [size_ext]; omega))), HNF.out⟩
        · obtain rfl : j = i := by omega
          have hf : (fr = true) ↔ freshB bs j = true := by rw [freshB_iff]; exact HKJ.out
          cases fr with
          | true =>
            have HK2 := hid (show kindsK bs (j + 1) = K + 1 by rw [KS.out, if_pos (hf.1 rfl)])
            clear hf
            go_wp2
            go_roundg (n - (j + 1))
            case measure => omega
            case rel => exact ⟨j + 1, by omega, rfl, by go_num, by rw [HK2.out]; go_num, HLOW2.out⟩
          | false =>
            have HK2 := hid (show kindsK bs (j + 1) = K by rw [KS.out, if_neg (fun h => by cases hf.2 h)])
            clear hf
            go_wp2
            go_roundg (n - (j + 1))
            case measure => omega
            case rel => exact ⟨j + 1, by omega, rfl, by go_num, by rw [HK2.out], HLOW2.out⟩
    · obtain rfl : i = n := by omega
      go_wp2
      go_ret
      exact ⟨rfl, HLOW.out⟩

def longI : Option Nat → Int
  | none => -1
  | some j => (j : Int)
set_option maxRecDepth 100000 in
set_option maxHeartbeats 4000000 in
theorem longest_any {w : World} {B : Nat} (hB : B ≤ w.heap.size) {A : Option Addr} {n c : Nat} {bs : List BT} (h : Rd beginR w B A n c bs) (hri : ∀ i, i < bs.length → rightAt bs i = true) (hn : n ≤ 1048576)
    {Aq : Option Addr} {nq cq : Nat} {q : List UInt8} (hq : Rd u8R w B Aq nq cq q) :
    Calls Tryd.prog 19 #[.slice A n c, .slice Aq nq cq] w fun e w' => e = .returned (.int .i64 (longI (longK bs q bs.length))) ∧ Below w.heap.size w w' := by
  have hl := h.len
  have hm := h.max
  have hc := h.cap
  unfold maxLen at hm
  have limq := hq.lim
  simp only [u8R, Nat.mul_one] at limq
  have H := hid h
  have HQ := hid hq
  have HL := hid hl
  have LQ := hid hq.len
  have HRI := hid hri
  rw [hl]
  clear h hl hri hq
  go_enter Tryd.func19, Tryd.ntmps19
  go_wp2
  go_loopg [5, 6] n (fun gk v5 v6 wi => ∃ i : Nat, i ≤ n ∧ gk = n - i ∧ v6 = .int .i64 (i : Int) ∧ v5 = .int .i64 (longI (longK bs q i)) ∧ Below w.heap.size w wi)
  case atStart => exact ⟨0, Nat.zero_le _, rfl, rfl, rfl, Below.refl _ _⟩
  case round =>
    obtain ⟨i, hi, rfl, rfl, rfl, hlow⟩ := hrel
    have HLOW := hid hlow
    have zw := hlow.size
    clear hlow
    by_cases hlt : i < n
    · have g3 : (i : Int) < (n : Int) := by omega
      obtain ⟨b, o, A3, n3, c3, rfl, lb3, p0, p1, p2, r3, I3, I4⟩ := (H.out.below (HLOW.out.mono hB)).begin_ i hlt
      have AI := HRI.out i (by rw [HL.out]; exact hlt)
      have KS : Hid (longK bs q (i + 1) = if (fitB (bAt bs i) q && betterB bs i (longK bs q i)) = true then some i else longK bs q i) := rfl
      obtain ⟨x, hx1⟩ : ∃ x, bAt bs i = x := ⟨_, rfl⟩
      have HX := hid hx1
      unfold rightAt at AI
      rw [hx1] at AI
      unfold bAt at hx1
      rw [hx1] at p1 p2 r3 I3 I4
      obtain ⟨a, m, v, u⟩ := x
      dsimp only at p1 p2 r3 I3 I4 AI
      obtain ⟨_, t1, t2⟩ := of_decide_eq_true AI
      obtain ⟨k, rfl⟩ : ∃ k : Nat, m = (k : Int) := ⟨m.toNat, by omega⟩
      have lb5 : b < wr.heap.size := by omega
      obtain ⟨best, hbest⟩ : ∃ best, longK bs q i = best := ⟨_, rfl⟩
      rw [hbest] at KS ⊢
      have rq := HQ.out.below (HLOW.out.mono hB)
      have hfit : ∀ al, decide (∀ i, i < k → bitL a i = bitL q i) = al → k ≤ 8 * nq → fitB (bAt bs i) q = al := fun al h1 h2 => by
        unfold fitB
        rw [HX.out, ← h1, Bool.eq_iff_iff, decide_eq_true_iff, decide_eq_true_iff]
        exact ⟨fun h => h.2, fun h => ⟨by have := LQ.out; show (k : Int) ≤ _; omega, h⟩⟩
      have HFIT := hid hfit
      clear hfit hx1
      by_cases y1 : k ≤ 8 * nq
      · have CA := fun w' (hb : Below wr.heap.size wr w') => alike_below ((r3.below (hb.mono (by omega)))) ((rq.below (hb.mono (by omega)))) k rfl (by rw [← r3.len]; omega) y1
        obtain ⟨al, hal2⟩ : ∃ al, decide (∀ i, i < k → bitL a i = bitL q i) = al := ⟨_, rfl⟩
        have HF := hid (HFIT.out al hal2 y1)
        rw [hal2] at CA
        have f1 : ((k : Int) ≤ 8 * (nq : Int)) := by omega
        have f1d : decide ((k : Int) ≤ 8 * (nq : Int)) = true := decide_eq_true f1
        have HC := hid CA
        clear CA hal2 HFIT r3 rq I3 I4
        have hlo := HLOW.out
        cases al with
        | false =>
          have HK2 := hid (show longK bs q (i + 1) = best by rw [KS.out, HF.out, if_neg (by simp)])
          go_wp2_with fail
          refine wp_region_ext (by kernel_rfl) (by kernel_rfl) ?_
          repeat (go_big_quiet_step ((go_at_call 35; with_reducible exact Calls.quiet_ext (HC.out _ (by ((first | (with_reducible refine exts_below ?_ ?_ _) | skip); (repeat' (first | (with_reducible exact Below.refl _ _) | (with_reducible assumption) | (with_reducible refine below_ext0 ?_ _ _) | (with_reducible refine below_alloc0 ?_ _) | (with_reducible refine Below.ext ?_ ?_ _ _) | (with_reducible refine Below.alloc ?_ ?_ _) | (with_reducible refine Below.setCell ?_ ?_ _) | (with_reducible refine Below.drew ?_) | (with_reducible refine below_draws ?_ _) | go_size | (simp [size_ext]; done) | (simp [size_ext]; omega)))))))))
          refine wpQuiet_nil ?_
          rintro _ ⟨⟨os, d⟩, rfl⟩
          simp only [exts]
          go_wp2
          go_roundg (n - (i + 1))
          case measure => omega
          case rel => exact ⟨i + 1, by omega, rfl, by go_num, by rw [HK2.out], by (repeat' (first | (with_reducible exact Below.refl _ _) | (with_reducible assumption) | (with_reducible refine below_ext0 ?_ _ _) | (with_reducible refine below_alloc0 ?_ _) | (with_reducible refine Below.ext ?_ ?_ _ _) | (with_reducible refine Below.alloc ?_ ?_ _) | (with_reducible refine Below.setCell ?_ ?_ _) | (with_reducible refine Below.drew ?_) | (with_reducible refine below_draws ?_ _) | go_size | (simp [size_ext]; done) | (simp [size_ext]; omega)))⟩
        | true =>
          cases best with
          | none =>
            have HK2 := hid (show longK bs q (i + 1) = some i by rw [KS.out, HF.out, if_pos (by rfl)])
            simp only [longI]
            go_wp2_with fail
            refine wp_region_ext (by kernel_rfl) (by kernel_rfl) ?_
            repeat (go_big_quiet_step ((go_at_call 35; with_reducible exact Calls.quiet_ext (HC.out _ (by ((first | (with_reducible refine exts_below ?_ ?_ _) | skip); (repeat' (first | (with_reducible exact Below.refl _ _) | (with_reducible assumption) | (with_reducible refine below_ext0 ?_ _ _) | (with_reducible refine below_alloc0 ?_ _) | (with_reducible refine Below.ext ?_ ?_ _ _) | (with_reducible refine Below.alloc ?_ ?_ _) | (with_reducible refine Below.setCell ?_ ?_ _) | (with_reducible refine Below.drew ?_) | (with_reducible refine below_draws ?_ _) | go_size | (simp [size_ext]; done) | (simp [size_ext]; omega)))))))))
            refine wpQuiet_nil ?_
            rintro _ ⟨⟨os, d⟩, rfl⟩
            simp only [exts]
            go_wp2
            go_roundg (n - (i + 1))
            case measure => omega
            case rel => exact ⟨i + 1, by omega, rfl, by go_num, by rw [HK2.out]; rfl, by (repeat' (first | (with_reducible exact Below.refl _ _) | (with_reducible assumption) | (with_reducible refine below_ext0 ?_ _ _) | (with_reducible refine below_alloc0 ?_ _) | (with_reducible refine Below.ext ?_ ?_ _ _) | (with_reducible refine Below.alloc ?_ ?_ _) | (with_reducible refine Below.setCell ?_ ?_ _) | (with_reducible refine Below.drew ?_) | (with_reducible refine below_draws ?_ _) | go_size | (simp [size_ext]; done) | (simp [size_ext]; omega)))⟩
          | some j =>
            have hj := longK_lt hbest
            obtain ⟨b4, o4, A4, n4, c4, hA4, lb4, q0, q1, q2, r4, I5, I6⟩ := (H.out.below (HLOW.out.mono hB)).begin_ j (by omega)
            cases hA4
            have AJ := HRI.out j (by rw [HL.out]; omega)
            obtain ⟨y, hy⟩ : ∃ x, bAt bs j = x := ⟨_, rfl⟩
            have HY := hid hy
            unfold rightAt at AJ
            rw [hy] at AJ
            unfold bAt at hy
            rw [hy] at q1
            obtain ⟨a2, m2, v2, u2⟩ := y
            dsimp only at q1 AJ
            obtain ⟨_, t3, t4⟩ := of_decide_eq_true AJ
            obtain ⟨k2, rfl⟩ : ∃ k : Nat, m2 = (k : Int) := ⟨m2.toNat, by omega⟩
            have f2 : ¬ (j : Int) < 0 := by omega
            have f3 : decide ((j : Int) < 0) = false := decide_eq_false f2
            have f4 : (j : Int) < (n : Int) := by omega
            have f5 : (0 : Int) ≤ (j : Int) := by omega
            have HJ := hid hj
            have lj : j < n := by omega
            simp only [longI]
            clear hbest hy q0 q2 r4 I5 I6 hj
            by_cases hle : k2 ≤ k
            · have HK2 := hid (show longK bs q (i + 1) = some i by rw [KS.out, HF.out, if_pos (by rw [show betterB bs i (some j) = decide ((bAt bs j).2.1 ≤ (bAt bs i).2.1) from rfl, HX.out, HY.out]; simpa using hle)])
              have f6 : decide ((k2 : Int) ≤ (k : Int)) = true := decide_eq_true (by omega)
              have f7 : decide (k2 ≤ k) = true := decide_eq_true hle
              go_wp2_with fail
              refine wp_region_ext (by kernel_rfl) (by kernel_rfl) ?_
              repeat (go_big_quiet_step ((go_at_call 35; with_reducible exact Calls.quiet_ext (HC.out _ (by ((first | (with_reducible refine exts_below ?_ ?_ _) | skip); (repeat' (first | (with_reducible exact Below.refl _ _) | (with_reducible assumption) | (with_reducible refine below_ext0 ?_ _ _) | (with_reducible refine below_alloc0 ?_ _) | (with_reducible refine Below.ext ?_ ?_ _ _) | (with_reducible refine Below.alloc ?_ ?_ _) | (with_reducible refine Below.setCell ?_ ?_ _) | (with_reducible refine Below.drew ?_) | (with_reducible refine below_draws ?_ _) | go_size | (simp [size_ext]; done) | (simp [size_ext]; omega)))))))))
              refine wpQuiet_nil ?_
              rintro _ ⟨⟨os, d⟩, rfl⟩
              simp only [exts]
              go_wp2
              go_roundg (n - (i + 1))
              case measure => omega
              case rel => exact ⟨i + 1, by omega, rfl, by go_num, by rw [HK2.out]; rfl, by (repeat' (first | (with_reducible exact Below.refl _ _) | (with_reducible assumption) | (with_reducible refine below_ext0 ?_ _ _) | (with_reducible refine below_alloc0 ?_ _) | (with_reducible refine Below.ext ?_ ?_ _ _) | (with_reducible refine Below.alloc ?_ ?_ _) | (with_reducible refine Below.setCell ?_ ?_ _) | (with_reducible refine Below.drew ?_) | (with_reducible refine below_draws ?_ _) | go_size | (simp [size_ext]; done) | (simp [size_ext]; omega)))⟩
            · have HK2 := hid (show longK bs q (i + 1) = some j by rw [KS.out, HF.out, if_neg (by rw [show betterB bs i (some j) = decide ((bAt bs j).2.1 ≤ (bAt bs i).2.1) from rfl, HX.out, HY.out]; simpa using hle)])
              have f6 : decide ((k2 : Int) ≤ (k : Int)) = false := decide_eq_false (by omega)
              have f7 : decide (k2 ≤ k) = false := decide_eq_false hle
              go_wp2_with fail
              refine wp_region_ext (by kernel_rfl) (by kernel_rfl) ?_
              repeat (go_big_quiet_step ((go_at_call 35; with_reducible exact Calls.quiet_ext (HC.out _ (by ((first | (with_reducible refine exts_below ?_ ?_ _) | skip); (repeat' (first | (with_reducible exact Below.refl _ _) | (with_reducible assumption) | (with_reducible refine below_ext0 ?_ _ _) | (with_reducible refine below_alloc0 ?_ _) | (with_reducible refine Below.ext ?_ ?_ _ _) | (with_reducible refine Below.alloc ?_ ?_ _) | (with_reducible refine Below.setCell ?_ ?_ _) | (with_reducible refine Below.drew ?_) | (with_reducible refine below_draws ?_ _) | go_size | (simp [size_ext]; done) | (simp [size_ext]; omega)))))))))
              refine wpQuiet_nil ?_
              rintro _ ⟨⟨os, d⟩, rfl⟩
              simp only [exts]
              go_wp2
              go_roundg (n - (i + 1))
              case measure => omega
              case rel => exact ⟨i + 1, by omega, rfl, by go_num, by rw [HK2.out]; rfl, by (repeat' (first | (with_reducible exact Below.refl _ _) | (with_reducible assumption) | (with_reducible refine below_ext0 ?_ _ _) | (with_reducible refine below_alloc0 ?_ _) | (with_reducible refine Below.ext ?_ ?_ _ _) | (with_reducible refine Below.alloc ?_ ?_ _) | (with_reducible refine Below.setCell ?_ ?_ _) | (with_reducible refine Below.drew ?_) | (with_reducible refine below_draws ?_ _) | go_size | (simp [size_ext]; done) | (simp [size_ext]; omega)))⟩
      · have f1 : ¬ ((k : Int) ≤ 8 * (nq : Int)) := by omega
        have f1d : decide ((k : Int) ≤ 8 * (nq : Int)) = false := decide_eq_false f1
        have HF := hid (show fitB (bAt bs i) q = false by
          unfold fitB
          rw [HX.out]
          exact decide_eq_false fun h => by have := h.1; have := LQ.out; simp only at *; omega)
        have HK2 := hid (show longK bs q (i + 1) = best by rw [KS.out, HF.out, if_neg (by simp)])
        clear HFIT r3 rq I3 I4 hbest
        have hlo := HLOW.out
        go_wp2_with fail
        refine wp_region_ext (by kernel_rfl) (by kernel_rfl) ?_
        repeat (go_big_quiet_step ((fail)))
        refine wpQuiet_nil ?_
        rintro _ ⟨⟨os, d⟩, rfl⟩
        simp only [exts]
        go_wp2
        go_roundg (n - (i + 1))
        case measure => omega
        case rel => exact ⟨i + 1, by omega, rfl, by go_num, by rw [HK2.out], by (repeat' (first | (with_reducible exact Below.refl _ _) | (with_reducible assumption) | (with_reducible refine below_ext0 ?_ _ _) | (with_reducible refine below_alloc0 ?_ _) | (with_reducible refine Below.ext ?_ ?_ _ _) | (with_reducible refine Below.alloc ?_ ?_ _) | (with_reducible refine Below.setCell ?_ ?_ _) | (with_reducible refine Below.drew ?_) | (with_reducible refine below_draws ?_ _) | go_size | (simp [size_ext]; done) | (simp [size_ext]; omega)))⟩
    · obtain rfl : i = n := by omega
      go_wp2
      go_ret
      exact ⟨rfl, HLOW.out⟩
end Go.Proofs.YtbpflpmhnmdeoaaDoor
