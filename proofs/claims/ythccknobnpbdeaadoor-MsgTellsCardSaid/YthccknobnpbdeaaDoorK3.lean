/- Plain laws of the bits of whole numbers. No function of the program. -/
import Derived.Test.YthccknobnpbdeaaDoorK1
import Derived.BigRegion
import Derived.Lib.Bytealg
import Derived.Laws.BytesArg
import Derived.Test.YthccknobnpbdeaaDoorK2
namespace Go.Proofs.YthccknobnpbdeaaDoor
open Go.RowKit
set_option linter.unusedVariables false
set_option linter.unusedSimpArgs false

theorem b64_ofInt (a : Nat) (ha : a < 9223372036854775808) : (BitVec.ofInt 64 (a : Int)).toNat = a := by
  rw [BitVec.ofInt_natCast, BitVec.toNat_ofNat]; exact Nat.mod_eq_of_lt (by omega)
theorem b64_and (a b : Nat) (ha : a < 9223372036854775808) (hb : b < 9223372036854775808) : bits .and .i64 (a : Int) (b : Int) = ((a &&& b : Nat) : Int) := by
  have hx : a &&& b ≤ a := Nat.and_le_left
  show IntKind.wrap .i64 ((BitVec.ofInt 64 (a : Int) &&& BitVec.ofInt 64 (b : Int)).toNat : Int) = _
  rw [BitVec.toNat_and, b64_ofInt a ha, b64_ofInt b hb, IntKind.wrap_i64]
  omega
theorem b64_or (a b : Nat) (ha : a < 9223372036854775808) (hb : b < 9223372036854775808) : bits .or .i64 (a : Int) (b : Int) = ((a ||| b : Nat) : Int) := by
  have hx : a ||| b < 2 ^ 63 := Nat.or_lt_two_pow (by omega) (by omega)
  show IntKind.wrap .i64 ((BitVec.ofInt 64 (a : Int) ||| BitVec.ofInt 64 (b : Int)).toNat : Int) = _
  rw [BitVec.toNat_or, b64_ofInt a ha, b64_ofInt b hb, IntKind.wrap_i64]
  omega
theorem or_low (a b n : Nat) (hb : b < 2 ^ n) : a * 2 ^ n ||| b = a * 2 ^ n + b := by
  have := Nat.shiftLeft_add_eq_or_of_lt hb a
  rw [Nat.shiftLeft_eq] at this
  exact this.symm
/-- two bytes as a number -/
theorem two_or (x y : UInt8) : bits .or .i64 ((x.toNat : Int) * 256) (y.toNat : Int) = (x.toNat : Int) * 256 + (y.toNat : Int) := by
  have hx := x.toNat_lt
  have hy := y.toNat_lt
  have h := b64_or (x.toNat * 256) y.toNat (by omega) (by omega)
  rw [show x.toNat * 256 ||| y.toNat = x.toNat * 256 + y.toNat from or_low x.toNat y.toNat 8 hy] at h
  simpa using h
theorem b8_and (x y : UInt8) : bits .and .u8 (x.toNat : Int) (y.toNat : Int) = ((x.toNat &&& y.toNat : Nat) : Int) := by
  have hx := x.toNat_lt
  have hy := y.toNat_lt
  have h : x.toNat &&& y.toNat ≤ x.toNat := Nat.and_le_left
  show IntKind.wrap .u8 ((BitVec.ofInt 8 (x.toNat : Int) &&& BitVec.ofInt 8 (y.toNat : Int)).toNat : Int) = _
  rw [BitVec.toNat_and, BitVec.ofInt_natCast, BitVec.ofInt_natCast, BitVec.toNat_ofNat, BitVec.toNat_ofNat, Nat.mod_eq_of_lt (by omega), Nat.mod_eq_of_lt (by omega)]
  simp [IntKind.wrap, IntKind.bits, IntKind.signed]
  omega
/-- the low six bits of a pointer's first byte -/
theorem low6 (x : UInt8) (h : 192 ≤ x.toNat) : bits .and .u8 (x.toNat : Int) 63 = ((x.toNat - 192 : Nat) : Int) := by
  have := b8_and x 63
  have hx := x.toNat_lt
  rw [show ((63 : UInt8).toNat : Int) = 63 from rfl] at this
  rw [this, show (63 : UInt8).toNat = 2 ^ 6 - 1 from rfl, Nat.and_two_pow_sub_one_eq_mod]
  omega
end Go.Proofs.YthccknobnpbdeaaDoor
/- wire: the reader's take and jump. -/
namespace Go.Proofs.YthccknobnpbdeaaDoor
open Go.RowKit
set_option linter.unusedVariables false
set_option linter.unusedSimpArgs false

/-- the reader's cells -/
@[reducible] def rdrC (A : Option Addr) (n c : Nat) (at_ low next size : Int) : Array Value := #[.slice A n c, .int .i64 at_, .int .i64 low, .int .i64 next, .int .i64 size]

theorem grown_set {w : World} {g : Nat} (i : Nat) (u : Value) : w.grownBy (w.setCell ⟨g, i, none⟩ u) (some g) :=
  ⟨rfl, rfl, rfl, by simp, fun k _ hk => Below.heap_setCell w _ _ _ (by simpa using fun e => hk (by rw [e]))⟩
theorem World.grownBy.trans {w w1 w2 : World} {r : Option Nat} (h : w.grownBy w1 r) (h' : w1.grownBy w2 r) : w.grownBy w2 r :=
  ⟨h'.os.trans h.os, h'.tape.trans h.tape, h'.output.trans h.output, Nat.le_trans h.size h'.size, fun k hk hne => (h'.block k (Nat.lt_of_lt_of_le hk h.size) hne).trans (h.block k hk hne)⟩
theorem grown_drew {w w' : World} {r : Option Nat} (h : w.grownBy w' r) : w.grownBy w'.drew r := ⟨h.os, h.tape, h.output, h.size, h.block⟩

set_option maxRecDepth 100000 in
set_option maxHeartbeats 2000000 in
theorem take_ok (w : World) (g b o n c at_ k : Nat) (low next size : Int) (T : TypeId) (hB : Blk w g T (rdrC (some ⟨b, o, none⟩) n c at_ low next size)) (hk : at_ + k ≤ n) (h1 : 1 ≤ k) (hn : n ≤ c) (hc : c ≤ maxLen) :
    Calls Tryd.prog 50 #[.pointer (some ⟨g, 0, none⟩), .int .i64 k] w fun e w' => e = .returned (.tuple #[.slice (some ⟨b, o + at_, none⟩) k (c - at_), .nilIface]) ∧ Blk w' g T (rdrC (some ⟨b, o, none⟩) n c ((at_ + k : Nat) : Int) low next size) ∧ w.grownBy w' (some g) ∧ w'.heap.size = w.heap.size := by
  unfold maxLen at hc
  have c0 : w.cell? ⟨g, 0, none⟩ = some (.slice (some ⟨b, o, none⟩) n c) := hB.cell 0
  have c1 : w.cell? ⟨g, 1, none⟩ = some (.int .i64 (at_ : Int)) := hB.cell 1
  have f1 : w.frozen? ⟨g, 1, none⟩ = false := hB.frozen 1
  have hlt := hB.lt
  have H := hid hB
  have e1 : IntKind.i64.wrap ((n : Int) - (at_ : Int)) = (n : Int) - (at_ : Int) := IntWalk.i64_in _ (by omega)
  have e2 : IntKind.i64.wrap ((at_ : Int) + (k : Int)) = (at_ : Int) + (k : Int) := IntWalk.i64_in _ (by omega)
  have hne : ¬ c = at_ := by omega
  have q0 : (0 : Int) ≤ (at_ : Int) := by omega
  have q1 : (at_ : Int) ≤ (at_ : Int) + (k : Int) := by omega
  have q2 : (at_ : Int) + (k : Int) ≤ (c : Int) := by omega
  have q3 : ¬ ((n : Int) - (at_ : Int) < (k : Int)) := by omega
  have q4 : decide ((n : Int) - (at_ : Int) < (k : Int)) = false := decide_eq_false q3
  clear hB
  go_enter Tryd.func50, Tryd.ntmps50
  go_wp2
  go_region
  all_goals go_wp2
  go_region
  all_goals go_wp2
  go_ret2
  refine ⟨?_, ?_, grown_drew (grown_drew (grown_set _ _)), by simp⟩
  · show Ending.returned (.tuple #[.slice (some ⟨b, o + at_, none⟩) (at_ + k - at_) (c - at_), .nilIface]) = _
    rw [Nat.add_sub_cancel_left]
  · have := (H.out.set 1 (.int .i64 ((at_ : Int) + (k : Int)))).drew.drew
    simpa [rdrC] using this

/-- too few bytes -/
theorem take_short (w : World) (g n c : Nat) (A : Option Addr) (at_ k : Nat) (low next size : Int) (T : TypeId) (hB : Blk w g T (rdrC A n c at_ low next size)) (hk : n < at_ + k) (ha : (at_ : Int) ≤ 9223372036854775807) (hkk : (k : Int) ≤ 255) (hn : n ≤ c) (hc : c ≤ maxLen) :
    Calls Tryd.prog 50 #[.pointer (some ⟨g, 0, none⟩), .int .i64 k] w fun e w' => e = .returned (.tuple #[.slice none 0 0, .iface 29 (.int .i64 2)]) ∧ Blk w' g T (rdrC A n c at_ low next size) ∧ w.grownBy w' (some g) ∧ w'.heap.size = w.heap.size := by
  unfold maxLen at hc
  have c0 : w.cell? ⟨g, 0, none⟩ = some (.slice A n c) := hB.cell 0
  have c1 : w.cell? ⟨g, 1, none⟩ = some (.int .i64 (at_ : Int)) := hB.cell 1
  have H := hid hB
  have e1 : IntKind.i64.wrap ((n : Int) - (at_ : Int)) = (n : Int) - (at_ : Int) := IntWalk.i64_in _ (by omega)
  have q3 : (n : Int) - (at_ : Int) < (k : Int) := by omega
  have q4 : decide ((n : Int) - (at_ : Int) < (k : Int)) = true := decide_eq_true q3
  clear hB
  go_enter Tryd.func50, Tryd.ntmps50
  go_wp2
  go_region
  all_goals go_wp2
  go_ret2
  exact ⟨rfl, H.out.drew, ⟨rfl, rfl, rfl, Nat.le_refl _, fun _ _ _ => rfl⟩, rfl⟩

/-! jump -/
theorem jump_ok (w : World) (g b o n c at_ : Nat) (low : Nat) (next size : Int) (T : TypeId) (hB : Blk w g T (rdrC (some ⟨b, o, none⟩) n c at_ low next size)) (hk : at_ + 1 ≤ n) (hn : n ≤ c) (hc : c ≤ maxLen)
    (h y : UInt8) (hh : 192 ≤ h.toNat) (hy : w.cell? ⟨b, o + at_, none⟩ = some (.int .u8 (y.toNat : Int))) (hbg : b < g) (to : Nat) (hto : (h.toNat - 192) * 256 + y.toNat = to) :
    Calls Tryd.prog 51 #[.pointer (some ⟨g, 0, none⟩), .int .u8 (h.toNat : Int)] w fun e w' => e = .returned (if to < low then .nilIface else .iface 29 (.int .i64 4)) ∧ (to < low → Blk w' g T (rdrC (some ⟨b, o, none⟩) n c (to : Int) (to : Int) (if next = 0 then ((at_ + 1 : Nat) : Int) else next) size)) ∧ w.grownBy w' (some g) ∧ w'.heap.size = w.heap.size := by
  have CT := hid (take_ok w g b o n c at_ 1 low next size T hB hk (Nat.le_refl _) hn hc)
  have hg := hB.lt
  have hh1 := h.toNat_lt
  have hy1 := y.toNat_lt
  have k1 := low6 h hh
  obtain ⟨q, hq⟩ : ∃ q : Nat, h.toNat - 192 = q := ⟨_, rfl⟩
  rw [hq] at k1 hto
  have hq1 : q ≤ 63 := by omega
  have k2 : bits .or .i64 ((q : Int) * 256) (y.toNat : Int) = (to : Int) := by
    have h1 := b64_or (q * 256) y.toNat (by omega) (by omega)
    rw [show q * 256 ||| y.toNat = q * 256 + y.toNat from or_low q y.toNat 8 hy1, hto] at h1
    simpa using h1
  have hto1 : to ≤ 16383 := by omega
  have y2 : (0 : Int) ≤ (y.toNat : Int) := by omega
  have y3 : (y.toNat : Int) ≤ 255 := by omega
  clear hB hto hq hh hh1 hy1
  generalize (y.toNat : Int) = yy at *
  generalize (h.toNat : Int) = hv at *
  by_cases hlt : to < low
  · rw [if_pos hlt]
    have t0 : decide ((to : Int) < (low : Int)) = true := decide_eq_true (by omega)
    have t1 : ((to : Int) < (low : Int)) := by omega
    by_cases hn0 : next = 0
    · subst hn0
      rw [if_pos rfl]
      go_enter Tryd.func51, Tryd.ntmps51
      go_wp2_with (go_at_call 50; refine CT.out.mono ?_; rintro e w1 ⟨rfl, hb1, hg1, hz1⟩; have c3 : w1.cell? ⟨g, 3, none⟩ = some (.int .i64 0) := hb1.cell 3; have c1 : w1.cell? ⟨g, 1, none⟩ = some (.int .i64 ((at_ + 1 : Nat) : Int)) := hb1.cell 1; have c2 : w1.cell? ⟨g, 2, none⟩ = some (.int .i64 (low : Int)) := hb1.cell 2; have f1 : w1.frozen? ⟨g, 1, none⟩ = false := hb1.frozen 1; have f2 : w1.frozen? ⟨g, 2, none⟩ = false := hb1.frozen 2; have f3 : w1.frozen? ⟨g, 3, none⟩ = false := hb1.frozen 3; have hyy : w1.cell? ⟨b, o + at_, none⟩ = some (.int .u8 yy) := hg1.cell hy (by simp; omega); have hlt1 : g < w1.heap.size := hb1.lt; have HB1 := hid hb1; have HG1 := hid hg1; have HZ1 := hid hz1; clear hb1 hg1 hz1)
      go_ret
      refine ⟨rfl, fun _ => ?_, ?_, ?_⟩
      · have := ((HB1.out.set 3 (.int .i64 ((at_ : Int) + 1))).set 1 (.int .i64 (to : Int))).set 2 (.int .i64 (to : Int))
        simpa [rdrC] using this
      · exact ((HG1.out.trans (grown_set _ _)).trans (grown_set _ _)).trans (grown_set _ _)
      · simpa using HZ1.out
    · rw [if_neg hn0]
      have hb0 : (next == 0) = false := by rw [beq_eq_false_iff_ne]; exact hn0
      go_enter Tryd.func51, Tryd.ntmps51
      go_wp2_with (go_at_call 50; refine CT.out.mono ?_; rintro e w1 ⟨rfl, hb1, hg1, hz1⟩; have c3 : w1.cell? ⟨g, 3, none⟩ = some (.int .i64 next) := hb1.cell 3; have c1 : w1.cell? ⟨g, 1, none⟩ = some (.int .i64 ((at_ + 1 : Nat) : Int)) := hb1.cell 1; have c2 : w1.cell? ⟨g, 2, none⟩ = some (.int .i64 (low : Int)) := hb1.cell 2; have f1 : w1.frozen? ⟨g, 1, none⟩ = false := hb1.frozen 1; have f2 : w1.frozen? ⟨g, 2, none⟩ = false := hb1.frozen 2; have f3 : w1.frozen? ⟨g, 3, none⟩ = false := hb1.frozen 3; have hyy : w1.cell? ⟨b, o + at_, none⟩ = some (.int .u8 yy) := hg1.cell hy (by simp; omega); have hlt1 : g < w1.heap.size := hb1.lt; have HB1 := hid hb1; have HG1 := hid hg1; have HZ1 := hid hz1; clear hb1 hg1 hz1)
      go_ret
      refine ⟨rfl, fun _ => ?_, ?_, ?_⟩
      · have := (HB1.out.set 1 (.int .i64 (to : Int))).set 2 (.int .i64 (to : Int))
        simpa [rdrC] using this
      · exact (HG1.out.trans (grown_set _ _)).trans (grown_set _ _)
      · simpa using HZ1.out
  · rw [if_neg hlt]
    have t0 : decide ((to : Int) < (low : Int)) = false := decide_eq_false (by omega)
    have t1 : ((low : Int) ≤ (to : Int)) := by omega
    by_cases hn0 : next = 0
    · subst hn0
      go_enter Tryd.func51, Tryd.ntmps51
      go_wp2_with (go_at_call 50; refine CT.out.mono ?_; rintro e w1 ⟨rfl, hb1, hg1, hz1⟩; have c3 : w1.cell? ⟨g, 3, none⟩ = some (.int .i64 0) := hb1.cell 3; have c1 : w1.cell? ⟨g, 1, none⟩ = some (.int .i64 ((at_ + 1 : Nat) : Int)) := hb1.cell 1; have c2 : w1.cell? ⟨g, 2, none⟩ = some (.int .i64 (low : Int)) := hb1.cell 2; have f1 : w1.frozen? ⟨g, 1, none⟩ = false := hb1.frozen 1; have f2 : w1.frozen? ⟨g, 2, none⟩ = false := hb1.frozen 2; have f3 : w1.frozen? ⟨g, 3, none⟩ = false := hb1.frozen 3; have hyy : w1.cell? ⟨b, o + at_, none⟩ = some (.int .u8 yy) := hg1.cell hy (by simp; omega); have hlt1 : g < w1.heap.size := hb1.lt; have HB1 := hid hb1; have HG1 := hid hg1; have HZ1 := hid hz1; clear hb1 hg1 hz1)
      go_ret
      exact ⟨rfl, HG1.out.trans (grown_set _ _), by simpa using HZ1.out⟩
    · have hb0 : (next == 0) = false := by rw [beq_eq_false_iff_ne]; exact hn0
      go_enter Tryd.func51, Tryd.ntmps51
      go_wp2_with (go_at_call 50; refine CT.out.mono ?_; rintro e w1 ⟨rfl, hb1, hg1, hz1⟩; have c3 : w1.cell? ⟨g, 3, none⟩ = some (.int .i64 next) := hb1.cell 3; have c1 : w1.cell? ⟨g, 1, none⟩ = some (.int .i64 ((at_ + 1 : Nat) : Int)) := hb1.cell 1; have c2 : w1.cell? ⟨g, 2, none⟩ = some (.int .i64 (low : Int)) := hb1.cell 2; have f1 : w1.frozen? ⟨g, 1, none⟩ = false := hb1.frozen 1; have f2 : w1.frozen? ⟨g, 2, none⟩ = false := hb1.frozen 2; have f3 : w1.frozen? ⟨g, 3, none⟩ = false := hb1.frozen 3; have hyy : w1.cell? ⟨b, o + at_, none⟩ = some (.int .u8 yy) := hg1.cell hy (by simp; omega); have hlt1 : g < w1.heap.size := hb1.lt; have HB1 := hid hb1; have HG1 := hid hg1; have HZ1 := hid hz1; clear hb1 hg1 hz1)
      go_ret
      exact ⟨rfl, HG1.out, HZ1.out⟩

theorem jump_short (w : World) (g n c at_ : Nat) (A : Option Addr) (low next size : Int) (T : TypeId) (hB : Blk w g T (rdrC A n c at_ low next size)) (hk : n < at_ + 1) (ha : (at_ : Int) ≤ 9223372036854775807) (hn : n ≤ c) (hc : c ≤ maxLen) (x : Int) :
    Calls Tryd.prog 51 #[.pointer (some ⟨g, 0, none⟩), .int .u8 x] w fun e w' => e = .returned (.iface 29 (.int .i64 2)) ∧ w.grownBy w' (some g) ∧ w'.heap.size = w.heap.size := by
  have CT := hid (take_short w g n c A at_ 1 low next size T hB hk ha (by omega) hn hc)
  clear hB
  go_enter Tryd.func51, Tryd.ntmps51
  go_wp2_with (go_at_call 50; refine CT.out.mono ?_; rintro e w1 ⟨rfl, hb1, hg1, hz1⟩; have HG1 := hid hg1; have HZ1 := hid hz1; clear hb1 hg1 hz1)
  go_ret
  exact ⟨rfl, HG1.out, HZ1.out⟩
end Go.Proofs.YthccknobnpbdeaaDoor
/- Names: alike, Same, Fold, Under; two lists of texts. -/
namespace Go.Proofs.YthccknobnpbdeaaDoor
open Go.RowKit
set_option linter.unusedVariables false
set_option linter.unusedSimpArgs false

theorem str_beq (a b : ByteArray) : (a.toList == b.toList) = decide (a = b) := by
  rw [ByteArray.toList_eq, ByteArray.toList_eq, Bool.eq_iff_iff, beq_iff_eq, decide_eq_true_iff]
  constructor
  · intro h
    cases a; cases b
    simp only at h
    rw [Array.toList_inj.1 h]
  · intro h; rw [h]
theorem below_drawsN {B : Nat} {a w : World} (h : Below B a w) (n : Nat) : Below B a (w.drewN n) := ⟨h.os, h.tape, h.output, h.size, h.block⟩
theorem take_succ_map {α β : Type} {l : List α} {m : List β} {γ : Type} {f : α → γ} {g : β → γ} {k : Nat} (h : (l.take k).map f = (m.take k).map g) (hl : k < l.length) (hm : k < m.length) (he : f l[k] = g m[k]) : (l.take (k + 1)).map f = (m.take (k + 1)).map g := by
  rw [List.take_succ_eq_append_getElem hl, List.take_succ_eq_append_getElem hm, List.map_append, List.map_append, h]; simp [he]

set_option maxHeartbeats 2000000 in
theorem texts_any (w : World) (A1 : Option Addr) (n1 c1 : Nat) (l1 : List ByteArray) (B1 : Nat) (h1 : Rd strR w B1 A1 n1 c1 l1) (A2 : Option Addr) (n2 c2 : Nat) (l2 : List ByteArray) (B2 : Nat) (h2 : Rd strR w B2 A2 n2 c2 l2) :
    Calls Tryd.prog 21 #[.slice A1 n1 c1, .slice A2 n2 c2] w fun e w' => e = .returned (.bool (decide (l1 = l2))) ∧ Below w.heap.size w w' := by
  have m1 := h1.max
  have k1 := h1.cap
  have m2 := h2.max
  have k2 := h2.cap
  unfold maxLen at m1 m2
  have H1 := hid h1
  have H2 := hid h2
  clear h1 h2
  by_cases hn : n1 = n2
  · subst hn
    go_enter Tryd.func21, Tryd.ntmps21
    go_wp2
    go_loopg [5] n1 (fun g v wi => ∃ k m : Nat, k ≤ n1 ∧ g = n1 - k ∧ v = .int .i64 k ∧ wi = w.drewN m ∧ l1.take k = l2.take k)
    case atStart => exact ⟨0, 0, Nat.zero_le _, rfl, rfl, rfl, rfl⟩
    case round =>
      obtain ⟨k, m, hk, rfl, rfl, rfl, ht⟩ := hrel
      have HT := hid ht
      clear ht
      by_cases hlt : k < n1
      · obtain ⟨b1, o1, rfl, _, hc1, _⟩ := H1.out.str k hlt
        obtain ⟨b2, o2, rfl, _, hc2, _⟩ := H2.out.str k hlt
        have q1 : k < l1.length := by rw [H1.out.len]; exact hlt
        have q2 : k < l2.length := by rw [H2.out.len]; exact hlt
        have hkz : (k : Int) < (n1 : Int) := by omega
        obtain ⟨x, hx⟩ : ∃ x, l1[k] = x := ⟨_, rfl⟩
        obtain ⟨y, hy⟩ : ∃ y, l2[k] = y := ⟨_, rfl⟩
        rw [hx] at hc1
        rw [hy] at hc2
        have HXY := hid (And.intro hx hy)
        clear hx hy
        by_cases he : x = y
        · subst he
          have hv : (x.toList != x.toList) = false := by simp
          have hv' : (x.toList == x.toList) = true := by simp
          go_wp2_with fail
          go_quiet (fail)
          go_wp2
          go_roundg (n1 - (k + 1))
          case measure => omega
          case rel => exact ⟨k + 1, _, by omega, rfl, by go_num, rfl, by rw [List.take_succ_eq_append_getElem q1, List.take_succ_eq_append_getElem q2, HT.out, HXY.out.1, HXY.out.2]⟩
        · have hv' : (x.toList == y.toList) = false := by rw [str_beq]; simp [he]
          have hv : (x.toList != y.toList) = true := by rw [bne, hv']; rfl
          have hr : decide (l1 = l2) = false := decide_eq_false fun h => he (by rw [← HXY.out.1, ← HXY.out.2]; simp [h])
          clear he
          go_wp2_with fail
          go_quiet (fail)
          go_wp2
          go_ret
          exact ⟨by first | rfl | (rw [hr]; rfl), by first | exact below_drawsN (below_drawsN (Below.refl _ _) _) _ | exact below_drawsN (Below.refl _ _) _⟩
      · have hr : decide (l1 = l2) = true := decide_eq_true (by
          have h := HT.out
          rwa [List.take_of_length_le (by have := H1.out.len; omega), List.take_of_length_le (by have := H2.out.len; omega)] at h)
        go_wp2
        go_ret
        exact ⟨by first | rfl | (rw [hr]; rfl), below_drawsN (Below.refl _ _) _⟩
  · have hv : ((n1 : Int) != (n2 : Int)) = true := by rw [bne_iff_ne]; omega
    have hr : decide (l1 = l2) = false := decide_eq_false fun h => hn (by rw [← H1.out.len, ← H2.out.len, h])
    go_enter Tryd.func21, Tryd.ntmps21
    go_wp2
    go_ret
    exact ⟨by first | rfl | (rw [hr]; rfl), Below.refl _ _⟩

/-- are they the same, folded? -/
def sameL (a b : List ByteArray) : Bool := decide (a.map smallS = b.map smallS)

end Go.Proofs.YthccknobnpbdeaaDoor
/- Names: Fold, Under, strings.Compare, slices.CompareFunc, slices.Clone of texts. -/
namespace Go.Proofs.YthccknobnpbdeaaDoor
open Go.RowKit
set_option linter.unusedVariables false
set_option linter.unusedSimpArgs false

theorem el_str : El Tryd.prog 46 9 1 16 := el_of (z := .string .empty) Tryd.underlying46 (by kernel_rfl) rfl (by decide)
@[reducible] def strsV (l : List ByteArray) : List Value := l.map Value.string
theorem rels_str {w : World} {B : Nat} {l : List ByteArray} (h : ∀ s ∈ l, s.size ≤ 140737488355328) : Rels strR w B l (strsV l) := by
  refine ⟨l.map fun s => [Value.string s], by simp, ?_, fun i hi hi' => ?_⟩
  · clear h
    induction l with
    | nil => rfl
    | cons a l ih => simp [ih]
  · simp only [List.getElem_map]
    exact ⟨rfl, h _ (List.getElem_mem _)⟩
theorem Rd.sizes {w : World} {B n c : Nat} {A : Option Addr} {l : List ByteArray} (h : Rd strR w B A n c l) : ∀ s ∈ l, s.size ≤ 140737488355328 := by
  intro s hs
  obtain ⟨i, hi, rfl⟩ := List.getElem_of_mem hs
  obtain ⟨_, _, _, _, _, hz⟩ := h.str i (by rw [← h.len]; exact hi)
  exact hz

/-! Fold -/
/-! Under -/
def underL (a b : List ByteArray) : Bool := decide (b.length ≤ a.length) && sameL (a.drop (a.length - b.length)) b
theorem Rd.dropS {w : World} {B n c b o k : Nat} {l : List ByteArray} (h : Rd strR w B (some ⟨b, o, none⟩) n c l) (hk : k ≤ n) : Rd strR w B (some ⟨b, o + k, none⟩) (n - k) (c - k) (l.drop k) := by
  have hc := h.cap
  have hm := h.max
  have hl := h.lim
  refine ⟨by rw [List.length_drop, h.len], by omega, by omega, ?_, fun e => (by cases e), fun i hi => ?_⟩
  · simp only [strR] at hl ⊢; omega
  · have hi' : k + i < l.length := by rw [List.length_drop] at hi; omega
    obtain ⟨b', off, vs, e, hb, hr, hcell⟩ := h.at_ (k + i) hi'
    cases e
    refine ⟨b, o + k, vs, rfl, hb, by rw [List.getElem_drop]; exact hr, fun j u hu => ?_⟩
    have := hcell j u hu
    simpa [strR, Nat.add_assoc] using this

/-! strings.Compare -/
/-- two labels, folded -/
def cmpB (a b : ByteArray) : Int := Go.Lib.compareBytes (smallL a.data.toList) (smallL b.data.toList)
/-- from the first label on -/
def cmpL : List ByteArray → List ByteArray → Int
  | [], [] => 0
  | [], _ :: _ => -1
  | _ :: _, [] => 1
  | a :: l, b :: m => if cmpB a b = 0 then cmpL l m else cmpB a b
theorem cmpL_step {l m : List ByteArray} {k : Nat} (hl : k < l.length) (hm : k < m.length) : cmpL (l.drop k) (m.drop k) = if cmpB l[k] m[k] = 0 then cmpL (l.drop (k + 1)) (m.drop (k + 1)) else cmpB l[k] m[k] := by
  rw [List.drop_eq_getElem_cons hl, List.drop_eq_getElem_cons hm, cmpL]

/-! Under -/
/-! slices.Clone -/
theorem flat_one (l : List ByteArray) : (l.map fun s => [Value.string s]).flatten = strsV l := by
  induction l with
  | nil => rfl
  | cons a l ih => simp only [strsV] at ih; simp [ih]
end Go.Proofs.YthccknobnpbdeaaDoor
/- wire: the reader's labels; Read. -/
namespace Go.Proofs.YthccknobnpbdeaaDoor
open Go.RowKit
set_option linter.unusedVariables false
set_option linter.unusedSimpArgs false

theorem Rd.dropB {w : World} {B n c b o k : Nat} {l : List UInt8} (h : Rd u8R w B (some ⟨b, o, none⟩) n c l) (hk : k ≤ n) : Rd u8R w B (some ⟨b, o + k, none⟩) (n - k) (c - k) (l.drop k) := by
  have hc := h.cap
  have hm := h.max
  have hl := h.lim
  refine ⟨by rw [List.length_drop, h.len], by omega, by omega, ?_, fun e => (by cases e), fun i hi => ?_⟩
  · simp only [u8R] at hl ⊢; omega
  · have hi' : k + i < l.length := by rw [List.length_drop] at hi; omega
    obtain ⟨b', off, vs, e, hb, hr, hcell⟩ := h.at_ (k + i) hi'
    cases e
    refine ⟨b, o + k, vs, rfl, hb, by rw [List.getElem_drop]; exact hr, fun j u hu => ?_⟩
    have := hcell j u hu
    simpa [u8R, Nat.add_assoc] using this
/-- 'string(b)' of a slice of bytes -/
theorem Rd.conv {w : World} {B n c b o : Nat} {l : List UInt8} (h : Rd u8R w B (some ⟨b, o, none⟩) n c l) : (convert 22 9 (.slice (some ⟨b, o, none⟩) n c)).run Tryd.prog w = .ok (.string ⟨l.toArray⟩) w := by
  have := run_convert_bytes_back w 22 9 5 ⟨b, o, none⟩ c l Tryd.underlying22 Tryd.underlying5 Tryd.underlying9 (by
    intro j hj
    obtain ⟨b0, o0, e, _, hc⟩ := h.u8 j (by rw [← h.len]; exact hj)
    cases e
    rw [add_none]
    exact hc)
  rwa [h.len] at this
theorem Rd.get {w : World} {B n c b o : Nat} {l : List UInt8} (h : Rd u8R w B (some ⟨b, o, none⟩) n c l) (i : Nat) (hi : i < n) : ∃ x : UInt8, l[i]? = some x ∧ w.cell? ⟨b, o + i, none⟩ = some (.int .u8 (x.toNat : Int)) ∧ b < B := by
  obtain ⟨b0, o0, e, hb, hc⟩ := h.u8 i hi
  cases e
  exact ⟨_, List.getElem?_eq_getElem (by rw [h.len]; exact hi), hc, hb⟩
theorem grown_belowB {w w' : World} {g : Nat} (h : w.grownBy w' (some g)) (hg : g ≤ w.heap.size) : Below g w w' :=
  ⟨h.os, h.tape, h.output, h.size, fun k hk => h.block k (by omega) (fun e => by cases e; omega)⟩
theorem own_grown {w w' : World} {base : Nat} {e : TypeId} {size : Nat} {v : Value} {n g : Nat} {xs : List Value} (h : w.ownsRow base e size v n xs) (hg : w.grownBy w' (some g)) (hb : g < base) : w'.ownsRow base e size v n xs :=
  h.kept hg (by
    cases e : v.ownBlock with
    | none => exact .inl rfl
    | some k =>
      right
      have := (h.lt k e).1
      intro h
      cases h
      omega)
theorem lsum_snoc (l : List ByteArray) (s : ByteArray) : lsum (l ++ [s]) = lsum l + (s.size + 1) := by simp [lsum]
theorem lsum_len (l : List ByteArray) : l.length ≤ lsum l := by
  induction l with
  | nil => simp
  | cons a l ih => rw [lsum_cons, List.length_cons]; omega
theorem lsum_mem {l : List ByteArray} {s : ByteArray} (h : s ∈ l) : s.size ≤ lsum l := by
  induction l with
  | nil => simp at h
  | cons a l ih =>
    rw [lsum_cons]
    rcases List.mem_cons.1 h with rfl | h
    · omega
    · have := ih h; omega

/-- where the reader is -/
structure LabS (w : World) (g : Nat) (T : TypeId) (A : Option Addr) (n c : Nat) (m : List UInt8) (at0 : Nat) (wi : World) (v : Value) (low at_ : Nat) (next : Int) (out : List ByteArray) : Prop where
  blk : Blk wi g T (rdrC A n c at_ low next (lsum out : Int))
  own : wi.ownsRow w.heap.size 9 1 v out.length (strsV out)
  bel : Below g w wi
  atn : at_ ≤ n
  lown : low ≤ n
  size : lsum out ≤ 254
  fault : (nm m at0 at0 1).1 = (nm m low at_ (lsum out + 1)).1
  labs : (nm m at0 at0 1).2.1 = out ++ (nm m low at_ (lsum out + 1)).2.1
  behind : ((nm m at0 at0 1).2.2 : Int) = if next = 0 then ((nm m low at_ (lsum out + 1)).2.2 : Int) else next

/-- what labels tells -/
def LabE (w : World) (g : Nat) (T : TypeId) (A : Option Addr) (n c : Nat) (m : List UInt8) (at0 : Nat) (e : Ending) (w' : World) : Prop :=
  Below g w w' ∧ if (nm m at0 at0 1).1 = 0 then ∃ A' c' at1 lo1 sz1, e = .returned (.tuple #[.slice A' (nm m at0 at0 1).2.1.length c', .nilIface]) ∧ Rd strR w' w'.heap.size A' (nm m at0 at0 1).2.1.length c' (nm m at0 at0 1).2.1 ∧ Blk w' g T (rdrC A n c at1 lo1 ((nm m at0 at0 1).2.2 : Int) sz1)
    else e = .returned (.tuple #[.slice none 0 0, .iface 29 (.int .i64 (nm m at0 at0 1).1)])
theorem labE_bad {w : World} {g : Nat} {T : TypeId} {A : Option Addr} {n c : Nat} {m : List UInt8} {at0 : Nat} {w' : World} {k : Int} (h : (nm m at0 at0 1).1 = k) (hk : k ≠ 0) (hb : Below g w w') :
    LabE w g T A n c m at0 (.returned (.tuple #[.slice none 0 0, .iface 29 (.int .i64 k)])) w' := by
  refine ⟨hb, ?_⟩
  rw [if_neg (by rw [h]; exact hk), h]

theorem labE_ok {w : World} {g : Nat} {T : TypeId} {A : Option Addr} {n c : Nat} {m : List UInt8} {at0 : Nat} {w' : World} {out : List ByteArray} {v : Value} {at1 lo1 next sz1 : Int} (h : (nm m at0 at0 1).1 = 0) (hl : (nm m at0 at0 1).2.1 = out) (hn : ((nm m at0 at0 1).2.2 : Int) = next)
    (hown : w'.ownsRow w.heap.size 9 1 v out.length (strsV out)) (hz : lsum out ≤ 254) (hw : w.heap.size ≤ w'.heap.size) (hB : Blk w' g T (rdrC A n c at1 lo1 next sz1)) (hb : Below g w w') : LabE w g T A n c m at0 (.returned (.tuple #[v, .nilIface])) w' := by
  have hlen := lsum_len out
  obtain ⟨A', c', rfl, hr⟩ := rd_of_own (R := strR) hown (rels_str fun s hs => by have := lsum_mem hs; omega) rfl hw (by simp only [strR]; omega) (by decide)
  refine ⟨hb, ?_⟩
  rw [if_pos h, hl]
  exact ⟨A', c', at1, lo1, sz1, rfl, hr, by rw [hn]; exact hB⟩

set_option maxRecDepth 100000 in
set_option maxHeartbeats 8000000 in
theorem labels_any (w : World) (g : Nat) (T : TypeId) (A : Option Addr) (n c : Nat) (m : List UInt8) (at0 : Nat) (hM : Rd u8R w g A n c m) (hB : Blk w g T (rdrC A n c at0 at0 0 0)) (hat : at0 < n) :
    Calls Tryd.prog 39 #[.pointer (some ⟨g, 0, none⟩)] w (LabE w g T A n c m at0) := by
  have hm := hM.max
  have hcap := hM.cap
  have hcm := hM.max
  have hgw := hB.lt
  unfold maxLen at hm
  obtain ⟨b, o, rfl, hbg⟩ := hM.addr (by omega)
  have hln := hid hM.len
  have HM := hid hM
  have HB := hid hB
  clear hM hB
  have tk0 : True := trivial; have tk1 : True := trivial; have tk2 : True := trivial; have tk3 : True := trivial; have tk4 : True := trivial; have tk5 : True := trivial; have tk6 : True := trivial; have tk7 : True := trivial; have tk8 : True := trivial; have tk9 : True := trivial; have tk10 : True := trivial; have tk11 : True := trivial; have tk12 : True := trivial
  go_enter Tryd.func39, Tryd.ntmps39
  go_wp2
  go_loopg [4] (at0 * (n + 1) + (n - at0)) (fun gk v4 wi => ∃ (low at_ : Nat) (next : Int) (out : List ByteArray), gk = low * (n + 1) + (n - at_) ∧ LabS w g T (some ⟨b, o, none⟩) n c m at0 wi v4 low at_ next out)
  case atStart =>
    refine ⟨at0, at0, 0, [], rfl, HB.out, World.ownsRow_nil _ _ _ _, Below.refl _ _, by omega, by omega, by simp [lsum], ?_, ?_, ?_⟩
    · rfl
    · rfl
    · rfl
  case round =>
    obtain ⟨low, at_, next, out, rfl, hs⟩ := hrel
    have hat' := hs.atn
    have hlow := hs.lown
    have hsz := hs.size
    have hgr : g < wr.heap.size := hs.blk.lt
    have hg0 : g ≤ wr.heap.size := Nat.le_of_lt hgr
    have HS := hid hs
    clear hs
    by_cases hend : n ≤ at_
    · have CT := hid (take_short wr g n c _ at_ 1 low next (lsum out) T HS.out.blk (by omega) (by omega) (by omega) hcap hcm)
      have hr : (nm m at0 at0 1).1 = 2 := by rw [HS.out.fault, nm_end (by rw [hln.out]; exact hend)]
      have HR := hid hr
      clear hr
      go_wp2_with (go_at_call 50; refine CT.out.mono ?_; rintro e w1 ⟨rfl, hb1, hg1, hz1⟩; have HG1 := hid hg1; clear hb1 hg1 hz1)
      go_ret2
      exact labE_bad HR.out (by decide) (HS.out.bel.trans (grown_belowB HG1.out hg0))
    · obtain ⟨x, hx, cx, _⟩ := (HM.out.below HS.out.bel).get at_ (by omega)
      have CT := hid (take_ok wr g b o n c at_ 1 low next (lsum out) T HS.out.blk (by omega) (Nat.le_refl _) hcap hcm)
      have hx1 := x.toNat_lt
      have HX := hid hx
      clear hx
      have ways : x.toNat = 0 ∨ (192 ≤ x.toNat ∧ n ≤ at_ + 1) ∨ (192 ≤ x.toNat ∧ at_ + 1 < n) ∨ (63 < x.toNat ∧ x.toNat < 192) ∨ (1 ≤ x.toNat ∧ x.toNat ≤ 63) := by omega
      rcases ways with h0 | ⟨h1, h2⟩ | ⟨h1, h2⟩ | ⟨h1, h2⟩ | ⟨h1, h2⟩
      · have hz0 : x = 0 := by rw [← UInt8.toNat_inj]; exact h0
        have t0 := nm_zero (low := low) (size := lsum out + 1) HX.out h0
        have hr : (nm m at0 at0 1).1 = 0 := by rw [HS.out.fault, t0]
        have hl : (nm m at0 at0 1).2.1 = out := by rw [HS.out.labs, t0, List.append_nil]
        have hn : ((nm m at0 at0 1).2.2 : Int) = if next = 0 then ((at_ + 1 : Nat) : Int) else next := by rw [HS.out.behind, t0]
        have HR := hid (And.intro hr (And.intro hl hn))
        have e0 : ((x.toNat : Int) == 0) = true := by rw [beq_iff_eq]; omega
        have wz : w.heap.size ≤ wr.heap.size := HS.out.bel.size
        clear hr hl hn t0 hz0
        by_cases hn0 : next = 0
        · subst hn0
          go_wp2_with (go_at_call 50; have _t := tk1; refine CT.out.mono ?_; rintro e w1 ⟨rfl, hb1, hg1, hz1⟩; have cx1 : w1.cell? ⟨b, o + at_, none⟩ = some (.int .u8 (x.toNat : Int)) := hg1.cell cx (by simp; omega); have c1 : w1.cell? ⟨g, 1, none⟩ = some (.int .i64 ((at_ + 1 : Nat) : Int)) := hb1.cell 1; have c3 : w1.cell? ⟨g, 3, none⟩ = some (.int .i64 0) := hb1.cell 3; have f3 : w1.frozen? ⟨g, 3, none⟩ = false := hb1.frozen 3; have hlt1 : g < w1.heap.size := hb1.lt; have HB1 := hid hb1; have HG1 := hid hg1; have HZ1 := hid hz1; clear hb1 hg1 hz1 tk1)
          go_ret2
          obtain ⟨hr, hl, hn⟩ := HR.out
          simp only [↓reduceIte] at hn
          refine labE_ok hr hl hn (own_far (own_grown HS.out.own HG1.out hgw) hgw _) hsz (by simp; have := HZ1.out; omega) (HB1.out.set 3 _) (HS.out.bel.trans (grown_belowB (HG1.out.trans (grown_set _ _)) hg0))
        · have en : (next == 0) = false := by rw [beq_eq_false_iff_ne]; exact hn0
          go_wp2_with (go_at_call 50; have _t := tk1; refine CT.out.mono ?_; rintro e w1 ⟨rfl, hb1, hg1, hz1⟩; have cx1 : w1.cell? ⟨b, o + at_, none⟩ = some (.int .u8 (x.toNat : Int)) := hg1.cell cx (by simp; omega); have c1 : w1.cell? ⟨g, 1, none⟩ = some (.int .i64 ((at_ + 1 : Nat) : Int)) := hb1.cell 1; have c3 : w1.cell? ⟨g, 3, none⟩ = some (.int .i64 next) := hb1.cell 3; have f3 : w1.frozen? ⟨g, 3, none⟩ = false := hb1.frozen 3; have hlt1 : g < w1.heap.size := hb1.lt; have HB1 := hid hb1; have HG1 := hid hg1; have HZ1 := hid hz1; clear hb1 hg1 hz1 tk1)
          go_ret2
          obtain ⟨hr, hl, hn⟩ := HR.out
          rw [if_neg hn0] at hn
          exact labE_ok hr hl hn (own_grown HS.out.own HG1.out hgw) hsz (by have := HZ1.out; omega) HB1.out (HS.out.bel.trans (grown_belowB HG1.out hg0))
      · have hr : (nm m at0 at0 1).1 = 2 := by rw [HS.out.fault, nm_ptr_short HX.out h1 (by rw [hln.out]; exact h2)]
        have HR := hid hr
        have CJ := hid fun w' (hB : Blk w' g T (rdrC (some ⟨b, o, none⟩) n c ((at_ + 1 : Nat) : Int) low next (lsum out : Int))) => jump_short w' g n c (at_ + 1) _ low next (lsum out) T hB (by omega) (by omega) hcap hcm (x.toNat : Int)
        have e0 : ((x.toNat : Int) == 0) = false := by rw [beq_eq_false_iff_ne]; omega
        have e1 : (192 : Int) ≤ (x.toNat : Int) := by omega
        clear hr
        go_wp2_with (first
          | (go_at_call 50; have _t := tk1; refine CT.out.mono ?_; rintro e w1 ⟨rfl, hb1, hg1, hz1⟩; have cx1 : w1.cell? ⟨b, o + at_, none⟩ = some (.int .u8 (x.toNat : Int)) := hg1.cell cx (by simp; omega); have c1 : w1.cell? ⟨g, 1, none⟩ = some (.int .i64 ((at_ + 1 : Nat) : Int)) := hb1.cell 1; have c3 : w1.cell? ⟨g, 3, none⟩ = some (.int .i64 next) := hb1.cell 3; have f3 : w1.frozen? ⟨g, 3, none⟩ = false := hb1.frozen 3; have hlt1 : g < w1.heap.size := hb1.lt; have HB1 := hid hb1; have HG1 := hid hg1; have HZ1 := hid hz1; clear hb1 hg1 hz1 tk1)
          | (go_at_call 51; refine (CJ.out _ HB1.out).mono ?_; rintro e w2 ⟨rfl, hg2, hz2⟩; have HG2 := hid hg2; clear hg2 hz2))
        go_ret2
        exact labE_bad HR.out (by decide) (HS.out.bel.trans (grown_belowB (HG1.out.trans HG2.out) hg0))
      · obtain ⟨y, hy, cy, _⟩ := (HM.out.below HS.out.bel).get (at_ + 1) (by omega)
        obtain ⟨to, hto⟩ : ∃ to : Nat, (x.toNat - 192) * 256 + y.toNat = to := ⟨_, rfl⟩
        have hy1 := y.toNat_lt
        have t0 := nm_ptr (low := low) (size := lsum out + 1) HX.out h1 hy hto
        have HT := hid t0
        have CJ := hid fun w' (hB : Blk w' g T (rdrC (some ⟨b, o, none⟩) n c ((at_ + 1 : Nat) : Int) low next (lsum out : Int))) (hc : w'.cell? ⟨b, o + (at_ + 1), none⟩ = some (.int .u8 (y.toNat : Int))) => jump_ok w' g b o n c (at_ + 1) low next (lsum out) T hB (by omega) hcap hcm x y h1 hc hbg to hto
        have e0 : ((x.toNat : Int) == 0) = false := by rw [beq_eq_false_iff_ne]; omega
        have e1 : (192 : Int) ≤ (x.toNat : Int) := by omega
        clear hto t0 hy
        by_cases hlt : to < low
        · go_wp2_with (first
            | (go_at_call 50; have _t := tk1; refine CT.out.mono ?_; rintro e w1 ⟨rfl, hb1, hg1, hz1⟩; have cx1 : w1.cell? ⟨b, o + at_, none⟩ = some (.int .u8 (x.toNat : Int)) := hg1.cell cx (by simp; omega); have c1 : w1.cell? ⟨g, 1, none⟩ = some (.int .i64 ((at_ + 1 : Nat) : Int)) := hb1.cell 1; have c3 : w1.cell? ⟨g, 3, none⟩ = some (.int .i64 next) := hb1.cell 3; have f3 : w1.frozen? ⟨g, 3, none⟩ = false := hb1.frozen 3; have hlt1 : g < w1.heap.size := hb1.lt; have HB1 := hid hb1; have HG1 := hid hg1; have HZ1 := hid hz1; clear hb1 hg1 hz1 tk1)
            | (go_at_call 51; refine (CJ.out _ HB1.out (HG1.out.cell cy (by simp; omega))).mono ?_; rw [if_pos hlt]; rintro e w2 ⟨rfl, hb2, hg2, hz2⟩; have HB2 := hid (hb2 hlt); have HG2 := hid hg2; have HZ2 := hid hz2; clear hg2 hz2 hb2))
          go_roundg (to * (n + 1) + (n - to))
          case measure =>
            have : (to + 1) * (n + 1) ≤ low * (n + 1) := Nat.mul_le_mul_right _ hlt
            rw [Nat.succ_mul] at this
            omega
          case rel =>
            have t0 := HT.out
            rw [if_pos hlt] at t0
            refine ⟨to, to, _, out, rfl, HB2.out, own_grown (own_grown HS.out.own HG1.out hgw) HG2.out hgw, HS.out.bel.trans (grown_belowB (HG1.out.trans HG2.out) hg0), by omega, by omega, hsz, ?_, ?_, ?_⟩
            · rw [HS.out.fault, t0]
            · rw [HS.out.labs, t0]
            · rw [HS.out.behind, t0]
              by_cases hn0 : next = 0
              · rw [if_pos hn0]
                dsimp only
                rw [if_neg (by omega)]
              · rw [if_neg hn0, if_neg hn0]
        · have hr : (nm m at0 at0 1).1 = 4 := by rw [HS.out.fault, HT.out, if_neg hlt]
          have HR := hid hr
          clear hr
          go_wp2_with (first
            | (go_at_call 50; have _t := tk1; refine CT.out.mono ?_; rintro e w1 ⟨rfl, hb1, hg1, hz1⟩; have cx1 : w1.cell? ⟨b, o + at_, none⟩ = some (.int .u8 (x.toNat : Int)) := hg1.cell cx (by simp; omega); have c1 : w1.cell? ⟨g, 1, none⟩ = some (.int .i64 ((at_ + 1 : Nat) : Int)) := hb1.cell 1; have c3 : w1.cell? ⟨g, 3, none⟩ = some (.int .i64 next) := hb1.cell 3; have f3 : w1.frozen? ⟨g, 3, none⟩ = false := hb1.frozen 3; have hlt1 : g < w1.heap.size := hb1.lt; have HB1 := hid hb1; have HG1 := hid hg1; have HZ1 := hid hz1; clear hb1 hg1 hz1 tk1)
            | (go_at_call 51; refine (CJ.out _ HB1.out (HG1.out.cell cy (by simp; omega))).mono ?_; rw [if_neg hlt]; rintro e w2 ⟨rfl, hb2, hg2, hz2⟩; have HG2 := hid hg2; clear hg2 hz2 hb2))
          go_ret2
          exact labE_bad HR.out (by decide) (HS.out.bel.trans (grown_belowB (HG1.out.trans HG2.out) hg0))
      · have hr : (nm m at0 at0 1).1 = 3 := by rw [HS.out.fault, nm_big HX.out h1 h2]
        have HR := hid hr
        have e0 : ((x.toNat : Int) == 0) = false := by rw [beq_eq_false_iff_ne]; omega
        have e1 : (x.toNat : Int) < 192 := by omega
        have e2 : (63 : Int) < (x.toNat : Int) := by omega
        clear hr
        go_wp2_with (go_at_call 50; have _t := tk1; refine CT.out.mono ?_; rintro e w1 ⟨rfl, hb1, hg1, hz1⟩; have cx1 : w1.cell? ⟨b, o + at_, none⟩ = some (.int .u8 (x.toNat : Int)) := hg1.cell cx (by simp; omega); have c1 : w1.cell? ⟨g, 1, none⟩ = some (.int .i64 ((at_ + 1 : Nat) : Int)) := hb1.cell 1; have c3 : w1.cell? ⟨g, 3, none⟩ = some (.int .i64 next) := hb1.cell 3; have f3 : w1.frozen? ⟨g, 3, none⟩ = false := hb1.frozen 3; have hlt1 : g < w1.heap.size := hb1.lt; have HB1 := hid hb1; have HG1 := hid hg1; have HZ1 := hid hz1; clear hb1 hg1 hz1 tk1)
        go_ret2
        exact labE_bad HR.out (by decide) (HS.out.bel.trans (grown_belowB HG1.out hg0))
      · have e0 : ((x.toNat : Int) == 0) = false := by rw [beq_eq_false_iff_ne]; omega
        have e1 : (x.toNat : Int) < 192 := by omega
        have e2 : (x.toNat : Int) ≤ 63 := by omega
        obtain ⟨xn, hxn⟩ : ∃ xn, x.toNat = xn := ⟨_, rfl⟩
        by_cases hs1 : n < at_ + 1 + x.toNat
        · have hr : (nm m at0 at0 1).1 = 2 := by rw [HS.out.fault, nm_lab_short HX.out h1 h2 (by rw [hln.out]; exact hs1)]
          have HR := hid hr
          have CT2 := hid fun w' (hB : Blk w' g T (rdrC (some ⟨b, o, none⟩) n c ((at_ + 1 : Nat) : Int) low next (lsum out : Int))) => take_short w' g n c _ (at_ + 1) x.toNat low next (lsum out) T hB hs1 (by omega) (by omega) hcap hcm
          clear hr hxn
          go_wp2_with (first
            | (go_at_call 50; have _t := tk1; refine CT.out.mono ?_; rintro e w1 ⟨rfl, hb1, hg1, hz1⟩; have cx1 : w1.cell? ⟨b, o + at_, none⟩ = some (.int .u8 (x.toNat : Int)) := hg1.cell cx (by simp; omega); have c1 : w1.cell? ⟨g, 1, none⟩ = some (.int .i64 ((at_ + 1 : Nat) : Int)) := hb1.cell 1; have c3 : w1.cell? ⟨g, 3, none⟩ = some (.int .i64 next) := hb1.cell 3; have f3 : w1.frozen? ⟨g, 3, none⟩ = false := hb1.frozen 3; have hlt1 : g < w1.heap.size := hb1.lt; have HB1 := hid hb1; have HG1 := hid hg1; have HZ1 := hid hz1; clear hb1 hg1 hz1 tk1)
            | (go_at_call 50; have _t := tk2; refine (CT2.out _ HB1.out).mono ?_; rintro e w2 ⟨rfl, hb2, hg2, hz2⟩; have HG2 := hid hg2; clear hg2 hz2 hb2 tk2))
          go_ret2
          exact labE_bad HR.out (by decide) (HS.out.bel.trans (grown_belowB (HG1.out.trans HG2.out) hg0))
        · have CT2 := hid fun w' (hB : Blk w' g T (rdrC (some ⟨b, o, none⟩) n c ((at_ + 1 : Nat) : Int) low next (lsum out : Int))) => take_ok w' g b o n c (at_ + 1) x.toNat low next (lsum out) T hB (by omega) h1 hcap hcm
          by_cases hbig : lsum out + (x.toNat + 1) ≤ 254
          · have hconv : ∀ W, Below g wr W → (convert 22 9 (.slice (some ⟨b, o + (at_ + 1), none⟩) x.toNat (c - (at_ + 1)))).run Tryd.prog W = .ok (.string (segB m (at_ + 1) x.toNat)) W := by
              intro W hW
              exact (((HM.out.below (HS.out.bel.trans hW)).dropB (k := at_ + 1) (by omega)).take (k := x.toNat) (by omega)).conv
            have hseg := segB_size m (at_ + 1) x.toNat (by rw [hln.out]; omega)
            have ht := nm_lab (low := low) (size := lsum out + 1) HX.out h1 h2 (by rw [hln.out]; omega) (by omega)
            obtain ⟨sg, hsg⟩ : ∃ sg, segB m (at_ + 1) x.toNat = sg := ⟨_, rfl⟩
            rw [hsg] at hconv hseg ht
            have hls : lsum (out ++ [sg]) = lsum out + (x.toNat + 1) := by rw [lsum_snoc, hseg]
            have CV := hid hconv
            have HT := hid ht
            have HLS := hid hls
            have hol := lsum_len out
            have ab4 : (out.length + 1) * 16 ≤ 140737488355328 := by omega
            have ab3 : out.length + 1 ≤ maxLen := by unfold maxLen; omega
            have hwz : w.heap.size ≤ wr.heap.size := HS.out.bel.size
            have e3 : (lsum out : Int) + ((x.toNat : Int) + 1) ≤ 254 := by omega
            have hog : some g ≠ u4.ownBlock := fun e => by have := (HS.out.own.lt g e.symm).1; omega
            have HOG := hid hog
            clear hsg hconv hseg ht hls hxn hog
            go_wp2_with (first
              | (go_at_call 50; have _t := tk1; refine CT.out.mono ?_; rintro e w1 ⟨rfl, hb1, hg1, hz1⟩; have cx1 : w1.cell? ⟨b, o + at_, none⟩ = some (.int .u8 (x.toNat : Int)) := hg1.cell cx (by simp; omega); have c1 : w1.cell? ⟨g, 1, none⟩ = some (.int .i64 ((at_ + 1 : Nat) : Int)) := hb1.cell 1; have c3 : w1.cell? ⟨g, 3, none⟩ = some (.int .i64 next) := hb1.cell 3; have f3 : w1.frozen? ⟨g, 3, none⟩ = false := hb1.frozen 3; have hlt1 : g < w1.heap.size := hb1.lt; have HB1 := hid hb1; have HG1 := hid hg1; have HZ1 := hid hz1; clear hb1 hg1 hz1 tk1)
              | (go_at_call 50; have _t := tk2; refine (CT2.out _ HB1.out).mono ?_; rintro e w2 ⟨rfl, hb2, hg2, hz2⟩; have c4' : w2.cell? ⟨g, 4, none⟩ = some (.int .i64 (lsum out : Int)) := hb2.cell 4; have f4' : w2.frozen? ⟨g, 4, none⟩ = false := hb2.frozen 4; have hlt2 : g < w2.heap.size := hb2.lt; have wz2 : w.heap.size ≤ w2.heap.size := by { have := HZ1.out; omega }; have cv := CV.out (w2.setCell ⟨g, 4, none⟩ (.int .i64 ((lsum out : Int) + ((x.toNat : Int) + 1)))) (grown_belowB ((HG1.out.trans hg2).trans (grown_set _ _)) hg0); have HB2 := hid hb2; have HG2 := hid hg2; have HZ2 := hid hz2; clear hb2 hg2 hz2 tk2)
              | (at_builtin; (refine wpList_app rfl _ _ 46 rfl w.heap.size 9 1 16 el_str _ out.length _ rfl ((own_far (own_grown HS.out.own (HG1.out.trans HG2.out) hgw) hgw _).alloc _) _ 1 1 [.string sg] rfl (src_one _ rfl (by simp)) ab4 ab3 (by simp; omega) ?_); intro v' w3 ho hg ha; have HO3 := hid ho; have HG3 := hid hg; clear ho hg ha))
            go_roundg (low * (n + 1) + (n - (at_ + 1 + x.toNat)))
            case measure => omega
            case rel =>
              have hb3 : Blk w3 g T (rdrC (some ⟨b, o, none⟩) n c ((at_ + 1 + x.toNat : Nat) : Int) low next ((lsum (out ++ [sg]) : Nat) : Int)) := by
                have := ((HB2.out.set 4 (.int .i64 ((lsum out : Int) + ((x.toNat : Int) + 1)))).alloc (.cells #[.string sg] 9)).grown HG3.out HOG.out
                rw [HLS.out]
                simpa [rdrC] using this
              have t0 := HT.out
              rw [show lsum out + 1 + x.toNat + 1 = lsum out + (x.toNat + 1) + 1 by omega] at t0
              have hs1 := HLS.out
              refine ⟨low, at_ + 1 + x.toNat, next, out ++ [sg], rfl, hb3, by simpa [strsV] using HO3.out, ?_, by omega, hlow, by omega, ?_, ?_, ?_⟩
              · have b2 := HS.out.bel.trans (grown_belowB ((HG1.out.trans HG2.out).trans (grown_set 4 (.int .i64 ((lsum out : Int) + ((x.toNat : Int) + 1))))) hg0)
                refine b2.trans ?_
                have b3 := grown_below ((own_far (own_grown HS.out.own (HG1.out.trans HG2.out) hgw) hgw (.int .i64 ((lsum out : Int) + ((x.toNat : Int) + 1)))).alloc (.cells #[.string sg] 9)) HG3.out (by simp; omega)
                exact (((Below.refl g _).alloc (by simp; omega) _).trans (b3.mono (by omega)))
              · rw [HS.out.fault, t0, hs1]
              · rw [HS.out.labs, t0, hs1, List.append_assoc]
                rfl
              · rw [HS.out.behind, t0, hs1]
          · have hr : (nm m at0 at0 1).1 = 5 := by rw [HS.out.fault, nm_lab_long HX.out h1 h2 (by rw [hln.out]; omega) (by omega)]
            have HR := hid hr
            have e3 : (254 : Int) < (lsum out : Int) + ((x.toNat : Int) + 1) := by omega
            clear hr hxn
            go_wp2_with (first
              | (go_at_call 50; have _t := tk1; refine CT.out.mono ?_; rintro e w1 ⟨rfl, hb1, hg1, hz1⟩; have cx1 : w1.cell? ⟨b, o + at_, none⟩ = some (.int .u8 (x.toNat : Int)) := hg1.cell cx (by simp; omega); have c1 : w1.cell? ⟨g, 1, none⟩ = some (.int .i64 ((at_ + 1 : Nat) : Int)) := hb1.cell 1; have c3 : w1.cell? ⟨g, 3, none⟩ = some (.int .i64 next) := hb1.cell 3; have f3 : w1.frozen? ⟨g, 3, none⟩ = false := hb1.frozen 3; have hlt1 : g < w1.heap.size := hb1.lt; have HB1 := hid hb1; have HG1 := hid hg1; have HZ1 := hid hz1; clear hb1 hg1 hz1 tk1)
              | (go_at_call 50; have _t := tk2; refine (CT2.out _ HB1.out).mono ?_; rintro e w2 ⟨rfl, hb2, hg2, hz2⟩; have c4 : w2.cell? ⟨g, 4, none⟩ = some (.int .i64 (lsum out : Int)) := hb2.cell 4; have f4 : w2.frozen? ⟨g, 4, none⟩ = false := hb2.frozen 4; have hlt2 : g < w2.heap.size := hb2.lt; have HB2 := hid hb2; have HG2 := hid hg2; have HZ2 := hid hz2; clear hb2 hg2 hz2 tk2))
            go_ret2
            exact labE_bad HR.out (by decide) (HS.out.bel.trans (grown_belowB ((HG1.out.trans HG2.out).trans (grown_set _ _)) hg0))

/-! Read -/
/-- what Read tells -/
def RdE (w : World) (m : List UInt8) (at_ : Int) (e : Ending) (w' : World) : Prop :=
  Below w.heap.size w w' ∧ if (rdN m at_).1 = 0 then ∃ A' c', e = .returned (.tuple #[.slice A' (rdN m at_).2.1.length c', .int .i64 (rdN m at_).2.2, .nilIface]) ∧ Rd strR w' w'.heap.size A' (rdN m at_).2.1.length c' (rdN m at_).2.1
    else e = .returned (.tuple #[.slice none 0 0, .int .i64 0, .iface 29 (.int .i64 (rdN m at_).1)])
set_option maxRecDepth 100000 in
set_option maxHeartbeats 4000000 in
theorem wread_any (w : World) (A : Option Addr) (n c : Nat) (m : List UInt8) (hM : Rd u8R w w.heap.size A n c m) (at_ : Int) :
    Calls Tryd.prog 17 #[.slice A n c, .int .i64 at_] w (RdE w m at_) := by
  have hcap := hM.cap
  have hm := hM.max
  unfold maxLen at hm
  by_cases h0 : at_ < 0
  · have hr : rdN m at_ = (6, [], 0) := by unfold rdN; rw [if_pos h0]
    have HR := hid hr
    clear hr hM
    go_enter Tryd.func17, Tryd.ntmps17
    go_wp2
    go_ret3
    refine ⟨Below.refl _ _, ?_⟩
    rw [HR.out]
    rfl
  · obtain ⟨a, rfl⟩ : ∃ a : Nat, at_ = (a : Int) := ⟨at_.toNat, by omega⟩
    by_cases h1 : n ≤ a
    · have hr : rdN m (a : Int) = (2, [], 0) := by
        unfold rdN
        rw [if_neg h0, Int.toNat_natCast, nm_end (by rw [hM.len]; exact h1)]
        rfl
      have HR := hid hr
      have h1' : (n : Int) ≤ (a : Int) := by omega
      clear hr hM
      go_enter Tryd.func17, Tryd.ntmps17
      go_wp2
      go_ret3
      refine ⟨Below.refl _ _, ?_⟩
      rw [HR.out]
      rfl
    · have hr : rdN m (a : Int) = if (nm m a a 1).1 = 0 then (0, (nm m a a 1).2.1, ((nm m a a 1).2.2 : Int)) else ((nm m a a 1).1, [], 0) := by
        unfold rdN
        rw [if_neg h0, Int.toNat_natCast]
      have HR := hid hr
      have HM := hid hM
      have CL := hid fun w' T (hb : Below w.heap.size w w') (hB : Blk w' w.heap.size T (rdrC A n c a a 0 0)) => labels_any w' w.heap.size T A n c m a (HM.out.below hb) hB (by omega)
      have h1' : (a : Int) < (n : Int) := by omega
      clear hr hM
      go_enter Tryd.func17, Tryd.ntmps17
      by_cases hf : (nm m a a 1).1 = 0
      · go_wp2_with (go_at_call 39; refine (CL.out _ _ (by (repeat' (first | (with_reducible exact Below.refl _ _) | (with_reducible assumption) | (with_reducible refine below_ext0 ?_ _ _) | (with_reducible refine below_alloc0 ?_ _) | (with_reducible refine Below.ext ?_ ?_ _ _) | (with_reducible refine Below.alloc ?_ ?_ _) | (with_reducible refine Below.setCell ?_ ?_ _) | (with_reducible refine Below.drew ?_) | (with_reducible refine below_draws ?_ _) | go_size | (simp [size_ext]; done) | (simp [size_ext]; omega)))) (Blk.new _ _ _)).mono ?_; rintro e w1 ⟨hb, he⟩; rw [if_pos hf] at he; obtain ⟨A', c', at1, lo1, sz1, rfl, hr, hB1⟩ := he; have cn : w1.cell? ⟨w.heap.size, 3, none⟩ = some (.int .i64 ((nm m a a 1).2.2 : Int)) := hB1.cell 3; have HR1 := hid hr; have HB1 := hid hb; clear hb hr hB1)
        go_region
        all_goals go_wp2
        all_goals go_ret3
        have r := HR.out
        rw [if_pos hf] at r
        refine ⟨(((Below.refl _ _).alloc (Nat.le_refl _) _).trans HB1.out).drew, ?_⟩
        rw [r, if_pos rfl]
        exact ⟨A', c', rfl, HR1.out.keep (Nat.le_refl _) fun _ _ => rfl⟩
      · go_wp2_with (go_at_call 39; refine (CL.out _ _ (by (repeat' (first | (with_reducible exact Below.refl _ _) | (with_reducible assumption) | (with_reducible refine below_ext0 ?_ _ _) | (with_reducible refine below_alloc0 ?_ _) | (with_reducible refine Below.ext ?_ ?_ _ _) | (with_reducible refine Below.alloc ?_ ?_ _) | (with_reducible refine Below.setCell ?_ ?_ _) | (with_reducible refine Below.drew ?_) | (with_reducible refine below_draws ?_ _) | go_size | (simp [size_ext]; done) | (simp [size_ext]; omega)))) (Blk.new _ _ _)).mono ?_; rintro e w1 ⟨hb, he⟩; rw [if_neg hf] at he; subst he; have HB1 := hid hb; clear hb)
        go_ret3
        have r := HR.out
        rw [if_neg hf] at r
        refine ⟨((Below.refl _ _).alloc (Nat.le_refl _) _).trans HB1.out, ?_⟩
        rw [r, if_neg hf]
        rfl
end Go.Proofs.YthccknobnpbdeaaDoor
/- wire: sent, Write. -/
namespace Go.Proofs.YthccknobnpbdeaaDoor
open Go.RowKit
set_option linter.unusedVariables false
set_option linter.unusedSimpArgs false

theorem strCells_eq (s : ByteArray) : Lib.strCells s = bytesV s.data.toList := rfl
theorem bytesV_append (a b : List UInt8) : bytesV (a ++ b) = bytesV a ++ bytesV b := by simp [bytesV]
theorem u8_size (s : ByteArray) (h : s.size ≤ 63) : ((UInt8.ofNat s.size).toNat : Int) = (s.size : Int) := by
  rw [UInt8.toNat_ofNat', Nat.mod_eq_of_lt (by omega)]
theorem sentL_snoc (l : List ByteArray) (s : ByteArray) : sentL (l ++ [s]) = sentL l ++ UInt8.ofNat s.size :: s.data.toList := by rw [sentL_append]; simp [sentL]

set_option maxRecDepth 100000 in
set_option maxHeartbeats 4000000 in
theorem sent_any (w : World) (base nn : Nat) (v : Value) (q : List UInt8) (hO : w.ownsRow base 5 1 v nn (bytesV q)) (hbase : base ≤ w.heap.size) (A : Option Addr) (n c : Nat) (l : List ByteArray) (hR : Rd strR w base A n c l)
    (hall : l.all labelOk = true) (hsz : nn + lsum l ≤ 140737488355328) :
    Calls Tryd.prog 60 #[v, .slice A n c] w fun e w' => ∃ v', e = .returned v' ∧ w'.ownsRow base 5 1 v' (nn + lsum l) (bytesV (q ++ sentL l)) ∧ AppTo w w' v v' := by
  have hm := hR.max
  have hcap := hR.cap
  unfold maxLen at hm
  have H := hid hR
  have HO0 := hid hO
  have HALL := hid hall
  clear hR hO hall
  have tk0 : True := trivial; have tk1 : True := trivial; have tk2 : True := trivial; have tk3 : True := trivial; have tk4 : True := trivial; have tk5 : True := trivial; have tk6 : True := trivial; have tk7 : True := trivial; have tk8 : True := trivial; have tk9 : True := trivial; have tk10 : True := trivial; have tk11 : True := trivial; have tk12 : True := trivial
  go_enter Tryd.func60, Tryd.ntmps60
  go_wp2
  go_loopg [0, 9] n (fun gk v0 v9 wi => ∃ k : Nat, k ≤ n ∧ gk = n - k ∧ v9 = .int .i64 (k : Int) ∧ wi.ownsRow base 5 1 v0 (nn + lsum (l.take k)) (bytesV (q ++ sentL (l.take k))) ∧ AppTo w wi v v0 ∧ Below base w wi)
  case atStart => exact ⟨0, Nat.zero_le _, rfl, rfl, by simpa [sentL, lsum] using HO0.out, AppTo.refl _ _, Below.refl _ _⟩
  case round =>
    obtain ⟨k, hk, rfl, rfl, hown, happ, hlow⟩ := hrel
    have HO := hid hown
    have HA := hid happ
    have HLOW := hid hlow
    have hzw := hlow.size
    clear hown happ hlow
    by_cases hlt : k < n
    · obtain ⟨b, o, rfl, hb, hc, hz⟩ := H.out.str k hlt
      replace hc := (HLOW.out.cell (p := ⟨b, o + k, none⟩) hb).trans hc
      have hkl : k < l.length := by rw [H.out.len]; exact hlt
      have htk : l.take (k + 1) = l.take k ++ [l[k]] := List.take_succ_eq_append_getElem hkl
      have hlb : labelOk l[k] = true := List.all_eq_true.1 HALL.out _ (List.getElem_mem hkl)
      obtain ⟨x, hx⟩ : ∃ x, l[k] = x := ⟨_, rfl⟩
      rw [hx] at hc hz htk hlb
      unfold labelOk at hlb
      simp only [Bool.and_eq_true, decide_eq_true_eq] at hlb
      obtain ⟨hx1, hx2⟩ := hlb
      have HTK := hid htk
      have hls : lsum (l.take (k + 1)) = lsum (l.take k) + (x.size + 1) := by rw [htk, lsum_snoc]
      have hsum : lsum (l.take (k + 1)) ≤ lsum l := by
        have : lsum l = lsum (l.take (k + 1)) + lsum (l.drop (k + 1)) := by
          rw [← sentL_len, ← sentL_len, ← sentL_len, ← List.length_append, ← sentL_append, List.take_append_drop]
        omega
      have ab1 : (nn + lsum (l.take k) + 1) * 1 ≤ 140737488355328 := by omega
      have ab2 : nn + lsum (l.take k) + 1 ≤ maxLen := by unfold maxLen; omega
      have ab3 : nn + lsum (l.take k) + 1 + x.size ≤ 140737488355328 := by omega
      have HLS := hid hls
      have ab4 : base ≤ wr.heap.size := by omega
      have u8 : ((UInt8.ofNat x.size).toNat : Int) = (x.size : Int) := u8_size x hx2
      have HU := hid u8
      have cvt : IntKind.u8.wrap (x.size : Int) = (x.size : Int) := by simp [IntKind.wrap, IntKind.bits, IntKind.signed]; omega
      clear htk hx hls hsum u8
      go_wp2_with (first
        | (at_builtin; have _t := tk1; refine wpList_appT rfl _ _ 22 rfl base 5 1 1 el_u8 _ (nn + lsum (l.take k)) _ rfl (HO.out.alloc _) _ 1 1 [.int .u8 (x.size : Int)] rfl (src_one _ rfl rfl) ab1 ab2 (by simp; omega) ?_; intro v1 w1 ho1 ha1; have HO1 := hid ho1; have HA1 := hid ha1; have hz1 := ha1.grown.size; clear ho1 ha1 tk1)
        | (at_builtin; have _t := tk2; refine wpList_app_str rfl _ _ 22 9 rfl base 5 el_u8 Tryd.underlying9 zero_u8 _ (nn + lsum (l.take k) + 1) _ rfl HO1.out x rfl ab3 (by simp at hz1; omega) ?_; intro v2 w2 ho2 ha2; have HO2 := hid ho2; have HA2 := hid ha2; clear ho2 ha2 tk2))
      go_roundg (n - (k + 1))
      case measure => omega
      case rel =>
        have ha : AppTo wr w2 _ _ := AppTo.trans HA1.out.alloc HA2.out
        refine ⟨k + 1, by omega, rfl, by go_num, ?_, HA.out.trans ha, HLOW.out.trans (ha.below HO.out ab4)⟩
        have := HO2.out
        rw [HLS.out, HTK.out, sentL_snoc]
        rw [strCells_eq] at this
        have e8 : (x.size : Int) % 256 = x.size := by omega
        simpa [bytesV, Nat.add_assoc, Nat.add_comm 1, e8] using this
    · obtain rfl : k = n := by omega
      have ho := HO.out
      rw [List.take_of_length_le (by rw [H.out.len]; exact Nat.le_refl _)] at ho
      have HO' := hid ho
      clear ho
      go_wp2
      go_ret
      exact ⟨_, rfl, HO'.out, HA.out⟩

/-! Write -/
theorem errV_zero : errV 0 = .nilIface := rfl
theorem errV_ne {n : Int} (h : n ≠ 0) : errV n = .iface 29 (.int .i64 n) := if_neg h
/-- a row of the call's own as bytes -/
theorem own_rd_u8 {w : World} {base n : Nat} {v : Value} {l : List UInt8} (h : w.ownsRow base 5 1 v n (bytesV l)) (hb : base ≤ w.heap.size) (hn : n ≤ 140737488355328) : ∃ A c, v = .slice A n c ∧ Rd u8R w w.heap.size A n c l :=
  rd_of_own (R := u8R) h (rels_u8.2 rfl) (by have := h.1; simpa [bytesV] using this) hb (by simpa [u8R] using hn) (by decide)

def WrE (w : World) (m : List UInt8) (l : List ByteArray) (e : Ending) (w' : World) : Prop :=
  Below w.heap.size w w' ∧ if nameErr l = 0 then ∃ A' c', e = .returned (.tuple #[.slice A' (m ++ sentL l ++ [0]).length c', .nilIface]) ∧ Rd u8R w' w'.heap.size A' (m ++ sentL l ++ [0]).length c' (m ++ sentL l ++ [0])
    else e = .returned (.tuple #[.slice none 0 0, .iface 29 (.int .i64 (nameErr l))])
end Go.Proofs.YthccknobnpbdeaaDoor
/- wire: slices.Equal of texts, slices.Clone of numbers, find. -/
namespace Go.Proofs.YthccknobnpbdeaaDoor
open Go.RowKit
set_option linter.unusedVariables false
set_option linter.unusedSimpArgs false

set_option maxHeartbeats 2000000 in
theorem equal_strs (w : World) (A1 : Option Addr) (n1 c1 : Nat) (l1 : List ByteArray) (B1 : Nat) (h1 : Rd strR w B1 A1 n1 c1 l1) (A2 : Option Addr) (n2 c2 : Nat) (l2 : List ByteArray) (B2 : Nat) (h2 : Rd strR w B2 A2 n2 c2 l2) :
    Calls Tryd.prog 64 #[.slice A1 n1 c1, .slice A2 n2 c2] w fun e w' => e = .returned (.bool (decide (l1 = l2))) ∧ Below w.heap.size w w' := by
  have m1 := h1.max
  have k1 := h1.cap
  have m2 := h2.max
  have k2 := h2.cap
  unfold maxLen at m1 m2
  have H1 := hid h1
  have H2 := hid h2
  clear h1 h2
  by_cases hn : n1 = n2
  · subst hn
    go_enter Tryd.func64, Tryd.ntmps64
    go_wp2
    go_loopg [13] n1 (fun g v wi => ∃ k m : Nat, k ≤ n1 ∧ g = n1 - k ∧ v = .int .i64 k ∧ wi = w.drewN m ∧ l1.take k = l2.take k)
    case atStart => exact ⟨0, 0, Nat.zero_le _, rfl, rfl, rfl, rfl⟩
    case round =>
      obtain ⟨k, m, hk, rfl, rfl, rfl, ht⟩ := hrel
      have HT := hid ht
      clear ht
      by_cases hlt : k < n1
      · obtain ⟨b1, o1, rfl, _, hc1, _⟩ := H1.out.str k hlt
        obtain ⟨b2, o2, rfl, _, hc2, _⟩ := H2.out.str k hlt
        have q1 : k < l1.length := by rw [H1.out.len]; exact hlt
        have q2 : k < l2.length := by rw [H2.out.len]; exact hlt
        have hkz : (k : Int) < (n1 : Int) := by omega
        obtain ⟨x, hx⟩ : ∃ x, l1[k] = x := ⟨_, rfl⟩
        obtain ⟨y, hy⟩ : ∃ y, l2[k] = y := ⟨_, rfl⟩
        rw [hx] at hc1
        rw [hy] at hc2
        have HXY := hid (And.intro hx hy)
        clear hx hy
        by_cases he : x = y
        · subst he
          have hv : (x.toList != x.toList) = false := by simp
          have hv' : (x.toList == x.toList) = true := by simp
          go_wp2_with fail
          go_quiet (fail)
          go_wp2
          go_roundg (n1 - (k + 1))
          case measure => omega
          case rel => exact ⟨k + 1, _, by omega, rfl, by go_num, rfl, by rw [List.take_succ_eq_append_getElem q1, List.take_succ_eq_append_getElem q2, HT.out, HXY.out.1, HXY.out.2]⟩
        · have hv' : (x.toList == y.toList) = false := by rw [str_beq]; simp [he]
          have hv : (x.toList != y.toList) = true := by rw [bne, hv']; rfl
          have hr : decide (l1 = l2) = false := decide_eq_false fun h => he (by rw [← HXY.out.1, ← HXY.out.2]; simp [h])
          clear he
          go_wp2_with fail
          go_quiet (fail)
          go_wp2
          go_ret
          exact ⟨by first | rfl | (rw [hr]; rfl), by first | exact below_drawsN (below_drawsN (Below.refl _ _) _) _ | exact below_drawsN (Below.refl _ _) _⟩
      · have hr : decide (l1 = l2) = true := decide_eq_true (by
          have h := HT.out
          rwa [List.take_of_length_le (by have := H1.out.len; omega), List.take_of_length_le (by have := H2.out.len; omega)] at h)
        go_wp2
        go_ret
        exact ⟨by first | rfl | (rw [hr]; rfl), below_drawsN (Below.refl _ _) _⟩
  · have hv : ((n1 : Int) != (n2 : Int)) = true := by rw [bne_iff_ne]; omega
    have hr : decide (l1 = l2) = false := decide_eq_false fun h => hn (by rw [← H1.out.len, ← H2.out.len, h])
    go_enter Tryd.func64, Tryd.ntmps64
    go_wp2
    go_ret
    exact ⟨by first | rfl | (rw [hr]; rfl), Below.refl _ _⟩

@[reducible] def intsV (l : List Int) : List Value := l.map (Value.int .i64)
theorem flat_int (l : List Int) : (l.map fun s => [Value.int .i64 s]).flatten = intsV l := by
  induction l with
  | nil => rfl
  | cons a l ih => simp only [intsV] at ih; simp [ih]
theorem el_int : El Tryd.prog 74 3 1 8 := el_of (z := .int .i64 0) Tryd.underlying74 (by kernel_rfl) rfl (by decide)
theorem rels_int {w : World} {B : Nat} {l : List Int} (h : ∀ s ∈ l, I64 s) : Rels intR w B l (intsV l) := by
  refine ⟨l.map fun s => [Value.int .i64 s], by simp, ?_, fun i hi hi' => ?_⟩
  · exact (flat_int l).symm
  · simp only [List.getElem_map]
    exact ⟨rfl, h _ (List.getElem_mem _)⟩
theorem Rd.i64s {w : World} {B n c : Nat} {A : Option Addr} {l : List Int} (h : Rd intR w B A n c l) : ∀ s ∈ l, I64 s := by
  intro s hs
  obtain ⟨i, hi, rfl⟩ := List.getElem_of_mem hs
  obtain ⟨_, _, _, _, _, hz⟩ := h.int i (by rw [← h.len]; exact hi)
  exact hz
set_option maxHeartbeats 1000000 in
theorem clone_ints (w : World) (A : Option Addr) (n c : Nat) (l : List Int) (B : Nat) (h : Rd intR w B A n c l) :
    Calls Tryd.prog 58 #[.slice A n c] w fun e w' => ∃ v, e = .returned v ∧ w'.ownsRow w.heap.size 3 1 v n (intsV l) ∧ Below w.heap.size w w' := by
  have hm := h.lim
  simp only [intR] at hm
  have he := fun w a n c => Lib.run_eql_slice_nil (P := Tryd.prog) w 74 3 a n c 0 0 Tryd.underlying74
  obtain ⟨ys, hr, hs⟩ := h.src (R := intR) fun a vs (hv : vs = _ ∧ _) u hu => by
    rw [hv.1] at hu
    simp at hu
    subst hu
    rfl
  have hys : ys = intsV l := by
    obtain ⟨vss, h1, rfl, hv⟩ := hr
    have : vss = l.map fun s => [Value.int .i64 s] := by
      apply List.ext_getElem (by simpa using h1)
      intro i hi hi'
      simp only [List.getElem_map]
      exact (hv i (by omega) hi).1
    rw [this]
    exact flat_int l
  subst hys
  have HS := hid hs
  rcases A with _ | ad
  · have hn : n = 0 ∧ c = 0 := hs.nil rfl
    obtain ⟨rfl, rfl⟩ := hn
    have hl : l = [] := List.eq_nil_of_length_eq_zero h.len
    subst hl
    clear h hr hs
    go_enter Tryd.func58, Tryd.ntmps58
    go_wp2
    go_ret
    exact ⟨_, rfl, World.ownsRow_nil _ _ _ _, Below.refl _ _⟩
  · clear h hr hs
    go_enter Tryd.func58, Tryd.ntmps58
    go_wp2_with (at_builtin; refine wpList_app rfl _ _ 74 rfl w.heap.size 3 1 8 el_int (.slice (some ⟨w.heap.size, 0, none⟩) 0 0) 0 [] rfl (own_lit #[] [] rfl (Nat.le_refl _) rfl (by decide) rfl) _ n c (intsV l) rfl (HS.out.later ((Below.refl _ _).alloc (Nat.le_refl _) _)) (by omega) (by unfold maxLen; omega) (by simp) ?_; intro v' w1 ho hg _)
    go_ret
    refine ⟨_, rfl, by simpa using ho, ?_⟩
    exact ((Below.refl _ w).alloc (Nat.le_refl _) _).grown hg (by simp) (by simp [Value.ownBlock])

/-! find -/
theorem findS_step {m : List UInt8} {n : List ByteArray} {ss : List Int} {k : Nat} (h : k < ss.length) : findS m n (ss.drop k) = if ss[k] ≤ 16383 ∧ (rdN m ss[k]).1 = 0 ∧ (rdN m ss[k]).2.1 = n then ss[k] else findS m n (ss.drop (k + 1)) := by
  rw [List.drop_eq_getElem_cons h, findS]

set_option maxRecDepth 100000 in
set_option maxHeartbeats 4000000 in
theorem find_any (w : World) (A : Option Addr) (n c : Nat) (m : List UInt8) (hM : Rd u8R w w.heap.size A n c m) (A1 : Option Addr) (n1 c1 : Nat) (ss : List Int) (hS : Rd intR w w.heap.size A1 n1 c1 ss) (A2 : Option Addr) (n2 c2 : Nat) (l : List ByteArray) (hL : Rd strR w w.heap.size A2 n2 c2 l) :
    Calls Tryd.prog 59 #[.slice A n c, .slice A1 n1 c1, .slice A2 n2 c2] w fun e w' => e = .returned (.int .i64 (findS m l ss)) ∧ Below w.heap.size w w' := by
  have m1 := hS.max
  have k1 := hS.cap
  unfold maxLen at m1
  have HM := hid hM
  have HS := hid hS
  have HL := hid hL
  clear hM hS hL
  have tk0 : True := trivial; have tk1 : True := trivial; have tk2 : True := trivial; have tk3 : True := trivial; have tk4 : True := trivial; have tk5 : True := trivial; have tk6 : True := trivial; have tk7 : True := trivial; have tk8 : True := trivial; have tk9 : True := trivial; have tk10 : True := trivial; have tk11 : True := trivial; have tk12 : True := trivial
  go_enter Tryd.func59, Tryd.ntmps59
  go_wp2
  go_loopg [14] n1 (fun g v wi => ∃ k : Nat, k ≤ n1 ∧ g = n1 - k ∧ v = .int .i64 k ∧ Below w.heap.size w wi ∧ findS m l ss = findS m l (ss.drop k))
  case atStart => exact ⟨0, Nat.zero_le _, rfl, rfl, Below.refl _ _, rfl⟩
  case round =>
    obtain ⟨k, hk, rfl, rfl, hlow, ht⟩ := hrel
    have HT := hid ht
    have HLOW := hid hlow
    have hzw := hlow.size
    clear ht hlow
    by_cases hlt : k < n1
    · obtain ⟨b1, o1, rfl, _, hc1, z1, z2⟩ := (HS.out.below HLOW.out).int k hlt
      have q1 : k < ss.length := by rw [HS.out.len]; exact hlt
      have st := findS_step (m := m) (n := l) q1
      obtain ⟨s, hs⟩ : ∃ s, ss[k] = s := ⟨_, rfl⟩
      rw [hs] at hc1 z1 z2
      rw [hs] at st
      have HST := hid st
      have hkz : (k : Int) < (n1 : Int) := by omega
      clear st hs
      by_cases hbig : 16383 < s
      · go_wp2
        go_roundg (n1 - (k + 1))
        case measure => omega
        case rel => exact ⟨k + 1, by omega, rfl, by go_num, HLOW.out, by rw [HT.out, HST.out, if_neg (fun h => by have := h.1; omega)]⟩
      · have hbig' : s ≤ 16383 := by omega
        have CR := hid (wread_any wr A n c m (HM.out.keep hzw (fun p hp => HLOW.out.cell hp)) s)
        by_cases hf : (rdN m s).1 = 0
        · have CE := hid fun w1 (hb : Below wr.heap.size wr w1) A' c' (hr : Rd strR w1 w1.heap.size A' (rdN m s).2.1.length c' (rdN m s).2.1) => equal_strs w1 A' _ c' _ _ hr A2 n2 c2 l _ (HL.out.below (HLOW.out.trans (hb.mono hzw)))
          by_cases he : (rdN m s).2.1 = l
          · have hd : decide ((rdN m s).2.1 = l) = true := decide_eq_true he
            have HD := hid hd
            have hfin : findS m l ss = s := by rw [HT.out, HST.out, if_pos ⟨hbig', hf, he⟩]
            have HF := hid hfin
            clear hfin he hd
            go_wp2_with (first
              | (go_at_call 17; refine CR.out.mono ?_; rintro e w1 ⟨hb, hr⟩; rw [if_pos hf] at hr; obtain ⟨A', c', rfl, hr⟩ := hr; have HR1 := hid hr; have HB1 := hid hb; clear hr hb)
              | (go_at_call 64; refine (CE.out _ HB1.out _ _ HR1.out).mono ?_; rw [HD.out]; rintro e w2 ⟨rfl, hb2⟩; have HB2 := hid hb2; clear hb2))
            go_ret
            exact ⟨by rw [HF.out]; rfl, (HLOW.out.trans (HB1.out.mono hzw)).trans (HB2.out.mono (by have := HB1.out.size; omega))⟩
          · have hd : decide ((rdN m s).2.1 = l) = false := decide_eq_false he
            have HD := hid hd
            have hfin : findS m l ss = findS m l (ss.drop (k + 1)) := by rw [HT.out, HST.out, if_neg fun h => he h.2.2]
            have HF := hid hfin
            clear hfin he hd
            go_wp2_with (first
              | (go_at_call 17; refine CR.out.mono ?_; rintro e w1 ⟨hb, hr⟩; rw [if_pos hf] at hr; obtain ⟨A', c', rfl, hr⟩ := hr; have HR1 := hid hr; have HB1 := hid hb; clear hr hb)
              | (go_at_call 64; refine (CE.out _ HB1.out _ _ HR1.out).mono ?_; rw [HD.out]; rintro e w2 ⟨rfl, hb2⟩; have HB2 := hid hb2; clear hb2))
            go_roundg (n1 - (k + 1))
            case measure => omega
            case rel => exact ⟨k + 1, by omega, rfl, by go_num, (HLOW.out.trans (HB1.out.mono hzw)).trans (HB2.out.mono (by have := HB1.out.size; omega)), HF.out⟩
        · have hfin : findS m l ss = findS m l (ss.drop (k + 1)) := by rw [HT.out, HST.out, if_neg fun h => hf h.2.1]
          have HF := hid hfin
          clear hfin
          go_wp2_with (go_at_call 17; refine CR.out.mono ?_; rintro e w1 ⟨hb, hr⟩; rw [if_neg hf] at hr; subst hr; have HB1 := hid hb; clear hb)
          go_roundg (n1 - (k + 1))
          case measure => omega
          case rel => exact ⟨k + 1, by omega, rfl, by go_num, HLOW.out.trans (HB1.out.mono hzw), HF.out⟩
    · have hfin : findS m l ss = -1 := by
        rw [HT.out, List.drop_eq_nil_of_le (by rw [HS.out.len]; omega)]; rfl
      have HF := hid hfin
      clear hfin
      go_wp2
      go_ret
      exact ⟨by rw [HF.out]; rfl, HLOW.out⟩
end Go.Proofs.YthccknobnpbdeaaDoor
