/- wire: the reader's take and jump. -/
import Derived.Test.YtkdfiedemhjjjaaWireP
import Derived.Test.YtkdfiedemhjjjaaBits
import Derived.BigRegion
namespace Go.Proofs.Ytkdfiedemhjjjaa
open Go.RowKit
set_option linter.unusedVariables false

/-- the reader's cells -/
@[reducible] def rdrC (A : Option Addr) (n c : Nat) (at_ low next size : Int) : Array Value := #[.slice A n c, .int .i64 at_, .int .i64 low, .int .i64 next, .int .i64 size]

theorem grown_set {w : World} {g : Nat} (i : Nat) (u : Value) : w.grownBy (w.setCell ⟨g, i, none⟩ u) (some g) :=
  ⟨rfl, rfl, rfl, by simp, fun k _ hk => Below.heap_setCell w _ _ _ (by simpa using fun e => hk (by rw [e]))⟩
theorem World.grownBy.trans {w w1 w2 : World} {r : Option Nat} (h : w.grownBy w1 r) (h' : w1.grownBy w2 r) : w.grownBy w2 r :=
  ⟨h'.os.trans h.os, h'.tape.trans h.tape, h'.output.trans h.output, Nat.le_trans h.size h'.size, fun k hk hne => (h'.block k (Nat.lt_of_lt_of_le hk h.size) hne).trans (h.block k hk hne)⟩
theorem grown_drew {w w' : World} {r : Option Nat} (h : w.grownBy w' r) : w.grownBy w'.drew r := ⟨h.os, h.tape, h.output, h.size, h.block⟩

set_option maxRecDepth 100000 in
set_option maxHeartbeats 2000000 in
theorem take_ok (w : World) (g b o n c at_ k : Nat) (low next size : Int) (T : TypeId) (hB : Blk w g T (rdrC (some ⟨b, o, none⟩) n c at_ low next size)) (hk : at_ + k ≤ n) (h1 : 1 ≤ k) (hn : n ≤ c) (hc : c ≤ maxLen) :
    Calls Try.prog 63 #[.pointer (some ⟨g, 0, none⟩), .int .i64 k] w fun e w' => e = .returned (.tuple #[.slice (some ⟨b, o + at_, none⟩) k (c - at_), .nilIface]) ∧ Blk w' g T (rdrC (some ⟨b, o, none⟩) n c ((at_ + k : Nat) : Int) low next size) ∧ w.grownBy w' (some g) ∧ w'.heap.size = w.heap.size := by
  unfold maxLen at hc
  have c0 : w.cell? ⟨g, 0, none⟩ = some (.slice (some ⟨b, o, none⟩) n c) := hB.cell 0
  have c1 : w.cell? ⟨g, 1, none⟩ = some (.int .i64 (at_ : Int)) := hB.cell 1
  have f1 : w.frozen? ⟨g, 1, none⟩ = false := hB.frozen 1
  have hlt := hB.lt
  have H := hid hB
  have e1 : IntKind.i64.wrap ((n : Int) - (at_ : Int)) = (n : Int) - (at_ : Int) := IntWalk.i64_in _ (by omega)
  have e2 : IntKind.i64.wrap ((at_ : Int) + (k : Int)) = (at_ : Int) + (k : Int) := IntWalk.i64_in _ (by omega)
  have hne : ¬ c = at_ := by omega
  have q0 : (0 : Int) ≤ (at_ : Int) := by omega
  have q1 : (at_ : Int) ≤ (at_ : Int) + (k : Int) := by omega
  have q2 : (at_ : Int) + (k : Int) ≤ (c : Int) := by omega
  have q3 : ¬ ((n : Int) - (at_ : Int) < (k : Int)) := by omega
  have q4 : decide ((n : Int) - (at_ : Int) < (k : Int)) = false := decide_eq_false q3
  clear hB
  go_enter Try.func63, Try.ntmps63
  go_wp2
  go_region
  all_goals go_wp2
  go_region
  all_goals go_wp2
  go_ret2
  refine ⟨?_, ?_, grown_drew (grown_drew (grown_set _ _)), by simp⟩
  · show Ending.returned (.tuple #[.slice (some ⟨b, o + at_, none⟩) (at_ + k - at_) (c - at_), .nilIface]) = _
    rw [Nat.add_sub_cancel_left]
  · have := (H.out.set 1 (.int .i64 ((at_ : Int) + (k : Int)))).drew.drew
    simpa [rdrC] using this

/-- too few bytes -/
theorem take_short (w : World) (g n c : Nat) (A : Option Addr) (at_ k : Nat) (low next size : Int) (T : TypeId) (hB : Blk w g T (rdrC A n c at_ low next size)) (hk : n < at_ + k) (ha : (at_ : Int) ≤ 9223372036854775807) (hkk : (k : Int) ≤ 255) (hn : n ≤ c) (hc : c ≤ maxLen) :
    Calls Try.prog 63 #[.pointer (some ⟨g, 0, none⟩), .int .i64 k] w fun e w' => e = .returned (.tuple #[.slice none 0 0, .iface 65 (.int .i64 2)]) ∧ Blk w' g T (rdrC A n c at_ low next size) ∧ w.grownBy w' (some g) ∧ w'.heap.size = w.heap.size := by
  unfold maxLen at hc
  have c0 : w.cell? ⟨g, 0, none⟩ = some (.slice A n c) := hB.cell 0
  have c1 : w.cell? ⟨g, 1, none⟩ = some (.int .i64 (at_ : Int)) := hB.cell 1
  have H := hid hB
  have e1 : IntKind.i64.wrap ((n : Int) - (at_ : Int)) = (n : Int) - (at_ : Int) := IntWalk.i64_in _ (by omega)
  have q3 : (n : Int) - (at_ : Int) < (k : Int) := by omega
  have q4 : decide ((n : Int) - (at_ : Int) < (k : Int)) = true := decide_eq_true q3
  clear hB
  go_enter Try.func63, Try.ntmps63
  go_wp2
  go_region
  all_goals go_wp2
  go_ret2
  exact ⟨rfl, H.out.drew, ⟨rfl, rfl, rfl, Nat.le_refl _, fun _ _ _ => rfl⟩, rfl⟩

/-! jump -/
theorem jump_ok (w : World) (g b o n c at_ : Nat) (low : Nat) (next size : Int) (T : TypeId) (hB : Blk w g T (rdrC (some ⟨b, o, none⟩) n c at_ low next size)) (hk : at_ + 1 ≤ n) (hn : n ≤ c) (hc : c ≤ maxLen)
    (h y : UInt8) (hh : 192 ≤ h.toNat) (hy : w.cell? ⟨b, o + at_, none⟩ = some (.int .u8 (y.toNat : Int))) (hbg : b < g) (to : Nat) (hto : (h.toNat - 192) * 256 + y.toNat = to) :
    Calls Try.prog 64 #[.pointer (some ⟨g, 0, none⟩), .int .u8 (h.toNat : Int)] w fun e w' => e = .returned (if to < low then .nilIface else .iface 65 (.int .i64 4)) ∧ (to < low → Blk w' g T (rdrC (some ⟨b, o, none⟩) n c (to : Int) (to : Int) (if next = 0 then ((at_ + 1 : Nat) : Int) else next) size)) ∧ w.grownBy w' (some g) ∧ w'.heap.size = w.heap.size := by
  have CT := hid (take_ok w g b o n c at_ 1 low next size T hB hk (Nat.le_refl _) hn hc)
  have hg := hB.lt
  have hh1 := h.toNat_lt
  have hy1 := y.toNat_lt
  have k1 := low6 h hh
  obtain ⟨q, hq⟩ : ∃ q : Nat, h.toNat - 192 = q := ⟨_, rfl⟩
  rw [hq] at k1 hto
  have hq1 : q ≤ 63 := by omega
  have k2 : bits .or .i64 ((q : Int) * 256) (y.toNat : Int) = (to : Int) := by
    have h1 := b64_or (q * 256) y.toNat (by omega) (by omega)
    rw [show q * 256 ||| y.toNat = q * 256 + y.toNat from or_low q y.toNat 8 hy1, hto] at h1
    simpa using h1
  have hto1 : to ≤ 16383 := by omega
  have y2 : (0 : Int) ≤ (y.toNat : Int) := by omega
  have y3 : (y.toNat : Int) ≤ 255 := by omega
  clear hB hto hq hh hh1 hy1
  generalize (y.toNat : Int) = yy at *
  generalize (h.toNat : Int) = hv at *
  by_cases hlt : to < low
  · rw [if_pos hlt]
    have t0 : decide ((to : Int) < (low : Int)) = true := decide_eq_true (by omega)
    have t1 : ((to : Int) < (low : Int)) := by omega
    by_cases hn0 : next = 0
    · subst hn0
      rw [if_pos rfl]
      go_enter Try.func64, Try.ntmps64
      go_wp2_with (go_at_call 63; refine CT.out.mono ?_; rintro e w1 ⟨rfl, hb1, hg1, hz1⟩; have c3 : w1.cell? ⟨g, 3, none⟩ = some (.int .i64 0) := hb1.cell 3; have c1 : w1.cell? ⟨g, 1, none⟩ = some (.int .i64 ((at_ + 1 : Nat) : Int)) := hb1.cell 1; have c2 : w1.cell? ⟨g, 2, none⟩ = some (.int .i64 (low : Int)) := hb1.cell 2; have f1 : w1.frozen? ⟨g, 1, none⟩ = false := hb1.frozen 1; have f2 : w1.frozen? ⟨g, 2, none⟩ = false := hb1.frozen 2; have f3 : w1.frozen? ⟨g, 3, none⟩ = false := hb1.frozen 3; have hyy : w1.cell? ⟨b, o + at_, none⟩ = some (.int .u8 yy) := hg1.cell hy (by simp; omega); have hlt1 : g < w1.heap.size := hb1.lt; have HB1 := hid hb1; have HG1 := hid hg1; have HZ1 := hid hz1; clear hb1 hg1 hz1)
      go_ret
      refine ⟨rfl, fun _ => ?_, ?_, ?_⟩
      · have := ((HB1.out.set 3 (.int .i64 ((at_ : Int) + 1))).set 1 (.int .i64 (to : Int))).set 2 (.int .i64 (to : Int))
        simpa [rdrC] using this
      · exact ((HG1.out.trans (grown_set _ _)).trans (grown_set _ _)).trans (grown_set _ _)
      · simpa using HZ1.out
    · rw [if_neg hn0]
      have hb0 : (next == 0) = false := by rw [beq_eq_false_iff_ne]; exact hn0
      go_enter Try.func64, Try.ntmps64
      go_wp2_with (go_at_call 63; refine CT.out.mono ?_; rintro e w1 ⟨rfl, hb1, hg1, hz1⟩; have c3 : w1.cell? ⟨g, 3, none⟩ = some (.int .i64 next) := hb1.cell 3; have c1 : w1.cell? ⟨g, 1, none⟩ = some (.int .i64 ((at_ + 1 : Nat) : Int)) := hb1.cell 1; have c2 : w1.cell? ⟨g, 2, none⟩ = some (.int .i64 (low : Int)) := hb1.cell 2; have f1 : w1.frozen? ⟨g, 1, none⟩ = false := hb1.frozen 1; have f2 : w1.frozen? ⟨g, 2, none⟩ = false := hb1.frozen 2; have f3 : w1.frozen? ⟨g, 3, none⟩ = false := hb1.frozen 3; have hyy : w1.cell? ⟨b, o + at_, none⟩ = some (.int .u8 yy) := hg1.cell hy (by simp; omega); have hlt1 : g < w1.heap.size := hb1.lt; have HB1 := hid hb1; have HG1 := hid hg1; have HZ1 := hid hz1; clear hb1 hg1 hz1)
      go_ret
      refine ⟨rfl, fun _ => ?_, ?_, ?_⟩
      · have := (HB1.out.set 1 (.int .i64 (to : Int))).set 2 (.int .i64 (to : Int))
        simpa [rdrC] using this
      · exact (HG1.out.trans (grown_set _ _)).trans (grown_set _ _)
      · simpa using HZ1.out
  · rw [if_neg hlt]
    have t0 : decide ((to : Int) < (low : Int)) = false := decide_eq_false (by omega)
    have t1 : ((low : Int) ≤ (to : Int)) := by omega
    by_cases hn0 : next = 0
    · subst hn0
      go_enter Try.func64, Try.ntmps64
      go_wp2_with (go_at_call 63; refine CT.out.mono ?_; rintro e w1 ⟨rfl, hb1, hg1, hz1⟩; have c3 : w1.cell? ⟨g, 3, none⟩ = some (.int .i64 0) := hb1.cell 3; have c1 : w1.cell? ⟨g, 1, none⟩ = some (.int .i64 ((at_ + 1 : Nat) : Int)) := hb1.cell 1; have c2 : w1.cell? ⟨g, 2, none⟩ = some (.int .i64 (low : Int)) := hb1.cell 2; have f1 : w1.frozen? ⟨g, 1, none⟩ = false := hb1.frozen 1; have f2 : w1.frozen? ⟨g, 2, none⟩ = false := hb1.frozen 2; have f3 : w1.frozen? ⟨g, 3, none⟩ = false := hb1.frozen 3; have hyy : w1.cell? ⟨b, o + at_, none⟩ = some (.int .u8 yy) := hg1.cell hy (by simp; omega); have hlt1 : g < w1.heap.size := hb1.lt; have HB1 := hid hb1; have HG1 := hid hg1; have HZ1 := hid hz1; clear hb1 hg1 hz1)
      go_ret
      exact ⟨rfl, HG1.out.trans (grown_set _ _), by simpa using HZ1.out⟩
    · have hb0 : (next == 0) = false := by rw [beq_eq_false_iff_ne]; exact hn0
      go_enter Try.func64, Try.ntmps64
      go_wp2_with (go_at_call 63; refine CT.out.mono ?_; rintro e w1 ⟨rfl, hb1, hg1, hz1⟩; have c3 : w1.cell? ⟨g, 3, none⟩ = some (.int .i64 next) := hb1.cell 3; have c1 : w1.cell? ⟨g, 1, none⟩ = some (.int .i64 ((at_ + 1 : Nat) : Int)) := hb1.cell 1; have c2 : w1.cell? ⟨g, 2, none⟩ = some (.int .i64 (low : Int)) := hb1.cell 2; have f1 : w1.frozen? ⟨g, 1, none⟩ = false := hb1.frozen 1; have f2 : w1.frozen? ⟨g, 2, none⟩ = false := hb1.frozen 2; have f3 : w1.frozen? ⟨g, 3, none⟩ = false := hb1.frozen 3; have hyy : w1.cell? ⟨b, o + at_, none⟩ = some (.int .u8 yy) := hg1.cell hy (by simp; omega); have hlt1 : g < w1.heap.size := hb1.lt; have HB1 := hid hb1; have HG1 := hid hg1; have HZ1 := hid hz1; clear hb1 hg1 hz1)
      go_ret
      exact ⟨rfl, HG1.out, HZ1.out⟩

theorem jump_short (w : World) (g n c at_ : Nat) (A : Option Addr) (low next size : Int) (T : TypeId) (hB : Blk w g T (rdrC A n c at_ low next size)) (hk : n < at_ + 1) (ha : (at_ : Int) ≤ 9223372036854775807) (hn : n ≤ c) (hc : c ≤ maxLen) (x : Int) :
    Calls Try.prog 64 #[.pointer (some ⟨g, 0, none⟩), .int .u8 x] w fun e w' => e = .returned (.iface 65 (.int .i64 2)) ∧ w.grownBy w' (some g) ∧ w'.heap.size = w.heap.size := by
  have CT := hid (take_short w g n c A at_ 1 low next size T hB hk ha (by omega) hn hc)
  clear hB
  go_enter Try.func64, Try.ntmps64
  go_wp2_with (go_at_call 63; refine CT.out.mono ?_; rintro e w1 ⟨rfl, hb1, hg1, hz1⟩; have HG1 := hid hg1; have HZ1 := hid hz1; clear hb1 hg1 hz1)
  go_ret
  exact ⟨rfl, HG1.out, HZ1.out⟩
end Go.Proofs.Ytkdfiedemhjjjaa
