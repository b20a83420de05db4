/- The header's functions. -/
import Derived.Test.YtkdfiedemhjjjaaRep
import Derived.BigRegion
import Derived.Deep.RegionHeld3
import Derived.Deep.DeepCutAuto
import Derived.Deep.LoopGhost
import Derived.Deep.QuietTactic
import Derived.BigQuiet
import Derived.Deep.Light
namespace Go.Proofs.Ytkdfiedemhjjjaa
open Go.RowKit
set_option linter.unusedVariables false

theorem places_any (w : World) : Calls Try.prog 59 #[] w fun e w' => e = .returned (.agg #[.int .i64 15, .int .i64 10, .int .i64 9, .int .i64 8, .int .i64 7, .int .i64 6, .int .i64 5]) ∧ Below w.heap.size w w' := by
  go_enter Try.func59, Try.ntmps59
  go_wp2
  refine bodyPost_ret (v := .agg #[.int .i64 15, .int .i64 10, .int .i64 9, .int .i64 8, .int .i64 7, .int .i64 6, .int .i64 5]) (by simp [results, Try.results59, go_sem]) rfl ⟨rfl, ?_⟩
  (repeat' (first | (with_reducible exact Below.refl _ _) | (with_reducible assumption) | (with_reducible refine below_ext0 ?_ _ _) | (with_reducible refine below_alloc0 ?_ _) | (with_reducible refine Below.ext ?_ ?_ _ _) | (with_reducible refine Below.alloc ?_ ?_ _) | (with_reducible refine Below.setCell ?_ ?_ _) | (with_reducible refine Below.drew ?_) | (with_reducible refine below_draws ?_ _) | go_size | (simp [size_ext]; done) | (simp [size_ext]; omega)))

set_option maxHeartbeats 1000000 in
theorem flags_any (b o : Nat) (w : World) : Calls Try.prog 60 #[.pointer (some ⟨b, o, none⟩)] w fun e w' => e = .returned (.agg #[.pointer (some ⟨b, o + 1, none⟩), .pointer (some ⟨b, o + 3, none⟩), .pointer (some ⟨b, o + 4, none⟩), .pointer (some ⟨b, o + 5, none⟩), .pointer (some ⟨b, o + 6, none⟩), .pointer (some ⟨b, o + 7, none⟩), .pointer (some ⟨b, o + 8, none⟩)]) ∧ Below w.heap.size w w' := by
  go_enter Try.func60, Try.ntmps60
  go_wp2
  go_region
  all_goals
    go_wp2
    refine bodyPost_ret (v := .agg #[.pointer (some ⟨b, o + 1, none⟩), .pointer (some ⟨b, o + 3, none⟩), .pointer (some ⟨b, o + 4, none⟩), .pointer (some ⟨b, o + 5, none⟩), .pointer (some ⟨b, o + 6, none⟩), .pointer (some ⟨b, o + 7, none⟩), .pointer (some ⟨b, o + 8, none⟩)]) (by simp [results, Try.results60, go_sem]) rfl ⟨rfl, ?_⟩
    (repeat' (first | (with_reducible exact Below.refl _ _) | (with_reducible assumption) | (with_reducible refine below_ext0 ?_ _ _) | (with_reducible refine below_alloc0 ?_ _) | (with_reducible refine Below.ext ?_ ?_ _ _) | (with_reducible refine Below.alloc ?_ ?_ _) | (with_reducible refine Below.setCell ?_ ?_ _) | (with_reducible refine Below.drew ?_) | (with_reducible refine below_draws ?_ _) | go_size | (simp [size_ext]; done) | (simp [size_ext]; omega)))

/-- a header -/
structure Hd where
  id : Int
  an : Bool
  op : Int
  aa : Bool
  tc : Bool
  rd : Bool
  ra : Bool
  z : Bool
  ad : Bool
  cd : Bool
  code : Int
@[reducible] def hdCells (h : Hd) : Array Value := #[.int .i64 h.id, .bool h.an, .int .i64 h.op, .bool h.aa, .bool h.tc, .bool h.rd, .bool h.ra, .bool h.z, .bool h.ad, .bool h.cd, .int .i64 h.code]
structure HOk (h : Hd) : Prop where
  i0 : 0 ≤ h.id
  i1 : h.id ≤ 65535
  o0 : 0 ≤ h.op
  o1 : h.op ≤ 15
  c0 : 0 ≤ h.code
  c1 : h.code ≤ 15

/-- the word of flags, when k of seven are in -/
def flagOf (h : Hd) : Nat → Bool
  | 0 => h.an
  | 1 => h.aa
  | 2 => h.tc
  | 3 => h.rd
  | 4 => h.ra
  | 5 => h.z
  | _ => h.ad
def bitOf : Nat → Int
  | 0 => 32768
  | 1 => 1024
  | 2 => 512
  | 3 => 256
  | 4 => 128
  | 5 => 64
  | _ => 32
def wk (h : Hd) : Nat → Int
  | 0 => bits .or .i64 (h.op * 2048) h.code
  | k + 1 => if flagOf h k then bits .or .i64 (wk h k) (bitOf k) else wk h k

/-- the word of flags, whole -/
def word (h : Hd) : Int := if h.cd then bits .or .i64 (wk h 7) 16 else wk h 7

set_option maxRecDepth 100000 in
set_option maxHeartbeats 4000000 in
theorem hwrite_bad (h : Hd) (k : ¬ HOk h) (w : World) : Calls Try.prog 33 #[.agg (hdCells h)] w fun e w' => e = .returned (.tuple #[.slice none 0 0, .iface 65 (.int .i64 6)]) ∧ Below w.heap.size w w' := by
  obtain ⟨id, an, op, aa, tc, rd, ra, z, ad, cd, code⟩ := h
  have hways : id < 0 ∨ (0 ≤ id ∧ 65535 < id) ∨ ((0 ≤ id ∧ id ≤ 65535) ∧ (op < 0 ∨ (0 ≤ op ∧ 15 < op) ∨ ((0 ≤ op ∧ op ≤ 15) ∧ (code < 0 ∨ (0 ≤ code ∧ 15 < code))))) := by
    have : ¬ (0 ≤ id ∧ id ≤ 65535 ∧ 0 ≤ op ∧ op ≤ 15 ∧ 0 ≤ code ∧ code ≤ 15) := fun ⟨a, b, c, d, e, f⟩ => k ⟨a, b, c, d, e, f⟩
    omega
  clear k
  rcases hways with c | ⟨_, c⟩ | ⟨⟨_, _⟩, c | ⟨_, c⟩ | ⟨⟨_, _⟩, c | ⟨_, c⟩⟩⟩
  all_goals
    go_enter Try.func33, Try.ntmps33
    go_wp2
    go_ret2
    refine ⟨rfl, ?_⟩
    (repeat' (first | (with_reducible exact Below.refl _ _) | (with_reducible assumption) | (with_reducible refine below_ext0 ?_ _ _) | (with_reducible refine below_alloc0 ?_ _) | (with_reducible refine Below.ext ?_ ?_ _ _) | (with_reducible refine Below.alloc ?_ ?_ _) | (with_reducible refine Below.setCell ?_ ?_ _) | (with_reducible refine Below.drew ?_) | (with_reducible refine below_draws ?_ _) | go_size | (simp [size_ext]; done) | (simp [size_ext]; omega)))

set_option maxRecDepth 100000 in
set_option maxHeartbeats 4000000 in
theorem hwrite_ok (h : Hd) (k : HOk h) (w : World) : Calls Try.prog 33 #[.agg (hdCells h)] w fun e w' => ∃ g, e = .returned (.tuple #[.slice (some ⟨g, 0, none⟩) 4 4, .nilIface]) ∧ w.heap.size ≤ g ∧
    Blk w' g 5 #[.int .u8 (h.id / 256), .int .u8 (h.id % 256), .int .u8 (word h / 256 % 256), .int .u8 (word h % 256)] ∧ Below w.heap.size w w' := by
  obtain ⟨id, an, op, aa, tc, rd, ra, z, ad, cd, code⟩ := h
  obtain ⟨i0, i1, o0, o1, c0, c1⟩ := k
  simp only at i0 i1 o0 o1 c0 c1
  have CP := hid places_any
  go_enter Try.func33, Try.ntmps33
  go_wp2_with fail
  refine (CP.out _).mono ?_
  rintro e w1 ⟨rfl, hb⟩
  obtain ⟨os, d, rfl⟩ := ext_of_below hb
  clear hb
  go_wp2_with fail
  have hblk0 := hid (((Blk.new w 39 (hdCells ⟨id, an, op, aa, tc, rd, ra, z, ad, cd, code⟩)).ext os d))
  have hlow0 : Below w.heap.size w (ext (w.alloc (.cells (hdCells ⟨id, an, op, aa, tc, rd, ra, z, ad, cd, code⟩) 39)) os d) := by (repeat' (first | (with_reducible exact Below.refl _ _) | (with_reducible assumption) | (with_reducible refine below_ext0 ?_ _ _) | (with_reducible refine below_alloc0 ?_ _) | (with_reducible refine Below.ext ?_ ?_ _ _) | (with_reducible refine Below.alloc ?_ ?_ _) | (with_reducible refine Below.setCell ?_ ?_ _) | (with_reducible refine Below.drew ?_) | (with_reducible refine below_draws ?_ _) | go_size | (simp [size_ext]; done) | (simp [size_ext]; omega)))
  have HLOW0 := hid hlow0
  clear hlow0
  go_loopg [4, 43] 7 (fun kk v4 v43 wr => ∃ (k : Nat) (x : Int), k ≤ 7 ∧ kk = 7 - k ∧ v43 = .int .i64 k ∧ v4 = .int .i64 x ∧ x = wk ⟨id, an, op, aa, tc, rd, ra, z, ad, cd, code⟩ k ∧ Blk wr w.heap.size 39 (hdCells ⟨id, an, op, aa, tc, rd, ra, z, ad, cd, code⟩) ∧ Below w.heap.size w wr)
  case atStart => exact ⟨0, _, by omega, rfl, rfl, rfl, rfl, hblk0.out, HLOW0.out⟩
  case round =>
    obtain ⟨k, x, hk, rfl, rfl, rfl, hx, hb, hlow⟩ := hrel
    have HX := hid hx
    have HLOW := hid hlow
    have HB := hid hb
    have lb := hb.lt
    have cc := fun i => hb.cell i
    have c1 := cc 1
    have c3 := cc 3
    have c4 := cc 4
    have c5 := cc 5
    have c6 := cc 6
    have c7 := cc 7
    have c8 := cc 8
    have c9 := cc 9
    have c00 := cc 0
    simp only [hdCells] at c1 c3 c4 c5 c6 c7 c8 c9 c00
    simp at c1 c3 c4 c5 c6 c7 c8 c9 c00
    clear cc hx hb hlow hblk0 HLOW0 CP
    by_cases hk7 : k < 7
    · have hways : k = 0 ∨ k = 1 ∨ k = 2 ∨ k = 3 ∨ k = 4 ∨ k = 5 ∨ k = 6 := by omega
      rcases hways with rfl | rfl | rfl | rfl | rfl | rfl | rfl
      · have ix : ∀ w, (Instr.index 119 (.agg #[.int .i64 15, .int .i64 10, .int .i64 9, .int .i64 8, .int .i64 7, .int .i64 6, .int .i64 5]) (.int .i64 0)).run Try.prog w = .ok (.int .i64 15) w := fun _ => by kernel_rfl
        have iy : ∀ b w, (Instr.index 122 (.agg #[.pointer (some ⟨b, 0 + 1, none⟩), .pointer (some ⟨b, 0 + 3, none⟩), .pointer (some ⟨b, 0 + 4, none⟩), .pointer (some ⟨b, 0 + 5, none⟩), .pointer (some ⟨b, 0 + 6, none⟩), .pointer (some ⟨b, 0 + 7, none⟩), .pointer (some ⟨b, 0 + 8, none⟩)]) (.int .i64 0)).run Try.prog w = .ok (.pointer (some ⟨b, 0 + 1, none⟩)) w := fun _ _ => by kernel_rfl
        have CF := hid flags_any
        go_wp2_with fail
        refine (CF.out _ _ _).mono ?_
        rintro e w1 ⟨rfl, hb⟩
        obtain ⟨os, d, rfl⟩ := ext_of_below hb
        clear hb
        go_wp2
        all_goals
          go_roundg (7 - (0 + 1))
          case measure => omega
          case rel =>
            go_light
            refine ⟨0 + 1, _, by omega, rfl, by go_num, rfl, ?_, HB.out.ext _ _, HLOW.out.trans ((below_ext _ _ _).mono (Nat.le_of_lt lb))⟩
            rw [wk, ← HX.out]
            simp [flagOf, bitOf, *]
      · have ix : ∀ w, (Instr.index 119 (.agg #[.int .i64 15, .int .i64 10, .int .i64 9, .int .i64 8, .int .i64 7, .int .i64 6, .int .i64 5]) (.int .i64 1)).run Try.prog w = .ok (.int .i64 10) w := fun _ => by kernel_rfl
        have iy : ∀ b w, (Instr.index 122 (.agg #[.pointer (some ⟨b, 0 + 1, none⟩), .pointer (some ⟨b, 0 + 3, none⟩), .pointer (some ⟨b, 0 + 4, none⟩), .pointer (some ⟨b, 0 + 5, none⟩), .pointer (some ⟨b, 0 + 6, none⟩), .pointer (some ⟨b, 0 + 7, none⟩), .pointer (some ⟨b, 0 + 8, none⟩)]) (.int .i64 1)).run Try.prog w = .ok (.pointer (some ⟨b, 0 + 3, none⟩)) w := fun _ _ => by kernel_rfl
        have CF := hid flags_any
        go_wp2_with fail
        refine (CF.out _ _ _).mono ?_
        rintro e w1 ⟨rfl, hb⟩
        obtain ⟨os, d, rfl⟩ := ext_of_below hb
        clear hb
        go_wp2
        all_goals
          go_roundg (7 - (1 + 1))
          case measure => omega
          case rel =>
            go_light
            refine ⟨1 + 1, _, by omega, rfl, by go_num, rfl, ?_, HB.out.ext _ _, HLOW.out.trans ((below_ext _ _ _).mono (Nat.le_of_lt lb))⟩
            rw [wk, ← HX.out]
            simp [flagOf, bitOf, *]
      · have ix : ∀ w, (Instr.index 119 (.agg #[.int .i64 15, .int .i64 10, .int .i64 9, .int .i64 8, .int .i64 7, .int .i64 6, .int .i64 5]) (.int .i64 2)).run Try.prog w = .ok (.int .i64 9) w := fun _ => by kernel_rfl
        have iy : ∀ b w, (Instr.index 122 (.agg #[.pointer (some ⟨b, 0 + 1, none⟩), .pointer (some ⟨b, 0 + 3, none⟩), .pointer (some ⟨b, 0 + 4, none⟩), .pointer (some ⟨b, 0 + 5, none⟩), .pointer (some ⟨b, 0 + 6, none⟩), .pointer (some ⟨b, 0 + 7, none⟩), .pointer (some ⟨b, 0 + 8, none⟩)]) (.int .i64 2)).run Try.prog w = .ok (.pointer (some ⟨b, 0 + 4, none⟩)) w := fun _ _ => by kernel_rfl
        have CF := hid flags_any
        go_wp2_with fail
        refine (CF.out _ _ _).mono ?_
        rintro e w1 ⟨rfl, hb⟩
        obtain ⟨os, d, rfl⟩ := ext_of_below hb
        clear hb
        go_wp2
        all_goals
          go_roundg (7 - (2 + 1))
          case measure => omega
          case rel =>
            go_light
            refine ⟨2 + 1, _, by omega, rfl, by go_num, rfl, ?_, HB.out.ext _ _, HLOW.out.trans ((below_ext _ _ _).mono (Nat.le_of_lt lb))⟩
            rw [wk, ← HX.out]
            simp [flagOf, bitOf, *]
      · have ix : ∀ w, (Instr.index 119 (.agg #[.int .i64 15, .int .i64 10, .int .i64 9, .int .i64 8, .int .i64 7, .int .i64 6, .int .i64 5]) (.int .i64 3)).run Try.prog w = .ok (.int .i64 8) w := fun _ => by kernel_rfl
        have iy : ∀ b w, (Instr.index 122 (.agg #[.pointer (some ⟨b, 0 + 1, none⟩), .pointer (some ⟨b, 0 + 3, none⟩), .pointer (some ⟨b, 0 + 4, none⟩), .pointer (some ⟨b, 0 + 5, none⟩), .pointer (some ⟨b, 0 + 6, none⟩), .pointer (some ⟨b, 0 + 7, none⟩), .pointer (some ⟨b, 0 + 8, none⟩)]) (.int .i64 3)).run Try.prog w = .ok (.pointer (some ⟨b, 0 + 5, none⟩)) w := fun _ _ => by kernel_rfl
        have CF := hid flags_any
        go_wp2_with fail
        refine (CF.out _ _ _).mono ?_
        rintro e w1 ⟨rfl, hb⟩
        obtain ⟨os, d, rfl⟩ := ext_of_below hb
        clear hb
        go_wp2
        all_goals
          go_roundg (7 - (3 + 1))
          case measure => omega
          case rel =>
            go_light
            refine ⟨3 + 1, _, by omega, rfl, by go_num, rfl, ?_, HB.out.ext _ _, HLOW.out.trans ((below_ext _ _ _).mono (Nat.le_of_lt lb))⟩
            rw [wk, ← HX.out]
            simp [flagOf, bitOf, *]
      · have ix : ∀ w, (Instr.index 119 (.agg #[.int .i64 15, .int .i64 10, .int .i64 9, .int .i64 8, .int .i64 7, .int .i64 6, .int .i64 5]) (.int .i64 4)).run Try.prog w = .ok (.int .i64 7) w := fun _ => by kernel_rfl
        have iy : ∀ b w, (Instr.index 122 (.agg #[.pointer (some ⟨b, 0 + 1, none⟩), .pointer (some ⟨b, 0 + 3, none⟩), .pointer (some ⟨b, 0 + 4, none⟩), .pointer (some ⟨b, 0 + 5, none⟩), .pointer (some ⟨b, 0 + 6, none⟩), .pointer (some ⟨b, 0 + 7, none⟩), .pointer (some ⟨b, 0 + 8, none⟩)]) (.int .i64 4)).run Try.prog w = .ok (.pointer (some ⟨b, 0 + 6, none⟩)) w := fun _ _ => by kernel_rfl
        have CF := hid flags_any
        go_wp2_with fail
        refine (CF.out _ _ _).mono ?_
        rintro e w1 ⟨rfl, hb⟩
        obtain ⟨os, d, rfl⟩ := ext_of_below hb
        clear hb
        go_wp2
        all_goals
          go_roundg (7 - (4 + 1))
          case measure => omega
          case rel =>
            go_light
            refine ⟨4 + 1, _, by omega, rfl, by go_num, rfl, ?_, HB.out.ext _ _, HLOW.out.trans ((below_ext _ _ _).mono (Nat.le_of_lt lb))⟩
            rw [wk, ← HX.out]
            simp [flagOf, bitOf, *]
      · have ix : ∀ w, (Instr.index 119 (.agg #[.int .i64 15, .int .i64 10, .int .i64 9, .int .i64 8, .int .i64 7, .int .i64 6, .int .i64 5]) (.int .i64 5)).run Try.prog w = .ok (.int .i64 6) w := fun _ => by kernel_rfl
        have iy : ∀ b w, (Instr.index 122 (.agg #[.pointer (some ⟨b, 0 + 1, none⟩), .pointer (some ⟨b, 0 + 3, none⟩), .pointer (some ⟨b, 0 + 4, none⟩), .pointer (some ⟨b, 0 + 5, none⟩), .pointer (some ⟨b, 0 + 6, none⟩), .pointer (some ⟨b, 0 + 7, none⟩), .pointer (some ⟨b, 0 + 8, none⟩)]) (.int .i64 5)).run Try.prog w = .ok (.pointer (some ⟨b, 0 + 7, none⟩)) w := fun _ _ => by kernel_rfl
        have CF := hid flags_any
        go_wp2_with fail
        refine (CF.out _ _ _).mono ?_
        rintro e w1 ⟨rfl, hb⟩
        obtain ⟨os, d, rfl⟩ := ext_of_below hb
        clear hb
        go_wp2
        all_goals
          go_roundg (7 - (5 + 1))
          case measure => omega
          case rel =>
            go_light
            refine ⟨5 + 1, _, by omega, rfl, by go_num, rfl, ?_, HB.out.ext _ _, HLOW.out.trans ((below_ext _ _ _).mono (Nat.le_of_lt lb))⟩
            rw [wk, ← HX.out]
            simp [flagOf, bitOf, *]
      · have ix : ∀ w, (Instr.index 119 (.agg #[.int .i64 15, .int .i64 10, .int .i64 9, .int .i64 8, .int .i64 7, .int .i64 6, .int .i64 5]) (.int .i64 6)).run Try.prog w = .ok (.int .i64 5) w := fun _ => by kernel_rfl
        have iy : ∀ b w, (Instr.index 122 (.agg #[.pointer (some ⟨b, 0 + 1, none⟩), .pointer (some ⟨b, 0 + 3, none⟩), .pointer (some ⟨b, 0 + 4, none⟩), .pointer (some ⟨b, 0 + 5, none⟩), .pointer (some ⟨b, 0 + 6, none⟩), .pointer (some ⟨b, 0 + 7, none⟩), .pointer (some ⟨b, 0 + 8, none⟩)]) (.int .i64 6)).run Try.prog w = .ok (.pointer (some ⟨b, 0 + 8, none⟩)) w := fun _ _ => by kernel_rfl
        have CF := hid flags_any
        go_wp2_with fail
        refine (CF.out _ _ _).mono ?_
        rintro e w1 ⟨rfl, hb⟩
        obtain ⟨os, d, rfl⟩ := ext_of_below hb
        clear hb
        go_wp2
        all_goals
          go_roundg (7 - (6 + 1))
          case measure => omega
          case rel =>
            go_light
            refine ⟨6 + 1, _, by omega, rfl, by go_num, rfl, ?_, HB.out.ext _ _, HLOW.out.trans ((below_ext _ _ _).mono (Nat.le_of_lt lb))⟩
            rw [wk, ← HX.out]
            simp [flagOf, bitOf, *]
    · have k7 : k = 7 := by omega
      subst k7
      cases cd
      all_goals
        go_wp2
        refine bodyPost_ret (results_tmp2 rfl _ _ _) rfl ?_
        refine ⟨wr.heap.size, rfl, HLOW.out.size, ?_, ?_⟩
        · rw [word, ← HX.out]; exact Blk.new' _ _ rfl
        · exact HLOW.out.alloc (Nat.le_of_lt lb) _
end Go.Proofs.Ytkdfiedemhjjjaa
