/- The header's Read. -/
import Derived.Test.YtkdfiedemhjjjaaHead
namespace Go.Proofs.Ytkdfiedemhjjjaa
open Go.RowKit
set_option linter.unusedVariables false

set_option maxRecDepth 100000 in
set_option maxHeartbeats 4000000 in
theorem read_short (A : Option Addr) (n c : Nat) (hn : n < 4) (w : World) : Calls Try.prog 38 #[.slice A n c] w fun e w' => e = .returned (.tuple #[.agg (hdCells ⟨0, false, 0, false, false, false, false, false, false, false, 0⟩), .iface 65 (.int .i64 2)]) ∧ Below w.heap.size w w' := by
  go_enter Try.func38, Try.ntmps38
  go_wp2
  refine bodyPost_ret (v := .tuple #[.agg (hdCells ⟨0, false, 0, false, false, false, false, false, false, false, 0⟩), .iface 65 (.int .i64 2)]) (by simp [results, Try.results38, go_sem]) rfl ⟨rfl, ?_⟩
  (repeat' (first | (with_reducible exact Below.refl _ _) | (with_reducible assumption) | (with_reducible refine below_ext0 ?_ _ _) | (with_reducible refine below_alloc0 ?_ _) | (with_reducible refine Below.ext ?_ ?_ _ _) | (with_reducible refine Below.alloc ?_ ?_ _) | (with_reducible refine Below.setCell ?_ ?_ _) | (with_reducible refine Below.drew ?_) | (with_reducible refine below_draws ?_ _) | go_size | (simp [size_ext]; done) | (simp [size_ext]; omega)))

theorem Blk.drewN {w : World} {g : Nat} {t : TypeId} {cs : Array Value} (h : Blk w g t cs) (n : Nat) : Blk (w.drewN n) g t cs := h
theorem below_drewN {B : Nat} {a w : World} (h : Below B a w) (n : Nat) : Below B a (w.drewN n) := ⟨h.os, h.tape, h.output, h.size, h.block⟩
/-- a bit of a word -/
def bitq (wd : Int) (p : Nat) : Bool := bits .and .i64 (wd / 2 ^ p) 1 == 1
/-- the header of a word, k of seven flags in -/
def fl (wd : Int) (p k i : Nat) : Bool := if i < k then bitq wd p else false
def hdK (id wd : Int) (k : Nat) : Hd := ⟨id, fl wd 15 k 0, bits .and .i64 (wd / 2048) 15, fl wd 10 k 1, fl wd 9 k 2, fl wd 8 k 3, fl wd 7 k 4, fl wd 6 k 5, fl wd 5 k 6, bits .and .i64 wd 16 != 0, bits .and .i64 wd 15⟩

set_option maxRecDepth 100000 in
set_option maxHeartbeats 4000000 in
theorem hread_ok (b o n c : Nat) (x0 x1 x2 x3 : Int) (hn : 4 ≤ n) (hc : n ≤ c) (hm : c ≤ 9223372036854775807) (w : World) (c0 : w.cell? ⟨b, o, none⟩ = some (.int .u8 x0)) (c1 : w.cell? ⟨b, o + 1, none⟩ = some (.int .u8 x1))
    (c2 : w.cell? ⟨b, o + 2, none⟩ = some (.int .u8 x2)) (c3 : w.cell? ⟨b, o + 3, none⟩ = some (.int .u8 x3)) (a0 : 0 ≤ x0) (b0 : x0 ≤ 255) (a1 : 0 ≤ x1) (b1 : x1 ≤ 255) (a2 : 0 ≤ x2) (b2 : x2 ≤ 255) (a3 : 0 ≤ x3) (b3 : x3 ≤ 255) :
    Calls Try.prog 38 #[.slice (some ⟨b, o, none⟩) n c] w fun e w' => e = .returned (.tuple #[.agg (hdCells (hdK (bits .or .i64 (x0 * 256) x1) (bits .or .i64 (x2 * 256) x3) 7)), .nilIface]) ∧ Below w.heap.size w w' := by
  have jn : 0 < n := by omega
  have j0 : (0 : Int) < (n : Int) := by omega
  have j1 : (1 : Int) < (n : Int) := by omega
  have j2 : (2 : Int) < (n : Int) := by omega
  have j3 : (3 : Int) < (n : Int) := by omega
  have lb : b < w.heap.size := World.block_lt_of_cell? w _ c0
  have CP := hid places_any
  go_enter Try.func38, Try.ntmps38
  go_wp2_with fail
  go_quiet (fail)
  go_upto_region 4 with fail
  go_region_held3 (fun w' => w'.cell? ⟨b, o, none⟩ = some (.int .u8 x0) ∧ w'.cell? ⟨b, o + 1, none⟩ = some (.int .u8 x1)) (go_keep) (fail)
  all_goals (go_wp2_with fail)
  generalize hwd : bits BinOp.or IntKind.i64 (x2 * 256) x3 = wd
  generalize hid' : bits BinOp.or IntKind.i64 (x0 * 256) x1 = id
  have HWD := hid hwd
  have HID := hid hid'
  clear hwd hid'
  clear c0 c1 c2 c3
  refine (CP.out _).mono ?_
  rintro e w1 ⟨rfl, hb⟩
  obtain ⟨os, d, rfl⟩ := ext_of_below hb
  clear hb
  go_wp2_with fail
  have hb0 := hid (show Blk (ext (((w.alloc (.cells (hdCells ⟨0, false, 0, false, false, false, false, false, false, false, 0⟩) 39)).drewN (nq + 1)).alloc (.cells (hdCells (hdK id wd 0)) 39)) os d) (w.heap.size + 1) 39 (hdCells (hdK id wd 0)) from
    (Blk.new' _ _ (by simp)).ext os d)
  have hz0 := hid (show Blk (ext (((w.alloc (.cells (hdCells ⟨0, false, 0, false, false, false, false, false, false, false, 0⟩) 39)).drewN (nq + 1)).alloc (.cells (hdCells (hdK id wd 0)) 39)) os d) w.heap.size 39 (hdCells ⟨0, false, 0, false, false, false, false, false, false, false, 0⟩) from
    ((Blk.new w _ _).drewN _).alloc _ |>.ext os d)
  have hl0 := hid (show Below w.heap.size w (ext (((w.alloc (.cells (hdCells ⟨0, false, 0, false, false, false, false, false, false, false, 0⟩) 39)).drewN (nq + 1)).alloc (.cells (hdCells (hdK id wd 0)) 39)) os d) from
    (((below_drewN ((Below.refl _ _).alloc (Nat.le_refl _) _) _).alloc (by simp) _).trans ((below_ext _ _ _).mono (by simp; omega))))
  go_loopg [43] 7 (fun kk v43 wr => ∃ (k : Nat), k ≤ 7 ∧ kk = 7 - k ∧ v43 = .int .i64 k ∧ Blk wr (w.heap.size + 1) 39 (hdCells (hdK id wd k)) ∧ Blk wr w.heap.size 39 (hdCells ⟨0, false, 0, false, false, false, false, false, false, false, 0⟩) ∧ Below w.heap.size w wr)
  case atStart => exact ⟨0, by omega, rfl, rfl, hb0.out, hz0.out, hl0.out⟩
  case round =>
    obtain ⟨k, hk, rfl, rfl, hb, hz, hlow⟩ := hrel
    have HLOW := hid hlow
    have HB := hid hb
    have HZ := hid hz
    have lbb := hb.lt
    have lbz := hz.lt
    have CF := hid flags_any
    clear hb hz hlow hb0 hz0 hl0 CP
    by_cases hk7 : k < 7
    · have hways : k = 0 ∨ k = 1 ∨ k = 2 ∨ k = 3 ∨ k = 4 ∨ k = 5 ∨ k = 6 := by omega
      rcases hways with rfl | rfl | rfl | rfl | rfl | rfl | rfl
      · have ix : ∀ w, (Instr.index 119 (.agg #[.int .i64 15, .int .i64 10, .int .i64 9, .int .i64 8, .int .i64 7, .int .i64 6, .int .i64 5]) (.int .i64 0)).run Try.prog w = .ok (.int .i64 15) w := fun _ => by kernel_rfl
        have iy : ∀ b w, (Instr.index 122 (.agg #[.pointer (some ⟨b, 0 + 1, none⟩), .pointer (some ⟨b, 0 + 3, none⟩), .pointer (some ⟨b, 0 + 4, none⟩), .pointer (some ⟨b, 0 + 5, none⟩), .pointer (some ⟨b, 0 + 6, none⟩), .pointer (some ⟨b, 0 + 7, none⟩), .pointer (some ⟨b, 0 + 8, none⟩)]) (.int .i64 0)).run Try.prog w = .ok (.pointer (some ⟨b, 0 + 1, none⟩)) w := fun _ _ => by kernel_rfl
        have cf := HB.out.cell 1
        have ff := HB.out.frozen 1
        simp [hdK, fl] at cf
        go_upto_region 8 with fail
        go_region_held3 (fun _ => True) (trivial) (first | (go_at_call 60; refine (CF.out _ _ _).mono ?_; rintro e w1 ⟨rfl, hbw⟩; obtain ⟨os, d, rfl⟩ := ext_of_below hbw; clear hbw))
        all_goals
          go_wp2
          go_roundg (7 - (0 + 1))
          case measure => omega
          case rel =>
            go_light
            have low := HLOW.out
            refine ⟨0 + 1, by omega, rfl, by go_num, ?_, ?_, ?_⟩
            · have h := (HB.out.set 1 (.bool (bitq wd 15))).ext os d
              simpa [hdK, fl, hdCells, bitq] using h
            · exact (HZ.out.far (by simp) _).ext _ _
            · (repeat' (first | (with_reducible exact Below.refl _ _) | (with_reducible assumption) | (with_reducible refine below_ext0 ?_ _ _) | (with_reducible refine below_alloc0 ?_ _) | (with_reducible refine Below.ext ?_ ?_ _ _) | (with_reducible refine Below.alloc ?_ ?_ _) | (with_reducible refine Below.setCell ?_ ?_ _) | (with_reducible refine Below.drew ?_) | (with_reducible refine below_draws ?_ _) | go_size | (simp [size_ext]; done) | (simp [size_ext]; omega)))
      · have ix : ∀ w, (Instr.index 119 (.agg #[.int .i64 15, .int .i64 10, .int .i64 9, .int .i64 8, .int .i64 7, .int .i64 6, .int .i64 5]) (.int .i64 1)).run Try.prog w = .ok (.int .i64 10) w := fun _ => by kernel_rfl
        have iy : ∀ b w, (Instr.index 122 (.agg #[.pointer (some ⟨b, 0 + 1, none⟩), .pointer (some ⟨b, 0 + 3, none⟩), .pointer (some ⟨b, 0 + 4, none⟩), .pointer (some ⟨b, 0 + 5, none⟩), .pointer (some ⟨b, 0 + 6, none⟩), .pointer (some ⟨b, 0 + 7, none⟩), .pointer (some ⟨b, 0 + 8, none⟩)]) (.int .i64 1)).run Try.prog w = .ok (.pointer (some ⟨b, 0 + 3, none⟩)) w := fun _ _ => by kernel_rfl
        have cf := HB.out.cell 3
        have ff := HB.out.frozen 3
        simp [hdK, fl] at cf
        go_upto_region 8 with fail
        go_region_held3 (fun _ => True) (trivial) (first | (go_at_call 60; refine (CF.out _ _ _).mono ?_; rintro e w1 ⟨rfl, hbw⟩; obtain ⟨os, d, rfl⟩ := ext_of_below hbw; clear hbw))
        all_goals
          go_wp2
          go_roundg (7 - (1 + 1))
          case measure => omega
          case rel =>
            go_light
            have low := HLOW.out
            refine ⟨1 + 1, by omega, rfl, by go_num, ?_, ?_, ?_⟩
            · have h := (HB.out.set 3 (.bool (bitq wd 10))).ext os d
              simpa [hdK, fl, hdCells, bitq] using h
            · exact (HZ.out.far (by simp) _).ext _ _
            · (repeat' (first | (with_reducible exact Below.refl _ _) | (with_reducible assumption) | (with_reducible refine below_ext0 ?_ _ _) | (with_reducible refine below_alloc0 ?_ _) | (with_reducible refine Below.ext ?_ ?_ _ _) | (with_reducible refine Below.alloc ?_ ?_ _) | (with_reducible refine Below.setCell ?_ ?_ _) | (with_reducible refine Below.drew ?_) | (with_reducible refine below_draws ?_ _) | go_size | (simp [size_ext]; done) | (simp [size_ext]; omega)))
      · have ix : ∀ w, (Instr.index 119 (.agg #[.int .i64 15, .int .i64 10, .int .i64 9, .int .i64 8, .int .i64 7, .int .i64 6, .int .i64 5]) (.int .i64 2)).run Try.prog w = .ok (.int .i64 9) w := fun _ => by kernel_rfl
        have iy : ∀ b w, (Instr.index 122 (.agg #[.pointer (some ⟨b, 0 + 1, none⟩), .pointer (some ⟨b, 0 + 3, none⟩), .pointer (some ⟨b, 0 + 4, none⟩), .pointer (some ⟨b, 0 + 5, none⟩), .pointer (some ⟨b, 0 + 6, none⟩), .pointer (some ⟨b, 0 + 7, none⟩), .pointer (some ⟨b, 0 + 8, none⟩)]) (.int .i64 2)).run Try.prog w = .ok (.pointer (some ⟨b, 0 + 4, none⟩)) w := fun _ _ => by kernel_rfl
        have cf := HB.out.cell 4
        have ff := HB.out.frozen 4
        simp [hdK, fl] at cf
        go_upto_region 8 with fail
        go_region_held3 (fun _ => True) (trivial) (first | (go_at_call 60; refine (CF.out _ _ _).mono ?_; rintro e w1 ⟨rfl, hbw⟩; obtain ⟨os, d, rfl⟩ := ext_of_below hbw; clear hbw))
        all_goals
          go_wp2
          go_roundg (7 - (2 + 1))
          case measure => omega
          case rel =>
            go_light
            have low := HLOW.out
            refine ⟨2 + 1, by omega, rfl, by go_num, ?_, ?_, ?_⟩
            · have h := (HB.out.set 4 (.bool (bitq wd 9))).ext os d
              simpa [hdK, fl, hdCells, bitq] using h
            · exact (HZ.out.far (by simp) _).ext _ _
            · (repeat' (first | (with_reducible exact Below.refl _ _) | (with_reducible assumption) | (with_reducible refine below_ext0 ?_ _ _) | (with_reducible refine below_alloc0 ?_ _) | (with_reducible refine Below.ext ?_ ?_ _ _) | (with_reducible refine Below.alloc ?_ ?_ _) | (with_reducible refine Below.setCell ?_ ?_ _) | (with_reducible refine Below.drew ?_) | (with_reducible refine below_draws ?_ _) | go_size | (simp [size_ext]; done) | (simp [size_ext]; omega)))
      · have ix : ∀ w, (Instr.index 119 (.agg #[.int .i64 15, .int .i64 10, .int .i64 9, .int .i64 8, .int .i64 7, .int .i64 6, .int .i64 5]) (.int .i64 3)).run Try.prog w = .ok (.int .i64 8) w := fun _ => by kernel_rfl
        have iy : ∀ b w, (Instr.index 122 (.agg #[.pointer (some ⟨b, 0 + 1, none⟩), .pointer (some ⟨b, 0 + 3, none⟩), .pointer (some ⟨b, 0 + 4, none⟩), .pointer (some ⟨b, 0 + 5, none⟩), .pointer (some ⟨b, 0 + 6, none⟩), .pointer (some ⟨b, 0 + 7, none⟩), .pointer (some ⟨b, 0 + 8, none⟩)]) (.int .i64 3)).run Try.prog w = .ok (.pointer (some ⟨b, 0 + 5, none⟩)) w := fun _ _ => by kernel_rfl
        have cf := HB.out.cell 5
        have ff := HB.out.frozen 5
        simp [hdK, fl] at cf
        go_upto_region 8 with fail
        go_region_held3 (fun _ => True) (trivial) (first | (go_at_call 60; refine (CF.out _ _ _).mono ?_; rintro e w1 ⟨rfl, hbw⟩; obtain ⟨os, d, rfl⟩ := ext_of_below hbw; clear hbw))
        all_goals
          go_wp2
          go_roundg (7 - (3 + 1))
          case measure => omega
          case rel =>
            go_light
            have low := HLOW.out
            refine ⟨3 + 1, by omega, rfl, by go_num, ?_, ?_, ?_⟩
            · have h := (HB.out.set 5 (.bool (bitq wd 8))).ext os d
              simpa [hdK, fl, hdCells, bitq] using h
            · exact (HZ.out.far (by simp) _).ext _ _
            · (repeat' (first | (with_reducible exact Below.refl _ _) | (with_reducible assumption) | (with_reducible refine below_ext0 ?_ _ _) | (with_reducible refine below_alloc0 ?_ _) | (with_reducible refine Below.ext ?_ ?_ _ _) | (with_reducible refine Below.alloc ?_ ?_ _) | (with_reducible refine Below.setCell ?_ ?_ _) | (with_reducible refine Below.drew ?_) | (with_reducible refine below_draws ?_ _) | go_size | (simp [size_ext]; done) | (simp [size_ext]; omega)))
      · have ix : ∀ w, (Instr.index 119 (.agg #[.int .i64 15, .int .i64 10, .int .i64 9, .int .i64 8, .int .i64 7, .int .i64 6, .int .i64 5]) (.int .i64 4)).run Try.prog w = .ok (.int .i64 7) w := fun _ => by kernel_rfl
        have iy : ∀ b w, (Instr.index 122 (.agg #[.pointer (some ⟨b, 0 + 1, none⟩), .pointer (some ⟨b, 0 + 3, none⟩), .pointer (some ⟨b, 0 + 4, none⟩), .pointer (some ⟨b, 0 + 5, none⟩), .pointer (some ⟨b, 0 + 6, none⟩), .pointer (some ⟨b, 0 + 7, none⟩), .pointer (some ⟨b, 0 + 8, none⟩)]) (.int .i64 4)).run Try.prog w = .ok (.pointer (some ⟨b, 0 + 6, none⟩)) w := fun _ _ => by kernel_rfl
        have cf := HB.out.cell 6
        have ff := HB.out.frozen 6
        simp [hdK, fl] at cf
        go_upto_region 8 with fail
        go_region_held3 (fun _ => True) (trivial) (first | (go_at_call 60; refine (CF.out _ _ _).mono ?_; rintro e w1 ⟨rfl, hbw⟩; obtain ⟨os, d, rfl⟩ := ext_of_below hbw; clear hbw))
        all_goals
          go_wp2
          go_roundg (7 - (4 + 1))
          case measure => omega
          case rel =>
            go_light
            have low := HLOW.out
            refine ⟨4 + 1, by omega, rfl, by go_num, ?_, ?_, ?_⟩
            · have h := (HB.out.set 6 (.bool (bitq wd 7))).ext os d
              simpa [hdK, fl, hdCells, bitq] using h
            · exact (HZ.out.far (by simp) _).ext _ _
            · (repeat' (first | (with_reducible exact Below.refl _ _) | (with_reducible assumption) | (with_reducible refine below_ext0 ?_ _ _) | (with_reducible refine below_alloc0 ?_ _) | (with_reducible refine Below.ext ?_ ?_ _ _) | (with_reducible refine Below.alloc ?_ ?_ _) | (with_reducible refine Below.setCell ?_ ?_ _) | (with_reducible refine Below.drew ?_) | (with_reducible refine below_draws ?_ _) | go_size | (simp [size_ext]; done) | (simp [size_ext]; omega)))
      · have ix : ∀ w, (Instr.index 119 (.agg #[.int .i64 15, .int .i64 10, .int .i64 9, .int .i64 8, .int .i64 7, .int .i64 6, .int .i64 5]) (.int .i64 5)).run Try.prog w = .ok (.int .i64 6) w := fun _ => by kernel_rfl
        have iy : ∀ b w, (Instr.index 122 (.agg #[.pointer (some ⟨b, 0 + 1, none⟩), .pointer (some ⟨b, 0 + 3, none⟩), .pointer (some ⟨b, 0 + 4, none⟩), .pointer (some ⟨b, 0 + 5, none⟩), .pointer (some ⟨b, 0 + 6, none⟩), .pointer (some ⟨b, 0 + 7, none⟩), .pointer (some ⟨b, 0 + 8, none⟩)]) (.int .i64 5)).run Try.prog w = .ok (.pointer (some ⟨b, 0 + 7, none⟩)) w := fun _ _ => by kernel_rfl
        have cf := HB.out.cell 7
        have ff := HB.out.frozen 7
        simp [hdK, fl] at cf
        go_upto_region 8 with fail
        go_region_held3 (fun _ => True) (trivial) (first | (go_at_call 60; refine (CF.out _ _ _).mono ?_; rintro e w1 ⟨rfl, hbw⟩; obtain ⟨os, d, rfl⟩ := ext_of_below hbw; clear hbw))
        all_goals
          go_wp2
          go_roundg (7 - (5 + 1))
          case measure => omega
          case rel =>
            go_light
            have low := HLOW.out
            refine ⟨5 + 1, by omega, rfl, by go_num, ?_, ?_, ?_⟩
            · have h := (HB.out.set 7 (.bool (bitq wd 6))).ext os d
              simpa [hdK, fl, hdCells, bitq] using h
            · exact (HZ.out.far (by simp) _).ext _ _
            · (repeat' (first | (with_reducible exact Below.refl _ _) | (with_reducible assumption) | (with_reducible refine below_ext0 ?_ _ _) | (with_reducible refine below_alloc0 ?_ _) | (with_reducible refine Below.ext ?_ ?_ _ _) | (with_reducible refine Below.alloc ?_ ?_ _) | (with_reducible refine Below.setCell ?_ ?_ _) | (with_reducible refine Below.drew ?_) | (with_reducible refine below_draws ?_ _) | go_size | (simp [size_ext]; done) | (simp [size_ext]; omega)))
      · have ix : ∀ w, (Instr.index 119 (.agg #[.int .i64 15, .int .i64 10, .int .i64 9, .int .i64 8, .int .i64 7, .int .i64 6, .int .i64 5]) (.int .i64 6)).run Try.prog w = .ok (.int .i64 5) w := fun _ => by kernel_rfl
        have iy : ∀ b w, (Instr.index 122 (.agg #[.pointer (some ⟨b, 0 + 1, none⟩), .pointer (some ⟨b, 0 + 3, none⟩), .pointer (some ⟨b, 0 + 4, none⟩), .pointer (some ⟨b, 0 + 5, none⟩), .pointer (some ⟨b, 0 + 6, none⟩), .pointer (some ⟨b, 0 + 7, none⟩), .pointer (some ⟨b, 0 + 8, none⟩)]) (.int .i64 6)).run Try.prog w = .ok (.pointer (some ⟨b, 0 + 8, none⟩)) w := fun _ _ => by kernel_rfl
        have cf := HB.out.cell 8
        have ff := HB.out.frozen 8
        simp [hdK, fl] at cf
        go_upto_region 8 with fail
        go_region_held3 (fun _ => True) (trivial) (first | (go_at_call 60; refine (CF.out _ _ _).mono ?_; rintro e w1 ⟨rfl, hbw⟩; obtain ⟨os, d, rfl⟩ := ext_of_below hbw; clear hbw))
        all_goals
          go_wp2
          go_roundg (7 - (6 + 1))
          case measure => omega
          case rel =>
            go_light
            have low := HLOW.out
            refine ⟨6 + 1, by omega, rfl, by go_num, ?_, ?_, ?_⟩
            · have h := (HB.out.set 8 (.bool (bitq wd 5))).ext os d
              simpa [hdK, fl, hdCells, bitq] using h
            · exact (HZ.out.far (by simp) _).ext _ _
            · (repeat' (first | (with_reducible exact Below.refl _ _) | (with_reducible assumption) | (with_reducible refine below_ext0 ?_ _ _) | (with_reducible refine below_alloc0 ?_ _) | (with_reducible refine Below.ext ?_ ?_ _ _) | (with_reducible refine Below.alloc ?_ ?_ _) | (with_reducible refine Below.setCell ?_ ?_ _) | (with_reducible refine Below.drew ?_) | (with_reducible refine below_draws ?_ _) | go_size | (simp [size_ext]; done) | (simp [size_ext]; omega)))
    · have k7 : k = 7 := by omega
      subst k7
      have gg := fun i => HB.out.cell i
      have zz := fun i => HZ.out.cell i
      have zf := fun i => HZ.out.frozen i
      have g0 := gg 0
      have z0 := zz 0
      have y0 := zf 0
      have g1 := gg 1
      have z1 := zz 1
      have y1 := zf 1
      have g2 := gg 2
      have z2 := zz 2
      have y2 := zf 2
      have g3 := gg 3
      have z3 := zz 3
      have y3 := zf 3
      have g4 := gg 4
      have z4 := zz 4
      have y4 := zf 4
      have g5 := gg 5
      have z5 := zz 5
      have y5 := zf 5
      have g6 := gg 6
      have z6 := zz 6
      have y6 := zf 6
      have g7 := gg 7
      have z7 := zz 7
      have y7 := zf 7
      have g8 := gg 8
      have z8 := zz 8
      have y8 := zf 8
      have g9 := gg 9
      have z9 := zz 9
      have y9 := zf 9
      have g10 := gg 10
      have z10 := zz 10
      have y10 := zf 10
      clear gg zz zf
      simp only [hdCells] at g0 z0 g1 z1 g2 z2 g3 z3 g4 z4 g5 z5 g6 z6 g7 z7 g8 z8 g9 z9 g10 z10
      simp at g0 z0 g1 z1 g2 z2 g3 z3 g4 z4 g5 z5 g6 z6 g7 z7 g8 z8 g9 z9 g10 z10
      have low := HLOW.out
      generalize hH : hdK id wd 7 = H at *
      have HH := hid hH
      clear hH
      go_wp2
      refine bodyPost_ret (v := .tuple #[.agg (hdCells H), .nilIface]) (by simp [results, Try.results38, go_sem, hdCells, z0, z1, z2, z3, z4, z5, z6, z7, z8, z9, z10]) rfl ⟨by rw [HWD.out, HID.out, HH.out], ?_⟩
      (repeat' (first | (with_reducible exact Below.refl _ _) | (with_reducible assumption) | (with_reducible refine below_ext0 ?_ _ _) | (with_reducible refine below_alloc0 ?_ _) | (with_reducible refine Below.ext ?_ ?_ _ _) | (with_reducible refine Below.alloc ?_ ?_ _) | (with_reducible refine Below.setCell ?_ ?_ _) | (with_reducible refine Below.drew ?_) | (with_reducible refine below_draws ?_ _) | go_size | (simp [size_ext]; done) | (simp [size_ext]; omega)))
end Go.Proofs.Ytkdfiedemhjjjaa
