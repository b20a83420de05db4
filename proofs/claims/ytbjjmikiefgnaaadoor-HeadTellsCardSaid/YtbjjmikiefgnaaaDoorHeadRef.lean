/- The document's answers of headers: HeadFault, HeadBytes, HeadOf. -/
import Derived.Test.YtbjjmikiefgnaaaDoorHeadLaw
import Derived.Test.YtbjjmikiefgnaaaDoorApp
import Derived.Test.YtbjjmikiefgnaaaDoorQuietExt
namespace Go.Proofs.YtbjjmikiefgnaaaDoor
open Go.RowKit
set_option linter.unusedVariables false

set_option maxRecDepth 100000 in
set_option maxHeartbeats 2000000 in
theorem hfault_bad (h : Hd) (k : ¬ HOk h) (w : World) : Calls Tryd.prog 8 #[.agg (hdCells h)] w fun e w' => e = .returned (.int .i64 6) ∧ Below w.heap.size w w' := by
  obtain ⟨id, an, op, aa, tc, rd, ra, z, ad, cd, code⟩ := h
  have hways : id < 0 ∨ (0 ≤ id ∧ 65535 < id) ∨ ((0 ≤ id ∧ id ≤ 65535) ∧ (op < 0 ∨ (0 ≤ op ∧ 15 < op) ∨ ((0 ≤ op ∧ op ≤ 15) ∧ (code < 0 ∨ (0 ≤ code ∧ 15 < code))))) := by
    have : ¬ (0 ≤ id ∧ id ≤ 65535 ∧ 0 ≤ op ∧ op ≤ 15 ∧ 0 ≤ code ∧ code ≤ 15) := fun ⟨a, b, c, d, e, f⟩ => k ⟨a, b, c, d, e, f⟩
    omega
  clear k
  rcases hways with c | ⟨_, c⟩ | ⟨⟨_, _⟩, c | ⟨_, c⟩ | ⟨⟨_, _⟩, c | ⟨_, c⟩⟩⟩
  all_goals
    go_enter Tryd.func8, Tryd.ntmps8
    go_wp2
    go_ret
    exact ⟨rfl, by (repeat' (first | (with_reducible exact Below.refl _ _) | (with_reducible assumption) | (with_reducible refine Below.ext ?_ ?_ _ _) | (with_reducible refine Below.alloc ?_ ?_ _) | (with_reducible refine Below.setCell ?_ ?_ _) | (with_reducible refine Below.drew ?_) | (with_reducible refine below_draws ?_ _) | go_size | (simp [size_ext]; done) | (simp [size_ext]; omega)))⟩
set_option maxRecDepth 100000 in
set_option maxHeartbeats 2000000 in
theorem hfault_ok (h : Hd) (k : HOk h) (w : World) : Calls Tryd.prog 8 #[.agg (hdCells h)] w fun e w' => e = .returned (.int .i64 0) ∧ Below w.heap.size w w' := by
  obtain ⟨id, an, op, aa, tc, rd, ra, z, ad, cd, code⟩ := h
  obtain ⟨i0, i1, o0, o1, c0, c1⟩ := k
  simp only at i0 i1 o0 o1 c0 c1
  go_enter Tryd.func8, Tryd.ntmps8
  go_wp2
  go_ret
  exact ⟨rfl, by (repeat' (first | (with_reducible exact Below.refl _ _) | (with_reducible assumption) | (with_reducible refine Below.ext ?_ ?_ _ _) | (with_reducible refine Below.alloc ?_ ?_ _) | (with_reducible refine Below.setCell ?_ ?_ _) | (with_reducible refine Below.drew ?_) | (with_reducible refine below_draws ?_ _) | go_size | (simp [size_ext]; done) | (simp [size_ext]; omega)))⟩

theorem one_any (b : Bool) (n : Int) (w : World) : Calls Tryd.prog 36 #[.bool b, .int .i64 n] w fun e w' => e = .returned (.int .i64 (if b then n else 0)) ∧ Below w.heap.size w w' := by
  cases b
  all_goals
    go_enter Tryd.func36, Tryd.ntmps36
    go_wp2
    go_ret
    exact ⟨by simp, Below.refl _ _⟩
theorem one_some (b : Bool) (n : Nat) : ∃ p : Int, 0 ≤ p ∧ p ≤ n ∧ p = (b.toNat * n : Nat) ∧ ∀ w, Calls Tryd.prog 36 #[.bool b, .int .i64 (n : Int)] w fun e w' => e = .returned (.int .i64 p) ∧ Below w.heap.size w w' := by
  refine ⟨(b.toNat * n : Nat), by omega, by cases b <;> simp, rfl, fun w => ?_⟩
  have := one_any b (n : Int) w
  cases b <;> simpa using this

set_option maxRecDepth 100000 in
set_option maxHeartbeats 4000000 in
theorem hbytes_ok (h : Hd) (k : HOk h) (w : World) : Calls Tryd.prog 9 #[.agg (hdCells h)] w fun e w' => ∃ g, e = .returned (.slice (some ⟨g, 0, none⟩) 4 4) ∧ w.heap.size ≤ g ∧
    Blk w' g 5 #[.int .u8 (h.id / 256), .int .u8 (h.id % 256), .int .u8 (word h / 256 % 256), .int .u8 (word h % 256)] ∧ Below w.heap.size w w' := by
  have hw := word_eq h k
  obtain ⟨id, an, op, aa, tc, rd, ra, z, ad, cd, code⟩ := h
  obtain ⟨i0, i1, o0, o1, c0, c1⟩ := k
  simp only at i0 i1 o0 o1 c0 c1
  obtain ⟨p1, a1, b1, e1, C1⟩ := one_some an 128
  obtain ⟨p2, a2, b2, e2, C2⟩ := one_some aa 4
  obtain ⟨p3, a3, b3, e3, C3⟩ := one_some tc 2
  obtain ⟨p4, a4, b4, e4, C4⟩ := one_some rd 1
  obtain ⟨p5, a5, b5, e5, C5⟩ := one_some ra 128
  obtain ⟨p6, a6, b6, e6, C6⟩ := one_some z 64
  obtain ⟨p7, a7, b7, e7, C7⟩ := one_some ad 32
  obtain ⟨p8, a8, b8, e8, C8⟩ := one_some cd 16
  have hA : p1 + op * 8 + p2 + p3 + p4 = word ⟨id, an, op, aa, tc, rd, ra, z, ad, cd, code⟩ / 256 % 256 ∧ p5 + p6 + p7 + p8 + code = word ⟨id, an, op, aa, tc, rd, ra, z, ad, cd, code⟩ % 256 := by
    rw [hw]
    unfold sumN
    subst e1 e2 e3 e4 e5 e6 e7 e8
    simp only
    have := bool_toNat_le an
    have := bool_toNat_le aa
    have := bool_toNat_le tc
    have := bool_toNat_le rd
    have := bool_toNat_le ra
    have := bool_toNat_le z
    have := bool_toNat_le ad
    have := bool_toNat_le cd
    omega
  have HA := hid hA
  clear hw hA e1 e2 e3 e4 e5 e6 e7 e8
  replace C1 := hid C1
  replace C2 := hid C2
  replace C3 := hid C3
  replace C4 := hid C4
  replace C5 := hid C5
  replace C6 := hid C6
  replace C7 := hid C7
  replace C8 := hid C8
  have v1 : IntKind.i64.wrap (op * 8) = op * 8 := IntWalk.i64_in _ (by omega)
  have v2 : IntKind.i64.wrap (p1 + op * 8) = p1 + op * 8 := IntWalk.i64_in _ (by omega)
  have v3 : IntKind.i64.wrap (p1 + op * 8 + p2) = p1 + op * 8 + p2 := IntWalk.i64_in _ (by omega)
  have v4 : IntKind.i64.wrap (p1 + op * 8 + p2 + p3) = p1 + op * 8 + p2 + p3 := IntWalk.i64_in _ (by omega)
  have v5 : IntKind.i64.wrap (p1 + op * 8 + p2 + p3 + p4) = p1 + op * 8 + p2 + p3 + p4 := IntWalk.i64_in _ (by omega)
  have v6 : IntKind.i64.wrap (p5 + p6) = p5 + p6 := IntWalk.i64_in _ (by omega)
  have v7 : IntKind.i64.wrap (p5 + p6 + p7) = p5 + p6 + p7 := IntWalk.i64_in _ (by omega)
  have v8 : IntKind.i64.wrap (p5 + p6 + p7 + p8) = p5 + p6 + p7 + p8 := IntWalk.i64_in _ (by omega)
  have v9 : IntKind.i64.wrap (p5 + p6 + p7 + p8 + code) = p5 + p6 + p7 + p8 + code := IntWalk.i64_in _ (by omega)
  go_enter Tryd.func9, Tryd.ntmps9
  go_wp2_with fail
  refine wp_region_ext (by kernel_rfl) (by kernel_rfl) ?_
  repeat (go_big_quiet_step ((first | (go_at_call 36; with_reducible exact Calls.quiet_ext (C1.out _)) | (go_at_call 36; with_reducible exact Calls.quiet_ext (C2.out _)) | (go_at_call 36; with_reducible exact Calls.quiet_ext (C3.out _)) | (go_at_call 36; with_reducible exact Calls.quiet_ext (C4.out _)))))
  refine wpQuiet_nil ?_
  rintro _ ⟨⟨os, d⟩, rfl⟩
  simp only [exts]
  go_wp2_with fail
  refine wp_region_ext (by kernel_rfl) (by kernel_rfl) ?_
  repeat (go_big_quiet_step ((first | (go_at_call 36; with_reducible exact Calls.quiet_ext (C5.out _)) | (go_at_call 36; with_reducible exact Calls.quiet_ext (C6.out _)) | (go_at_call 36; with_reducible exact Calls.quiet_ext (C7.out _)) | (go_at_call 36; with_reducible exact Calls.quiet_ext (C8.out _)))))
  refine wpQuiet_nil ?_
  rintro _ ⟨⟨os, d⟩, rfl⟩
  simp only [exts]
  clear v1 v2 v3 v4 v5 v6 v7 v8 v9
  go_wp2
  go_ret
  obtain ⟨ha, hb⟩ := HA.out
  rw [← ha, ← hb]
  exact ⟨_, rfl, by omega, Blk.new' _ _ (by simp [size_ext]), by (repeat' (first | (with_reducible exact Below.refl _ _) | (with_reducible assumption) | (with_reducible refine Below.ext ?_ ?_ _ _) | (with_reducible refine Below.alloc ?_ ?_ _) | (with_reducible refine Below.setCell ?_ ?_ _) | (with_reducible refine Below.drew ?_) | (with_reducible refine below_draws ?_ _) | go_size | (simp [size_ext]; done) | (simp [size_ext]; omega)))⟩

/-- one bit of a byte, from the highest one, 7, down -/
theorem bit_any (y i : Nat) (hy : y < 256) (hi : i ≤ 7) (w : World) : Calls Tryd.prog 40 #[.int .u8 (y : Int), .int .i64 (i : Int)] w fun e w' => e = .returned (.bool (y / 2 ^ i % 2 == 1)) ∧ w' = w := by
  have hyz : (y : Int) ≤ 255 := by omega
  have hy0 : (0 : Int) ≤ (y : Int) := by omega
  go_enter Tryd.func40, Tryd.ntmps40
  go_wp2
  go_loop [5, 6] (fun v5 v6 => ∃ k m : Nat, k ≤ i ∧ v6 = .int .i64 (k : Int) ∧ v5 = .int .i64 (m : Int) ∧ m = y / 2 ^ k) (fun _ v => i - (intOf v).toNat)
  case atStart => exact ⟨0, y, by omega, rfl, rfl, by simp⟩
  case round =>
    obtain ⟨k, m, hk, rfl, rfl, hm⟩ := hrel
    have hz : m ≤ y := by rw [hm]; exact Nat.div_le_self _ _
    have HM := hid hm
    clear hm
    by_cases hlt : k < i
    · go_wp2
      go_round
      case rel => exact ⟨k + 1, m / 2, by omega, by go_num, by simp, by rw [HM.out, Nat.pow_succ, Nat.div_div_eq_div_mul]⟩
      case measure => simp [intOf]; omega
    · obtain rfl : k = i := by omega
      go_wp2
      go_ret
      refine ⟨?_, rfl⟩
      rw [← HM.out]
      have e : (((m : Int) % 2) == 1) = (m % 2 == 1) := by
        rw [Bool.eq_iff_iff]; simp; omega
      simp [e]

theorem bit_is (y i : Nat) (hy : y < 256) (hi : i ≤ 7) (w : World) : Calls Tryd.prog 40 #[.int .u8 (y : Int), .int .i64 (OfNat.ofNat i)] w fun e w' => e = .returned (.bool (y / 2 ^ i % 2 == 1)) ∧ w' = w := bit_any y i hy hi w
set_option maxRecDepth 100000 in
set_option maxHeartbeats 8000000 in
theorem headOf_ok (b o n c : Nat) (y0 y1 y2 y3 : Nat) (hn : 4 ≤ n) (hc : n ≤ c) (hm : c ≤ 9223372036854775807) (w : World) (c0 : w.cell? ⟨b, o, none⟩ = some (.int .u8 (y0 : Int))) (c1 : w.cell? ⟨b, o + 1, none⟩ = some (.int .u8 (y1 : Int)))
    (c2 : w.cell? ⟨b, o + 2, none⟩ = some (.int .u8 (y2 : Int))) (c3 : w.cell? ⟨b, o + 3, none⟩ = some (.int .u8 (y3 : Int))) (h0 : y0 < 256) (h1 : y1 < 256) (h2 : y2 < 256) (h3 : y3 < 256) :
    Calls Tryd.prog 13 #[.slice (some ⟨b, o, none⟩) n c] w fun e w' => e = .returned (.agg (hdCells ⟨y0 * 256 + y1, y2 / 128 % 2 == 1, y2 / 8 % 16, y2 / 4 % 2 == 1, y2 / 2 % 2 == 1, y2 % 2 == 1, y3 / 128 % 2 == 1, y3 / 64 % 2 == 1, y3 / 32 % 2 == 1, y3 / 16 % 2 == 1, y3 % 16⟩)) ∧ Below w.heap.size w w' := by
  have jn : 0 < n := by omega
  have j0 : (0 : Int) < (n : Int) := by omega
  have j1 : (1 : Int) < (n : Int) := by omega
  have j2 : (2 : Int) < (n : Int) := by omega
  have j3 : (3 : Int) < (n : Int) := by omega
  have lb : b < w.heap.size := World.block_lt_of_cell? w _ c0
  have B0 := hid fun w' => bit_is y2 7 (by omega) (by decide) w'
  have B1 := hid fun w' => bit_is y2 2 (by omega) (by decide) w'
  have B2 := hid fun w' => bit_is y2 1 (by omega) (by decide) w'
  have B3 := hid fun w' => bit_is y2 0 (by omega) (by decide) w'
  have B4 := hid fun w' => bit_is y3 7 (by omega) (by decide) w'
  have B5 := hid fun w' => bit_is y3 6 (by omega) (by decide) w'
  have B6 := hid fun w' => bit_is y3 5 (by omega) (by decide) w'
  have B7 := hid fun w' => bit_is y3 4 (by omega) (by decide) w'
  have i0 : (y0 : Int) ≤ 255 := by omega
  have i1 : (y1 : Int) ≤ 255 := by omega
  have i2 : (y2 : Int) ≤ 255 := by omega
  have i3 : (y3 : Int) ≤ 255 := by omega
  have v0 : IntKind.i64.wrap (y0 : Int) = y0 := IntWalk.i64_in _ (by omega)
  have v1 : IntKind.i64.wrap (y1 : Int) = y1 := IntWalk.i64_in _ (by omega)
  have v2 : IntKind.i64.wrap (y2 : Int) = y2 := IntWalk.i64_in _ (by omega)
  have v3 : IntKind.i64.wrap (y3 : Int) = y3 := IntWalk.i64_in _ (by omega)
  have v4 : IntKind.i64.wrap ((y0 : Int) * 256) = y0 * 256 := IntWalk.i64_in _ (by omega)
  have v5 : IntKind.i64.wrap ((y0 : Int) * 256 + y1) = y0 * 256 + y1 := IntWalk.i64_in _ (by omega)
  have v6 : IntKind.i64.wrap ((y2 : Int) / 8) = y2 / 8 := IntWalk.i64_in _ (by omega)
  have v7 : ((y2 : Int) / 8).tmod 16 = (y2 : Int) / 8 % 16 := Int.tmod_eq_emod_of_nonneg (by omega)
  have v8 : (y3 : Int).tmod 16 = (y3 : Int) % 16 := Int.tmod_eq_emod_of_nonneg (by omega)
  have tk0 : True := trivial; have tk1 : True := trivial; have tk2 : True := trivial; have tk3 : True := trivial; have tk4 : True := trivial; have tk5 : True := trivial; have tk6 : True := trivial; have tk7 : True := trivial; have tk8 : True := trivial; have tk9 : True := trivial; have tk10 : True := trivial; have tk11 : True := trivial; have tk12 : True := trivial
  go_enter Tryd.func13, Tryd.ntmps13
  go_wp2_with fail
  go_region_held3 (fun w' => w'.cell? ⟨b, o, none⟩ = some (.int .u8 (y0 : Int)) ∧ w'.cell? ⟨b, o + 1, none⟩ = some (.int .u8 (y1 : Int)) ∧ w'.cell? ⟨b, o + 2, none⟩ = some (.int .u8 (y2 : Int)) ∧ w'.cell? ⟨b, o + 3, none⟩ = some (.int .u8 (y3 : Int))) (go_keep)
    (first
      | (go_at_call 40; have _t := tk0; refine (B0.out _).mono ?_; rintro e w1 ⟨rfl, rfl⟩; clear tk0)
      | (go_at_call 40; have _t := tk1; refine (B1.out _).mono ?_; rintro e w1 ⟨rfl, rfl⟩; clear tk1)
      | (go_at_call 40; have _t := tk2; refine (B2.out _).mono ?_; rintro e w1 ⟨rfl, rfl⟩; clear tk2)
      | (go_at_call 40; have _t := tk3; refine (B3.out _).mono ?_; rintro e w1 ⟨rfl, rfl⟩; clear tk3)
      | (go_at_call 40; have _t := tk4; refine (B4.out _).mono ?_; rintro e w1 ⟨rfl, rfl⟩; clear tk4)
      | (go_at_call 40; have _t := tk5; refine (B5.out _).mono ?_; rintro e w1 ⟨rfl, rfl⟩; clear tk5)
      | (go_at_call 40; have _t := tk6; refine (B6.out _).mono ?_; rintro e w1 ⟨rfl, rfl⟩; clear tk6)
      | (go_at_call 40; have _t := tk7; refine (B7.out _).mono ?_; rintro e w1 ⟨rfl, rfl⟩; clear tk7))
  all_goals
    go_wp2
    refine bodyPost_ret (v := .agg (hdCells ⟨y0 * 256 + y1, y2 / 128 % 2 == 1, y2 / 8 % 16, y2 / 4 % 2 == 1, y2 / 2 % 2 == 1, y2 % 2 == 1, y3 / 128 % 2 == 1, y3 / 64 % 2 == 1, y3 / 32 % 2 == 1, y3 / 16 % 2 == 1, y3 % 16⟩)) (by simp [results, Tryd.results13, go_sem, hdCells]) rfl ⟨rfl, ?_⟩
    (repeat' (first | (with_reducible exact Below.refl _ _) | (with_reducible assumption) | (with_reducible refine Below.ext ?_ ?_ _ _) | (with_reducible refine Below.alloc ?_ ?_ _) | (with_reducible refine Below.setCell ?_ ?_ _) | (with_reducible refine Below.drew ?_) | (with_reducible refine below_draws ?_ _) | go_size | (simp [size_ext]; done) | (simp [size_ext]; omega)))
end Go.Proofs.YtbjjmikiefgnaaaDoor
