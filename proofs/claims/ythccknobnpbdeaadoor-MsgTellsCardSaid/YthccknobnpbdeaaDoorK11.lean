/- What a tied card's condition gives: the variable errors.errorType holds the handle of the type error; a world that meets it. Turned from the worked text of a law that comes to errors.As. -/
import Derived.Test.YthccknobnpbdeaaDoorK10
import Derived.Test.YthccknobnpbdeaaDoorTie
import Derived.Test.YthccknobnpbdeaaDoorCards
import Derived.ChangeSame
import Derived.ChangeVars
import Derived.JoinedOf
import Derived.LaidLaws
import Derived.LaidHandle
import Derived.Stop.Joined
import Derived.SevenTiedAt
import Derived.OpenShut
import Derived.JoinedCond
import Derived.Test.YthccknobnpbdeaaDoorK1
import Derived.Deep.QuietTactic
import Derived.BigQuiet
import Derived.Test.YthccknobnpbdeaaDoorK5
import Derived.Test.YthccknobnpbdeaaDoorK3
import Derived.BigRegion
import Derived.Test.YthccknobnpbdeaaDoorK4
import Derived.Deep.RegionLaw
namespace Go.Proofs.YthccknobnpbdeaaDoor
open Go.ChangeShapes Go.WideShapes Go.RowKit
set_option linter.unusedVariables false
set_option linter.unusedSimpArgs false

def laidL : List (String × DataW Unit) := [("errors.errorType", Rows.laid_errors_errorType)]
theorem laidVar : Tryd.prog.globalNamed "errors.errorType" = some 0 := by kernel_rfl
theorem laidRt : (Tryd.prog.cutTypes.find? (·.1 == "internal/reflectlite.rtype")).map (·.2) = some 134 := by kernel_rfl
theorem laidOne : ((List.range 177).filter fun t => Tryd.prog.rowNamed t [101, 114, 114, 111, 114]) = [33] := by kernel_rfl
theorem laidSize : Tryd.prog.types.size = 177 := by kernel_rfl

theorem laid_of {W : World} (h : laidMetH Tryd.prog laidL W) : Laid W := by
  have h' : laidMet Tryd.prog [] W ∧ handlesMet Tryd.prog laidL W := h
  obtain ⟨name, u, ty, e1, e2, e3, e4, e5⟩ := h'.2 _ (List.mem_singleton.2 rfl)
  have en : name = [101, 114, 114, 111, 114] := (Option.some.inj e1).symm
  subst en
  obtain rfl := Option.some.inj (laidRt.symm.trans e2)
  have hm : ty ∈ (List.range 177).filter fun t => Tryd.prog.rowNamed t [101, 114, 114, 111, 114] := List.mem_filter.2 ⟨List.mem_range.2 (by rw [← laidSize]; exact e3), e4⟩
  rw [laidOne] at hm
  obtain rfl := List.mem_singleton.1 hm
  have hh : typeHandle Tryd.prog 33 = .pointer (some ⟨1, 33, none⟩) := by kernel_rfl
  rw [hh] at e5
  simpa [Laid] using World.var?_cell laidVar e5 0

noncomputable def laidWorld (os : Os) : World :=
  let w0 := World.holding Tryd.prog os ⟨#[], #[], []⟩
  { w0 with heap := w0.heap.modify 0 fun
      | .cells _ t frozen => .cells #[.iface 134 (.agg #[.pointer (some ⟨1, 33, none⟩)])] t frozen
      | o => o }
theorem laidWorld_met (os : Os) (args : Array Value) : laidMetH Tryd.prog laidL ((laidWorld os).forCall (fun _ _ => 0) ⟨#[], args, []⟩).memory :=
  laidMetH_of_parts (laidMet_nil _ _) (by kernel_rfl)
theorem no_stand {f : Func} (h : (f.params.toList.all fun t => ! Tryd.prog.wantsStandIn t) = true) (j : Nat) (t : TypeId) (ht : f.params[j]? = some t) : Tryd.prog.wantsStandIn t = false := by
  have := List.all_eq_true.1 h t (by rw [Array.mem_toList_iff]; exact Array.mem_of_getElem? ht)
  simpa using this
end Go.Proofs.YthccknobnpbdeaaDoor
/- A region that draws its order and whose calls may lay new blocks, but hand back values that do not hang on where: walked once. No function of the program. -/
namespace Go.Proofs.YthccknobnpbdeaaDoor
open Go.RowKit
set_option linter.unusedVariables false
set_option linter.unusedSimpArgs false

/-- the world with more behind -/
structure Behind where
  os : Array Obj
  d : Nat
instance : Nonempty Behind := ⟨⟨#[], 0⟩⟩
def exts (w : World) (x : Behind) : World := ext w x.os x.d
theorem exts_below {B : Nat} {w0 w : World} (h : Below B w0 w) (hB : B ≤ w.heap.size) (x : Behind) : Below B w0 (exts w x) := Below.ext h hB x.os x.d
@[go_sem] theorem cell_exts (w : World) (x : Behind) (n i : Nat) (h : n < w.heap.size) : (exts w x).cell? ⟨n, i, none⟩ = w.cell? ⟨n, i, none⟩ := cell_ext w x.os x.d n i h
@[go_sem] theorem frozen_exts (w : World) (x : Behind) (n i : Nat) (h : n < w.heap.size) : (exts w x).frozen? ⟨n, i, none⟩ = w.frozen? ⟨n, i, none⟩ := frozen_ext w x.os x.d n i h

theorem wp_region_ext {P : Program} {id : Nat} {Q : Exit → Act → World → Prop} {a : Act} {w : World} {l : List Oper} (hm : P.follows .mixedOrders = true) (hB : Region.lexB .any l.toArray = true)
    (h : wpQuiet P l.toArray (fun w' => ∃ x, w' = exts w x) (fun a' => ∀ w', (∃ x, w' = exts w x) → Q .normal a' w') l a) : (Code.region id l.toArray true).wp P Q a w :=
  wp_region_quiet (C := fun w' => ∃ x, w' = exts w x) hm hB ⟨⟨#[], w.drawn + 1⟩, by simp [exts, ext]⟩ (by simpa using h)
theorem Calls.quiet_ext {P : Program} {f : FuncId} {args : Array Value} {w : World} {x : Behind} {v : Value}
    (h : Calls P f args (exts w x) fun e w' => e = .returned v ∧ Below (exts w x).heap.size (exts w x) w') : Calls P f args (exts w x) fun e w'' => e = .returned v ∧ ∃ y, w'' = exts w y :=
  h.mono fun _ _ ⟨he, hb⟩ => ⟨he, by
    obtain ⟨os, d, h⟩ := ext_of_below ((below_ext w x.os x.d).trans (hb.mono (by simp [exts, ext])))
    exact ⟨⟨os, d⟩, h⟩⟩
end Go.Proofs.YthccknobnpbdeaaDoor
/- The document's answers of headers: HeadFault, HeadBytes, HeadOf. -/
namespace Go.Proofs.YthccknobnpbdeaaDoor
open Go.RowKit
set_option linter.unusedVariables false
set_option linter.unusedSimpArgs false

set_option maxRecDepth 100000 in
set_option maxHeartbeats 2000000 in
theorem hfault_bad (h : Hd) (k : ¬ HOk h) (w : World) : Calls Tryd.prog 23 #[.agg (hdCells h)] w fun e w' => e = .returned (.int .i64 6) ∧ Below w.heap.size w w' := by
  obtain ⟨id, an, op, aa, tc, rd, ra, z, ad, cd, code⟩ := h
  have hways : id < 0 ∨ (0 ≤ id ∧ 65535 < id) ∨ ((0 ≤ id ∧ id ≤ 65535) ∧ (op < 0 ∨ (0 ≤ op ∧ 15 < op) ∨ ((0 ≤ op ∧ op ≤ 15) ∧ (code < 0 ∨ (0 ≤ code ∧ 15 < code))))) := by
    have : ¬ (0 ≤ id ∧ id ≤ 65535 ∧ 0 ≤ op ∧ op ≤ 15 ∧ 0 ≤ code ∧ code ≤ 15) := fun ⟨a, b, c, d, e, f⟩ => k ⟨a, b, c, d, e, f⟩
    omega
  clear k
  rcases hways with c | ⟨_, c⟩ | ⟨⟨_, _⟩, c | ⟨_, c⟩ | ⟨⟨_, _⟩, c | ⟨_, c⟩⟩⟩
  all_goals
    go_enter Tryd.func23, Tryd.ntmps23
    go_wp2
    go_ret
    exact ⟨rfl, by (repeat' (first | (with_reducible exact Below.refl _ _) | (with_reducible assumption) | (with_reducible refine below_ext0 ?_ _ _) | (with_reducible refine below_alloc0 ?_ _) | (with_reducible refine Below.ext ?_ ?_ _ _) | (with_reducible refine Below.alloc ?_ ?_ _) | (with_reducible refine Below.setCell ?_ ?_ _) | (with_reducible refine Below.drew ?_) | (with_reducible refine below_draws ?_ _) | go_size | (simp [size_ext]; done) | (simp [size_ext]; omega)))⟩
set_option maxRecDepth 100000 in
set_option maxHeartbeats 2000000 in
theorem hfault_ok (h : Hd) (k : HOk h) (w : World) : Calls Tryd.prog 23 #[.agg (hdCells h)] w fun e w' => e = .returned (.int .i64 0) ∧ Below w.heap.size w w' := by
  obtain ⟨id, an, op, aa, tc, rd, ra, z, ad, cd, code⟩ := h
  obtain ⟨i0, i1, o0, o1, c0, c1⟩ := k
  simp only at i0 i1 o0 o1 c0 c1
  go_enter Tryd.func23, Tryd.ntmps23
  go_wp2
  go_ret
  exact ⟨rfl, by (repeat' (first | (with_reducible exact Below.refl _ _) | (with_reducible assumption) | (with_reducible refine below_ext0 ?_ _ _) | (with_reducible refine below_alloc0 ?_ _) | (with_reducible refine Below.ext ?_ ?_ _ _) | (with_reducible refine Below.alloc ?_ ?_ _) | (with_reducible refine Below.setCell ?_ ?_ _) | (with_reducible refine Below.drew ?_) | (with_reducible refine below_draws ?_ _) | go_size | (simp [size_ext]; done) | (simp [size_ext]; omega)))⟩

theorem one_any (b : Bool) (n : Int) (w : World) : Calls Tryd.prog 45 #[.bool b, .int .i64 n] w fun e w' => e = .returned (.int .i64 (if b then n else 0)) ∧ Below w.heap.size w w' := by
  cases b
  all_goals
    go_enter Tryd.func45, Tryd.ntmps45
    go_wp2
    go_ret
    exact ⟨by simp, Below.refl _ _⟩
theorem one_some (b : Bool) (n : Nat) : ∃ p : Int, 0 ≤ p ∧ p ≤ n ∧ p = (b.toNat * n : Nat) ∧ ∀ w, Calls Tryd.prog 45 #[.bool b, .int .i64 (n : Int)] w fun e w' => e = .returned (.int .i64 p) ∧ Below w.heap.size w w' := by
  refine ⟨(b.toNat * n : Nat), by omega, by cases b <;> simp, rfl, fun w => ?_⟩
  have := one_any b (n : Int) w
  cases b <;> simpa using this

set_option maxRecDepth 100000 in
set_option maxHeartbeats 4000000 in
theorem hbytes_ok (h : Hd) (k : HOk h) (w : World) : Calls Tryd.prog 24 #[.agg (hdCells h)] w fun e w' => ∃ g, e = .returned (.slice (some ⟨g, 0, none⟩) 4 4) ∧ w.heap.size ≤ g ∧
    Blk w' g 5 #[.int .u8 (h.id / 256), .int .u8 (h.id % 256), .int .u8 (word h / 256 % 256), .int .u8 (word h % 256)] ∧ Below w.heap.size w w' := by
  have hw := word_eq h k
  obtain ⟨id, an, op, aa, tc, rd, ra, z, ad, cd, code⟩ := h
  obtain ⟨i0, i1, o0, o1, c0, c1⟩ := k
  simp only at i0 i1 o0 o1 c0 c1
  obtain ⟨p1, a1, b1, e1, C1⟩ := one_some an 128
  obtain ⟨p2, a2, b2, e2, C2⟩ := one_some aa 4
  obtain ⟨p3, a3, b3, e3, C3⟩ := one_some tc 2
  obtain ⟨p4, a4, b4, e4, C4⟩ := one_some rd 1
  obtain ⟨p5, a5, b5, e5, C5⟩ := one_some ra 128
  obtain ⟨p6, a6, b6, e6, C6⟩ := one_some z 64
  obtain ⟨p7, a7, b7, e7, C7⟩ := one_some ad 32
  obtain ⟨p8, a8, b8, e8, C8⟩ := one_some cd 16
  have hA : p1 + op * 8 + p2 + p3 + p4 = word ⟨id, an, op, aa, tc, rd, ra, z, ad, cd, code⟩ / 256 % 256 ∧ p5 + p6 + p7 + p8 + code = word ⟨id, an, op, aa, tc, rd, ra, z, ad, cd, code⟩ % 256 := by
    rw [hw]
    unfold sumN
    subst e1 e2 e3 e4 e5 e6 e7 e8
    simp only
    have := bool_toNat_le an
    have := bool_toNat_le aa
    have := bool_toNat_le tc
    have := bool_toNat_le rd
    have := bool_toNat_le ra
    have := bool_toNat_le z
    have := bool_toNat_le ad
    have := bool_toNat_le cd
    omega
  have HA := hid hA
  clear hw hA e1 e2 e3 e4 e5 e6 e7 e8
  replace C1 := hid C1
  replace C2 := hid C2
  replace C3 := hid C3
  replace C4 := hid C4
  replace C5 := hid C5
  replace C6 := hid C6
  replace C7 := hid C7
  replace C8 := hid C8
  have v1 : IntKind.i64.wrap (op * 8) = op * 8 := IntWalk.i64_in _ (by omega)
  have v2 : IntKind.i64.wrap (p1 + op * 8) = p1 + op * 8 := IntWalk.i64_in _ (by omega)
  have v3 : IntKind.i64.wrap (p1 + op * 8 + p2) = p1 + op * 8 + p2 := IntWalk.i64_in _ (by omega)
  have v4 : IntKind.i64.wrap (p1 + op * 8 + p2 + p3) = p1 + op * 8 + p2 + p3 := IntWalk.i64_in _ (by omega)
  have v5 : IntKind.i64.wrap (p1 + op * 8 + p2 + p3 + p4) = p1 + op * 8 + p2 + p3 + p4 := IntWalk.i64_in _ (by omega)
  have v6 : IntKind.i64.wrap (p5 + p6) = p5 + p6 := IntWalk.i64_in _ (by omega)
  have v7 : IntKind.i64.wrap (p5 + p6 + p7) = p5 + p6 + p7 := IntWalk.i64_in _ (by omega)
  have v8 : IntKind.i64.wrap (p5 + p6 + p7 + p8) = p5 + p6 + p7 + p8 := IntWalk.i64_in _ (by omega)
  have v9 : IntKind.i64.wrap (p5 + p6 + p7 + p8 + code) = p5 + p6 + p7 + p8 + code := IntWalk.i64_in _ (by omega)
  go_enter Tryd.func24, Tryd.ntmps24
  go_wp2_with fail
  refine wp_region_ext (by kernel_rfl) (by kernel_rfl) ?_
  repeat (go_big_quiet_step ((first | (go_at_call 45; with_reducible exact Calls.quiet_ext (C1.out _)) | (go_at_call 45; with_reducible exact Calls.quiet_ext (C2.out _)) | (go_at_call 45; with_reducible exact Calls.quiet_ext (C3.out _)) | (go_at_call 45; with_reducible exact Calls.quiet_ext (C4.out _)))))
  refine wpQuiet_nil ?_
  rintro _ ⟨⟨os, d⟩, rfl⟩
  simp only [exts]
  go_wp2_with fail
  refine wp_region_ext (by kernel_rfl) (by kernel_rfl) ?_
  repeat (go_big_quiet_step ((first | (go_at_call 45; with_reducible exact Calls.quiet_ext (C5.out _)) | (go_at_call 45; with_reducible exact Calls.quiet_ext (C6.out _)) | (go_at_call 45; with_reducible exact Calls.quiet_ext (C7.out _)) | (go_at_call 45; with_reducible exact Calls.quiet_ext (C8.out _)))))
  refine wpQuiet_nil ?_
  rintro _ ⟨⟨os, d⟩, rfl⟩
  simp only [exts]
  clear v1 v2 v3 v4 v5 v6 v7 v8 v9
  go_wp2
  go_ret
  obtain ⟨ha, hb⟩ := HA.out
  rw [← ha, ← hb]
  exact ⟨_, rfl, by omega, Blk.new' _ _ (by simp [size_ext]), by (repeat' (first | (with_reducible exact Below.refl _ _) | (with_reducible assumption) | (with_reducible refine below_ext0 ?_ _ _) | (with_reducible refine below_alloc0 ?_ _) | (with_reducible refine Below.ext ?_ ?_ _ _) | (with_reducible refine Below.alloc ?_ ?_ _) | (with_reducible refine Below.setCell ?_ ?_ _) | (with_reducible refine Below.drew ?_) | (with_reducible refine below_draws ?_ _) | go_size | (simp [size_ext]; done) | (simp [size_ext]; omega)))⟩

/-- one bit of a byte, from the highest one, 7, down -/
theorem bit_any (y i : Nat) (hy : y < 256) (hi : i ≤ 7) (w : World) : Calls Tryd.prog 35 #[.int .u8 (y : Int), .int .i64 (i : Int)] w fun e w' => e = .returned (.bool (y / 2 ^ i % 2 == 1)) ∧ w' = w := by
  have hyz : (y : Int) ≤ 255 := by omega
  have hy0 : (0 : Int) ≤ (y : Int) := by omega
  go_enter Tryd.func35, Tryd.ntmps35
  go_wp2
  go_loop [5, 6] (fun v5 v6 => ∃ k m : Nat, k ≤ i ∧ v6 = .int .i64 (k : Int) ∧ v5 = .int .i64 (m : Int) ∧ m = y / 2 ^ k) (fun _ v => i - (intOf v).toNat)
  case atStart => exact ⟨0, y, by omega, rfl, rfl, by simp⟩
  case round =>
    obtain ⟨k, m, hk, rfl, rfl, hm⟩ := hrel
    have hz : m ≤ y := by rw [hm]; exact Nat.div_le_self _ _
    have HM := hid hm
    clear hm
    by_cases hlt : k < i
    · go_wp2
      go_round
      case rel => exact ⟨k + 1, m / 2, by omega, by go_num, by simp, by rw [HM.out, Nat.pow_succ, Nat.div_div_eq_div_mul]⟩
      case measure => simp [intOf]; omega
    · obtain rfl : k = i := by omega
      go_wp2
      go_ret
      refine ⟨?_, rfl⟩
      rw [← HM.out]
      have e : (((m : Int) % 2) == 1) = (m % 2 == 1) := by
        rw [Bool.eq_iff_iff]; simp; omega
      simp [e]

theorem bit_is (y i : Nat) (hy : y < 256) (hi : i ≤ 7) (w : World) : Calls Tryd.prog 35 #[.int .u8 (y : Int), .int .i64 (OfNat.ofNat i)] w fun e w' => e = .returned (.bool (y / 2 ^ i % 2 == 1)) ∧ w' = w := bit_any y i hy hi w
set_option maxRecDepth 100000 in
set_option maxHeartbeats 8000000 in
theorem headOf_ok (b o n c : Nat) (y0 y1 y2 y3 : Nat) (hn : 4 ≤ n) (hc : n ≤ c) (hm : c ≤ 9223372036854775807) (w : World) (c0 : w.cell? ⟨b, o, none⟩ = some (.int .u8 (y0 : Int))) (c1 : w.cell? ⟨b, o + 1, none⟩ = some (.int .u8 (y1 : Int)))
    (c2 : w.cell? ⟨b, o + 2, none⟩ = some (.int .u8 (y2 : Int))) (c3 : w.cell? ⟨b, o + 3, none⟩ = some (.int .u8 (y3 : Int))) (h0 : y0 < 256) (h1 : y1 < 256) (h2 : y2 < 256) (h3 : y3 < 256) :
    Calls Tryd.prog 11 #[.slice (some ⟨b, o, none⟩) n c] w fun e w' => e = .returned (.agg (hdCells ⟨y0 * 256 + y1, y2 / 128 % 2 == 1, y2 / 8 % 16, y2 / 4 % 2 == 1, y2 / 2 % 2 == 1, y2 % 2 == 1, y3 / 128 % 2 == 1, y3 / 64 % 2 == 1, y3 / 32 % 2 == 1, y3 / 16 % 2 == 1, y3 % 16⟩)) ∧ Below w.heap.size w w' := by
  have jn : 0 < n := by omega
  have j0 : (0 : Int) < (n : Int) := by omega
  have j1 : (1 : Int) < (n : Int) := by omega
  have j2 : (2 : Int) < (n : Int) := by omega
  have j3 : (3 : Int) < (n : Int) := by omega
  have lb : b < w.heap.size := World.block_lt_of_cell? w _ c0
  have B0 := hid fun w' => bit_is y2 7 (by omega) (by decide) w'
  have B1 := hid fun w' => bit_is y2 2 (by omega) (by decide) w'
  have B2 := hid fun w' => bit_is y2 1 (by omega) (by decide) w'
  have B3 := hid fun w' => bit_is y2 0 (by omega) (by decide) w'
  have B4 := hid fun w' => bit_is y3 7 (by omega) (by decide) w'
  have B5 := hid fun w' => bit_is y3 6 (by omega) (by decide) w'
  have B6 := hid fun w' => bit_is y3 5 (by omega) (by decide) w'
  have B7 := hid fun w' => bit_is y3 4 (by omega) (by decide) w'
  have i0 : (y0 : Int) ≤ 255 := by omega
  have i1 : (y1 : Int) ≤ 255 := by omega
  have i2 : (y2 : Int) ≤ 255 := by omega
  have i3 : (y3 : Int) ≤ 255 := by omega
  have v0 : IntKind.i64.wrap (y0 : Int) = y0 := IntWalk.i64_in _ (by omega)
  have v1 : IntKind.i64.wrap (y1 : Int) = y1 := IntWalk.i64_in _ (by omega)
  have v2 : IntKind.i64.wrap (y2 : Int) = y2 := IntWalk.i64_in _ (by omega)
  have v3 : IntKind.i64.wrap (y3 : Int) = y3 := IntWalk.i64_in _ (by omega)
  have v4 : IntKind.i64.wrap ((y0 : Int) * 256) = y0 * 256 := IntWalk.i64_in _ (by omega)
  have v5 : IntKind.i64.wrap ((y0 : Int) * 256 + y1) = y0 * 256 + y1 := IntWalk.i64_in _ (by omega)
  have v6 : IntKind.i64.wrap ((y2 : Int) / 8) = y2 / 8 := IntWalk.i64_in _ (by omega)
  have v7 : ((y2 : Int) / 8).tmod 16 = (y2 : Int) / 8 % 16 := Int.tmod_eq_emod_of_nonneg (by omega)
  have v8 : (y3 : Int).tmod 16 = (y3 : Int) % 16 := Int.tmod_eq_emod_of_nonneg (by omega)
  have tk0 : True := trivial; have tk1 : True := trivial; have tk2 : True := trivial; have tk3 : True := trivial; have tk4 : True := trivial; have tk5 : True := trivial; have tk6 : True := trivial; have tk7 : True := trivial; have tk8 : True := trivial; have tk9 : True := trivial; have tk10 : True := trivial; have tk11 : True := trivial; have tk12 : True := trivial
  go_enter Tryd.func11, Tryd.ntmps11
  go_wp2_with fail
  go_region_held3 (fun w' => w'.cell? ⟨b, o, none⟩ = some (.int .u8 (y0 : Int)) ∧ w'.cell? ⟨b, o + 1, none⟩ = some (.int .u8 (y1 : Int)) ∧ w'.cell? ⟨b, o + 2, none⟩ = some (.int .u8 (y2 : Int)) ∧ w'.cell? ⟨b, o + 3, none⟩ = some (.int .u8 (y3 : Int))) (go_keep)
    (first
      | (go_at_call 35; have _t := tk0; refine (B0.out _).mono ?_; rintro e w1 ⟨rfl, rfl⟩; clear tk0)
      | (go_at_call 35; have _t := tk1; refine (B1.out _).mono ?_; rintro e w1 ⟨rfl, rfl⟩; clear tk1)
      | (go_at_call 35; have _t := tk2; refine (B2.out _).mono ?_; rintro e w1 ⟨rfl, rfl⟩; clear tk2)
      | (go_at_call 35; have _t := tk3; refine (B3.out _).mono ?_; rintro e w1 ⟨rfl, rfl⟩; clear tk3)
      | (go_at_call 35; have _t := tk4; refine (B4.out _).mono ?_; rintro e w1 ⟨rfl, rfl⟩; clear tk4)
      | (go_at_call 35; have _t := tk5; refine (B5.out _).mono ?_; rintro e w1 ⟨rfl, rfl⟩; clear tk5)
      | (go_at_call 35; have _t := tk6; refine (B6.out _).mono ?_; rintro e w1 ⟨rfl, rfl⟩; clear tk6)
      | (go_at_call 35; have _t := tk7; refine (B7.out _).mono ?_; rintro e w1 ⟨rfl, rfl⟩; clear tk7))
  all_goals
    go_wp2
    refine bodyPost_ret (v := .agg (hdCells ⟨y0 * 256 + y1, y2 / 128 % 2 == 1, y2 / 8 % 16, y2 / 4 % 2 == 1, y2 / 2 % 2 == 1, y2 % 2 == 1, y3 / 128 % 2 == 1, y3 / 64 % 2 == 1, y3 / 32 % 2 == 1, y3 / 16 % 2 == 1, y3 % 16⟩)) (by simp [results, Tryd.results11, go_sem, hdCells]) rfl ⟨rfl, ?_⟩
    (repeat' (first | (with_reducible exact Below.refl _ _) | (with_reducible assumption) | (with_reducible refine below_ext0 ?_ _ _) | (with_reducible refine below_alloc0 ?_ _) | (with_reducible refine Below.ext ?_ ?_ _ _) | (with_reducible refine Below.alloc ?_ ?_ _) | (with_reducible refine Below.setCell ?_ ?_ _) | (with_reducible refine Below.drew ?_) | (with_reducible refine below_draws ?_ _) | go_size | (simp [size_ext]; done) | (simp [size_ext]; omega)))
end Go.Proofs.YthccknobnpbdeaaDoor
/- Names: slices.Reverse of a row of the call's own; Compare. -/
namespace Go.Proofs.YthccknobnpbdeaaDoor
open Go.RowKit
set_option linter.unusedVariables false
set_option linter.unusedSimpArgs false

/-- k of the first ones and of the last ones changed over -/
def revK (l : List ByteArray) (k : Nat) : List ByteArray := (List.range l.length).map fun i => if i < k ∨ l.length - k ≤ i then l.getD (l.length - 1 - i) .empty else l.getD i .empty
theorem revK_len (l : List ByteArray) (k : Nat) : (revK l k).length = l.length := by simp [revK]
theorem revK_get (l : List ByteArray) (k i : Nat) (h : i < l.length) : (revK l k)[i]? = some (if i < k ∨ l.length - k ≤ i then l.getD (l.length - 1 - i) .empty else l.getD i .empty) := by
  unfold revK
  rw [List.getElem?_map, List.getElem?_range h]; rfl
theorem revK_zero (l : List ByteArray) : revK l 0 = l := by
  apply List.ext_getElem?
  intro i
  by_cases h : i < l.length
  · rw [revK_get l 0 i h, if_neg (by omega), List.getD_eq_getElem?_getD, List.getElem?_eq_getElem h]; rfl
  · rw [List.getElem?_eq_none (by rw [revK_len]; omega), List.getElem?_eq_none (by omega)]
theorem revK_all (l : List ByteArray) (k : Nat) (h : l.length ≤ 2 * k + 1) : revK l k = l.reverse := by
  apply List.ext_getElem?
  intro i
  by_cases hi : i < l.length
  · rw [revK_get l k i hi, List.getElem?_reverse hi]
    by_cases c : i < k ∨ l.length - k ≤ i
    · rw [if_pos c, List.getD_eq_getElem?_getD, List.getElem?_eq_getElem (by omega)]; rfl
    · rw [if_neg c, show l.length - 1 - i = i by omega, List.getD_eq_getElem?_getD, List.getElem?_eq_getElem hi]; rfl
  · rw [List.getElem?_eq_none (by rw [revK_len]; omega), List.getElem?_eq_none (by simp; omega)]
theorem revK_succ (l : List ByteArray) (k : Nat) (h : 2 * k + 1 < l.length) : revK l (k + 1) = ((revK l k).set k (l.getD (l.length - 1 - k) .empty)).set (l.length - 1 - k) (l.getD k .empty) := by
  apply List.ext_getElem?
  intro i
  by_cases hi : i < l.length
  · rw [revK_get l (k + 1) i hi, List.getElem?_set, List.getElem?_set, List.length_set, revK_len, revK_get l k i hi]
    by_cases c1 : l.length - 1 - k = i
    · subst c1
      rw [if_pos (by omega), if_pos rfl, if_pos (by omega), show l.length - 1 - (l.length - 1 - k) = k by omega]
    · rw [if_neg c1]
      by_cases c2 : k = i
      · subst c2
        rw [if_pos (by omega), if_pos rfl, if_pos (by omega)]
      · rw [if_neg c2]
        congr 1
        by_cases c3 : i < k ∨ l.length - k ≤ i
        · rw [if_pos c3, if_pos (by omega)]
        · rw [if_neg c3, if_neg (by omega)]
  · rw [List.getElem?_eq_none (by rw [revK_len]; omega), List.getElem?_eq_none (by simp [revK_len]; omega)]
theorem strsV_set (l : List ByteArray) (k : Nat) (b : ByteArray) : strsV (l.set k b) = (strsV l).set k (.string b) := by simp [strsV, List.map_set]

/-! Compare -/
theorem ne_blocks {v1 v2 : Value} {m : Nat} (h1 : ∀ g, v1.ownBlock = some g → g < m) (h2 : ∀ g, v2.ownBlock = some g → m ≤ g) : (v2.ownBlock = none ∨ v2.ownBlock ≠ v1.ownBlock) ∧ (v1.ownBlock = none ∨ v1.ownBlock ≠ v2.ownBlock) := by
  cases e1 : v1.ownBlock with
  | none => exact ⟨by cases e2 : v2.ownBlock <;> simp, .inl rfl⟩
  | some g1 =>
    cases e2 : v2.ownBlock with
    | none => exact ⟨.inl rfl, .inr (by simp)⟩
    | some g2 =>
      have a := h1 g1 e1
      have b := h2 g2 e2
      exact ⟨.inr (by simp; omega), .inr (by simp; omega)⟩
theorem own_rd_str {w : World} {base n : Nat} {v : Value} {l : List ByteArray} (h : w.ownsRow base 9 1 v n (strsV l)) (hs : ∀ s ∈ l, s.size ≤ 140737488355328) (hb : base ≤ w.heap.size) (hn : n * 16 ≤ 140737488355328) : ∃ A c, v = .slice A n c ∧ Rd strR w w.heap.size A n c l :=
  rd_of_own (R := strR) h (rels_str hs) (by have := h.1; simpa [strsV] using this) hb (by simpa [strR] using hn) (by decide)

end Go.Proofs.YthccknobnpbdeaaDoor
/- The document's answers of names as they are sent: nameFrom, NameAt. -/
namespace Go.Proofs.YthccknobnpbdeaaDoor
open Go.RowKit
set_option linter.unusedVariables false
set_option linter.unusedSimpArgs false

theorem nm_len (m : List UInt8) (low at_ size : Nat) (hs : size ≤ 255) : size + (nm m low at_ size).2.1.length ≤ 255 := by
  induction low, at_, size using nm.induct (m := m) with
  | case1 low at_ size h h0 => rw [nm, dif_pos h, if_pos h0]; exact hs
  | case2 low at_ size h h0 h1 h2 h3 ih => rw [nm, dif_pos h, if_neg h0, if_pos h1, dif_pos h2, if_pos h3]; exact ih hs
  | case3 low at_ size h h0 h1 h2 h3 => rw [nm, dif_pos h, if_neg h0, if_pos h1, dif_pos h2, if_neg h3]; exact hs
  | case4 low at_ size h h0 h1 h2 => rw [nm, dif_pos h, if_neg h0, if_pos h1, dif_neg h2]; exact hs
  | case5 low at_ size h h0 h1 h2 => rw [nm, dif_pos h, if_neg h0, if_neg h1, if_pos h2]; exact hs
  | case6 low at_ size h h0 h1 h2 h3 h4 ih =>
    rw [nm, dif_pos h, if_neg h0, if_neg h1, if_neg h2, if_pos h3, if_pos h4]
    have := ih h4
    simp only [List.length_cons]
    omega
  | case7 low at_ size h h0 h1 h2 h3 h4 => rw [nm, dif_pos h, if_neg h0, if_neg h1, if_neg h2, if_pos h3, if_neg h4]; exact hs
  | case8 low at_ size h h0 h1 h2 h3 => rw [nm, dif_pos h, if_neg h0, if_neg h1, if_neg h2, if_neg h3]; exact hs
  | case9 low at_ size h => rw [nm, dif_neg h]; exact hs
/-- what a Told holds -/
@[reducible] def toldC (v : Value) (next e : Int) : Array Value := #[v, .int .i64 next, .int .i64 e]
def NfE (w : World) (t : Int × List ByteArray × Nat) (e : Ending) (w' : World) : Prop :=
  Below w.heap.size w w' ∧ ∃ v, e = .returned (.agg (toldC v (t.2.2 : Int) t.1)) ∧ w'.ownsRow w.heap.size 9 1 v t.2.1.length (strsV t.2.1)
theorem nfE_nil {w w' : World} {t : Int × List ByteArray × Nat} {k : Int} {nx : Nat} (h : t = (k, [], nx)) (hb : Below w.heap.size w w') : NfE w t (.returned (.agg (toldC (.slice none 0 0) (nx : Int) k))) w' := by
  subst h
  exact ⟨hb, _, rfl, World.ownsRow_nil _ _ _ _⟩
section
variable {w w0 : World} {base : Nat} {e : TypeId} {size : Nat} {v : Value} {n : Nat} {xs : List Value}
theorem own_swap {o1 o2 : Obj} {os : Array Obj} {d : Nat} (h : (ext (w.alloc o1) os d).ownsRow base e size v n xs) (hb : w.heap.size < base) : (ext (w.alloc o2) os d).ownsRow base e size v n xs := by
  refine h.kept (row := some w.heap.size) ⟨rfl, rfl, rfl, by simp [size_ext], fun k hk hne => ?_⟩ ?_
  · have hne' : k ≠ w.heap.size := fun e => hne (by rw [e])
    simp only [ext, World.alloc, Array.getElem?_append, Array.size_push, Array.getElem?_push]
    by_cases c : k < w.heap.size + 1
    · rw [if_pos c, if_pos c, if_neg hne', if_neg hne']
    · rw [if_neg c, if_neg c]
  · cases ev : v.ownBlock with
    | none => exact .inl rfl
    | some g =>
      right
      have := (h.lt g ev).1
      intro e
      cases e
      omega
theorem own_src {A : Option Addr} {c : Nat} (h : w.ownsRow base e size (.slice A n c) n xs) (h1 : ∀ u ∈ xs, u.oneCell' = true) : Src w A n c size xs := by
  refine ⟨h.1, fun ad ha j u hu => ?_, fun ha => ?_, h1⟩
  · subst ha
    rcases h.2 with ⟨e, _⟩ | ⟨g, cap, cur, e, hb, hh, hr⟩
    · cases e
    · cases e
      exact h.cells (g := g) rfl j u hu
  · subst ha
    rcases h.2 with ⟨e, h0⟩ | ⟨g, cap, cur, e, hb, hh, hr⟩
    · cases e; exact ⟨rfl, rfl⟩
    · cases e
theorem one_strs (l : List ByteArray) : ∀ u ∈ strsV l, u.oneCell' = true := by
  intro u hu
  obtain ⟨b, _, rfl⟩ := List.mem_map.1 hu
  rfl
end

theorem step_appB {P : Program} {w : World} {ops : Array Oper} {o : Oper} {a : Act} {Q : Exit → Act → World → Prop} {K : Act → World → Prop} {F : Prop} (hgd : o.guard = none) (s x : Operand) (t : TypeId)
    (ho : o.op = .call { callee := .builtin .append, args := #[s, x], argTypes := #[t, t] }) (base : Nat) (e : TypeId) (size bytes : Nat) (E : El P t e size bytes)
    (v : Value) (n : Nat) (xs : List Value) (hs : a.eval s = v) (hown : w.ownsRow base e size v n xs) (A : Option Addr) (m c : Nat) (ys : List Value) (hx : a.eval x = .slice A m c) (hsrc : Src w A m c size ys)
    (hbytes : (n + m) * bytes ≤ 140737488355328) (h63 : n + m ≤ maxLen) (hbase : base ≤ w.heap.size)
    (h : ∀ v' w', w'.ownsRow base e size v' (n + m) (xs ++ ys) → Below base w w' → K (a.put o.dst v') w') :
    if Region.wanted o (yielded ops a.tmps) = true then Oper.wp P o a w K Q else F :=
  step_app hgd s x t ho base e size bytes E v n xs hs hown A m c ys hx hsrc hbytes h63 hbase fun v' w' h1 h2 _ => h v' w' h1 (grown_below hown h2 hbase)
/-- behind the append: what both Tolds hold -/
theorem told9 {w W w9 : World} {os : Array Obj} {d : Nat} {T : TypeId} {c1 c2 : Array Value} {o : Obj} (hb : Below (w.heap.size + 1 + os.size + 1) W w9) (hW : W.heap = (((ext (w.alloc (.cells c1 T)) os d).alloc (.cells c2 T)).alloc o).heap) :
    Blk w9 w.heap.size T c1 ∧ Blk w9 (w.heap.size + 1 + os.size) T c2 ∧ w.heap.size + 1 + os.size < w9.heap.size := by
  have h1 : Blk (((ext (w.alloc (.cells c1 T)) os d).alloc (.cells c2 T)).alloc o) w.heap.size T c1 := (((Blk.new _ _ _).ext os d).alloc _).alloc _
  have h2 : Blk (((ext (w.alloc (.cells c1 T)) os d).alloc (.cells c2 T)).alloc o) (w.heap.size + 1 + os.size) T c2 := (Blk.new' _ _ (by simp [size_ext])).alloc _
  have hs : W.heap.size = w.heap.size + 1 + os.size + 1 + 1 := by rw [hW]; simp [size_ext]
  have := hb.size
  refine ⟨(hb.block _ (by omega)).trans ?_, (hb.block _ (by omega)).trans ?_, by omega⟩
  · rw [hW]; exact h1
  · rw [hW]; exact h2

set_option maxRecDepth 100000 in
set_option maxHeartbeats 8000000 in
theorem nameFrom_any (A : Option Addr) (n c : Nat) (m : List UInt8) (K : Nat) : ∀ (low at_ size : Nat) (w : World) (hM : Rd u8R w w.heap.size A n c m) (hk : low * (n + 1) + (n - at_) < K) (hlow : at_ < n → low ≤ n) (hat : (at_ : Int) ≤ 9223372036854775807) (hsz : size ≤ 255),
    Calls Tryd.prog 36 #[.slice A n c, .int .i64 at_, .int .i64 low, .int .i64 size] w (NfE w (nm m low at_ size)) := by
  induction K with
  | zero => intro low at_ size w hM hk; omega
  | succ K ih =>
    intro low at_ size w hM hk hlow hat hsz
    have hcap := hM.cap
    have hm := hM.max
    unfold maxLen at hm
    have hln := hid hM.len
    have hnl := hM.lim
    simp only [u8R, Nat.mul_one] at hnl
    by_cases hend : n ≤ at_
    · have hr : nm m low at_ size = (2, [], 0) := nm_end (by rw [hln.out]; exact hend)
      have HR := hid hr
      have h1 : (n : Int) ≤ (at_ : Int) := by omega
      clear hr hM hlow hk
      go_enter Tryd.func36, Tryd.ntmps36
      go_wp2_with fail
      refine bodyPost_ret (v := .agg (toldC (.slice none 0 0) ((0 : Nat) : Int) 2)) (by simp [results, Tryd.results36, go_sem]) rfl ?_
      exact nfE_nil HR.out (by (repeat' (first | (with_reducible exact Below.refl _ _) | (with_reducible assumption) | (with_reducible refine below_ext0 ?_ _ _) | (with_reducible refine below_alloc0 ?_ _) | (with_reducible refine Below.ext ?_ ?_ _ _) | (with_reducible refine Below.alloc ?_ ?_ _) | (with_reducible refine Below.setCell ?_ ?_ _) | (with_reducible refine Below.drew ?_) | (with_reducible refine below_draws ?_ _) | go_size | (simp [size_ext]; done) | (simp [size_ext]; omega))))
    · have hat' : at_ < n := by omega
      replace hlow := hlow hat'
      obtain ⟨b, o, rfl, hb0⟩ := hM.addr (by omega)
      obtain ⟨x, hx, cx, _⟩ := hM.get at_ hat'
      have hx1 := x.toNat_lt
      have hx2 : (x.toNat : Int) ≤ 255 := by omega
      have q1 : (at_ : Int) < (n : Int) := by omega
      have HX := hid hx
      have HM := hid hM
      clear hx hM hat
      have ways : x.toNat = 0 ∨ (192 ≤ x.toNat ∧ n ≤ at_ + 1) ∨ (192 ≤ x.toNat ∧ at_ + 1 < n) ∨ (63 < x.toNat ∧ x.toNat < 192) ∨ (1 ≤ x.toNat ∧ x.toNat ≤ 63) := by omega
      rcases ways with h0 | ⟨h1, h2⟩ | ⟨h1, h2⟩ | ⟨h1, h2⟩ | ⟨h1, h2⟩
      · have hr : nm m low at_ size = (0, [], at_ + 1) := nm_zero HX.out h0
        have HR := hid hr
        have e0 : ((x.toNat : Int) == 0) = true := by rw [beq_iff_eq]; omega
        clear hr
        go_enter Tryd.func36, Tryd.ntmps36
        go_wp2_with fail
        refine bodyPost_ret (v := .agg (toldC (.slice none 0 0) ((at_ + 1 : Nat) : Int) 0)) (by simp [results, Tryd.results36, go_sem]) rfl ?_
        exact nfE_nil HR.out (by (repeat' (first | (with_reducible exact Below.refl _ _) | (with_reducible assumption) | (with_reducible refine below_ext0 ?_ _ _) | (with_reducible refine below_alloc0 ?_ _) | (with_reducible refine Below.ext ?_ ?_ _ _) | (with_reducible refine Below.alloc ?_ ?_ _) | (with_reducible refine Below.setCell ?_ ?_ _) | (with_reducible refine Below.drew ?_) | (with_reducible refine below_draws ?_ _) | go_size | (simp [size_ext]; done) | (simp [size_ext]; omega))))
      · have hr : nm m low at_ size = (2, [], 0) := nm_ptr_short HX.out h1 (by rw [hln.out]; exact h2)
        have HR := hid hr
        have e0 : ((x.toNat : Int) == 0) = false := by rw [beq_eq_false_iff_ne]; omega
        have e1 : (192 : Int) ≤ (x.toNat : Int) := by omega
        have e2 : (n : Int) ≤ (at_ : Int) + 1 := by omega
        clear hr
        go_enter Tryd.func36, Tryd.ntmps36
        go_wp2_with fail
        refine bodyPost_ret (v := .agg (toldC (.slice none 0 0) ((0 : Nat) : Int) 2)) (by simp [results, Tryd.results36, go_sem]) rfl ?_
        exact nfE_nil HR.out (by (repeat' (first | (with_reducible exact Below.refl _ _) | (with_reducible assumption) | (with_reducible refine below_ext0 ?_ _ _) | (with_reducible refine below_alloc0 ?_ _) | (with_reducible refine Below.ext ?_ ?_ _ _) | (with_reducible refine Below.alloc ?_ ?_ _) | (with_reducible refine Below.setCell ?_ ?_ _) | (with_reducible refine Below.drew ?_) | (with_reducible refine below_draws ?_ _) | go_size | (simp [size_ext]; done) | (simp [size_ext]; omega))))
      · obtain ⟨y, hy, cy, _⟩ := HM.out.get (at_ + 1) h2
        have hy1 := y.toNat_lt
        have hy2 : (y.toNat : Int) ≤ 255 := by omega
        obtain ⟨tgt, hto⟩ : ∃ tgt : Nat, (x.toNat - 192) * 256 + y.toNat = tgt := ⟨_, rfl⟩
        have t0 := nm_ptr (low := low) (size := size) HX.out h1 hy hto
        have hto' : ((x.toNat : Int) - 192) * 256 + (y.toNat : Int) = (tgt : Int) := by omega
        have HT := hid t0
        have e0 : ((x.toNat : Int) == 0) = false := by rw [beq_eq_false_iff_ne]; omega
        have e1 : (192 : Int) ≤ (x.toNat : Int) := by omega
        have e2 : (at_ : Int) + 1 < (n : Int) := by omega
        have hto16 : (tgt : Int) ≤ 16383 := by omega
        clear hy t0 hto
        by_cases hlt : tgt < low
        · have hlt' : (tgt : Int) < (low : Int) := by omega
          have CI := hid fun w' (hb : Below w.heap.size w w') => ih tgt tgt size w' (HM.out.later hb) (by
            have : (tgt + 1) * (n + 1) ≤ low * (n + 1) := Nat.mul_le_mul_right _ hlt
            rw [Nat.succ_mul] at this
            omega) (fun _ => by omega) (by omega) hsz
          go_enter Tryd.func36, Tryd.ntmps36
          go_wp2_with (go_at_call 36; (with_reducible refine (CI.out _ (by (repeat' (first | (with_reducible exact Below.refl _ _) | (with_reducible assumption) | (with_reducible refine below_ext0 ?_ _ _) | (with_reducible refine below_alloc0 ?_ _) | (with_reducible refine Below.ext ?_ ?_ _ _) | (with_reducible refine Below.alloc ?_ ?_ _) | (with_reducible refine Below.setCell ?_ ?_ _) | (with_reducible refine Below.drew ?_) | (with_reducible refine below_draws ?_ _) | go_size | (simp [size_ext]; done) | (simp [size_ext]; omega))))).mono ?_); rintro e w1 ⟨hb, v, rfl, ho⟩; obtain ⟨os, d, rfl⟩ := ext_of_below hb; obtain ⟨A', c', rfl, _, _, _⟩ := own_slice ho; have HO := hid ho; clear hb ho)
          have ht := HT.out
          rw [if_pos hlt] at ht
          refine bodyPost_ret (v := .agg (toldC (.slice A' (nm m tgt tgt size).2.1.length c') ((at_ + 2 : Nat) : Int) (nm m tgt tgt size).1)) (by simp [results, Tryd.results36, go_sem]) rfl ?_
          rw [ht]
          exact ⟨by (repeat' (first | (with_reducible exact Below.refl _ _) | (with_reducible assumption) | (with_reducible refine below_ext0 ?_ _ _) | (with_reducible refine below_alloc0 ?_ _) | (with_reducible refine Below.ext ?_ ?_ _ _) | (with_reducible refine Below.alloc ?_ ?_ _) | (with_reducible refine Below.setCell ?_ ?_ _) | (with_reducible refine Below.drew ?_) | (with_reducible refine below_draws ?_ _) | go_size | (simp [size_ext]; done) | (simp [size_ext]; omega))), _, rfl, own_less ((own_swap HO.out (by simp)).alloc _) (by simp)⟩
        · have hlt' : (low : Int) ≤ (tgt : Int) := by omega
          have hr : nm m low at_ size = (4, [], 0) := by rw [HT.out, if_neg hlt]
          have HR := hid hr
          clear hr
          go_enter Tryd.func36, Tryd.ntmps36
          go_wp2_with fail
          refine bodyPost_ret (v := .agg (toldC (.slice none 0 0) ((0 : Nat) : Int) 4)) (by simp [results, Tryd.results36, go_sem]) rfl ?_
          exact nfE_nil HR.out (by (repeat' (first | (with_reducible exact Below.refl _ _) | (with_reducible assumption) | (with_reducible refine below_ext0 ?_ _ _) | (with_reducible refine below_alloc0 ?_ _) | (with_reducible refine Below.ext ?_ ?_ _ _) | (with_reducible refine Below.alloc ?_ ?_ _) | (with_reducible refine Below.setCell ?_ ?_ _) | (with_reducible refine Below.drew ?_) | (with_reducible refine below_draws ?_ _) | go_size | (simp [size_ext]; done) | (simp [size_ext]; omega))))
      · have hr : nm m low at_ size = (3, [], 0) := nm_big HX.out h1 h2
        have HR := hid hr
        have e0 : ((x.toNat : Int) == 0) = false := by rw [beq_eq_false_iff_ne]; omega
        have e1 : (x.toNat : Int) < 192 := by omega
        have e2 : (63 : Int) < (x.toNat : Int) := by omega
        clear hr
        go_enter Tryd.func36, Tryd.ntmps36
        go_wp2_with fail
        refine bodyPost_ret (v := .agg (toldC (.slice none 0 0) ((0 : Nat) : Int) 3)) (by simp [results, Tryd.results36, go_sem]) rfl ?_
        exact nfE_nil HR.out (by (repeat' (first | (with_reducible exact Below.refl _ _) | (with_reducible assumption) | (with_reducible refine below_ext0 ?_ _ _) | (with_reducible refine below_alloc0 ?_ _) | (with_reducible refine Below.ext ?_ ?_ _ _) | (with_reducible refine Below.alloc ?_ ?_ _) | (with_reducible refine Below.setCell ?_ ?_ _) | (with_reducible refine Below.drew ?_) | (with_reducible refine below_draws ?_ _) | go_size | (simp [size_ext]; done) | (simp [size_ext]; omega))))
      · have e0 : ((x.toNat : Int) == 0) = false := by rw [beq_eq_false_iff_ne]; omega
        have e1 : (x.toNat : Int) < 192 := by omega
        have e2 : (x.toNat : Int) ≤ 63 := by omega
        have e3 : (1 : Int) ≤ (x.toNat : Int) := by omega
        by_cases hs1 : n < at_ + 1 + x.toNat
        · have hr : nm m low at_ size = (2, [], 0) := nm_lab_short HX.out h1 h2 (by rw [hln.out]; exact hs1)
          have HR := hid hr
          have e4 : (n : Int) < (at_ : Int) + 1 + (x.toNat : Int) := by omega
          clear hr
          go_enter Tryd.func36, Tryd.ntmps36
          go_wp2_with fail
          refine bodyPost_ret (v := .agg (toldC (.slice none 0 0) ((0 : Nat) : Int) 2)) (by simp [results, Tryd.results36, go_sem]) rfl ?_
          exact nfE_nil HR.out (by (repeat' (first | (with_reducible exact Below.refl _ _) | (with_reducible assumption) | (with_reducible refine below_ext0 ?_ _ _) | (with_reducible refine below_alloc0 ?_ _) | (with_reducible refine Below.ext ?_ ?_ _ _) | (with_reducible refine Below.alloc ?_ ?_ _) | (with_reducible refine Below.setCell ?_ ?_ _) | (with_reducible refine Below.drew ?_) | (with_reducible refine below_draws ?_ _) | go_size | (simp [size_ext]; done) | (simp [size_ext]; omega))))
        · have e4 : (at_ : Int) + 1 + (x.toNat : Int) ≤ (n : Int) := by omega
          by_cases hbig : 255 < size + x.toNat + 1
          · have hr : nm m low at_ size = (5, [], 0) := nm_lab_long HX.out h1 h2 (by rw [hln.out]; omega) hbig
            have HR := hid hr
            have e5 : (255 : Int) < (size : Int) + (x.toNat : Int) + 1 := by omega
            clear hr
            go_enter Tryd.func36, Tryd.ntmps36
            go_wp2_with fail
            refine bodyPost_ret (v := .agg (toldC (.slice none 0 0) ((0 : Nat) : Int) 5)) (by simp [results, Tryd.results36, go_sem]) rfl ?_
            exact nfE_nil HR.out (by (repeat' (first | (with_reducible exact Below.refl _ _) | (with_reducible assumption) | (with_reducible refine below_ext0 ?_ _ _) | (with_reducible refine below_alloc0 ?_ _) | (with_reducible refine Below.ext ?_ ?_ _ _) | (with_reducible refine Below.alloc ?_ ?_ _) | (with_reducible refine Below.setCell ?_ ?_ _) | (with_reducible refine Below.drew ?_) | (with_reducible refine below_draws ?_ _) | go_size | (simp [size_ext]; done) | (simp [size_ext]; omega))))
          · have e5 : (size : Int) + (x.toNat : Int) + 1 ≤ 255 := by omega
            have hr := nm_lab (low := low) (size := size) HX.out h1 h2 (by rw [hln.out]; omega) (by omega)
            have CI := fun w' (hb : Below w.heap.size w w') => ih low (at_ + 1 + x.toNat) (size + x.toNat + 1) w' (HM.out.later hb) (by omega) (fun _ => hlow) (by omega) (by omega)
            have HR := hid hr
            rw [show ((at_ + 1 + x.toNat : Nat) : Int) = (at_ : Int) + 1 + (x.toNat : Int) by omega, show ((size + x.toNat + 1 : Nat) : Int) = (size : Int) + (x.toNat : Int) + 1 by omega] at CI
            replace CI := hid CI
            clear hr
            go_enter Tryd.func36, Tryd.ntmps36
            go_wp2_with (go_at_call 36; (with_reducible refine (CI.out _ (by (repeat' (first | (with_reducible exact Below.refl _ _) | (with_reducible assumption) | (with_reducible refine below_ext0 ?_ _ _) | (with_reducible refine below_alloc0 ?_ _) | (with_reducible refine Below.ext ?_ ?_ _ _) | (with_reducible refine Below.alloc ?_ ?_ _) | (with_reducible refine Below.setCell ?_ ?_ _) | (with_reducible refine Below.drew ?_) | (with_reducible refine below_draws ?_ _) | go_size | (simp [size_ext]; done) | (simp [size_ext]; omega))))).mono ?_); rintro e w1 ⟨hb, v, rfl, ho⟩; obtain ⟨os, d, rfl⟩ := ext_of_below hb; obtain ⟨A', c', rfl, _, _, _⟩ := own_slice ho; have HO := hid ho; clear hb ho)
            have w1' : IntKind.i64.wrap ((at_ : Int) + 1) = (at_ : Int) + 1 := IntWalk.i64_in _ (by omega)
            have w2' : IntKind.i64.wrap ((at_ : Int) + 1 + (x.toNat : Int)) = (at_ : Int) + 1 + (x.toNat : Int) := IntWalk.i64_in _ (by omega)
            have p0 : (0 : Int) ≤ (at_ : Int) + 1 := by omega
            have p1 : (at_ : Int) + 1 ≤ (at_ : Int) + 1 + (x.toNat : Int) := by omega
            have p2 : (at_ : Int) + 1 + (x.toNat : Int) ≤ (c : Int) := by omega
            have p3 : ¬ c = at_ + 1 := by omega
            have t1 : ((at_ : Int) + 1).toNat = at_ + 1 := by omega
            have t2 : ((at_ : Int) + 1 + (x.toNat : Int)).toNat = at_ + 1 + x.toNat := by omega
            have hconv : ∀ W, Below w.heap.size w W → (convert 22 9 (.slice (some ⟨b, o + (at_ + 1), none⟩) x.toNat (c - (at_ + 1)))).run Tryd.prog W = .ok (.string (segB m (at_ + 1) x.toNat)) W := by
              intro W hW
              exact (((HM.out.below hW).dropB (k := at_ + 1) (by omega)).take (k := x.toNat) (by omega)).conv
            have CV := hid hconv
            obtain ⟨sg, hsg⟩ : ∃ sg, segB m (at_ + 1) x.toNat = sg := ⟨_, rfl⟩
            have HSG := hid hsg
            rw [hsg] at CV
            obtain ⟨t, ht⟩ : ∃ t, nm m low (at_ + 1 + x.toNat) (size + x.toNat + 1) = t := ⟨_, rfl⟩
            have HTT := hid ht
            have htl := nm_len m low (at_ + 1 + x.toNat) (size + x.toNat + 1) (by omega)
            rw [ht] at HO htl
            simp only [ht]
            clear hconv hsg ht
            have cvd := CV.out ((ext (w.alloc (.cells #[.slice none 0 0, .int .i64 0, .int .i64 0] 48)) os d).alloc (.cells #[.slice A' t.2.1.length c', .int .i64 (t.2.2 : Int), .int .i64 t.1] 48)).drew (by (repeat' (first | (with_reducible exact Below.refl _ _) | (with_reducible assumption) | (with_reducible refine below_ext0 ?_ _ _) | (with_reducible refine below_alloc0 ?_ _) | (with_reducible refine Below.ext ?_ ?_ _ _) | (with_reducible refine Below.alloc ?_ ?_ _) | (with_reducible refine Below.setCell ?_ ?_ _) | (with_reducible refine Below.drew ?_) | (with_reducible refine below_draws ?_ _) | go_size | (simp [size_ext]; done) | (simp [size_ext]; omega))))
            go_region_law ((refine step_appB rfl (.tmp 96) (.tmp 98) 46 rfl (w.heap.size + 1 + os.size + 1) 9 1 16 el_str _ 1 [.string sg] rfl (own_lit _ _ (by simp [size_ext]) (by simp [size_ext]) rfl (by decide) rfl) _ t.2.1.length _ _ rfl (own_src ((((HO.out).alloc _).alloc _)) (one_strs _)) (by omega) (by unfold maxLen; omega) (by simp [size_ext]) ?_; intro v9 w9 ho9 hb9; obtain ⟨A9, c9, rfl, _, _, _⟩ := own_slice ho9; have HO9 := hid ho9; obtain ⟨B1, B2, hs9⟩ := told9 (w := w) (os := os) (d := d) (T := 48) (c1 := #[.slice none 0 0, .int .i64 0, .int .i64 0]) (c2 := #[.slice A' t.2.1.length c', .int .i64 (t.2.2 : Int), .int .i64 t.1]) (o := .cells #[.string sg] 9) hb9 rfl; have z0 : w9.cell? ⟨w.heap.size + 1 + os.size, 0, none⟩ = _ := B2.cell 0; have z1 : w9.cell? ⟨w.heap.size + 1 + os.size, 1, none⟩ = _ := B2.cell 1; have z2 : w9.cell? ⟨w.heap.size + 1 + os.size, 2, none⟩ = _ := B2.cell 2; have y0 : w9.cell? ⟨w.heap.size, 0, none⟩ = _ := B1.cell 0; have y1 : w9.cell? ⟨w.heap.size, 1, none⟩ = _ := B1.cell 1; have y2 : w9.cell? ⟨w.heap.size, 2, none⟩ = _ := B1.cell 2; have zf0 : w9.frozen? ⟨w.heap.size + 1 + os.size, 0, none⟩ = false := B2.frozen 0; have yf0 : w9.frozen? ⟨w.heap.size, 0, none⟩ = false := B1.frozen 0; have yf1 : w9.frozen? ⟨w.heap.size, 1, none⟩ = false := B1.frozen 1; have yf2 : w9.frozen? ⟨w.heap.size, 2, none⟩ = false := B1.frozen 2; have HBB := hid (And.intro B1 B2); have hbw9 : Below w.heap.size w w9 := Below.trans (by (repeat' (first | (with_reducible exact Below.refl _ _) | (with_reducible assumption) | (with_reducible refine below_ext0 ?_ _ _) | (with_reducible refine below_alloc0 ?_ _) | (with_reducible refine Below.ext ?_ ?_ _ _) | (with_reducible refine Below.alloc ?_ ?_ _) | (with_reducible refine Below.setCell ?_ ?_ _) | (with_reducible refine Below.drew ?_) | (with_reducible refine below_draws ?_ _) | go_size | (simp [size_ext]; done) | (simp [size_ext]; omega)))) (hb9.mono (by omega)); have hs9' : w.heap.size < w9.heap.size := (by omega); have HB9 := hid hb9; clear ho9 hb9 B1 B2))
            all_goals
              go_wp2_with fail
              refine bodyPost_ret (v := .agg (toldC (.slice A9 (1 + t.2.1.length) c9) (t.2.2 : Int) t.1)) (by simp [results, Tryd.results36, go_sem, y0, y1, y2]) rfl ?_
              have ho := HO9.out
              have hr := HR.out
              rw [HTT.out, HSG.out] at hr
              rw [hr]
              refine ⟨by (repeat' (first | (with_reducible exact Below.refl _ _) | (with_reducible assumption) | (with_reducible refine below_ext0 ?_ _ _) | (with_reducible refine below_alloc0 ?_ _) | (with_reducible refine Below.ext ?_ ?_ _ _) | (with_reducible refine Below.alloc ?_ ?_ _) | (with_reducible refine Below.setCell ?_ ?_ _) | (with_reducible refine Below.drew ?_) | (with_reducible refine below_draws ?_ _) | go_size | (simp [size_ext]; done) | (simp [size_ext]; omega))), .slice A9 (1 + t.2.1.length) c9, rfl, ?_⟩
              · show World.ownsRow _ _ _ _ _ (sg :: t.2.1).length (strsV (sg :: t.2.1))
                rw [show (sg :: t.2.1).length = 1 + t.2.1.length from by simp [Nat.add_comm]]
                refine own_less (base := w.heap.size + 1 + os.size + 1) ?_ (by omega)
                repeat (first | exact ho | refine own_far ?_ (by first | (simp; done) | (simp; omega)) _)
end Go.Proofs.YthccknobnpbdeaaDoor
/- The document's answers of names as they are sent: NameAt. -/
namespace Go.Proofs.YthccknobnpbdeaaDoor
open Go.RowKit
set_option linter.unusedVariables false
set_option linter.unusedSimpArgs false

/-! NameAt -/
def toldV (t : Int × List ByteArray × Int) (A : Option Addr) (c : Nat) : Value := .agg #[.slice A t.2.1.length c, .int .i64 t.2.2, .int .i64 t.1]
def NaE (w : World) (t : Int × List ByteArray × Int) (e : Ending) (w' : World) : Prop :=
  Below w.heap.size w w' ∧ ∃ A' c', e = .returned (.agg #[.slice A' t.2.1.length c', .int .i64 t.2.2, .int .i64 t.1]) ∧ Rd strR w' w'.heap.size A' t.2.1.length c' t.2.1
set_option maxRecDepth 100000 in
set_option maxHeartbeats 4000000 in
theorem nameAt_any (w : World) (A : Option Addr) (n c : Nat) (m : List UInt8) (hM : Rd u8R w w.heap.size A n c m) (at_ : Int) (hat : at_ ≤ 9223372036854775807) :
    Calls Tryd.prog 13 #[.slice A n c, .int .i64 at_] w (NaE w (rdN m at_)) := by
  by_cases h0 : at_ < 0
  · have hr : rdN m at_ = (6, [], 0) := by unfold rdN; rw [if_pos h0]
    have HR := hid hr
    clear hr hM
    go_enter Tryd.func13, Tryd.ntmps13
    go_wp2_with fail
    refine bodyPost_ret (v := .agg #[.slice none 0 0, .int .i64 0, .int .i64 6]) (by simp [results, Tryd.results13, go_sem]) rfl ?_
    refine ⟨by (repeat' (first | (with_reducible exact Below.refl _ _) | (with_reducible assumption) | (with_reducible refine below_ext0 ?_ _ _) | (with_reducible refine below_alloc0 ?_ _) | (with_reducible refine Below.ext ?_ ?_ _ _) | (with_reducible refine Below.alloc ?_ ?_ _) | (with_reducible refine Below.setCell ?_ ?_ _) | (with_reducible refine Below.drew ?_) | (with_reducible refine below_draws ?_ _) | go_size | (simp [size_ext]; done) | (simp [size_ext]; omega))), ?_⟩
    rw [HR.out]
    exact ⟨none, 0, rfl, rd_nil _ _⟩
  · obtain ⟨a, rfl⟩ : ∃ a : Nat, at_ = (a : Int) := ⟨at_.toNat, by omega⟩
    have hr : rdN m (a : Int) = if (nm m a a 1).1 = 0 then (0, (nm m a a 1).2.1, ((nm m a a 1).2.2 : Int)) else ((nm m a a 1).1, [], 0) := by
      unfold rdN
      rw [if_neg h0, Int.toNat_natCast]
    have HR := hid hr
    have hok := of_nm m a a 1 (by omega)
    obtain ⟨t, ht⟩ : ∃ t, nm m a a 1 = t := ⟨_, rfl⟩
    have CF : ∀ w', Below w.heap.size w w' → Calls Tryd.prog 36 #[.slice A n c, .int .i64 (a : Int), .int .i64 (a : Int), .int .i64 1] w' (NfE w' t) := fun w' hb => by
      have := nameFrom_any A n c m _ a a 1 w' (hM.later hb) (Nat.lt_succ_self _) (fun h => by omega) hat (by omega)
      rw [ht] at this
      exact this
    replace CF := hid CF
    rw [ht] at hr hok
    replace HR := hid hr
    have HOK := hid hok
    clear hr hM ht hok
    by_cases hf : t.1 = 0
    · have e0 : (t.1 == 0) = true := by rw [hf]; rfl
      have e1 : (t.1 != 0) = false := by rw [hf]; rfl
      go_enter Tryd.func13, Tryd.ntmps13
      go_wp2_with (go_at_call 36; (with_reducible refine (CF.out _ (by (repeat' (first | (with_reducible exact Below.refl _ _) | (with_reducible assumption) | (with_reducible refine below_ext0 ?_ _ _) | (with_reducible refine below_alloc0 ?_ _) | (with_reducible refine Below.ext ?_ ?_ _ _) | (with_reducible refine Below.alloc ?_ ?_ _) | (with_reducible refine Below.setCell ?_ ?_ _) | (with_reducible refine Below.drew ?_) | (with_reducible refine below_draws ?_ _) | go_size | (simp [size_ext]; done) | (simp [size_ext]; omega))))).mono ?_); rintro e w1 ⟨hb, v, rfl, ho⟩; obtain ⟨os, d, rfl⟩ := ext_of_below hb; obtain ⟨A', c', rfl, _, _, _⟩ := own_slice ho; have HO := hid ho; clear hb ho)
      have hl := (HOK.out hf).2
      have hll := lsum_len t.2.1
      have r := HR.out
      rw [if_pos hf] at r
      refine bodyPost_ret (v := .agg #[.slice A' t.2.1.length c', .int .i64 (t.2.2 : Int), .int .i64 0]) (by simp [results, Tryd.results13, go_sem, hf]) rfl ?_
      have key : ∀ o2 o3, Rd strR ((ext (w.alloc o2) os d).alloc o3) ((ext (w.alloc o2) os d).alloc o3).heap.size A' t.2.1.length c' t.2.1 := by
        intro o2 o3
        have ho := (own_swap (o2 := o2) HO.out (by simp)).alloc o3
        obtain ⟨A3, c3, he, hrd⟩ := own_rd_str (own_less (base' := w.heap.size) ho (by simp)) (fun s hs => by have := lsum_mem hs; omega) (by simp [size_ext]; omega) (by omega)
        cases he
        exact hrd
      refine ⟨by (repeat' (first | (with_reducible exact Below.refl _ _) | (with_reducible assumption) | (with_reducible refine below_ext0 ?_ _ _) | (with_reducible refine below_alloc0 ?_ _) | (with_reducible refine Below.ext ?_ ?_ _ _) | (with_reducible refine Below.alloc ?_ ?_ _) | (with_reducible refine Below.setCell ?_ ?_ _) | (with_reducible refine Below.drew ?_) | (with_reducible refine below_draws ?_ _) | go_size | (simp [size_ext]; done) | (simp [size_ext]; omega))), ?_⟩
      rw [r]
      exact ⟨A', c', rfl, key _ _⟩
    · have e0 : (t.1 == 0) = false := by rw [beq_eq_false_iff_ne]; exact hf
      have e1 : (t.1 != 0) = true := by rw [bne_iff_ne]; exact hf
      go_enter Tryd.func13, Tryd.ntmps13
      go_wp2_with (go_at_call 36; (with_reducible refine (CF.out _ (by (repeat' (first | (with_reducible exact Below.refl _ _) | (with_reducible assumption) | (with_reducible refine below_ext0 ?_ _ _) | (with_reducible refine below_alloc0 ?_ _) | (with_reducible refine Below.ext ?_ ?_ _ _) | (with_reducible refine Below.alloc ?_ ?_ _) | (with_reducible refine Below.setCell ?_ ?_ _) | (with_reducible refine Below.drew ?_) | (with_reducible refine below_draws ?_ _) | go_size | (simp [size_ext]; done) | (simp [size_ext]; omega))))).mono ?_); rintro e w1 ⟨hb, v, rfl, ho⟩; obtain ⟨os, d, rfl⟩ := ext_of_below hb; obtain ⟨A', c', rfl, _, _, _⟩ := own_slice ho; have HO := hid ho; clear hb ho)
      have r := HR.out
      rw [if_neg hf] at r
      refine bodyPost_ret (v := .agg #[.slice none 0 0, .int .i64 0, .int .i64 t.1]) (by simp [results, Tryd.results13, go_sem]) rfl ?_
      refine ⟨by (repeat' (first | (with_reducible exact Below.refl _ _) | (with_reducible assumption) | (with_reducible refine below_ext0 ?_ _ _) | (with_reducible refine below_alloc0 ?_ _) | (with_reducible refine Below.ext ?_ ?_ _ _) | (with_reducible refine Below.alloc ?_ ?_ _) | (with_reducible refine Below.setCell ?_ ?_ _) | (with_reducible refine Below.drew ?_) | (with_reducible refine below_draws ?_ _) | go_size | (simp [size_ext]; done) | (simp [size_ext]; omega))), ?_⟩
      rw [r]
      exact ⟨none, 0, rfl, rd_nil _ _⟩
end Go.Proofs.YthccknobnpbdeaaDoor
/- The document's answers of names as they are sent: Texts, Sent, Start. -/
namespace Go.Proofs.YthccknobnpbdeaaDoor
open Go.RowKit
set_option linter.unusedVariables false
set_option linter.unusedSimpArgs false

set_option maxHeartbeats 2000000 in
theorem rtexts_any (w : World) (A1 : Option Addr) (n1 c1 : Nat) (l1 : List ByteArray) (B1 : Nat) (h1 : Rd strR w B1 A1 n1 c1 l1) (A2 : Option Addr) (n2 c2 : Nat) (l2 : List ByteArray) (B2 : Nat) (h2 : Rd strR w B2 A2 n2 c2 l2) :
    Calls Tryd.prog 56 #[.slice A1 n1 c1, .slice A2 n2 c2] w fun e w' => e = .returned (.bool (decide (l1 = l2))) ∧ Below w.heap.size w w' := by
  have m1 := h1.max
  have k1 := h1.cap
  have m2 := h2.max
  have k2 := h2.cap
  unfold maxLen at m1 m2
  have H1 := hid h1
  have H2 := hid h2
  clear h1 h2
  by_cases hn : n1 = n2
  · subst hn
    go_enter Tryd.func56, Tryd.ntmps56
    go_wp2
    go_loopg [5] n1 (fun g v wi => ∃ k m : Nat, k ≤ n1 ∧ g = n1 - k ∧ v = .int .i64 k ∧ wi = w.drewN m ∧ l1.take k = l2.take k)
    case atStart => exact ⟨0, 0, Nat.zero_le _, rfl, rfl, rfl, rfl⟩
    case round =>
      obtain ⟨k, m, hk, rfl, rfl, rfl, ht⟩ := hrel
      have HT := hid ht
      clear ht
      by_cases hlt : k < n1
      · obtain ⟨b1, o1, rfl, _, hc1, _⟩ := H1.out.str k hlt
        obtain ⟨b2, o2, rfl, _, hc2, _⟩ := H2.out.str k hlt
        have q1 : k < l1.length := by rw [H1.out.len]; exact hlt
        have q2 : k < l2.length := by rw [H2.out.len]; exact hlt
        have hkz : (k : Int) < (n1 : Int) := by omega
        obtain ⟨x, hx⟩ : ∃ x, l1[k] = x := ⟨_, rfl⟩
        obtain ⟨y, hy⟩ : ∃ y, l2[k] = y := ⟨_, rfl⟩
        rw [hx] at hc1
        rw [hy] at hc2
        have HXY := hid (And.intro hx hy)
        clear hx hy
        by_cases he : x = y
        · subst he
          have hv : (x.toList != x.toList) = false := by simp
          have hv' : (x.toList == x.toList) = true := by simp
          go_wp2_with fail
          go_quiet (fail)
          go_wp2
          go_roundg (n1 - (k + 1))
          case measure => omega
          case rel => exact ⟨k + 1, _, by omega, rfl, by go_num, rfl, by rw [List.take_succ_eq_append_getElem q1, List.take_succ_eq_append_getElem q2, HT.out, HXY.out.1, HXY.out.2]⟩
        · have hv' : (x.toList == y.toList) = false := by rw [str_beq]; simp [he]
          have hv : (x.toList != y.toList) = true := by rw [bne, hv']; rfl
          have hr : decide (l1 = l2) = false := decide_eq_false fun h => he (by rw [← HXY.out.1, ← HXY.out.2]; simp [h])
          clear he
          go_wp2_with fail
          go_quiet (fail)
          go_wp2
          go_ret
          exact ⟨by first | rfl | (rw [hr]; rfl), by first | exact below_drawsN (below_drawsN (Below.refl _ _) _) _ | exact below_drawsN (Below.refl _ _) _⟩
      · have hr : decide (l1 = l2) = true := decide_eq_true (by
          have h := HT.out
          rwa [List.take_of_length_le (by have := H1.out.len; omega), List.take_of_length_le (by have := H2.out.len; omega)] at h)
        go_wp2
        go_ret
        exact ⟨by first | rfl | (rw [hr]; rfl), below_drawsN (Below.refl _ _) _⟩
  · have hv : ((n1 : Int) != (n2 : Int)) = true := by rw [bne_iff_ne]; omega
    have hr : decide (l1 = l2) = false := decide_eq_false fun h => hn (by rw [← H1.out.len, ← H2.out.len, h])
    go_enter Tryd.func56, Tryd.ntmps56
    go_wp2
    go_ret
    exact ⟨by first | rfl | (rw [hr]; rfl), Below.refl _ _⟩


/-! '[]byte(s)' -/
theorem bytes_of (w : World) (s : ByteArray) (hs : s.size ≤ 140737488355328) : ∃ cap o, (convert 9 22 (.string s)).run Tryd.prog w = .ok (.slice (some ⟨w.heap.size, 0, none⟩) s.size cap) (w.drew.alloc o) ∧
    Rd u8R (w.drew.alloc o) (w.drew.alloc o).heap.size (some ⟨w.heap.size, 0, none⟩) s.size cap s.data.toList := by
  have hge := grownCap_ge w s.size 0 5
  have hle := grownCap_le_maxLen w s.size 0 5 (by unfold maxLen; omega)
  refine ⟨_, _, run_bytes_of_string w 9 22 5 s Tryd.underlying9 Tryd.underlying22 Tryd.underlying5, ?_⟩
  have hsz : s.data.toList.length = s.size := by rw [Array.length_toList]; rfl
  refine ⟨hsz, hge, hle, by simpa [u8R] using hs, fun e => (by cases e), fun i hi => ?_⟩
  refine ⟨w.heap.size, 0, _, rfl, by simp, rfl, fun j u hu => ?_⟩
  have hj : j = 0 := by
    cases j with
    | zero => rfl
    | succ j => simp at hu
  subst hj
  simp at hu
  subst hu
  have hb := BlkM.new w.drew 5 (bytesRow s (grownCap w s.size 0 5))
  have hc := hb.cell i
  have e : (bytesRow s (grownCap w s.size 0 5))[i]? = some (.int .u8 (s.data.toList[i].toNat : Int)) := by
    have hi' : i < s.data.size := by rw [← Array.length_toList]; exact hi
    unfold bytesRow
    rw [Array.getElem?_append_left (by simpa using hi'), Array.getElem?_map, Array.getElem?_eq_getElem hi']
    simp
  rw [e] at hc
  simpa [u8R] using hc

theorem own_drewA {w : World} {base : Nat} {e : TypeId} {size : Nat} {v : Value} {n : Nat} {xs : List Value} {o : Obj} (h : w.ownsRow base e size v n xs) : ((w.alloc o).drew).ownsRow base e size v n xs := (h.alloc o).drew
/-! Sent -/
set_option maxRecDepth 100000 in
set_option maxHeartbeats 4000000 in
theorem rsent_any (w : World) (A : Option Addr) (n c : Nat) (l : List ByteArray) (hR : Rd strR w w.heap.size A n c l) (hall : l.all labelOk = true) (hsz : lsum l ≤ 254) :
    Calls Tryd.prog 47 #[.slice A n c] w fun e w' => ∃ A' c', e = .returned (.slice A' (lsum l + 1) c') ∧ Rd u8R w' w'.heap.size A' (lsum l + 1) c' (sentL l ++ [0]) ∧ Below w.heap.size w w' := by
  have hm := hR.max
  have hcap := hR.cap
  unfold maxLen at hm
  have H := hid hR
  have HALL := hid hall
  clear hR hall
  have tk0 : True := trivial; have tk1 : True := trivial; have tk2 : True := trivial; have tk3 : True := trivial; have tk4 : True := trivial; have tk5 : True := trivial; have tk6 : True := trivial; have tk7 : True := trivial; have tk8 : True := trivial; have tk9 : True := trivial; have tk10 : True := trivial; have tk11 : True := trivial; have tk12 : True := trivial
  go_enter Tryd.func47, Tryd.ntmps47
  go_wp2
  go_loopg [3, 4] n (fun gk v0 v9 wi => ∃ k : Nat, k ≤ n ∧ gk = n - k ∧ v9 = .int .i64 (k : Int) ∧ wi.ownsRow w.heap.size 5 1 v0 (lsum (l.take k)) (bytesV (sentL (l.take k))) ∧ Below w.heap.size w wi)
  case atStart => exact ⟨0, Nat.zero_le _, rfl, rfl, World.ownsRow_nil _ _ _ _, Below.refl _ _⟩
  case round =>
    obtain ⟨k, hk, rfl, rfl, hown, hlow⟩ := hrel
    have HO := hid hown
    have HLOW := hid hlow
    have hzw := hlow.size
    clear hown hlow
    by_cases hlt : k < n
    · obtain ⟨b, o, rfl, hb, hc0, hz⟩ := H.out.str k hlt
      have hkl : k < l.length := by rw [H.out.len]; exact hlt
      have htk : l.take (k + 1) = l.take k ++ [l[k]] := List.take_succ_eq_append_getElem hkl
      have hlb : labelOk l[k] = true := List.all_eq_true.1 HALL.out _ (List.getElem_mem hkl)
      obtain ⟨x, hx⟩ : ∃ x, l[k] = x := ⟨_, rfl⟩
      rw [hx] at hc0 hz htk hlb
      have hc := (HLOW.out.cell (p := ⟨b, o + k, none⟩) hb).trans hc0
      have HC0 := hid hc0
      unfold labelOk at hlb
      simp only [Bool.and_eq_true, decide_eq_true_eq] at hlb
      obtain ⟨hx1, hx2⟩ := hlb
      have HTK := hid htk
      have hls : lsum (l.take (k + 1)) = lsum (l.take k) + (x.size + 1) := by rw [htk, lsum_snoc]
      have hsum := lsum_take l (k + 1)
      have ab1 : (lsum (l.take k) + 1) * 1 ≤ 140737488355328 := by omega
      have ab2 : lsum (l.take k) + 1 ≤ maxLen := by unfold maxLen; omega
      have ab3 : (lsum (l.take k) + 1 + x.size) * 1 ≤ 140737488355328 := by omega
      have ab5 : lsum (l.take k) + 1 + x.size ≤ maxLen := by unfold maxLen; omega
      have HLS := hid hls
      have cvt : IntKind.u8.wrap (x.size : Int) = (x.size : Int) := by simp [IntKind.wrap, IntKind.bits, IntKind.signed]; omega
      clear htk hx hls hsum hc0
      go_wp2_with (first
        | (at_builtin; have _t := tk1; refine wpList_appT rfl _ _ 22 rfl w.heap.size 5 1 1 el_u8 _ (lsum (l.take k)) _ rfl (HO.out.alloc _) _ 1 1 [.int .u8 (x.size : Int)] rfl (src_one _ rfl rfl) ab1 ab2 (by simp; omega) ?_; intro v1 w1 ho1 ha1; have HO1 := hid ho1; have hz1 := ha1.grown.size; have HB1 := hid ((HLOW.out.alloc hzw _).trans (ha1.below (HO.out.alloc _) (by simp; omega))); have hc1 := (HB1.out.cell (p := ⟨b, o + k, none⟩) hb).trans HC0.out; obtain ⟨cap1, o1, cv1, hrd1⟩ := bytes_of w1 x hz; have hzz := HB1.out.size; have HRD1 := hid hrd1; clear hrd1; clear ho1 ha1 tk1)
        | (at_builtin; have _t := tk2; refine wpList_appT rfl _ _ 22 rfl w.heap.size 5 1 1 el_u8 _ (lsum (l.take k) + 1) _ rfl (own_drewA HO1.out) _ x.size _ _ rfl (HRD1.out.src_u8) ab3 ab5 (by simp; omega) ?_; intro v2 w2 ho2 ha2; have HO2 := hid ho2; have HB2 := hid (ha2.below (own_drewA HO1.out) (by simp; omega)); clear ho2 ha2 tk2))
      go_roundg (n - (k + 1))
      case measure => omega
      case rel =>
        refine ⟨k + 1, by omega, rfl, by go_num, ?_, ?_⟩
        · have := HO2.out
          rw [HLS.out, HTK.out, sentL_snoc]
          have e8 : (x.size : Int) % 256 = x.size := by omega
          simpa [bytesV, Nat.add_assoc, Nat.add_comm 1, e8] using this
        · exact ((HB1.out.alloc HB1.out.size _).drew).trans HB2.out
    · obtain rfl : k = n := by omega
      have ho := HO.out
      rw [List.take_of_length_le (by rw [H.out.len]; exact Nat.le_refl _)] at ho
      have HO' := hid ho
      have ab1 : (lsum l + 1) * 1 ≤ 140737488355328 := by omega
      have ab2 : lsum l + 1 ≤ maxLen := by unfold maxLen; omega
      clear ho
      go_wp2_with (at_builtin; refine wpList_appT rfl _ _ 22 rfl w.heap.size 5 1 1 el_u8 _ (lsum l) _ rfl (HO'.out.alloc _) _ 1 1 [.int .u8 0] rfl (src_one _ rfl rfl) ab1 ab2 (by simp; omega) ?_; intro v3 w3 ho3 ha3; have HB3 := hid ((HLOW.out.alloc hzw _).trans (ha3.below (HO'.out.alloc _) (by simp; omega))); have HO3 := hid ho3; clear ho3 ha3)
      go_ret
      obtain ⟨A', c', rfl, hr⟩ := own_rd_u8 (l := sentL l ++ [0]) (by simpa [bytesV] using HO3.out) HB3.out.size (by omega)
      exact ⟨A', c', rfl, hr, HB3.out⟩
end Go.Proofs.YthccknobnpbdeaaDoor
