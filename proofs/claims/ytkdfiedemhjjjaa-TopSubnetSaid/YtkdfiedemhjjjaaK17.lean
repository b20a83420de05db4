/- subnet's Decode, of bytes that are a subnet's, or that are not for their last ones. -/
import Derived.Test.YtkdfiedemhjjjaaK16
import Derived.Laws.CopyOwn
namespace Go.Proofs.Ytkdfiedemhjjjaa
open Go.RowKit
set_option linter.unusedVariables false
set_option linter.unusedSimpArgs false

/-- the address of a subnet's bytes -/
def restL (l : List UInt8) : List UInt8 := l.drop 4
/-- are the bytes behind the first four those of an address masked? -/
def RestOk (l : List UInt8) : Prop := (restL l).length = sentN (decS l) ∧ restL l = maskL (restL l) (decS l)
theorem fam_size {F S C : Int} (hk : SOk F S C (famN F)) : ∃ m : Int, (if F = 1 then (4 : Int) else if F = 2 then 16 else 0) = m ∧ (famN F : Int) = m ∧ (m = 4 ∨ m = 16) ∧ S ≤ 8 * m ∧ C ≤ 8 * m := by
  rcases hk.fam with ⟨rfl, h⟩ | ⟨rfl, h⟩
  · exact ⟨4, rfl, rfl, .inl rfl, hk.s1, hk.sc1⟩
  · exact ⟨16, rfl, rfl, .inr rfl, hk.s1, hk.sc1⟩

set_option maxRecDepth 100000 in
set_option maxHeartbeats 8000000 in
theorem Decode_syntax (w : World) (b o n c : Nat) (l : List UInt8) (h : Rd u8R w w.heap.size (some ⟨b, o, none⟩) n c l) (hn : 4 ≤ n) (hk : SOk (decF l) (decS l) (decC l) (famN (decF l))) (hr : ¬ RestOk l) :
    Calls Try.prog 26 #[.slice (some ⟨b, o, none⟩) n c] w fun e w' => e = .returned (.tuple #[subnetV 0 0 0 none 0 0, .iface 65 (.int .i64 1)]) ∧ Below w.heap.size w w' := by
  have HR := hid hr
  clear hr
  obtain ⟨r, rfl⟩ : ∃ r, n = r + 4 := ⟨n - 4, by omega⟩
  have hcap := h.cap
  obtain ⟨q, rfl⟩ : ∃ q, c = q + 4 := ⟨c - 4, by omega⟩
  have hmax := h.max
  unfold maxLen at hmax
  obtain ⟨x0, hx0, c0, k0, lb⟩ := h.byte 0 (by omega)
  obtain ⟨x1, hx1, c1, k1, _⟩ := h.byte 1 (by omega)
  obtain ⟨x2, hx2, c2, k2, _⟩ := h.byte 2 (by omega)
  obtain ⟨x3, hx3, c3, k3, _⟩ := h.byte 3 (by omega)
  rw [Nat.add_zero] at c0
  have hF : decF l = (x0.toNat : Int) * 256 + (x1.toNat : Int) := by unfold decF; rw [hx0, hx1]
  have hS : decS l = (x2.toNat : Int) := by unfold decS; rw [hx2]
  have hC : decC l = (x3.toNat : Int) := by unfold decC; rw [hx3]
  have hR5 := h.drop (k := 4) (by omega)
  simp only [Nat.add_sub_cancel] at hR5
  have hlen := h.len
  have R5 := hid hR5
  have HL := hid hlen
  clear h hx0 hx1 hx2 hx3 hlen hR5
  have p0 : (0 : Int) ≤ (x0.toNat : Int) := by omega
  have p1 : (0 : Int) ≤ (x1.toNat : Int) := by omega
  have p2 : (0 : Int) ≤ (x2.toNat : Int) := by omega
  have p3 : (0 : Int) ≤ (x3.toNat : Int) := by omega
  have two := two_or x0 x1
  generalize (x0.toNat : Int) = y0 at *
  generalize (x1.toNat : Int) = y1 at *
  generalize (x2.toNat : Int) = y2 at *
  generalize (x3.toNat : Int) = y3 at *
  have p4 : 0 ≤ y0 * 256 + y1 := by omega
  have p5 : y0 * 256 + y1 ≤ 65535 := by omega
  rw [hF, hS, hC] at hk
  generalize y0 * 256 + y1 = F at *
  have HF := hid hF
  have HS := hid hS
  have HC := hid hC
  clear hF hS hC
  have v0 : IntKind.i64.wrap y0 = y0 := IntWalk.i64_in _ (by omega)
  have v01 : IntKind.i64.wrap (y0 * 256) = y0 * 256 := IntWalk.i64_in _ (by omega)
  have v1 : IntKind.i64.wrap y1 = y1 := IntWalk.i64_in _ (by omega)
  have v2 : IntKind.i64.wrap y2 = y2 := IntWalk.i64_in _ (by omega)
  have v3 : IntKind.i64.wrap y3 = y3 := IntWalk.i64_in _ (by omega)
  have j0 : (0 : Int) < (r : Int) + 4 := by omega
  have j1 : (1 : Int) < (r : Int) + 4 := by omega
  have j2 : (2 : Int) < (r : Int) + 4 := by omega
  have j3 : (3 : Int) < (r : Int) + 4 := by omega
  obtain ⟨m, hm, _, hm', s1, sc1⟩ := fam_size hk
  have CS := hid (size_is F m hm)
  have lenR : (restL l).length = r := by unfold restL; rw [List.length_drop, HL.out]; omega
  clear hk hm
  obtain ⟨k, hkk⟩ : ∃ k, sentN y2 = k := ⟨_, rfl⟩
  have q1 : IntKind.i64.wrap (y2 + 7) = y2 + 7 := IntWalk.i64_in _ (by omega)
  have q2 : (y2 + 7) / 8 = (k : Int) := by unfold sentN at hkk; omega
  have HK := hid hkk
  have ways : (((r : Int) != (k : Int)) = true) ∨ (((r : Int) != (k : Int)) = false ∧ decide (restL l = maskL (restL l) y2) = false ∧ r ≠ 0) := by
    by_cases e : r = k
    · refine .inr ⟨by simp [e], decide_eq_false fun h => HR.out ⟨by rw [lenR, HS.out, hkk, e], by rw [HS.out]; exact h⟩, fun h0 => HR.out ⟨by rw [lenR, HS.out, hkk, e], ?_⟩⟩
      have : restL l = [] := List.eq_nil_of_length_eq_zero (by omega)
      rw [this]
      rfl
    · exact .inl (by rw [bne_iff_ne]; omega)
  have m4 : 4 ≤ m := by omega
  have m16 : m ≤ 16 := by omega
  have m0 : (m == 0) = false := by rw [beq_eq_false_iff_ne]; omega
  clear hkk lenR HR HL hm'
  have tk1 : True := trivial
  by_cases hq : q = 0
  · obtain rfl : r = 0 := by omega
    subst hq
    rcases ways with e | ⟨_, _, h⟩
    case' inr => exact absurd rfl h
    clear hn hcap hmax j0 j1 j2 j3 R5
    simp only [Nat.zero_add]
    rw [Int.natCast_zero] at e
    go_enter Try.func26, Try.ntmps26
    go_wp2_with fail
    go_region_held3 (fun w' => w'.cell? ⟨b, o, none⟩ = some (.int .u8 y0) ∧ w'.cell? ⟨b, o + 1, none⟩ = some (.int .u8 y1) ∧ w'.cell? ⟨b, o + 2, none⟩ = some (.int .u8 y2) ∧ w'.cell? ⟨b, o + 3, none⟩ = some (.int .u8 y3)) (go_keep) (fail)
    all_goals
      clear v0 v01 v1 v2 v3 two
      go_wp2_with (go_at_call 53; refine (CS.out _).mono ?_; rintro e w1 ⟨rfl, rfl⟩)
      refine bodyPost_ret (v := .tuple #[subnetV 0 0 0 none 0 0, .iface 65 (.int .i64 1)]) (by simp [results, Try.results26, go_sem]) rfl ⟨rfl, ?_⟩
      (repeat' (first | (with_reducible exact Below.refl _ _) | (with_reducible assumption) | (with_reducible refine below_ext0 ?_ _ _) | (with_reducible refine below_alloc0 ?_ _) | (with_reducible refine Below.ext ?_ ?_ _ _) | (with_reducible refine Below.alloc ?_ ?_ _) | (with_reducible refine Below.setCell ?_ ?_ _) | (with_reducible refine Below.drew ?_) | (with_reducible refine below_draws ?_ _) | go_size | (simp [size_ext]; done) | (simp [size_ext]; omega)))
  · have R5' : Rd u8R w w.heap.size (some ⟨b, o + 4, none⟩) r q (restL l) := R5.out
    clear R5
    have R5 := hid R5'
    clear R5'
    have CM := hid fun w' (hb : Below w.heap.size w w') => mask_rd w' _ _ _ _ _ (R5.out.below hb) y2 (by omega) (by omega)
    rcases ways with e | ⟨e, hd, hr0⟩
    case' inr => have HD := hid hd; clear hd hr0
    all_goals
      go_enter Try.func26, Try.ntmps26
      go_wp2_with fail
      go_region_held3 (fun w' => w'.cell? ⟨b, o, none⟩ = some (.int .u8 y0) ∧ w'.cell? ⟨b, o + 1, none⟩ = some (.int .u8 y1) ∧ w'.cell? ⟨b, o + 2, none⟩ = some (.int .u8 y2) ∧ w'.cell? ⟨b, o + 3, none⟩ = some (.int .u8 y3)) (go_keep) (fail)
      all_goals
        clear v0 v01 v1 v2 v3 two
        go_wp2_with (first
          | (go_at_call 53; refine (CS.out _).mono ?_; rintro e w1 ⟨rfl, rfl⟩)
          | (go_at_call 52; have _t := tk1; refine (CM.out _ (by (repeat' (first | (with_reducible exact Below.refl _ _) | (with_reducible assumption) | (with_reducible refine below_ext0 ?_ _ _) | (with_reducible refine below_alloc0 ?_ _) | (with_reducible refine Below.ext ?_ ?_ _ _) | (with_reducible refine Below.alloc ?_ ?_ _) | (with_reducible refine Below.setCell ?_ ?_ _) | (with_reducible refine Below.drew ?_) | (with_reducible refine below_draws ?_ _) | go_size | (simp [size_ext]; done) | (simp [size_ext]; omega))))).mono ?_; rintro e w1 ⟨Atk1, ctk1, rfl, hr, hb⟩; obtain ⟨otk1, dtk1, rfl⟩ := ext_of_below hb; (try simp only [ext_drew, ext_drewN] at hr); have R6 := hid hr; clear hr; clear hb tk1)
          | (go_at_call 54; refine (equal_bytes _ _ _ _ _ _ (R5.out.below (by (repeat' (first | (with_reducible exact Below.refl _ _) | (with_reducible assumption) | (with_reducible refine below_ext0 ?_ _ _) | (with_reducible refine below_alloc0 ?_ _) | (with_reducible refine Below.ext ?_ ?_ _ _) | (with_reducible refine Below.alloc ?_ ?_ _) | (with_reducible refine Below.setCell ?_ ?_ _) | (with_reducible refine Below.drew ?_) | (with_reducible refine below_draws ?_ _) | go_size | (simp [size_ext]; done) | (simp [size_ext]; omega))))) _ _ _ _ _ (R6.out.below (by (repeat' (first | (with_reducible exact Below.refl _ _) | (with_reducible assumption) | (with_reducible refine below_ext0 ?_ _ _) | (with_reducible refine below_alloc0 ?_ _) | (with_reducible refine Below.ext ?_ ?_ _ _) | (with_reducible refine Below.alloc ?_ ?_ _) | (with_reducible refine Below.setCell ?_ ?_ _) | (with_reducible refine Below.drew ?_) | (with_reducible refine below_draws ?_ _) | go_size | (simp [size_ext]; done) | (simp [size_ext]; omega)))))).mono ?_; rw [HD.out]; rintro e w1 ⟨rfl, hb⟩; obtain ⟨otk2, dtk2, rfl⟩ := ext_of_below hb; clear hb))
        refine bodyPost_ret (v := .tuple #[subnetV 0 0 0 none 0 0, .iface 65 (.int .i64 1)]) (by simp [results, Try.results26, go_sem]) rfl ⟨rfl, ?_⟩
        (repeat' (first | (with_reducible exact Below.refl _ _) | (with_reducible assumption) | (with_reducible refine below_ext0 ?_ _ _) | (with_reducible refine below_alloc0 ?_ _) | (with_reducible refine Below.ext ?_ ?_ _ _) | (with_reducible refine Below.alloc ?_ ?_ _) | (with_reducible refine Below.setCell ?_ ?_ _) | (with_reducible refine Below.drew ?_) | (with_reducible refine below_draws ?_ _) | go_size | (simp [size_ext]; done) | (simp [size_ext]; omega)))
end Go.Proofs.Ytkdfiedemhjjjaa
