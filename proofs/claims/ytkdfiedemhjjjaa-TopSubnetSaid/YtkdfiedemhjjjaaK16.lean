/- subnet's Decode. -/
import Derived.Test.YtkdfiedemhjjjaaK15
import Derived.Test.YtkdfiedemhjjjaaK2
namespace Go.Proofs.Ytkdfiedemhjjjaa
open Go.RowKit
set_option linter.unusedVariables false
set_option linter.unusedSimpArgs false

theorem Rd.drop {w : World} {B n c b o k : Nat} {l : List UInt8} (h : Rd u8R w B (some ⟨b, o, none⟩) n c l) (hk : k ≤ n) : Rd u8R w B (some ⟨b, o + k, none⟩) (n - k) (c - k) (l.drop k) := by
  have hc := h.cap
  have hm := h.max
  have hl := h.lim
  refine ⟨by rw [List.length_drop, h.len], by omega, by omega, ?_, fun e => (by cases e), fun i hi => ?_⟩
  · simp only [u8R, Nat.mul_one] at hl ⊢; omega
  · have hi' : k + i < l.length := by rw [List.length_drop] at hi; omega
    obtain ⟨b', off, vs, e, hb, hr, hcell⟩ := h.at_ (k + i) hi'
    cases e
    refine ⟨b, o + k, vs, rfl, hb, by rw [List.getElem_drop]; exact hr, fun j u hu => ?_⟩
    have := hcell j u hu
    simpa [u8R, Nat.add_assoc] using this
theorem Rd.none_left {w : World} {B c : Nat} {b o : Nat} {l : List UInt8} (h : Rd u8R w B (some ⟨b, o, none⟩) c c l) (x : Addr) : Rd u8R w B (some x) 0 0 [] :=
  ⟨rfl, Nat.le_refl _, by simp [maxLen], by simp, fun e => (by cases e), fun i hi => by simp at hi⟩

set_option maxRecDepth 100000 in
set_option maxHeartbeats 4000000 in
theorem Decode_short (w : World) (A : Option Addr) (n c : Nat) (hn : n < 4) (hc : c ≤ 9223372036854775807) (hnc : n ≤ c) :
    Calls Try.prog 26 #[.slice A n c] w fun e w' => e = .returned (.tuple #[subnetV 0 0 0 none 0 0, .iface 65 (.int .i64 2)]) ∧ Below w.heap.size w w' := by
  go_enter Try.func26, Try.ntmps26
  go_wp2
  refine bodyPost_ret (v := .tuple #[subnetV 0 0 0 none 0 0, .iface 65 (.int .i64 2)]) (by simp [results, Try.results26, go_sem]) rfl ⟨rfl, ?_⟩
  (repeat' (first | (with_reducible exact Below.refl _ _) | (with_reducible assumption) | (with_reducible refine below_ext0 ?_ _ _) | (with_reducible refine below_alloc0 ?_ _) | (with_reducible refine Below.ext ?_ ?_ _ _) | (with_reducible refine Below.alloc ?_ ?_ _) | (with_reducible refine Below.setCell ?_ ?_ _) | (with_reducible refine Below.drew ?_) | (with_reducible refine below_draws ?_ _) | go_size | (simp [size_ext]; done) | (simp [size_ext]; omega)))

def decF (l : List UInt8) : Int := ((l.getD 0 0).toNat : Int) * 256 + ((l.getD 1 0).toNat : Int)
def decS (l : List UInt8) : Int := ((l.getD 2 0).toNat : Int)
def decC (l : List UInt8) : Int := ((l.getD 3 0).toNat : Int)
def famN (f : Int) : Nat := if f = 1 then 4 else if f = 2 then 16 else 0
theorem size_is (f m : Int) (h : (if f = 1 then (4 : Int) else if f = 2 then 16 else 0) = m) (w : World) : Calls Try.prog 53 #[.int .i64 f] w fun e w' => e = .returned (.int .i64 m) ∧ w' = w := by
  subst h
  exact size_any f w
theorem not_SOk {F S C : Int} (s0 : 0 ≤ S) (c0 : 0 ≤ C) (hk : ¬ SOk F S C (famN F)) : (F ≠ 1 ∧ F ≠ 2) ∨ (F = 1 ∧ (32 < S ∨ (S ≤ 32 ∧ 32 < C))) ∨ (F = 2 ∧ (128 < S ∨ (S ≤ 128 ∧ 128 < C))) := by
  rw [SOk_iff] at hk
  unfold famN at hk
  by_cases h1 : F = 1
  · subst h1; simp at hk; omega
  · by_cases h2 : F = 2
    · subst h2; simp at hk; omega
    · exact .inl ⟨h1, h2⟩

set_option maxRecDepth 100000 in
set_option maxHeartbeats 8000000 in
theorem Decode_range (w : World) (b o n c : Nat) (l : List UInt8) (h : Rd u8R w w.heap.size (some ⟨b, o, none⟩) n c l) (hn : 4 ≤ n) (hk : ¬ SOk (decF l) (decS l) (decC l) (famN (decF l))) :
    Calls Try.prog 26 #[.slice (some ⟨b, o, none⟩) n c] w fun e w' => e = .returned (.tuple #[subnetV 0 0 0 none 0 0, .iface 65 (.int .i64 6)]) ∧ Below w.heap.size w w' := by
  obtain ⟨r, rfl⟩ : ∃ r, n = r + 4 := ⟨n - 4, by omega⟩
  have hcap := h.cap
  obtain ⟨q, rfl⟩ : ∃ q, c = q + 4 := ⟨c - 4, by omega⟩
  have hmax := h.max
  unfold maxLen at hmax
  obtain ⟨x0, hx0, c0, k0, lb⟩ := h.byte 0 (by omega)
  obtain ⟨x1, hx1, c1, k1, _⟩ := h.byte 1 (by omega)
  obtain ⟨x2, hx2, c2, k2, _⟩ := h.byte 2 (by omega)
  obtain ⟨x3, hx3, c3, k3, _⟩ := h.byte 3 (by omega)
  rw [Nat.add_zero] at c0
  have hF : decF l = (x0.toNat : Int) * 256 + (x1.toNat : Int) := by unfold decF; rw [hx0, hx1]
  have hS : decS l = (x2.toNat : Int) := by unfold decS; rw [hx2]
  have hC : decC l = (x3.toNat : Int) := by unfold decC; rw [hx3]
  have hR5 := h.drop (k := 4) (by omega)
  simp only [Nat.add_sub_cancel] at hR5
  have hlen := h.len
  have R5 := hid hR5
  have HL := hid hlen
  clear h hx0 hx1 hx2 hx3 hlen hR5
  have p0 : (0 : Int) ≤ (x0.toNat : Int) := by omega
  have p1 : (0 : Int) ≤ (x1.toNat : Int) := by omega
  have p2 : (0 : Int) ≤ (x2.toNat : Int) := by omega
  have p3 : (0 : Int) ≤ (x3.toNat : Int) := by omega
  have two := two_or x0 x1
  generalize (x0.toNat : Int) = y0 at *
  generalize (x1.toNat : Int) = y1 at *
  generalize (x2.toNat : Int) = y2 at *
  generalize (x3.toNat : Int) = y3 at *
  have p4 : 0 ≤ y0 * 256 + y1 := by omega
  have p5 : y0 * 256 + y1 ≤ 65535 := by omega
  rw [hF, hS, hC] at hk
  generalize y0 * 256 + y1 = F at *
  have HF := hid hF
  have HS := hid hS
  have HC := hid hC
  clear hF hS hC
  have v0 : IntKind.i64.wrap y0 = y0 := IntWalk.i64_in _ (by omega)
  have v01 : IntKind.i64.wrap (y0 * 256) = y0 * 256 := IntWalk.i64_in _ (by omega)
  have v1 : IntKind.i64.wrap y1 = y1 := IntWalk.i64_in _ (by omega)
  have v2 : IntKind.i64.wrap y2 = y2 := IntWalk.i64_in _ (by omega)
  have v3 : IntKind.i64.wrap y3 = y3 := IntWalk.i64_in _ (by omega)
  have j0 : (0 : Int) < (r : Int) + 4 := by omega
  have j1 : (1 : Int) < (r : Int) + 4 := by omega
  have j2 : (2 : Int) < (r : Int) + 4 := by omega
  have j3 : (3 : Int) < (r : Int) + 4 := by omega
  have ways : ∃ m : Int, (if F = 1 then (4 : Int) else if F = 2 then 16 else 0) = m ∧ (m = 0 ∨ (m = 4 ∧ (32 < y2 ∨ (y2 ≤ 32 ∧ 32 < y3))) ∨ (m = 16 ∧ (128 < y2 ∨ (y2 ≤ 128 ∧ 128 < y3)))) := by
    refine ⟨_, rfl, ?_⟩
    rcases not_SOk p2 p3 hk with ⟨g1, g2⟩ | ⟨rfl, g⟩ | ⟨rfl, g⟩
    · rw [if_neg g1, if_neg g2]; exact .inl rfl
    · exact .inr (.inl ⟨rfl, g⟩)
    · exact .inr (.inr ⟨rfl, g⟩)
  obtain ⟨m, hm, ways⟩ := ways
  have CS := hid (size_is F m hm)
  clear hk hm
  rcases ways with rfl | ⟨rfl, g | ⟨_, g⟩⟩ | ⟨rfl, g | ⟨_, g⟩⟩
  all_goals
    go_enter Try.func26, Try.ntmps26
    go_wp2_with fail
    go_region_held3 (fun w' => w'.cell? ⟨b, o, none⟩ = some (.int .u8 y0) ∧ w'.cell? ⟨b, o + 1, none⟩ = some (.int .u8 y1) ∧ w'.cell? ⟨b, o + 2, none⟩ = some (.int .u8 y2) ∧ w'.cell? ⟨b, o + 3, none⟩ = some (.int .u8 y3)) (go_keep) (fail)
    all_goals
      clear v0 v01 v1 v2 v3 two
      go_wp2_with (go_at_call 53; refine (CS.out _).mono ?_; rintro e w1 ⟨rfl, rfl⟩)
      refine bodyPost_ret (v := .tuple #[subnetV 0 0 0 none 0 0, .iface 65 (.int .i64 6)]) (by simp [results, Try.results26, go_sem]) rfl ⟨rfl, ?_⟩
      (repeat' (first | (with_reducible exact Below.refl _ _) | (with_reducible assumption) | (with_reducible refine below_ext0 ?_ _ _) | (with_reducible refine below_alloc0 ?_ _) | (with_reducible refine Below.ext ?_ ?_ _ _) | (with_reducible refine Below.alloc ?_ ?_ _) | (with_reducible refine Below.setCell ?_ ?_ _) | (with_reducible refine Below.drew ?_) | (with_reducible refine below_draws ?_ _) | go_size | (simp [size_ext]; done) | (simp [size_ext]; omega)))
end Go.Proofs.Ytkdfiedemhjjjaa
