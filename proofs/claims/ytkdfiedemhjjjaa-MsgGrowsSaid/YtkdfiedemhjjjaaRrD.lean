/- records: how one lies in memory; are two the same; a record sent, as the laws meet it; a store into a row of the call's own. -/
import Derived.Test.YtkdfiedemhjjjaaRrB
import Derived.Test.YtkdfiedemhjjjaaRrC
namespace Go.Proofs.Ytkdfiedemhjjjaa
open Go.RowKit
set_option linter.unusedVariables false

abbrev recR : Rep RecT := pairR (sliceR strR) (pairR intR (pairR intR (pairR intR (pairR (sliceR u8R) unitR))))
theorem opens_record : Opens Try.prog 26 recR := opens_struct Try.underlying26 rfl (by kernel_rfl) (fields_cons rfl (by kernel_rfl) (opens_slice Try.underlying24 (opens_str Try.underlying9) (by kernel_rfl) (by decide) (of_decide_eq_true (by kernel_rfl))) (fields_cons rfl (by kernel_rfl) (opens_int Try.underlying3) (fields_cons rfl (by kernel_rfl) (opens_int Try.underlying3) (fields_cons rfl (by kernel_rfl) (opens_int Try.underlying3) (fields_cons rfl (by kernel_rfl) (opens_slice Try.underlying22 (opens_u8 Try.underlying5) (by kernel_rfl) (by decide) (of_decide_eq_true (by kernel_rfl))) (fields_nil _))))))
theorem record_of {w : World} {B : Nat} {x : RecT} {cs : Array Value} (h : recR.rel w B x cs.toList) :
    ∃ A n c A' n' c' l T C L d, x = (l, T, C, L, d, ()) ∧ cs = #[.slice A n c, .int .i64 T, .int .i64 C, .int .i64 L, .slice A' n' c'] ∧ Rd strR w B A n c l ∧ (I64 T ∧ I64 C ∧ I64 L) ∧ Rd u8R w B A' n' c' d := by
  obtain ⟨l, T, C, L, d, u⟩ := x
  obtain ⟨_, _, e0, ⟨A, n, c, rfl, h1⟩, _, _, rfl, ⟨rfl, h2⟩, _, _, rfl, ⟨rfl, h3⟩, _, _, rfl, ⟨rfl, h4⟩, _, _, rfl, ⟨A', n', c', rfl, h5⟩, rfl⟩ := h
  exact ⟨A, n, c, A', n', c', l, T, C, L, d, rfl, by cases cs; simp_all, h1, ⟨h2, h3, h4⟩, h5⟩

theorem record_yes {w : World} {A1 : Option Addr} {n1 c1 B1 : Nat} {l : List ByteArray} {A2 : Option Addr} {n2 c2 B2 : Nat} {d : List UInt8} {A3 : Option Addr} {n3 c3 B3 : Nat} {A4 : Option Addr} {n4 c4 B4 : Nat} {T C L : Int} (h1 : Rd strR w B1 A1 n1 c1 l) (h2 : Rd u8R w B2 A2 n2 c2 d) (h3 : Rd strR w B3 A3 n3 c3 l) (h4 : Rd u8R w B4 A4 n4 c4 d)
    (z1 : B1 ≤ w.heap.size) (z2 : B2 ≤ w.heap.size) (z3 : B3 ≤ w.heap.size) (z4 : B4 ≤ w.heap.size) :
    Calls Try.prog 10 #[.agg #[.slice A1 n1 c1, .int .i64 T, .int .i64 C, .int .i64 L, .slice A2 n2 c2], .agg #[.slice A3 n3 c3, .int .i64 T, .int .i64 C, .int .i64 L, .slice A4 n4 c4]] w fun e w' => e = .returned (.bool true) ∧ Below w.heap.size w w' := by
  have q : ∀ {B : Nat} {w' : World}, B ≤ w.heap.size → Below w.heap.size w w' → Below B w w' := fun hB hb => hb.mono hB
  have CT := hid fun w' (hb : Below w.heap.size w w') => texts_yes (h1.below (q z1 hb)) (h3.below (q z3 hb))
  have CB := hid fun w' (hb : Below w.heap.size w w') => bytes_yes (h2.below (q z2 hb)) (h4.below (q z4 hb))
  clear h1 h2 h3 h4 q
  have tk0 : True := trivial; have tk1 : True := trivial; have tk2 : True := trivial; have tk3 : True := trivial; have tk4 : True := trivial; have tk5 : True := trivial; have tk6 : True := trivial; have tk7 : True := trivial; have tk8 : True := trivial; have tk9 : True := trivial; have tk10 : True := trivial; have tk11 : True := trivial; have tk12 : True := trivial
  go_enter Try.func10, Try.ntmps10
  go_wp2_with (first
    | (go_at_call 32; have _t := tk1; (with_reducible refine (CT.out _ (by (repeat' (first | (with_reducible exact Below.refl _ _) | (with_reducible assumption) | (with_reducible refine below_ext0 ?_ _ _) | (with_reducible refine below_alloc0 ?_ _) | (with_reducible refine Below.ext ?_ ?_ _ _) | (with_reducible refine Below.alloc ?_ ?_ _) | (with_reducible refine Below.setCell ?_ ?_ _) | (with_reducible refine Below.drew ?_) | (with_reducible refine below_draws ?_ _) | go_size | (simp [size_ext]; done) | (simp [size_ext]; omega))))).mono ?_); rintro e w1 ⟨rfl, hb⟩; obtain ⟨otk1, dtk1, rfl⟩ := ext_of_below hb; clear hb tk1)
    | (go_at_call 13; have _t := tk2; (with_reducible refine (CB.out _ (by (repeat' (first | (with_reducible exact Below.refl _ _) | (with_reducible assumption) | (with_reducible refine below_ext0 ?_ _ _) | (with_reducible refine below_alloc0 ?_ _) | (with_reducible refine Below.ext ?_ ?_ _ _) | (with_reducible refine Below.alloc ?_ ?_ _) | (with_reducible refine Below.setCell ?_ ?_ _) | (with_reducible refine Below.drew ?_) | (with_reducible refine below_draws ?_ _) | go_size | (simp [size_ext]; done) | (simp [size_ext]; omega))))).mono ?_); rintro e w1 ⟨rfl, hb⟩; obtain ⟨otk2, dtk2, rfl⟩ := ext_of_below hb; clear hb tk2))
  go_ret
  exact ⟨by simp, (by (repeat' (first | (with_reducible exact Below.refl _ _) | (with_reducible assumption) | (with_reducible refine below_ext0 ?_ _ _) | (with_reducible refine below_alloc0 ?_ _) | (with_reducible refine Below.ext ?_ ?_ _ _) | (with_reducible refine Below.alloc ?_ ?_ _) | (with_reducible refine Below.setCell ?_ ?_ _) | (with_reducible refine Below.drew ?_) | (with_reducible refine below_draws ?_ _) | go_size | (simp [size_ext]; done) | (simp [size_ext]; omega))))⟩

/-- a store into a row of the call's own -/
theorem own_set {w : World} {base g n cap : Nat} {e : TypeId} {xs : List Value} (h : w.ownsRow base e 1 (.slice (some ⟨g, 0, none⟩) n cap) n xs) (i : Nat) (u : Value) : (w.setCell ⟨g, i, none⟩ u).ownsRow base e 1 (.slice (some ⟨g, 0, none⟩) n cap) n (xs.set i u) := by
  refine ⟨by rw [List.length_set]; exact h.1, ?_⟩
  rcases h.2 with ⟨h1, _⟩ | ⟨g', cap', cur, h1, hb, hh, hn, hc, hs, ht⟩
  · cases h1
  · cases h1
    refine .inr ⟨g, cap, cur.setIfInBounds i u, rfl, hb, Blk.set (show Blk w g e cur from hh) i u, hn, hc, by simpa using hs, ?_⟩
    rw [Array.toList_setIfInBounds, List.take_set, ht]
theorem own_cell {w : World} {base g n cap : Nat} {e : TypeId} {xs : List Value} (h : w.ownsRow base e 1 (.slice (some ⟨g, 0, none⟩) n cap) n xs) (i : Nat) (hi : i < n) : ∃ u, w.cell? ⟨g, i, none⟩ = some u ∧ w.frozen? ⟨g, i, none⟩ = false := by
  rcases h.2 with ⟨h1, _⟩ | ⟨g', cap', cur, h1, hb, hh, hn, hc, hs, ht⟩
  · cases h1
  · cases h1
    have hk : Blk w g e cur := hh
    refine ⟨cur[i]'(by omega), ?_, hk.frozen i⟩
    rw [hk.cell, Array.getElem?_eq_getElem]
/-- the four stores of a TTL -/
@[reducible] def ttlW (w : World) (g a : Nat) (L : Int) : World := (((w.setCell ⟨g, a, none⟩ (.int .u8 (L / 16777216))).setCell ⟨g, a + 1, none⟩ (.int .u8 (L / 65536 % 256))).setCell ⟨g, a + 2, none⟩ (.int .u8 (L / 256 % 256))).setCell ⟨g, a + 3, none⟩ (.int .u8 (L % 256))
/-- another TTL stored in its place -/
theorem rd_ttl {w : World} {base g n cap : Nat} {P d : List UInt8} {T C L L' : Int} (ho : w.ownsRow base 5 1 (.slice (some ⟨g, 0, none⟩) n cap) n (bytesV (P ++ recTail T C L d))) (hb : base ≤ w.heap.size) (a : Nat) (ha : a = P.length + 4) (hL : 0 ≤ L' ∧ L' ≤ 4294967295) (hn : n ≤ 140737488355328) :
    Rd u8R (ttlW w g a L') (ttlW w g a L').heap.size (some ⟨g, 0, none⟩) n cap (P ++ recTail T C L' d) := by
  have h4 := own_set (own_set (own_set (own_set ho a (.int .u8 (L' / 16777216))) (a + 1) (.int .u8 (L' / 65536 % 256))) (a + 2) (.int .u8 (L' / 256 % 256))) (a + 3) (.int .u8 (L' % 256))
  have c : ∀ x : Int, 0 ≤ x → x ≤ 255 → Value.int .u8 x = Value.int .u8 ((UInt8.ofNat x.toNat).toNat : Int) := fun x h0 h1 => by congr 1; rw [UInt8.toNat_ofNat']; omega
  have hset := recB_ttl P d T C L L' a ha
  have e : (((((bytesV (P ++ recTail T C L d)).set a (.int .u8 (L' / 16777216))).set (a + 1) (.int .u8 (L' / 65536 % 256))).set (a + 2) (.int .u8 (L' / 256 % 256))).set (a + 3) (.int .u8 (L' % 256))) = bytesV (P ++ recTail T C L' d) := by
    rw [← hset, c (L' / 16777216) (by omega) (by omega), c (L' / 65536 % 256) (by omega) (by omega), c (L' / 256 % 256) (by omega) (by omega), c (L' % 256) (by omega) (by omega)]
    rw [show L' / 65536 / 256 % 256 = L' / 16777216 by omega, show L' % 65536 / 256 % 256 = L' / 256 % 256 by omega, show L' % 65536 % 256 = L' % 256 by omega]
    simp only [bytesV, List.map_set]
  rw [e] at h4
  have hl : (P ++ recTail T C L' d).length = n := by
    have := ho.1
    simp only [bytesV, List.length_map, List.length_append, recTail_len, Nat.mul_one] at this
    rw [List.length_append, recTail_len]; omega
  subst hl
  obtain ⟨A', c', he, hr⟩ := own_rd_u8 h4 (by simpa using hb) hn
  cases he
  exact hr

/-- a record sent, as the laws meet it -/
theorem rwrite_rd {w : World} {A : Option Addr} {n c : Nat} {m : List UInt8} (hM : Rd u8R w w.heap.size A n c m) {A1 : Option Addr} {n1 c1 : Nat} {ss : List Int} (hS : Rd intR w w.heap.size A1 n1 c1 ss) {A3 : Option Addr} {n3 c3 : Nat} {l : List ByteArray} (hL : Rd strR w w.heap.size A3 n3 c3 l) {T C L : Int} {A4 : Option Addr} {n4 c4 : Nat} {d : List UInt8} (hD : Rd u8R w w.heap.size A4 n4 c4 d)
    (hlim : n + 65536 + 512 ≤ 140737488355328) (hlim1 : n1 * 8 + 4096 ≤ 140737488355328) (hf : recErr (l, T, C, L, d, ()) = 0) {X : List UInt8} (hX : recB m ss (l, T, C, L, d, ()) = X) {Y : List Int} (hY : ss ++ packN m ss l m.length = Y) {k k2 : Nat} (hk : X.length = k) (hk2 : Y.length = k2) :
    Calls Try.prog 8 #[.slice A n c, .slice A1 n1 c1, .agg #[.slice A3 n3 c3, .int .i64 T, .int .i64 C, .int .i64 L, .slice A4 n4 c4]] w fun e w' => ∃ A' c' A2 c2, e = .returned (.tuple #[.slice A' k c', .slice A2 k2 c2, .nilIface]) ∧ (Rd u8R w' w'.heap.size A' k c' X ∧ Rd intR w' w'.heap.size A2 k2 c2 Y) ∧ Below w.heap.size w w' := by
  have hm := hM.len
  have hs := hS.len
  refine (rwrite_ok hM hS hL hD hlim hlim1 hf).mono ?_
  rintro e w' ⟨v, v', rfl, ho, hb⟩
  have h1 := ho.out
  have h2 := ho.all
  have h3 := ho.ints
  have h4 := ho.lenX
  have h5 := ho.lenY
  simp only at h2 h3 h5
  rw [hX] at h1 h4
  rw [hY] at h2 h3 h5
  subst hk hk2
  obtain ⟨A', c', rfl, hr⟩ := own_rd_u8 h1 hb.size (by omega)
  obtain ⟨A2, c2, rfl, hr2⟩ := own_rd_int h2 h3 hb.size (by omega)
  exact ⟨A', c', A2, c2, rfl, ⟨hr, hr2⟩, hb⟩
theorem rd_seven {w : World} {g : Nat} (t : TypeId) (hg : g = w.heap.size) : Rd u8R (w.alloc (.cells #[.int .u8 7] t)) (w.alloc (.cells #[.int .u8 7] t)).heap.size (some ⟨g, 0, none⟩) 1 1 [7] :=
  rd_lit t _ [7] 1 hg rfl rfl (by omega)
theorem fact_rr {w : World} {g : Nat} (t : TypeId) (hg : g = w.heap.size) : Calls Try.prog 8 #[.slice none 0 0, .slice none 0 0, .agg #[.slice none 0 0, .int .i64 1, .int .i64 0, .int .i64 0, .slice (some ⟨g, 0, none⟩) 1 1]] (w.alloc (.cells #[.int .u8 7] t)) fun e w' => ∃ A' c' A2 c2, e = .returned (.tuple #[.slice A' 12 c', .slice A2 0 c2, .nilIface]) ∧ (Rd u8R w' w'.heap.size A' 12 c' (recB [] [] ([], 1, 0, 0, [7], ())) ∧ Rd intR w' w'.heap.size A2 0 c2 []) ∧ Below (w.alloc (.cells #[.int .u8 7] t)).heap.size (w.alloc (.cells #[.int .u8 7] t)) w' :=
  rwrite_rd (rd_nil _ _) (rd_nil _ _) (rd_nil _ _) (rd_seven t hg) (by omega) (by omega) (by decide +kernel) rfl rfl rfl rfl
theorem sz_bytes (l : List UInt8) : (sliceR u8R).sz l = l.length + 1 := by
  show (l.map fun _ => 1).sum + 1 = _
  induction l with
  | nil => rfl
  | cons a l ih => simp at ih ⊢; omega
theorem sz_ints (l : List Int) : (sliceR intR).sz l = l.length + 1 := by
  show (l.map fun _ => 1).sum + 1 = _
  induction l with
  | nil => rfl
  | cons a l ih => simp at ih ⊢; omega
end Go.Proofs.Ytkdfiedemhjjjaa
