/- rr: Write. -/
import Derived.Test.YtkdfiedemhjjjaaRrA
import Derived.Test.YtkdfiedemhjjjaaSim
namespace Go.Proofs.Ytkdfiedemhjjjaa
open Go.RowKit
set_option linter.unusedVariables false

/-- what Write hands back: two rows of the call's own -/
structure RrO (w w' : World) (m : List UInt8) (ss : List Int) (r : RecT) (v v' : Value) : Prop where
  out : w'.ownsRow w.heap.size 5 1 v (recB m ss r).length (bytesV (recB m ss r))
  all : w'.ownsRow w.heap.size 3 1 v' (ss ++ packN m ss r.1 m.length).length (intsV (ss ++ packN m ss r.1 m.length))
  ints : ∀ s ∈ ss ++ packN m ss r.1 m.length, I64 s
  lenX : (recB m ss r).length ≤ m.length + 65535 + 265
  lenY : (ss ++ packN m ss r.1 m.length).length ≤ ss.length + 255
theorem rr_cells (P d : List UInt8) (T C L : Int) (n : Nat) (hn : d.length = n) (hT : 0 ≤ T ∧ T ≤ 65535) (hC : 0 ≤ C ∧ C ≤ 65535) (hL : 0 ≤ L ∧ L ≤ 4294967295) (hd : n ≤ 65535) :
    bytesV P ++ [Value.int .u8 (T / 256), .int .u8 (T % 256), .int .u8 (C / 256), .int .u8 (C % 256)] ++ [Value.int .u8 (L / 16777216), .int .u8 (L / 65536 % 256), .int .u8 (L / 256 % 256), .int .u8 (L % 256), .int .u8 ((n : Int) / 256), .int .u8 ((n : Int) % 256)] ++ (d.map fun b => Value.int .u8 (b.toNat : Int)) = bytesV (P ++ recTail T C L d) := by
  subst hn
  have c : ∀ x : Int, 0 ≤ x → x ≤ 255 → ((UInt8.ofNat x.toNat).toNat : Int) = x := fun x h0 h1 => by rw [UInt8.toNat_ofNat']; omega
  simp only [recTail, two2, bytesV, List.map_append, List.map_cons, List.map_nil]
  rw [c (T / 256 % 256) (by omega) (by omega), c (T % 256) (by omega) (by omega), c (C / 256 % 256) (by omega) (by omega), c (C % 256) (by omega) (by omega), c (L / 65536 / 256 % 256) (by omega) (by omega), c (L / 65536 % 256) (by omega) (by omega), c (L % 65536 / 256 % 256) (by omega) (by omega), c (L % 65536 % 256) (by omega) (by omega), c ((d.length : Int) / 256 % 256) (by omega) (by omega), c ((d.length : Int) % 256) (by omega) (by omega)]
  rw [show T / 256 % 256 = T / 256 by omega, show C / 256 % 256 = C / 256 by omega, show L / 65536 / 256 % 256 = L / 16777216 by omega, show L % 65536 / 256 % 256 = L / 256 % 256 by omega, show L % 65536 % 256 = L % 256 by omega, show (d.length : Int) / 256 % 256 = (d.length : Int) / 256 by omega]
  simp

set_option maxRecDepth 100000 in
set_option maxHeartbeats 4000000 in
theorem rwrite_ok {w : World} {A : Option Addr} {n c : Nat} {m : List UInt8} (hM : Rd u8R w w.heap.size A n c m) {A1 : Option Addr} {n1 c1 : Nat} {ss : List Int} (hS : Rd intR w w.heap.size A1 n1 c1 ss) {A3 : Option Addr} {n3 c3 : Nat} {l : List ByteArray} (hL : Rd strR w w.heap.size A3 n3 c3 l) {T C L : Int} {A4 : Option Addr} {n4 c4 : Nat} {d : List UInt8} (hD : Rd u8R w w.heap.size A4 n4 c4 d)
    (hlim : n + 65536 + 512 ≤ 140737488355328) (hlim1 : n1 * 8 + 4096 ≤ 140737488355328) (hf : recErr (l, T, C, L, d, ()) = 0) :
    Calls Try.prog 8 #[.slice A n c, .slice A1 n1 c1, .agg #[.slice A3 n3 c3, .int .i64 T, .int .i64 C, .int .i64 L, .slice A4 n4 c4]] w fun e w' => ∃ v v', e = .returned (.tuple #[v, v', .nilIface]) ∧ RrO w w' m ss (l, T, C, L, d, ()) v v' ∧ Below w.heap.size w w' := by
  obtain ⟨h0, ⟨t1, t2⟩, ⟨u1, u2⟩, ⟨x1, x2⟩, h4⟩ := recErr_zero hf
  simp only at h0 t1 t2 u1 u2 x1 x2 h4
  have hmn := hM.len
  have hdn := hD.len
  have hsn := hS.len
  have hn := hM.cap
  have hok := nameErr_zero.1 h0
  have hls : lsum l ≤ 254 := by have := hok.2; rw [nsize_lsum] at this; omega
  have hp := packT_len m ss l hok.1
  have hXl : (m ++ packT m ss l).length ≤ n + 255 := by rw [List.length_append]; omega
  have hXe : recB m ss (l, T, C, L, d, ()) = m ++ packT m ss l ++ recTail T C L d := rfl
  have CP : ∀ w', Below w.heap.size w w' → Calls Try.prog 28 #[.slice A n c, .slice A1 n1 c1, .slice A3 n3 c3] w' fun e w2 => ∃ v v', e = .returned (.tuple #[v, v', .nilIface]) ∧ OwnP w' w2 m ss l v v' ∧ Below w'.heap.size w' w2 := fun w' hb => by
    refine (pack_own w' A n c m (hM.later hb) A1 n1 c1 ss (hS.later hb) A3 n3 c3 l (hL.later hb) (by omega) (by omega)).mono ?_
    rintro e w2 ⟨hb2, he⟩
    rw [if_pos h0] at he
    obtain ⟨v, v', he, ho⟩ := he
    exact ⟨v, v', he, ho, hb2⟩
  replace CP := hid CP
  have SD := hid fun w' (hb : Below w.heap.size w w') => (hD.later hb).src_u8
  have d4 : n4 ≤ 65535 := by omega
  have HX := hid hXe
  have hl1 : (recB m ss (l, T, C, L, d, ())).length ≤ m.length + 65535 + 265 := by rw [hXe, List.length_append, recTail_len, hmn]; omega
  have hl2 : (ss ++ packN m ss l m.length).length ≤ ss.length + 255 := by
    have h1 := packN_len m ss l m.length
    have h2 := lsum_len l
    rw [List.length_append]; omega
  have HLB := hid (And.intro hl1 hl2)
  clear hl1 hl2
  have HDN := hid hdn
  obtain ⟨N, hN⟩ : ∃ N, (m ++ packT m ss l).length = N := ⟨_, rfl⟩
  have HN := hid hN
  have hNb : N ≤ n + 255 := by omega
  clear hM hS hL hD hf hok hp hXl hXe hN hls hmn hdn hsn
  have r0 : ¬ T < 0 := by omega
  have r1 : ¬ 65535 < T := by omega
  have r2 : ¬ C < 0 := by omega
  have r3 : ¬ 65535 < C := by omega
  have r4 : ¬ L < 0 := by omega
  have r5 : ¬ 0 < L / 4294967296 := by omega
  have r6 : ¬ (65535 : Int) < (n4 : Int) := by omega
  have e0 : decide (T < 0) = false := decide_eq_false r0
  have e1 : decide (65535 < T) = false := decide_eq_false r1
  have e2 : decide (C < 0) = false := decide_eq_false r2
  have e3 : decide (65535 < C) = false := decide_eq_false r3
  have e4 : decide (L < 0) = false := decide_eq_false r4
  have e5 : decide (0 < L / 4294967296) = false := decide_eq_false r5
  have e6 : decide ((65535 : Int) < (n4 : Int)) = false := decide_eq_false r6
  have ab1 : (N + 4) * 1 ≤ 140737488355328 := by omega
  have ab2 : N + 4 ≤ maxLen := by unfold maxLen; omega
  have ab3 : (N + 4 + 6) * 1 ≤ 140737488355328 := by omega
  have ab4 : N + 4 + 6 ≤ maxLen := by unfold maxLen; omega
  have ab5 : (N + 4 + 6 + n4) * 1 ≤ 140737488355328 := by omega
  have ab6 : N + 4 + 6 + n4 ≤ maxLen := by unfold maxLen; omega
  have tk0 : True := trivial; have tk1 : True := trivial; have tk2 : True := trivial; have tk3 : True := trivial; have tk4 : True := trivial; have tk5 : True := trivial; have tk6 : True := trivial; have tk7 : True := trivial; have tk8 : True := trivial; have tk9 : True := trivial; have tk10 : True := trivial; have tk11 : True := trivial; have tk12 : True := trivial
  go_enter Try.func8, Try.ntmps8
  go_wp2_with (first
    | (go_at_call 28; have _t := tk1; (with_reducible refine (CP.out _ (by (repeat' (first | (with_reducible exact Below.refl _ _) | (with_reducible assumption) | (with_reducible refine below_ext0 ?_ _ _) | (with_reducible refine below_alloc0 ?_ _) | (with_reducible refine Below.ext ?_ ?_ _ _) | (with_reducible refine Below.alloc ?_ ?_ _) | (with_reducible refine Below.setCell ?_ ?_ _) | (with_reducible refine Below.drew ?_) | (with_reducible refine below_draws ?_ _) | go_size | (simp [size_ext]; done) | (simp [size_ext]; omega))))).mono ?_); rintro e w1 ⟨v1, v1', rfl, ho1, hb1⟩; have ho1' := own_less (base' := w.heap.size + 1) ho1.out (by simp); rw [HN.out] at ho1'; have HO1 := hid ho1'; have HP1 := hid ho1; have HB1 := hid hb1; have z1 := hb1.size; simp only [World.size_alloc] at z1; have k1 := (Blk.new w 26 #[.slice A3 n3 c3, .int .i64 T, .int .i64 C, .int .i64 L, .slice A4 n4 c4]).below hb1 (by simp); have c10 := k1.cell 0; have c11 := k1.cell 1; have c12 := k1.cell 2; have c13 := k1.cell 3; have c14 := k1.cell 4; have KB1 := hid k1; clear ho1 ho1' hb1 k1 tk1)
    | (at_builtin; have _t := tk2; refine wpList_appT rfl _ _ 22 rfl (w.heap.size + 1) 5 1 1 el_u8 v1 N _ rfl (HO1.out.alloc _) _ 4 4 _ rfl (src_lit _ rfl (by simp [Value.oneCell']) rfl) ab1 ab2 (by simp; omega) ?_; intro v2 w2 ho2 ha2; have hb2 := ha2.below (HO1.out.alloc _) (by simp; omega); have k2 := (KB1.out.alloc _).below hb2 (by omega); have c20 := k2.cell 0; have c21 := k2.cell 1; have c22 := k2.cell 2; have c23 := k2.cell 3; have c24 := k2.cell 4; have z2 := hb2.size; simp only [World.size_alloc] at z2; have HO2 := hid ho2; have HA2 := hid ha2; have HB2 := hid hb2; have KB2 := hid k2; clear ho2 ha2 hb2 k2 tk2)
    | (at_builtin; have _t := tk3; refine wpList_appT rfl _ _ 22 rfl (w.heap.size + 1) 5 1 1 el_u8 v2 (N + 4) _ rfl (HO2.out.alloc _) _ 6 6 _ rfl (src_lit _ rfl (by simp [Value.oneCell']) rfl) ab3 ab4 (by simp; omega) ?_; intro v3 w3 ho3 ha3; have hb3 := ha3.below (HO2.out.alloc _) (by simp; omega); have k3 := (KB2.out.alloc _).below hb3 (by omega); have c30 := k3.cell 0; have c31 := k3.cell 1; have c32 := k3.cell 2; have c33 := k3.cell 3; have c34 := k3.cell 4; have z3 := hb3.size; simp only [World.size_alloc] at z3; have HW3 := hid (Below.trans ((Below.trans ((Below.trans ((Below.refl w.heap.size w).alloc (Nat.le_refl _) _) (HB1.out.mono (by simp))).alloc (by omega) _) (HB2.out.mono (by omega))).alloc (by omega) _) (hb3.mono (by omega))); have HO3 := hid ho3; have HA3 := hid ha3; have HB3 := hid hb3; clear ho3 ha3 hb3 k3 tk3)
    | (at_builtin; have _t := tk4; refine wpList_appT rfl _ _ 22 rfl (w.heap.size + 1) 5 1 1 el_u8 v3 (N + 4 + 6) _ rfl HO3.out _ n4 c4 _ rfl (SD.out _ HW3.out) ab5 ab6 (by omega) ?_; intro v5 w5 ho5 ha5; have HO5 := hid ho5; have HA5 := hid ha5; clear ho5 ha5 tk4))
  go_ret3
  have hlen : (recB m ss (l, T, C, L, d, ())).length = N + 4 + 6 + n4 := by rw [HX.out, List.length_append, recTail_len, HN.out, HDN.out]; omega
  refine ⟨v5, v1', rfl, ⟨?_, ?_, HP1.out.ints, HLB.out.1, HLB.out.2⟩, ?_⟩
  · rw [hlen, HX.out, ← rr_cells _ _ _ _ _ n4 HDN.out ⟨t1, t2⟩ ⟨u1, u2⟩ ⟨x1, x2⟩ d4]
    exact own_less HO5.out (by omega)
  · obtain ⟨hall, _⟩ := ((HA2.out.alloc.trans HA3.out.alloc).trans HA5.out).other HP1.out.all HP1.out.apart.symm
    exact own_less hall (by simp)
  · exact HW3.out.trans ((HA5.out.below HO3.out (by omega)).mono (by omega))
/-- what is not as it may be -/
theorem rwrite_bad {w : World} {A : Option Addr} {n c : Nat} {m : List UInt8} (hM : Rd u8R w w.heap.size A n c m) {A1 : Option Addr} {n1 c1 : Nat} {ss : List Int} (hS : Rd intR w w.heap.size A1 n1 c1 ss) {A3 : Option Addr} {n3 c3 : Nat} {l : List ByteArray} (hL : Rd strR w w.heap.size A3 n3 c3 l) {T C L : Int} {A4 : Option Addr} {n4 c4 : Nat} {d : List UInt8} (hD : Rd u8R w w.heap.size A4 n4 c4 d) (hT : I64 T) (hC : I64 C) (hTL : I64 L)
    (hlim : n + 65536 + 512 ≤ 140737488355328) (hlim1 : n1 * 8 + 4096 ≤ 140737488355328) {k : Int} (hf : recErr (l, T, C, L, d, ()) = k) (hk : k ≠ 0) :
    Calls Try.prog 8 #[.slice A n c, .slice A1 n1 c1, .agg #[.slice A3 n3 c3, .int .i64 T, .int .i64 C, .int .i64 L, .slice A4 n4 c4]] w fun e w' => e = .returned (.tuple #[.slice none 0 0, .slice none 0 0, .iface 65 (.int .i64 k)]) ∧ Below w.heap.size w w' := by
  by_cases h0 : nameErr l = 0
  · have CP : ∀ w', Below w.heap.size w w' → Calls Try.prog 28 #[.slice A n c, .slice A1 n1 c1, .slice A3 n3 c3] w' fun e w2 => ∃ v v', e = .returned (.tuple #[v, v', .nilIface]) ∧ Below w'.heap.size w' w2 := fun w' hb => by
      refine (pack_own w' A n c m (hM.later hb) A1 n1 c1 ss (hS.later hb) A3 n3 c3 l (hL.later hb) (by omega) (by omega)).mono ?_
      rintro e w2 ⟨hb2, he⟩
      rw [if_pos h0] at he
      obtain ⟨v, v', he, ho⟩ := he
      exact ⟨v, v', he, hb2⟩
    replace CP := hid CP
    have hdn := hD.len
    have hdm := hD.lim
    simp only [u8R, Nat.mul_one] at hdm
    obtain ⟨a1, a2⟩ := hT
    obtain ⟨b1, b2⟩ := hC
    obtain ⟨g1, g2⟩ := hTL
    unfold recErr at hf
    rw [if_pos h0] at hf
    simp only at hf
    rw [hdn] at hf
    clear hM hS hL hD
    have ways : (k = 6 ∧ ((T < 0) ∨ (0 ≤ T ∧ 65535 < T) ∨ (0 ≤ T ∧ T ≤ 65535 ∧ C < 0) ∨ (0 ≤ T ∧ T ≤ 65535 ∧ 0 ≤ C ∧ 65535 < C) ∨ (0 ≤ T ∧ T ≤ 65535 ∧ 0 ≤ C ∧ C ≤ 65535 ∧ L < 0) ∨ (0 ≤ T ∧ T ≤ 65535 ∧ 0 ≤ C ∧ C ≤ 65535 ∧ 0 ≤ L ∧ 4294967295 < L))) ∨ (k = 7 ∧ 0 ≤ T ∧ T ≤ 65535 ∧ 0 ≤ C ∧ C ≤ 65535 ∧ 0 ≤ L ∧ L ≤ 4294967295 ∧ 65535 < n4) := by
      split at hf
      · rename_i h
        split at hf
        · exact absurd hf.symm hk
        · exact .inr ⟨hf.symm, h.1, h.2.1, h.2.2.1, h.2.2.2.1, h.2.2.2.2.1, h.2.2.2.2.2, by omega⟩
      · rename_i h
        exact .inl ⟨hf.symm, by omega⟩
    clear hf hk hlim hlim1
    rcases ways with ⟨rfl, h⟩ | ⟨rfl, q1, q2, q3, q4, q5, q6, q7⟩
    · rcases h with q1 | ⟨q1, q2⟩ | ⟨q1, q2, q3⟩ | ⟨q1, q2, q3, q4⟩ | ⟨q1, q2, q3, q4, q5⟩ | ⟨q1, q2, q3, q4, q5, q6⟩
      all_goals
        try (have p0 : ¬ (T < 0) := by omega)
        try (have p0 : T < 0 := by omega)
        try (have e0 : decide (T < 0) = false := decide_eq_false (by omega))
        try (have e0 : decide (T < 0) = true := decide_eq_true (by omega))
        try (have p1 : ¬ (65535 < T) := by omega)
        try (have p1 : 65535 < T := by omega)
        try (have e1 : decide (65535 < T) = false := decide_eq_false (by omega))
        try (have e1 : decide (65535 < T) = true := decide_eq_true (by omega))
        try (have p2 : ¬ (C < 0) := by omega)
        try (have p2 : C < 0 := by omega)
        try (have e2 : decide (C < 0) = false := decide_eq_false (by omega))
        try (have e2 : decide (C < 0) = true := decide_eq_true (by omega))
        try (have p3 : ¬ (65535 < C) := by omega)
        try (have p3 : 65535 < C := by omega)
        try (have e3 : decide (65535 < C) = false := decide_eq_false (by omega))
        try (have e3 : decide (65535 < C) = true := decide_eq_true (by omega))
        try (have p4 : ¬ (L < 0) := by omega)
        try (have p4 : L < 0 := by omega)
        try (have e4 : decide (L < 0) = false := decide_eq_false (by omega))
        try (have e4 : decide (L < 0) = true := decide_eq_true (by omega))
        try (have p5 : ¬ (0 < L / 4294967296) := by omega)
        try (have p5 : 0 < L / 4294967296 := by omega)
        try (have e5 : decide (0 < L / 4294967296) = false := decide_eq_false (by omega))
        try (have e5 : decide (0 < L / 4294967296) = true := decide_eq_true (by omega))
        try (have p6 : ¬ ((65535 : Int) < (n4 : Int)) := by omega)
        try (have p6 : (65535 : Int) < (n4 : Int) := by omega)
        try (have e6 : decide ((65535 : Int) < (n4 : Int)) = false := decide_eq_false (by omega))
        try (have e6 : decide ((65535 : Int) < (n4 : Int)) = true := decide_eq_true (by omega))
        have tk0 : True := trivial; have tk1 : True := trivial; have tk2 : True := trivial; have tk3 : True := trivial; have tk4 : True := trivial; have tk5 : True := trivial; have tk6 : True := trivial; have tk7 : True := trivial; have tk8 : True := trivial; have tk9 : True := trivial; have tk10 : True := trivial; have tk11 : True := trivial; have tk12 : True := trivial
        go_enter Try.func8, Try.ntmps8
        go_wp2_with (go_at_call 28; (with_reducible refine (CP.out _ (by (repeat' (first | (with_reducible exact Below.refl _ _) | (with_reducible assumption) | (with_reducible refine below_ext0 ?_ _ _) | (with_reducible refine below_alloc0 ?_ _) | (with_reducible refine Below.ext ?_ ?_ _ _) | (with_reducible refine Below.alloc ?_ ?_ _) | (with_reducible refine Below.setCell ?_ ?_ _) | (with_reducible refine Below.drew ?_) | (with_reducible refine below_draws ?_ _) | go_size | (simp [size_ext]; done) | (simp [size_ext]; omega))))).mono ?_); rintro e w1 ⟨v1, v1', rfl, hb1⟩; obtain ⟨o1, d1, rfl⟩ := ext_of_below hb1; clear hb1)
        go_ret3
        exact ⟨rfl, (by (repeat' (first | (with_reducible exact Below.refl _ _) | (with_reducible assumption) | (with_reducible refine below_ext0 ?_ _ _) | (with_reducible refine below_alloc0 ?_ _) | (with_reducible refine Below.ext ?_ ?_ _ _) | (with_reducible refine Below.alloc ?_ ?_ _) | (with_reducible refine Below.setCell ?_ ?_ _) | (with_reducible refine Below.drew ?_) | (with_reducible refine below_draws ?_ _) | go_size | (simp [size_ext]; done) | (simp [size_ext]; omega))))⟩
    · skip
      try (have p0 : ¬ (T < 0) := by omega)
      try (have p0 : T < 0 := by omega)
      try (have e0 : decide (T < 0) = false := decide_eq_false (by omega))
      try (have e0 : decide (T < 0) = true := decide_eq_true (by omega))
      try (have p1 : ¬ (65535 < T) := by omega)
      try (have p1 : 65535 < T := by omega)
      try (have e1 : decide (65535 < T) = false := decide_eq_false (by omega))
      try (have e1 : decide (65535 < T) = true := decide_eq_true (by omega))
      try (have p2 : ¬ (C < 0) := by omega)
      try (have p2 : C < 0 := by omega)
      try (have e2 : decide (C < 0) = false := decide_eq_false (by omega))
      try (have e2 : decide (C < 0) = true := decide_eq_true (by omega))
      try (have p3 : ¬ (65535 < C) := by omega)
      try (have p3 : 65535 < C := by omega)
      try (have e3 : decide (65535 < C) = false := decide_eq_false (by omega))
      try (have e3 : decide (65535 < C) = true := decide_eq_true (by omega))
      try (have p4 : ¬ (L < 0) := by omega)
      try (have p4 : L < 0 := by omega)
      try (have e4 : decide (L < 0) = false := decide_eq_false (by omega))
      try (have e4 : decide (L < 0) = true := decide_eq_true (by omega))
      try (have p5 : ¬ (0 < L / 4294967296) := by omega)
      try (have p5 : 0 < L / 4294967296 := by omega)
      try (have e5 : decide (0 < L / 4294967296) = false := decide_eq_false (by omega))
      try (have e5 : decide (0 < L / 4294967296) = true := decide_eq_true (by omega))
      try (have p6 : ¬ ((65535 : Int) < (n4 : Int)) := by omega)
      try (have p6 : (65535 : Int) < (n4 : Int) := by omega)
      try (have e6 : decide ((65535 : Int) < (n4 : Int)) = false := decide_eq_false (by omega))
      try (have e6 : decide ((65535 : Int) < (n4 : Int)) = true := decide_eq_true (by omega))
      have tk0 : True := trivial; have tk1 : True := trivial; have tk2 : True := trivial; have tk3 : True := trivial; have tk4 : True := trivial; have tk5 : True := trivial; have tk6 : True := trivial; have tk7 : True := trivial; have tk8 : True := trivial; have tk9 : True := trivial; have tk10 : True := trivial; have tk11 : True := trivial; have tk12 : True := trivial
      go_enter Try.func8, Try.ntmps8
      go_wp2_with (go_at_call 28; (with_reducible refine (CP.out _ (by (repeat' (first | (with_reducible exact Below.refl _ _) | (with_reducible assumption) | (with_reducible refine below_ext0 ?_ _ _) | (with_reducible refine below_alloc0 ?_ _) | (with_reducible refine Below.ext ?_ ?_ _ _) | (with_reducible refine Below.alloc ?_ ?_ _) | (with_reducible refine Below.setCell ?_ ?_ _) | (with_reducible refine Below.drew ?_) | (with_reducible refine below_draws ?_ _) | go_size | (simp [size_ext]; done) | (simp [size_ext]; omega))))).mono ?_); rintro e w1 ⟨v1, v1', rfl, hb1⟩; obtain ⟨o1, d1, rfl⟩ := ext_of_below hb1; clear hb1)
      go_ret3
      exact ⟨rfl, (by (repeat' (first | (with_reducible exact Below.refl _ _) | (with_reducible assumption) | (with_reducible refine below_ext0 ?_ _ _) | (with_reducible refine below_alloc0 ?_ _) | (with_reducible refine Below.ext ?_ ?_ _ _) | (with_reducible refine Below.alloc ?_ ?_ _) | (with_reducible refine Below.setCell ?_ ?_ _) | (with_reducible refine Below.drew ?_) | (with_reducible refine below_draws ?_ _) | go_size | (simp [size_ext]; done) | (simp [size_ext]; omega))))⟩
  · have CP : ∀ w', Below w.heap.size w w' → Calls Try.prog 28 #[.slice A n c, .slice A1 n1 c1, .slice A3 n3 c3] w' fun e w2 => e = .returned (.tuple #[.slice none 0 0, .slice none 0 0, .iface 65 (.int .i64 k)]) ∧ Below w'.heap.size w' w2 := fun w' hb => by
      unfold recErr at hf
      rw [if_neg h0] at hf
      exact pack_bad (hM.later hb) (hS.later hb) (hL.later hb) (by omega) (by omega) hf hk
    replace CP := hid CP
    clear hM hS hL hD h0 hf hlim hlim1
    have tk0 : True := trivial; have tk1 : True := trivial; have tk2 : True := trivial; have tk3 : True := trivial; have tk4 : True := trivial; have tk5 : True := trivial; have tk6 : True := trivial; have tk7 : True := trivial; have tk8 : True := trivial; have tk9 : True := trivial; have tk10 : True := trivial; have tk11 : True := trivial; have tk12 : True := trivial
    go_enter Try.func8, Try.ntmps8
    go_wp2_with (go_at_call 28; have _t := tk1; (with_reducible refine (CP.out _ (by (repeat' (first | (with_reducible exact Below.refl _ _) | (with_reducible assumption) | (with_reducible refine below_ext0 ?_ _ _) | (with_reducible refine below_alloc0 ?_ _) | (with_reducible refine Below.ext ?_ ?_ _ _) | (with_reducible refine Below.alloc ?_ ?_ _) | (with_reducible refine Below.setCell ?_ ?_ _) | (with_reducible refine Below.drew ?_) | (with_reducible refine below_draws ?_ _) | go_size | (simp [size_ext]; done) | (simp [size_ext]; omega))))).mono ?_); rintro e w1 ⟨rfl, hb⟩; obtain ⟨otk1, dtk1, rfl⟩ := ext_of_below hb; clear hb tk1)
    go_ret3
    exact ⟨rfl, (by (repeat' (first | (with_reducible exact Below.refl _ _) | (with_reducible assumption) | (with_reducible refine below_ext0 ?_ _ _) | (with_reducible refine below_alloc0 ?_ _) | (with_reducible refine Below.ext ?_ ?_ _ _) | (with_reducible refine Below.alloc ?_ ?_ _) | (with_reducible refine Below.setCell ?_ ?_ _) | (with_reducible refine Below.drew ?_) | (with_reducible refine below_draws ?_ _) | go_size | (simp [size_ext]; done) | (simp [size_ext]; omega))))⟩
end Go.Proofs.Ytkdfiedemhjjjaa
