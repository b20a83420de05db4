/- The document's answers of records: WithRecord. -/
import Derived.Test.YthccknobnpbdeaaDoorK12
import Derived.Test.YthccknobnpbdeaaDoorK2
import Derived.Test.YthccknobnpbdeaaDoorK7
namespace Go.Proofs.YthccknobnpbdeaaDoor
open Go.RowKit
set_option linter.unusedVariables false
set_option linter.unusedSimpArgs false

theorem rr_two2 (P : List UInt8) (T C L : Int) (d : List UInt8) (n : Nat) (hn : d.length = n) :
    bytesV P ++ bytesV (two2 T) ++ bytesV (two2 C) ++ bytesV (two2 (L / 65536)) ++ bytesV (two2 (L % 65536)) ++ bytesV (two2 (n : Int)) ++ (d.map fun b => Value.int .u8 (b.toNat : Int)) = bytesV (P ++ recTail T C L d) := by
  subst hn
  simp only [recTail, bytesV, List.map_append, List.append_assoc]

theorem AppTo.of_below {w w' : World} (hb : Below w.heap.size w w') {base : Nat} {e : TypeId} {size n : Nat} {v : Value} {xs : List Value} (ho : w.ownsRow base e size v n xs) (_h : w.heap.size ≤ w.heap.size) : AppTo w w' v v :=
  ⟨⟨hb.os, hb.tape, hb.output, hb.size, fun k hk _ => hb.block k hk⟩, .inl rfl⟩
set_option maxRecDepth 100000 in
set_option maxHeartbeats 8000000 in
theorem withRec_ok {w : World} {A : Option Addr} {n c : Nat} {m : List UInt8} (hM : Rd u8R w w.heap.size A n c m) {A1 : Option Addr} {n1 c1 : Nat} {ss : List Int} (hS : Rd intR w w.heap.size A1 n1 c1 ss) {A3 : Option Addr} {n3 c3 : Nat} {l : List ByteArray} (hL : Rd strR w w.heap.size A3 n3 c3 l) {T C L : Int} {A4 : Option Addr} {n4 c4 : Nat} {d : List UInt8} (hD : Rd u8R w w.heap.size A4 n4 c4 d)
    (hlim : n + 65536 + 512 ≤ 140737488355328) (hlim1 : n1 * 8 + 4096 ≤ 140737488355328) (hf : recErr (l, T, C, L, d, ()) = 0) :
    Calls Tryd.prog 31 #[.slice A n c, .slice A1 n1 c1, .agg #[.slice A3 n3 c3, .int .i64 T, .int .i64 C, .int .i64 L, .slice A4 n4 c4]] w fun e w' => ∃ v v', e = .returned (.tuple #[v, v']) ∧ RrO w w' m ss (l, T, C, L, d, ()) v v' ∧ Below w.heap.size w w' := by
  obtain ⟨h0, ⟨t1, t2⟩, ⟨u1, u2⟩, ⟨x1, x2⟩, h4⟩ := recErr_zero hf
  simp only at h0 t1 t2 u1 u2 x1 x2 h4
  have hmn := hM.len
  have hdn := hD.len
  have hsn := hS.len
  have hn := hM.cap
  have hok := nameErr_zero.1 h0
  have hls : lsum l ≤ 254 := by have := hok.2; rw [nsize_lsum] at this; omega
  have hp := packT_len m ss l hok.1
  have hXl : (m ++ packT m ss l).length ≤ n + 255 := by rw [List.length_append]; omega
  have hXe : recB m ss (l, T, C, L, d, ()) = m ++ packT m ss l ++ recTail T C L d := rfl
  have CP := hid fun w' (hb : Below w.heap.size w w') => packed_own w' A n c m (hM.later hb) A1 n1 c1 ss (hS.later hb) A3 n3 c3 l (hL.later hb) (by omega) (by omega) h0
  have SD := hid fun w' (hb : Below w.heap.size w w') => (hD.later hb).src_u8
  have d4 : n4 ≤ 65535 := by omega
  have HX := hid hXe
  have hl1 : (recB m ss (l, T, C, L, d, ())).length ≤ m.length + 65535 + 265 := by rw [hXe, List.length_append, recTail_len, hmn]; omega
  have hl2 : (ss ++ packN m ss l m.length).length ≤ ss.length + 255 := by
    have h1 := packN_len m ss l m.length
    have h2 := lsum_len l
    rw [List.length_append]; omega
  have HLB := hid (And.intro hl1 hl2)
  clear hl1 hl2
  have HDN := hid hdn
  obtain ⟨N, hN⟩ : ∃ N, (m ++ packT m ss l).length = N := ⟨_, rfl⟩
  have HN := hid hN
  have hNb : N ≤ n + 255 := by omega
  clear hM hS hL hD hf hok hp hXl hXe hN hls hmn hdn hsn
  have l1 : 0 ≤ L / 65536 := by omega
  have l2 : L / 65536 ≤ 65535 := by omega
  have l3 : 0 ≤ L % 65536 := by omega
  have l4 : L % 65536 ≤ 65535 := by omega
  have l5 : (0 : Int) ≤ (n4 : Int) := by omega
  have l6 : (n4 : Int) ≤ 65535 := by omega
  have PT := hid fun w' => rpair_any (w := w') T t1 t2
  have PC := hid fun w' => rpair_any (w := w') C u1 u2
  have PH := hid fun w' => rpair_any (w := w') (L / 65536) l1 l2
  have PL := hid fun w' => rpair_any (w := w') (L % 65536) l3 l4
  have PD := hid fun w' => rpair_any (w := w') (n4 : Int) l5 l6
  have tkA : True := trivial
  have tkB : True := trivial
  have tk0 : True := trivial; have tk1 : True := trivial; have tk2 : True := trivial; have tk3 : True := trivial; have tk4 : True := trivial; have tk5 : True := trivial; have tk6 : True := trivial; have tk7 : True := trivial; have tk8 : True := trivial; have tk9 : True := trivial; have tk10 : True := trivial; have tk11 : True := trivial; have tk12 : True := trivial
  go_enter Tryd.func31, Tryd.ntmps31
  go_wp2_with (first
    | (go_at_call 28; have _t := tk0; (with_reducible refine (CP.out _ (by (repeat' (first | (with_reducible exact Below.refl _ _) | (with_reducible assumption) | (with_reducible refine below_ext0 ?_ _ _) | (with_reducible refine below_alloc0 ?_ _) | (with_reducible refine Below.ext ?_ ?_ _ _) | (with_reducible refine Below.alloc ?_ ?_ _) | (with_reducible refine Below.setCell ?_ ?_ _) | (with_reducible refine Below.drew ?_) | (with_reducible refine below_draws ?_ _) | go_size | (simp [size_ext]; done) | (simp [size_ext]; omega))))).mono ?_); rintro e w1 ⟨v1, v1', rfl, ho1, hb1⟩; have ho1' := own_less (base' := w.heap.size + 1) ho1.out (by simp); rw [HN.out] at ho1'; have HO0 := hid ho1'; have HP1 := hid ho1; have hb0 := hb1; have z0 := hb1.size; simp only [World.size_alloc] at z0; have k0 := (Blk.new w 53 #[.slice A3 n3 c3, .int .i64 T, .int .i64 C, .int .i64 L, .slice A4 n4 c4]).below hb1 (by simp); have c00 := k0.cell 0; have c01 := k0.cell 1; have c02 := k0.cell 2; have c03 := k0.cell 3; have c04 := k0.cell 4; have KB0 := hid k0; have HW0 := hid (Below.trans ((Below.refl w.heap.size w).alloc (Nat.le_refl _) _) (hb1.mono (by simp))); clear ho1 ho1' hb1 hb0 k0 tk0)
    | (go_at_call 25; have _t := tk1; (with_reducible refine (PT.out _).mono ?_); rintro e q1 ⟨B1, f1, rfl, hr, hb⟩; have HQ1 := hid hr.src_u8; have HO1q := hid (own_low HO0.out hb (Nat.le_refl _)); have hk := KB0.out.below hb (by omega); have d10 := hk.cell 0; have d11 := hk.cell 1; have d12 := hk.cell 2; have d13 := hk.cell 3; have d14 := hk.cell 4; have zq1 := hb.size; have KB1q := hid hk; have HB1q := hid hb; have HW1q := hid (HW0.out.trans (hb.mono (by omega))); clear hr hb hk tk1)
    | (at_builtin; have _t := tk6; refine wpList_appT rfl _ _ 22 rfl (w.heap.size + 1) 5 1 1 el_u8 _ (N) _ rfl HO1q.out _ 2 _ _ rfl HQ1.out (by omega) (by unfold maxLen; omega) (by omega) ?_; intro v2 w1 ho ha; have hb := ha.below HO1q.out (by omega); have hk := KB1q.out.below hb (by omega); have c10 := hk.cell 0; have c11 := hk.cell 1; have c12 := hk.cell 2; have c13 := hk.cell 3; have c14 := hk.cell 4; have z1 := hb.size; have HO1 := hid ho; have HA1 := hid ((AppTo.of_below HB1q.out HO0.out (Nat.le_refl _)).trans ha); have KB1 := hid hk; have HW1 := hid (HW1q.out.trans (hb.mono (by omega))); clear ho ha hb hk tk6)
    | (go_at_call 25; have _t := tk2; (with_reducible refine (PC.out _).mono ?_); rintro e q2 ⟨B2, f2, rfl, hr, hb⟩; have HQ2 := hid hr.src_u8; have HO2q := hid (own_low HO1.out hb (Nat.le_refl _)); have hk := KB1.out.below hb (by omega); have d20 := hk.cell 0; have d21 := hk.cell 1; have d22 := hk.cell 2; have d23 := hk.cell 3; have d24 := hk.cell 4; have zq2 := hb.size; have KB2q := hid hk; have HB2q := hid hb; have HW2q := hid (HW1.out.trans (hb.mono (by omega))); clear hr hb hk tk2)
    | (at_builtin; have _t := tk7; refine wpList_appT rfl _ _ 22 rfl (w.heap.size + 1) 5 1 1 el_u8 _ (N + 2) _ rfl HO2q.out _ 2 _ _ rfl HQ2.out (by omega) (by unfold maxLen; omega) (by omega) ?_; intro v3 w2 ho ha; have hb := ha.below HO2q.out (by omega); have hk := KB2q.out.below hb (by omega); have c20 := hk.cell 0; have c21 := hk.cell 1; have c22 := hk.cell 2; have c23 := hk.cell 3; have c24 := hk.cell 4; have z2 := hb.size; have HO2 := hid ho; have HA2 := hid ((AppTo.of_below HB2q.out HO1.out (Nat.le_refl _)).trans ha); have KB2 := hid hk; have HW2 := hid (HW2q.out.trans (hb.mono (by omega))); clear ho ha hb hk tk7)
    | (go_at_call 25; have _t := tk3; (with_reducible refine (PH.out _).mono ?_); rintro e q3 ⟨B3, f3, rfl, hr, hb⟩; have HQ3 := hid hr.src_u8; have HO3q := hid (own_low HO2.out hb (Nat.le_refl _)); have hk := KB2.out.below hb (by omega); have d30 := hk.cell 0; have d31 := hk.cell 1; have d32 := hk.cell 2; have d33 := hk.cell 3; have d34 := hk.cell 4; have zq3 := hb.size; have KB3q := hid hk; have HB3q := hid hb; have HW3q := hid (HW2.out.trans (hb.mono (by omega))); clear hr hb hk tk3)
    | (at_builtin; have _t := tk8; refine wpList_appT rfl _ _ 22 rfl (w.heap.size + 1) 5 1 1 el_u8 _ (N + 2 + 2) _ rfl HO3q.out _ 2 _ _ rfl HQ3.out (by omega) (by unfold maxLen; omega) (by omega) ?_; intro v4 w3 ho ha; have hb := ha.below HO3q.out (by omega); have hk := KB3q.out.below hb (by omega); have c30 := hk.cell 0; have c31 := hk.cell 1; have c32 := hk.cell 2; have c33 := hk.cell 3; have c34 := hk.cell 4; have z3 := hb.size; have HO3 := hid ho; have HA3 := hid ((AppTo.of_below HB3q.out HO2.out (Nat.le_refl _)).trans ha); have KB3 := hid hk; have HW3 := hid (HW3q.out.trans (hb.mono (by omega))); clear ho ha hb hk tk8)
    | (go_at_call 25; have _t := tk4; (with_reducible refine (PL.out _).mono ?_); rintro e q4 ⟨B4, f4, rfl, hr, hb⟩; have HQ4 := hid hr.src_u8; have HO4q := hid (own_low HO3.out hb (Nat.le_refl _)); have hk := KB3.out.below hb (by omega); have d40 := hk.cell 0; have d41 := hk.cell 1; have d42 := hk.cell 2; have d43 := hk.cell 3; have d44 := hk.cell 4; have zq4 := hb.size; have KB4q := hid hk; have HB4q := hid hb; have HW4q := hid (HW3.out.trans (hb.mono (by omega))); clear hr hb hk tk4)
    | (at_builtin; have _t := tk9; refine wpList_appT rfl _ _ 22 rfl (w.heap.size + 1) 5 1 1 el_u8 _ (N + 2 + 2 + 2) _ rfl HO4q.out _ 2 _ _ rfl HQ4.out (by omega) (by unfold maxLen; omega) (by omega) ?_; intro v5 w4 ho ha; have hb := ha.below HO4q.out (by omega); have hk := KB4q.out.below hb (by omega); have c40 := hk.cell 0; have c41 := hk.cell 1; have c42 := hk.cell 2; have c43 := hk.cell 3; have c44 := hk.cell 4; have z4 := hb.size; have HO4 := hid ho; have HA4 := hid ((AppTo.of_below HB4q.out HO3.out (Nat.le_refl _)).trans ha); have KB4 := hid hk; have HW4 := hid (HW4q.out.trans (hb.mono (by omega))); clear ho ha hb hk tk9)
    | (go_at_call 25; have _t := tk5; (with_reducible refine (PD.out _).mono ?_); rintro e q5 ⟨B5, f5, rfl, hr, hb⟩; have HQ5 := hid hr.src_u8; have HO5q := hid (own_low HO4.out hb (Nat.le_refl _)); have hk := KB4.out.below hb (by omega); have d50 := hk.cell 0; have d51 := hk.cell 1; have d52 := hk.cell 2; have d53 := hk.cell 3; have d54 := hk.cell 4; have zq5 := hb.size; have KB5q := hid hk; have HB5q := hid hb; have HW5q := hid (HW4.out.trans (hb.mono (by omega))); clear hr hb hk tk5)
    | (at_builtin; have _t := tk10; refine wpList_appT rfl _ _ 22 rfl (w.heap.size + 1) 5 1 1 el_u8 _ (N + 2 + 2 + 2 + 2) _ rfl HO5q.out _ 2 _ _ rfl HQ5.out (by omega) (by unfold maxLen; omega) (by omega) ?_; intro v6 w5 ho ha; have hb := ha.below HO5q.out (by omega); have hk := KB5q.out.below hb (by omega); have c50 := hk.cell 0; have c51 := hk.cell 1; have c52 := hk.cell 2; have c53 := hk.cell 3; have c54 := hk.cell 4; have z5 := hb.size; have HO5 := hid ho; have HA5 := hid ((AppTo.of_below HB5q.out HO4.out (Nat.le_refl _)).trans ha); have KB5 := hid hk; have HW5 := hid (HW5q.out.trans (hb.mono (by omega))); clear ho ha hb hk tk10)
    | (at_builtin; have _t := tkA; refine wpList_appT rfl _ _ 22 rfl (w.heap.size + 1) 5 1 1 el_u8 _ (N + 2 + 2 + 2 + 2 + 2) _ rfl HO5.out _ n4 c4 _ rfl (SD.out _ HW5.out) (by omega) (by unfold maxLen; omega) (by omega) ?_; intro v6 w6 ho6 ha6; have HO6 := hid ho6; have HA6 := hid ha6; clear ho6 ha6 tkA))
  go_ret2
  have hlen : (recB m ss (l, T, C, L, d, ())).length = N + 2 + 2 + 2 + 2 + 2 + n4 := by rw [HX.out, List.length_append, recTail_len, HN.out, HDN.out]; omega
  refine ⟨v6, v1', rfl, ⟨?_, ?_, HP1.out.ints, HLB.out.1, HLB.out.2⟩, ?_⟩
  · rw [hlen, HX.out, ← rr_two2 _ _ _ _ _ n4 HDN.out]
    exact own_less HO6.out (by omega)
  · obtain ⟨hall, _⟩ := ((((((HA1.out.trans HA2.out).trans HA3.out).trans HA4.out).trans HA5.out)).trans HA6.out).other HP1.out.all HP1.out.apart.symm
    exact own_less hall (by simp)
  · exact HW5.out.trans ((HA6.out.below HO5.out (by omega)).mono (by omega))
end Go.Proofs.YthccknobnpbdeaaDoor
/- Rows of the call's own whose elements lead to what lay there before: appends of rows and of literals, in plain regions and in such as draw. -/
namespace Go.Proofs.YthccknobnpbdeaaDoor
open Go.RowKit
set_option linter.unusedVariables false
set_option linter.unusedSimpArgs false

/-- a row that lies at the base or behind it; its elements lead below B -/
structure OwnR {α : Type} (R : Rep α) (e : TypeId) (B base : Nat) (w : World) (v : Value) (l : List α) : Prop where
  ex : ∃ xs, w.ownsRow base e R.k v l.length xs ∧ Rels R w B l xs
  lo : B ≤ base
  le : base ≤ w.heap.size
/-- a source: it reads as m, below B -/
structure SrcR {α : Type} (R : Rep α) (B : Nat) (w : World) (A : Option Addr) (n c : Nat) (m : List α) : Prop where
  ex : ∃ ys, Src w A n c R.k ys ∧ Rels R w B m ys
  len : m.length = n
section
variable {α : Type} {P : Program} {R : Rep α} {e t : TypeId} {bytes B base : Nat} {w w' : World} {v v' : Value} {l m : List α}
theorem OwnR.nil (hB : B ≤ base) (h : base ≤ w.heap.size) : OwnR R e B base w (.slice none 0 0) [] := ⟨⟨[], World.ownsRow_nil w base e R.k, Rels.nil⟩, hB, h⟩
theorem OwnR.empty {g : Nat} (hg : g = w.heap.size) (hB : B ≤ base) (hb : base ≤ g) : OwnR R e B base (w.alloc (.cells #[] e)) (.slice (some ⟨g, 0, none⟩) 0 0) ([] : List α) :=
  ⟨⟨[], own_lit #[] [] hg hb (by simp) (by decide) rfl, Rels.nil⟩, hB, by subst hg; simp; omega⟩
theorem OwnR.ofBlk {g : Nat} (hg : Blk w g e #[]) (hB : B ≤ base) (hb : base ≤ g) : OwnR R e B base w (.slice (some ⟨g, 0, none⟩) 0 0) ([] : List α) :=
  ⟨⟨[], ⟨by simp, .inr ⟨g, 0, #[], rfl, hb, hg, Nat.le_refl _, by decide, by simp, by simp⟩⟩, Rels.nil⟩, hB, by have := hg.lt; omega⟩
theorem OwnR.below (h : OwnR R e B base w v l) (hb : Below w.heap.size w w') : OwnR R e B base w' v l := by
  obtain ⟨⟨xs, h1, h2⟩, h0, h3⟩ := h
  exact ⟨⟨xs, own_low h1 hb (Nat.le_refl _), h2.below (hb.mono (Nat.le_trans h0 h3))⟩, h0, Nat.le_trans h3 hb.size⟩
theorem OwnR.drew (h : OwnR R e B base w v l) : OwnR R e B base w.drew v l := by
  obtain ⟨⟨xs, h1, h2⟩, h0, h3⟩ := h
  exact ⟨⟨xs, h1.drew, h2.keep (w' := w.drew) (Nat.le_refl _) (fun _ _ => rfl)⟩, h0, h3⟩
/-- a store between what the elements lead to and the row -/
theorem OwnR.set (h : OwnR R e B base w v l) {k : Nat} (h1 : B ≤ k) (h2 : k < base) (i : Nat) (s : Option Nat) (u : Value) : OwnR R e B base (w.setCell ⟨k, i, s⟩ u) v l := by
  obtain ⟨⟨xs, h4, h5⟩, h0, h3⟩ := h
  refine ⟨⟨xs, own_far h4 h2 u, h5.keep (Nat.le_refl _) fun p hp => World.cell?_of_block (Below.heap_setCell w _ u p.block (by simp only; omega))⟩, h0, by simpa using h3⟩
theorem OwnR.app {xs ys : List Value} (h2 : Rels R w B l xs) (h1 : w.ownsRow base e R.k v l.length xs) (hB : B ≤ base) (hle : base ≤ w.heap.size) (hm : Rels R w B m ys) (ho : w'.ownsRow base e R.k v' (l.length + m.length) (xs ++ ys)) (ha : AppTo w w' v v') : OwnR R e B base w' v' (l ++ m) := by
  have hb := (ha.below h1 hle).mono hB
  exact ⟨⟨xs ++ ys, by rw [List.length_append]; exact ho, (h2.below hb).append (hm.below hb)⟩, hB, Nat.le_trans hle ha.grown.size⟩
theorem OwnR.rd (h : OwnR R e B base w v l) (hlim : l.length * R.bs ≤ 140737488355328) (hk : 0 < R.k) : ∃ A c, v = .slice A l.length c ∧ Rd R w w.heap.size A l.length c l := by
  obtain ⟨⟨xs, h1, h2⟩, h0, h3⟩ := h
  exact rd_of_own h1 h2 rfl (Nat.le_trans h0 h3) hlim hk
theorem OwnR.slice (h : OwnR R e B base w v l) : ∃ A c, v = .slice A l.length c := by
  obtain ⟨⟨xs, h1, h2⟩, h3⟩ := h
  obtain ⟨A, c, e, _⟩ := own_slice h1
  exact ⟨A, c, e⟩
theorem OwnR.slice' {n : Nat} (h : OwnR R e B base w v l) (hn : l.length = n) : ∃ A c, v = .slice A n c := by subst hn; exact h.slice
theorem OwnR.rd' {n : Nat} {A : Option Addr} {c : Nat} (h : OwnR R e B base w (.slice A n c) l) (hn : l.length = n) (hlim : n * R.bs ≤ 140737488355328) (hk : 0 < R.k) : Rd R w w.heap.size A n c l := by
  subst hn
  obtain ⟨A', c', e, hr⟩ := h.rd hlim hk
  cases e
  exact hr
theorem SrcR.below {A : Option Addr} {n c : Nat} (h : SrcR R B w A n c m) (hb : Below w.heap.size w w') (hle : B ≤ w.heap.size) : SrcR R B w' A n c m := by
  obtain ⟨⟨ys, h1, h2⟩, h3⟩ := h
  exact ⟨⟨ys, h1.later hb, h2.below (hb.mono hle)⟩, h3⟩
theorem SrcR.of {A : Option Addr} {n c : Nat} (h : Rd R w B A n c m) (h1 : ∀ (a : α) vs, R.rel w B a vs → ∀ u ∈ vs, u.oneCell' = true) : SrcR R B w A n c m := by
  obtain ⟨ys, h2, h3⟩ := h.src h1
  exact ⟨⟨ys, h3, h2⟩, h.len⟩
theorem SrcR.u8 {A : Option Addr} {n c : Nat} {m : List UInt8} (h : Rd u8R w B A n c m) : SrcR u8R B w A n c m :=
  SrcR.of h (by rintro a vs rfl u hu; simp at hu; subst hu; rfl)
theorem SrcR.lit {g : Nat} {cs : Array Value} {a : α} {ty : TypeId} (hg : Blk w g ty cs) (hr : R.rel w B a cs.toList) (hu : ∀ u ∈ cs.toList, u.oneCell' = true) : SrcR R B w (some ⟨g, 0, none⟩) 1 1 [a] := by
  have hl := R.len hr
  refine ⟨⟨cs.toList, ⟨by rw [hl]; omega, fun ad ha j u h => ?_, fun h => (by cases h), hu⟩, Rels.one hr⟩, rfl⟩
  cases ha
  have := hg.cell j
  rw [add_none, Nat.zero_add, this]
  simpa using h
theorem wpList_own {w : World} {ops : Array Oper} {rest : List Oper} {o : Oper} {a : Act} {Q : Exit → Act → World → Prop} (E : El P t e R.k bytes) (hgd : o.guard = none) (s x : Operand) (hop : o.op = .call { callee := .builtin .append, args := #[s, x], argTypes := #[t, t] })
    (hs : a.eval s = v) (hv : OwnR R e B base w v l) {A : Option Addr} {n c : Nat} (hx : a.eval x = .slice A n c) (hm : SrcR R B w A n c m) (hbytes : (l.length + n) * bytes ≤ 140737488355328) (h63 : l.length + n ≤ maxLen)
    (h : ∀ v' w', OwnR R e B base w' v' (l ++ m) → Below base w w' → wpList P ops Q rest (a.put o.dst v') w') : wpList P ops Q (o :: rest) a w := by
  obtain ⟨⟨xs, h1, h2⟩, h0, h3⟩ := hv
  obtain ⟨⟨ys, h4, h5⟩, rfl⟩ := hm
  exact wpList_appT hgd s x t hop base e R.k bytes E v l.length xs hs h1 A _ c ys hx h4 hbytes h63 h3 fun v' w' ho ha => h v' w' (OwnR.app h2 h1 h0 h3 h5 ho ha) (ha.below h1 h3)
theorem step_own {w : World} {ops : Array Oper} {o : Oper} {a : Act} {Q : Exit → Act → World → Prop} {K : Act → World → Prop} {F : Prop} (E : El P t e R.k bytes) (hgd : o.guard = none) (s x : Operand) (hop : o.op = .call { callee := .builtin .append, args := #[s, x], argTypes := #[t, t] })
    (hs : a.eval s = v) (hv : OwnR R e B base w v l) {A : Option Addr} {n c : Nat} (hx : a.eval x = .slice A n c) (hm : SrcR R B w A n c m) (hbytes : (l.length + n) * bytes ≤ 140737488355328) (h63 : l.length + n ≤ maxLen)
    (h : ∀ v' w', OwnR R e B base w' v' (l ++ m) → Below base w w' → AppTo w w' v v' → K (a.put o.dst v') w') : if Region.wanted o (yielded ops a.tmps) = true then Oper.wp P o a w K Q else F := by
  obtain ⟨⟨xs, h1, h2⟩, h0, h3⟩ := hv
  obtain ⟨⟨ys, h4, h5⟩, rfl⟩ := hm
  exact step_app hgd s x t hop base e R.k bytes E v l.length xs hs h1 A _ c ys hx h4 hbytes h63 h3 fun v' w' ho hg hv =>
    have ha : AppTo w w' v v' := ⟨hg, hv.imp id fun e => ⟨_, e, Nat.le_refl _⟩⟩
    h v' w' (OwnR.app h2 h1 h0 h3 h5 ho ha) (ha.below h1 h3) ha
/-- a block beside the row -/
theorem AppTo.beside {k g : Nat} {T : TypeId} {cs : Array Value} (ha : AppTo w w' v v') (hk : Blk w k T cs) (hv : v.ownBlock = some g) (hne : k ≠ g) : Blk w' k T cs :=
  (ha.grown.block k hk.lt (fun e => hne (by rw [hv] at e; cases e; rfl))).trans hk
end
end Go.Proofs.YthccknobnpbdeaaDoor
/- All records of a message, in order; how long what is sent of a name is. -/
namespace Go.Proofs.YthccknobnpbdeaaDoor
open Go.RowKit
set_option linter.unusedVariables false
set_option linter.unusedSimpArgs false

theorem rec_one {w : World} {B : Nat} (a : RecT) (vs : List Value) (h : recR.rel w B a vs) : ∀ u ∈ vs, u.oneCell' = true := by
  obtain ⟨_, _, rfl, ⟨A, n, c, rfl, h1⟩, _, _, rfl, ⟨rfl, h2⟩, _, _, rfl, ⟨rfl, h3⟩, _, _, rfl, ⟨rfl, h4⟩, _, _, rfl, ⟨A', n', c', rfl, h5⟩, rfl⟩ := h
  intro u hu
  simp at hu
  rcases hu with rfl | rfl | rfl | rfl | rfl <;> rfl
set_option maxRecDepth 100000 in
set_option maxHeartbeats 4000000 in
theorem all_any {w : World} {h : Hd} {Q : Value} (hQ : ∃ A n c, Q = .slice A n c) {Ax Ay Az : Option Addr} {nx cx ny cy nz cz : Nat} {xs ys zs : List RecT} (hX : Rd recR w w.heap.size Ax nx cx xs) (hY : Rd recR w w.heap.size Ay ny cy ys) (hZ : Rd recR w w.heap.size Az nz cz zs) (hlim : (nx + ny + nz) * 72 ≤ 140737488355328) {k : Nat} (hk : nx + ny + nz = k) :
    Calls Tryd.prog 29 #[.agg (msgC h Q (.slice Ax nx cx) (.slice Ay ny cy) (.slice Az nz cz))] w fun e w' => ∃ A c, e = .returned (.slice A k c) ∧ Rd recR w' w'.heap.size A k c (xs ++ ys ++ zs) ∧ Below w.heap.size w w' := by
  obtain ⟨Aq, nq, cq, rfl⟩ := hQ
  have lx := hX.len
  have ly := hY.len
  have lz := hZ.len
  have SX := hid (SrcR.of hX rec_one)
  have SY := hid (SrcR.of hY rec_one)
  have SZ := hid (SrcR.of hZ rec_one)
  have ab1 : (([] : List RecT).length + nx) * 72 ≤ 140737488355328 := by simp; omega
  have ab2 : ([] : List RecT).length + nx ≤ maxLen := by simp [maxLen]; omega
  have ab3 : (([] ++ xs).length + ny) * 72 ≤ 140737488355328 := by simp [lx]; omega
  have ab4 : ([] ++ xs).length + ny ≤ maxLen := by simp [maxLen, lx]; omega
  have ab5 : (([] ++ xs ++ ys).length + nz) * 72 ≤ 140737488355328 := by simp [lx, ly]; omega
  have ab6 : ([] ++ xs ++ ys).length + nz ≤ maxLen := by simp [maxLen, lx, ly]; omega
  have LL := hid (And.intro lx (And.intro ly (And.intro lz hk)))
  clear hX hY hZ lx ly lz hk
  have tk0 : True := trivial; have tk1 : True := trivial; have tk2 : True := trivial; have tk3 : True := trivial; have tk4 : True := trivial; have tk5 : True := trivial; have tk6 : True := trivial; have tk7 : True := trivial; have tk8 : True := trivial; have tk9 : True := trivial; have tk10 : True := trivial; have tk11 : True := trivial; have tk12 : True := trivial
  go_enter Tryd.func29, Tryd.ntmps29
  go_wp2_with (first
    | (at_builtin; have _t := tk1; refine wpList_own (B := w.heap.size) (base := w.heap.size + 1) el_r rfl _ _ rfl rfl (OwnR.nil (Nat.le_succ _) (by first | omega | (simp [size_ext]; done) | (simp [size_ext]; omega))) rfl (SX.out.below (by (repeat' (first | (with_reducible exact Below.refl _ _) | (with_reducible assumption) | (with_reducible refine below_ext0 ?_ _ _) | (with_reducible refine below_alloc0 ?_ _) | (with_reducible refine Below.ext ?_ ?_ _ _) | (with_reducible refine Below.alloc ?_ ?_ _) | (with_reducible refine Below.setCell ?_ ?_ _) | (with_reducible refine Below.drew ?_) | (with_reducible refine below_draws ?_ _) | go_size | (simp [size_ext]; done) | (simp [size_ext]; omega)))) (Nat.le_refl _)) ab1 ab2 ?_; intro v1 w1 ho hb; have kx := (Blk.new w _ _).below hb (Nat.lt_succ_self _); have c13 : w1.cell? ⟨w.heap.size, 13, none⟩ = some (.slice Ay ny cy) := kx.cell 13; have HO1 := hid ho; have HB1 := hid (Below.trans ((Below.refl _ w).alloc (Nat.le_refl _) _) (hb.mono (Nat.le_succ _))); have KX := hid kx; clear ho hb kx tk1)
    | (at_builtin; have _t := tk2; refine wpList_own (B := w.heap.size) (base := w.heap.size + 1) el_r rfl _ _ rfl rfl HO1.out rfl (SY.out.below HB1.out (Nat.le_refl _)) ab3 ab4 ?_; intro v2 w2 ho hb; have kx := KX.out.below hb (Nat.lt_succ_self _); have c14 : w2.cell? ⟨w.heap.size, 14, none⟩ = some (.slice Az nz cz) := kx.cell 14; have HO2 := hid ho; have HB2 := hid (HB1.out.trans (hb.mono (Nat.le_succ _))); clear ho hb kx tk2)
    | (at_builtin; have _t := tk3; refine wpList_own (B := w.heap.size) (base := w.heap.size + 1) el_r rfl _ _ rfl rfl HO2.out rfl (SZ.out.below HB2.out (Nat.le_refl _)) ab5 ab6 ?_; intro v3 w3 ho hb; have hl : ([] ++ xs ++ ys ++ zs).length = k := (by have := LL.out; simp; omega); obtain ⟨A3, c3, rfl⟩ := ho.slice' hl; have HO3 := hid (ho.rd' hl (by have := LL.out; simp only [show recR.bs = 72 from rfl]; omega) (by decide)); have HB3 := hid (HB2.out.trans (hb.mono (Nat.le_succ _))); clear ho hb hl tk3))
  go_ret
  exact ⟨A3, c3, rfl, by have := HO3.out; simpa using this, HB3.out⟩
end Go.Proofs.YthccknobnpbdeaaDoor
