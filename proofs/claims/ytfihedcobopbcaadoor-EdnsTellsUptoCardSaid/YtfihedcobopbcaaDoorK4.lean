/- A store into a block of the call's own keeps every reading of bytes and of texts that lie elsewhere. No function of the program. -/
import Derived.Test.YtfihedcobopbcaaDoorK1
import Derived.Test.YtfihedcobopbcaaDoorK3
import Derived.Deep.DrawnRows
namespace Go.Proofs.YtfihedcobopbcaaDoor
open Go.RowKit
set_option linter.unusedVariables false
set_option linter.unusedSimpArgs false

/-- block k holds no value of a kind -/
def FreeB (P : Value → Prop) (w : World) (k : Nat) : Prop := ∀ i u, w.cell? ⟨k, i, none⟩ = some u → ¬ P u
theorem FreeB.below {P : Value → Prop} {w w' : World} {k : Nat} (h : FreeB P w k) (hb : Below w.heap.size w w') (hk : k < w.heap.size) : FreeB P w' k := fun i u hu => h i u ((hb.cell (p := ⟨k, i, none⟩) hk).symm.trans hu)
theorem FreeB.of_blk {P : Value → Prop} {w : World} {g : Nat} {t : TypeId} {cs : Array Value} (hb : Blk w g t cs) (hc : ∀ v ∈ cs.toList, ¬ P v) : FreeB P w g := by
  intro i u hu
  rw [hb.cell] at hu
  exact hc u (by rw [Array.mem_toList_iff]; exact Array.mem_of_getElem? hu)
/-- of one size, and alike but for blocks that hold nothing of the kind -/
def SimP (P : Value → Prop) (w w' : World) : Prop := w'.heap.size = w.heap.size ∧ ∀ k, k < w.heap.size → w'.heap[k]? = w.heap[k]? ∨ FreeB P w k
section
variable {P : Value → Prop} {w w' : World}
theorem SimP.refl (P : Value → Prop) (w : World) : SimP P w w := ⟨rfl, fun _ _ => .inl rfl⟩
theorem SimP.ext (h : SimP P w w') (os : Array Obj) (d d' : Nat) : SimP P (Go.Proofs.YtfihedcobopbcaaDoor.ext w os d) (Go.Proofs.YtfihedcobopbcaaDoor.ext w' os d') := by
  refine ⟨by simp [size_ext, h.1], fun k hk => ?_⟩
  by_cases hlt : k < w.heap.size
  · rcases h.2 k hlt with e | e
    · left
      rw [heap_ext w os d hlt, heap_ext w' os d' (by rw [h.1]; exact hlt), e]
    · right
      exact e.below (below_ext w os d) hlt
  · left
    simp only [Go.Proofs.YtfihedcobopbcaaDoor.ext, Array.getElem?_append, h.1, if_neg hlt]
theorem SimP.alloc (h : SimP P w w') (o : Obj) : SimP P (w.alloc o) (w'.alloc o) := by
  refine ⟨by simp [h.1], fun k hk => ?_⟩
  by_cases hlt : k < w.heap.size
  · rcases h.2 k hlt with e | e
    · left
      rw [Below.heap_alloc w o k hlt, Below.heap_alloc w' o k (by rw [h.1]; exact hlt), e]
    · right
      exact e.below ((Below.refl _ _).alloc (Nat.le_refl _) o) hlt
  · left
    obtain rfl : k = w.heap.size := by simp at hk; omega
    have e1 := heap_alloc_new w o
    have e2 := heap_alloc_new w' o
    rw [h.1] at e2
    rw [e1, e2]
theorem SimP.allocs (h : SimP P w w') (cs : Array Value) (t : TypeId) (o : Obj) (hc : ∀ v ∈ cs.toList, ¬ P v) : SimP P (w.alloc (.cells cs t)) (w'.alloc o) := by
  refine ⟨by simp [h.1], fun k hk => ?_⟩
  by_cases hlt : k < w.heap.size
  · rcases h.2 k hlt with e | e
    · left
      rw [Below.heap_alloc w _ k hlt, Below.heap_alloc w' o k (by rw [h.1]; exact hlt), e]
    · right
      exact e.below ((Below.refl _ _).alloc (Nat.le_refl _) _) hlt
  · right
    obtain rfl : k = w.heap.size := by simp at hk; omega
    exact FreeB.of_blk (Blk.new _ _ _) hc
theorem SimP.drew (h : SimP P w w') : SimP P w.drew w' := h
theorem SimP.drew' (h : SimP P w w') : SimP P w w'.drew := h
theorem FreeB.far {k : Nat} (h : FreeB P w k) {p : Addr} (hp : k ≠ p.block) (u : Value) : FreeB P (w.setCell p u) k := by
  intro i v hv
  refine h i v (Eq.trans ?_ hv)
  exact (World.cell?_of_block (Below.heap_setCell w p u k hp)).symm
theorem SimP.set {k : Nat} (h : FreeB P w k) (i : Nat) (s : Option Nat) (u : Value) : SimP P w (w.setCell ⟨k, i, s⟩ u) := by
  refine ⟨by simp, fun j hj => ?_⟩
  by_cases e : j = k
  · exact .inr (by rw [e]; exact h)
  · exact .inl (Below.heap_setCell w ⟨k, i, s⟩ u j e)
/-- what was there is alike but for blocks that held nothing of the kind -/
def NearP (P : Value → Prop) (w w' : World) : Prop := w.heap.size ≤ w'.heap.size ∧ ∀ k, k < w.heap.size → w'.heap[k]? = w.heap[k]? ∨ FreeB P w k
theorem NearP.of_sim (h : SimP P w w') : NearP P w w' := ⟨by rw [h.1]; exact Nat.le_refl _, h.2⟩
theorem NearP.below (h : NearP P w w') {w2 : World} (hb : Below w'.heap.size w' w2) : NearP P w w2 :=
  ⟨Nat.le_trans h.1 hb.size, fun k hk => (h.2 k hk).imp (fun e => (hb.block k (Nat.lt_of_lt_of_le hk h.1)).trans e) id⟩
theorem NearP.ext (h : NearP P w w') (os : Array Obj) (d : Nat) : NearP P w (Go.Proofs.YtfihedcobopbcaaDoor.ext w' os d) := h.below (below_ext w' os d)
theorem NearP.alloc (h : NearP P w w') (o : Obj) : NearP P w (w'.alloc o) := h.below ((Below.refl _ _).alloc (Nat.le_refl _) o)
theorem NearP.drew (h : NearP P w w') : NearP P w w'.drew := h
/-- a store into a block that held nothing of the kind -/
theorem NearP.set {g i : Nat} {s : Option Nat} (h : NearP P w w') (hg : FreeB P w g) (u : Value) : NearP P w (w'.setCell ⟨g, i, s⟩ u) := by
  refine ⟨by simp; exact h.1, fun k hk => ?_⟩
  by_cases e : k = g
  · exact .inr (by rw [e]; exact hg)
  · exact (h.2 k hk).imp (fun h => (Below.heap_setCell w' ⟨g, i, s⟩ u k e).trans h) id
/-- a store into a new block -/
theorem NearP.set_new {g i : Nat} {s : Option Nat} (h : NearP P w w') (hg : w.heap.size ≤ g) (u : Value) : NearP P w (w'.setCell ⟨g, i, s⟩ u) :=
  ⟨by simp; exact h.1, fun k hk => (h.2 k hk).imp (fun h => (Below.heap_setCell w' ⟨g, i, s⟩ u k (show k ≠ g by omega)).trans h) id⟩
theorem Rd.near {α : Type} {R : Rep α} {n c : Nat} {A : Option Addr} {l : List α} (P : Value → Prop) (hP : ∀ {w : World} {B : Nat} {a : α} {vs : List Value}, R.rel w B a vs → ∀ u ∈ vs, P u) (hw : ∀ {w w' : World} {B B' : Nat} {a : α} {vs : List Value}, R.rel w B a vs → R.rel w' B' a vs)
    (h : Rd R w w.heap.size A n c l) (hn : NearP P w w') : Rd R w' w'.heap.size A n c l :=
  ⟨h.len, h.cap, h.max, h.lim, h.nil, fun i hi => by
    obtain ⟨b, off, vs, e, hlt, hr, hcell⟩ := h.at_ i hi
    refine ⟨b, off, vs, e, Nat.lt_of_lt_of_le hlt hn.1, hw hr, fun j u hu => ?_⟩
    have h1 := hcell j u hu
    rw [← h1]
    refine World.cell?_of_block ((hn.2 b hlt).resolve_right fun hf => ?_)
    exact hf _ _ h1 (hP hr u (List.mem_of_getElem? hu))⟩
def IsStr (v : Value) : Prop := ∃ s, v = .string s
def IsU8 (v : Value) : Prop := ∃ x, v = .int .u8 x
theorem Rd.near_str {n c : Nat} {A : Option Addr} {l : List ByteArray} (h : Rd strR w w.heap.size A n c l) (hn : NearP IsStr w w') : Rd strR w' w'.heap.size A n c l :=
  Rd.near (R := strR) IsStr (fun hr u hu => by rw [hr.1] at hu; exact ⟨_, List.mem_singleton.1 hu⟩) (fun hr => hr) h hn
def IsI64 (v : Value) : Prop := ∃ x, v = .int .i64 x
theorem Rd.near_int {n c : Nat} {A : Option Addr} {l : List Int} (h : Rd intR w w.heap.size A n c l) (hn : NearP IsI64 w w') : Rd intR w' w'.heap.size A n c l :=
  Rd.near (R := intR) IsI64 (fun hr u hu => by rw [hr.1] at hu; exact ⟨_, List.mem_singleton.1 hu⟩) (fun hr => hr) h hn
theorem Rd.near_u8 {n c : Nat} {A : Option Addr} {l : List UInt8} (h : Rd u8R w w.heap.size A n c l) (hn : NearP IsU8 w w') : Rd u8R w' w'.heap.size A n c l :=
  Rd.near (R := u8R) IsU8 (fun hr u hu => by rw [show _ = [_] from hr] at hu; exact ⟨_, List.mem_singleton.1 hu⟩) (fun hr => hr) h hn
end
end Go.Proofs.YtfihedcobopbcaaDoor
/- rr: Write. -/
namespace Go.Proofs.YtfihedcobopbcaaDoor
open Go.RowKit
set_option linter.unusedVariables false
set_option linter.unusedSimpArgs false

/-- what Write hands back: two rows of the call's own -/
structure RrO (w w' : World) (m : List UInt8) (ss : List Int) (r : RecT) (v v' : Value) : Prop where
  out : w'.ownsRow w.heap.size 5 1 v (recB m ss r).length (bytesV (recB m ss r))
  all : w'.ownsRow w.heap.size 3 1 v' (ss ++ packN m ss r.1 m.length).length (intsV (ss ++ packN m ss r.1 m.length))
  ints : ∀ s ∈ ss ++ packN m ss r.1 m.length, I64 s
  lenX : (recB m ss r).length ≤ m.length + 65535 + 265
  lenY : (ss ++ packN m ss r.1 m.length).length ≤ ss.length + 255
theorem rr_cells (P d : List UInt8) (T C L : Int) (n : Nat) (hn : d.length = n) (hT : 0 ≤ T ∧ T ≤ 65535) (hC : 0 ≤ C ∧ C ≤ 65535) (hL : 0 ≤ L ∧ L ≤ 4294967295) (hd : n ≤ 65535) :
    bytesV P ++ [Value.int .u8 (T / 256), .int .u8 (T % 256), .int .u8 (C / 256), .int .u8 (C % 256)] ++ [Value.int .u8 (L / 16777216), .int .u8 (L / 65536 % 256), .int .u8 (L / 256 % 256), .int .u8 (L % 256), .int .u8 ((n : Int) / 256), .int .u8 ((n : Int) % 256)] ++ (d.map fun b => Value.int .u8 (b.toNat : Int)) = bytesV (P ++ recTail T C L d) := by
  subst hn
  have c : ∀ x : Int, 0 ≤ x → x ≤ 255 → ((UInt8.ofNat x.toNat).toNat : Int) = x := fun x h0 h1 => by rw [UInt8.toNat_ofNat']; omega
  simp only [recTail, two2, bytesV, List.map_append, List.map_cons, List.map_nil]
  rw [c (T / 256 % 256) (by omega) (by omega), c (T % 256) (by omega) (by omega), c (C / 256 % 256) (by omega) (by omega), c (C % 256) (by omega) (by omega), c (L / 65536 / 256 % 256) (by omega) (by omega), c (L / 65536 % 256) (by omega) (by omega), c (L % 65536 / 256 % 256) (by omega) (by omega), c (L % 65536 % 256) (by omega) (by omega), c ((d.length : Int) / 256 % 256) (by omega) (by omega), c ((d.length : Int) % 256) (by omega) (by omega)]
  rw [show T / 256 % 256 = T / 256 by omega, show C / 256 % 256 = C / 256 by omega, show L / 65536 / 256 % 256 = L / 16777216 by omega, show L % 65536 / 256 % 256 = L / 256 % 256 by omega, show L % 65536 % 256 = L % 256 by omega, show (d.length : Int) / 256 % 256 = (d.length : Int) / 256 by omega]
  simp

set_option maxRecDepth 100000 in
set_option maxHeartbeats 4000000 in
theorem rwrite_ok {w : World} {A : Option Addr} {n c : Nat} {m : List UInt8} (hM : Rd u8R w w.heap.size A n c m) {A1 : Option Addr} {n1 c1 : Nat} {ss : List Int} (hS : Rd intR w w.heap.size A1 n1 c1 ss) {A3 : Option Addr} {n3 c3 : Nat} {l : List ByteArray} (hL : Rd strR w w.heap.size A3 n3 c3 l) {T C L : Int} {A4 : Option Addr} {n4 c4 : Nat} {d : List UInt8} (hD : Rd u8R w w.heap.size A4 n4 c4 d)
    (hlim : n + 65536 + 512 ≤ 140737488355328) (hlim1 : n1 * 8 + 4096 ≤ 140737488355328) (hf : recErr (l, T, C, L, d, ()) = 0) :
    Calls Tryd.prog 69 #[.slice A n c, .slice A1 n1 c1, .agg #[.slice A3 n3 c3, .int .i64 T, .int .i64 C, .int .i64 L, .slice A4 n4 c4]] w fun e w' => ∃ v v', e = .returned (.tuple #[v, v', .nilIface]) ∧ RrO w w' m ss (l, T, C, L, d, ()) v v' ∧ Below w.heap.size w w' := by
  obtain ⟨h0, ⟨t1, t2⟩, ⟨u1, u2⟩, ⟨x1, x2⟩, h4⟩ := recErr_zero hf
  simp only at h0 t1 t2 u1 u2 x1 x2 h4
  have hmn := hM.len
  have hdn := hD.len
  have hsn := hS.len
  have hn := hM.cap
  have hok := nameErr_zero.1 h0
  have hls : lsum l ≤ 254 := by have := hok.2; rw [nsize_lsum] at this; omega
  have hp := packT_len m ss l hok.1
  have hXl : (m ++ packT m ss l).length ≤ n + 255 := by rw [List.length_append]; omega
  have hXe : recB m ss (l, T, C, L, d, ()) = m ++ packT m ss l ++ recTail T C L d := rfl
  have CP : ∀ w', Below w.heap.size w w' → Calls Tryd.prog 68 #[.slice A n c, .slice A1 n1 c1, .slice A3 n3 c3] w' fun e w2 => ∃ v v', e = .returned (.tuple #[v, v', .nilIface]) ∧ OwnP w' w2 m ss l v v' ∧ Below w'.heap.size w' w2 := fun w' hb => by
    refine (pack_own w' A n c m (hM.later hb) A1 n1 c1 ss (hS.later hb) A3 n3 c3 l (hL.later hb) (by omega) (by omega)).mono ?_
    rintro e w2 ⟨hb2, he⟩
    rw [if_pos h0] at he
    obtain ⟨v, v', he, ho⟩ := he
    exact ⟨v, v', he, ho, hb2⟩
  replace CP := hid CP
  have SD := hid fun w' (hb : Below w.heap.size w w') => (hD.later hb).src_u8
  have d4 : n4 ≤ 65535 := by omega
  have HX := hid hXe
  have hl1 : (recB m ss (l, T, C, L, d, ())).length ≤ m.length + 65535 + 265 := by rw [hXe, List.length_append, recTail_len, hmn]; omega
  have hl2 : (ss ++ packN m ss l m.length).length ≤ ss.length + 255 := by
    have h1 := packN_len m ss l m.length
    have h2 := lsum_len l
    rw [List.length_append]; omega
  have HLB := hid (And.intro hl1 hl2)
  clear hl1 hl2
  have HDN := hid hdn
  obtain ⟨N, hN⟩ : ∃ N, (m ++ packT m ss l).length = N := ⟨_, rfl⟩
  have HN := hid hN
  have hNb : N ≤ n + 255 := by omega
  clear hM hS hL hD hf hok hp hXl hXe hN hls hmn hdn hsn
  have r0 : ¬ T < 0 := by omega
  have r1 : ¬ 65535 < T := by omega
  have r2 : ¬ C < 0 := by omega
  have r3 : ¬ 65535 < C := by omega
  have r4 : ¬ L < 0 := by omega
  have r5 : ¬ 0 < L / 4294967296 := by omega
  have r6 : ¬ (65535 : Int) < (n4 : Int) := by omega
  have e0 : decide (T < 0) = false := decide_eq_false r0
  have e1 : decide (65535 < T) = false := decide_eq_false r1
  have e2 : decide (C < 0) = false := decide_eq_false r2
  have e3 : decide (65535 < C) = false := decide_eq_false r3
  have e4 : decide (L < 0) = false := decide_eq_false r4
  have e5 : decide (0 < L / 4294967296) = false := decide_eq_false r5
  have e6 : decide ((65535 : Int) < (n4 : Int)) = false := decide_eq_false r6
  have ab1 : (N + 4) * 1 ≤ 140737488355328 := by omega
  have ab2 : N + 4 ≤ maxLen := by unfold maxLen; omega
  have ab3 : (N + 4 + 6) * 1 ≤ 140737488355328 := by omega
  have ab4 : N + 4 + 6 ≤ maxLen := by unfold maxLen; omega
  have ab5 : (N + 4 + 6 + n4) * 1 ≤ 140737488355328 := by omega
  have ab6 : N + 4 + 6 + n4 ≤ maxLen := by unfold maxLen; omega
  have tk0 : True := trivial; have tk1 : True := trivial; have tk2 : True := trivial; have tk3 : True := trivial; have tk4 : True := trivial; have tk5 : True := trivial; have tk6 : True := trivial; have tk7 : True := trivial; have tk8 : True := trivial; have tk9 : True := trivial; have tk10 : True := trivial; have tk11 : True := trivial; have tk12 : True := trivial
  go_enter Tryd.func69, Tryd.ntmps69
  go_wp2_with (first
    | (go_at_call 68; have _t := tk1; (with_reducible refine (CP.out _ (by (repeat' (first | (with_reducible exact Below.refl _ _) | (with_reducible assumption) | (with_reducible refine below_ext0 ?_ _ _) | (with_reducible refine below_alloc0 ?_ _) | (with_reducible refine Below.ext ?_ ?_ _ _) | (with_reducible refine Below.alloc ?_ ?_ _) | (with_reducible refine Below.setCell ?_ ?_ _) | (with_reducible refine Below.drew ?_) | (with_reducible refine below_draws ?_ _) | go_size | (simp [size_ext]; done) | (simp [size_ext]; omega))))).mono ?_); rintro e w1 ⟨v1, v1', rfl, ho1, hb1⟩; have ho1' := own_less (base' := w.heap.size + 1) ho1.out (by simp); rw [HN.out] at ho1'; have HO1 := hid ho1'; have HP1 := hid ho1; have HB1 := hid hb1; have z1 := hb1.size; simp only [World.size_alloc] at z1; have k1 := (Blk.new w 67 #[.slice A3 n3 c3, .int .i64 T, .int .i64 C, .int .i64 L, .slice A4 n4 c4]).below hb1 (by simp); have c10 := k1.cell 0; have c11 := k1.cell 1; have c12 := k1.cell 2; have c13 := k1.cell 3; have c14 := k1.cell 4; have KB1 := hid k1; clear ho1 ho1' hb1 k1 tk1)
    | (at_builtin; have _t := tk2; refine wpList_appT rfl _ _ 22 rfl (w.heap.size + 1) 5 1 1 el_u8 v1 N _ rfl (HO1.out.alloc _) _ 4 4 _ rfl (src_lit _ rfl (by simp [Value.oneCell']) rfl) ab1 ab2 (by simp; omega) ?_; intro v2 w2 ho2 ha2; have hb2 := ha2.below (HO1.out.alloc _) (by simp; omega); have k2 := (KB1.out.alloc _).below hb2 (by omega); have c20 := k2.cell 0; have c21 := k2.cell 1; have c22 := k2.cell 2; have c23 := k2.cell 3; have c24 := k2.cell 4; have z2 := hb2.size; simp only [World.size_alloc] at z2; have HO2 := hid ho2; have HA2 := hid ha2; have HB2 := hid hb2; have KB2 := hid k2; clear ho2 ha2 hb2 k2 tk2)
    | (at_builtin; have _t := tk3; refine wpList_appT rfl _ _ 22 rfl (w.heap.size + 1) 5 1 1 el_u8 v2 (N + 4) _ rfl (HO2.out.alloc _) _ 6 6 _ rfl (src_lit _ rfl (by simp [Value.oneCell']) rfl) ab3 ab4 (by simp; omega) ?_; intro v3 w3 ho3 ha3; have hb3 := ha3.below (HO2.out.alloc _) (by simp; omega); have k3 := (KB2.out.alloc _).below hb3 (by omega); have c30 := k3.cell 0; have c31 := k3.cell 1; have c32 := k3.cell 2; have c33 := k3.cell 3; have c34 := k3.cell 4; have z3 := hb3.size; simp only [World.size_alloc] at z3; have HW3 := hid (Below.trans ((Below.trans ((Below.trans ((Below.refl w.heap.size w).alloc (Nat.le_refl _) _) (HB1.out.mono (by simp))).alloc (by omega) _) (HB2.out.mono (by omega))).alloc (by omega) _) (hb3.mono (by omega))); have HO3 := hid ho3; have HA3 := hid ha3; have HB3 := hid hb3; clear ho3 ha3 hb3 k3 tk3)
    | (at_builtin; have _t := tk4; refine wpList_appT rfl _ _ 22 rfl (w.heap.size + 1) 5 1 1 el_u8 v3 (N + 4 + 6) _ rfl HO3.out _ n4 c4 _ rfl (SD.out _ HW3.out) ab5 ab6 (by omega) ?_; intro v5 w5 ho5 ha5; have HO5 := hid ho5; have HA5 := hid ha5; clear ho5 ha5 tk4))
  go_ret3
  have hlen : (recB m ss (l, T, C, L, d, ())).length = N + 4 + 6 + n4 := by rw [HX.out, List.length_append, recTail_len, HN.out, HDN.out]; omega
  refine ⟨v5, v1', rfl, ⟨?_, ?_, HP1.out.ints, HLB.out.1, HLB.out.2⟩, ?_⟩
  · rw [hlen, HX.out, ← rr_cells _ _ _ _ _ n4 HDN.out ⟨t1, t2⟩ ⟨u1, u2⟩ ⟨x1, x2⟩ d4]
    exact own_less HO5.out (by omega)
  · obtain ⟨hall, _⟩ := ((HA2.out.alloc.trans HA3.out.alloc).trans HA5.out).other HP1.out.all HP1.out.apart.symm
    exact own_less hall (by simp)
  · exact HW3.out.trans ((HA5.out.below HO3.out (by omega)).mono (by omega))
/-- what is not as it may be -/
theorem rwrite_bad {w : World} {A : Option Addr} {n c : Nat} {m : List UInt8} (hM : Rd u8R w w.heap.size A n c m) {A1 : Option Addr} {n1 c1 : Nat} {ss : List Int} (hS : Rd intR w w.heap.size A1 n1 c1 ss) {A3 : Option Addr} {n3 c3 : Nat} {l : List ByteArray} (hL : Rd strR w w.heap.size A3 n3 c3 l) {T C L : Int} {A4 : Option Addr} {n4 c4 : Nat} {d : List UInt8} (hD : Rd u8R w w.heap.size A4 n4 c4 d) (hT : I64 T) (hC : I64 C) (hTL : I64 L)
    (hlim : n + 65536 + 512 ≤ 140737488355328) (hlim1 : n1 * 8 + 4096 ≤ 140737488355328) {k : Int} (hf : recErr (l, T, C, L, d, ()) = k) (hk : k ≠ 0) :
    Calls Tryd.prog 69 #[.slice A n c, .slice A1 n1 c1, .agg #[.slice A3 n3 c3, .int .i64 T, .int .i64 C, .int .i64 L, .slice A4 n4 c4]] w fun e w' => e = .returned (.tuple #[.slice none 0 0, .slice none 0 0, .iface 29 (.int .i64 k)]) ∧ Below w.heap.size w w' := by
  by_cases h0 : nameErr l = 0
  · have CP : ∀ w', Below w.heap.size w w' → Calls Tryd.prog 68 #[.slice A n c, .slice A1 n1 c1, .slice A3 n3 c3] w' fun e w2 => ∃ v v', e = .returned (.tuple #[v, v', .nilIface]) ∧ Below w'.heap.size w' w2 := fun w' hb => by
      refine (pack_own w' A n c m (hM.later hb) A1 n1 c1 ss (hS.later hb) A3 n3 c3 l (hL.later hb) (by omega) (by omega)).mono ?_
      rintro e w2 ⟨hb2, he⟩
      rw [if_pos h0] at he
      obtain ⟨v, v', he, ho⟩ := he
      exact ⟨v, v', he, hb2⟩
    replace CP := hid CP
    have hdn := hD.len
    have hdm := hD.lim
    simp only [u8R, Nat.mul_one] at hdm
    obtain ⟨a1, a2⟩ := hT
    obtain ⟨b1, b2⟩ := hC
    obtain ⟨g1, g2⟩ := hTL
    unfold recErr at hf
    rw [if_pos h0] at hf
    simp only at hf
    rw [hdn] at hf
    clear hM hS hL hD
    have ways : (k = 6 ∧ ((T < 0) ∨ (0 ≤ T ∧ 65535 < T) ∨ (0 ≤ T ∧ T ≤ 65535 ∧ C < 0) ∨ (0 ≤ T ∧ T ≤ 65535 ∧ 0 ≤ C ∧ 65535 < C) ∨ (0 ≤ T ∧ T ≤ 65535 ∧ 0 ≤ C ∧ C ≤ 65535 ∧ L < 0) ∨ (0 ≤ T ∧ T ≤ 65535 ∧ 0 ≤ C ∧ C ≤ 65535 ∧ 0 ≤ L ∧ 4294967295 < L))) ∨ (k = 7 ∧ 0 ≤ T ∧ T ≤ 65535 ∧ 0 ≤ C ∧ C ≤ 65535 ∧ 0 ≤ L ∧ L ≤ 4294967295 ∧ 65535 < n4) := by
      split at hf
      · rename_i h
        split at hf
        · exact absurd hf.symm hk
        · exact .inr ⟨hf.symm, h.1, h.2.1, h.2.2.1, h.2.2.2.1, h.2.2.2.2.1, h.2.2.2.2.2, by omega⟩
      · rename_i h
        exact .inl ⟨hf.symm, by omega⟩
    clear hf hk hlim hlim1
    rcases ways with ⟨rfl, h⟩ | ⟨rfl, q1, q2, q3, q4, q5, q6, q7⟩
    · rcases h with q1 | ⟨q1, q2⟩ | ⟨q1, q2, q3⟩ | ⟨q1, q2, q3, q4⟩ | ⟨q1, q2, q3, q4, q5⟩ | ⟨q1, q2, q3, q4, q5, q6⟩
      all_goals
        try (have p0 : ¬ (T < 0) := by omega)
        try (have p0 : T < 0 := by omega)
        try (have e0 : decide (T < 0) = false := decide_eq_false (by omega))
        try (have e0 : decide (T < 0) = true := decide_eq_true (by omega))
        try (have p1 : ¬ (65535 < T) := by omega)
        try (have p1 : 65535 < T := by omega)
        try (have e1 : decide (65535 < T) = false := decide_eq_false (by omega))
        try (have e1 : decide (65535 < T) = true := decide_eq_true (by omega))
        try (have p2 : ¬ (C < 0) := by omega)
        try (have p2 : C < 0 := by omega)
        try (have e2 : decide (C < 0) = false := decide_eq_false (by omega))
        try (have e2 : decide (C < 0) = true := decide_eq_true (by omega))
        try (have p3 : ¬ (65535 < C) := by omega)
        try (have p3 : 65535 < C := by omega)
        try (have e3 : decide (65535 < C) = false := decide_eq_false (by omega))
        try (have e3 : decide (65535 < C) = true := decide_eq_true (by omega))
        try (have p4 : ¬ (L < 0) := by omega)
        try (have p4 : L < 0 := by omega)
        try (have e4 : decide (L < 0) = false := decide_eq_false (by omega))
        try (have e4 : decide (L < 0) = true := decide_eq_true (by omega))
        try (have p5 : ¬ (0 < L / 4294967296) := by omega)
        try (have p5 : 0 < L / 4294967296 := by omega)
        try (have e5 : decide (0 < L / 4294967296) = false := decide_eq_false (by omega))
        try (have e5 : decide (0 < L / 4294967296) = true := decide_eq_true (by omega))
        try (have p6 : ¬ ((65535 : Int) < (n4 : Int)) := by omega)
        try (have p6 : (65535 : Int) < (n4 : Int) := by omega)
        try (have e6 : decide ((65535 : Int) < (n4 : Int)) = false := decide_eq_false (by omega))
        try (have e6 : decide ((65535 : Int) < (n4 : Int)) = true := decide_eq_true (by omega))
        have tk0 : True := trivial; have tk1 : True := trivial; have tk2 : True := trivial; have tk3 : True := trivial; have tk4 : True := trivial; have tk5 : True := trivial; have tk6 : True := trivial; have tk7 : True := trivial; have tk8 : True := trivial; have tk9 : True := trivial; have tk10 : True := trivial; have tk11 : True := trivial; have tk12 : True := trivial
        go_enter Tryd.func69, Tryd.ntmps69
        go_wp2_with (go_at_call 68; (with_reducible refine (CP.out _ (by (repeat' (first | (with_reducible exact Below.refl _ _) | (with_reducible assumption) | (with_reducible refine below_ext0 ?_ _ _) | (with_reducible refine below_alloc0 ?_ _) | (with_reducible refine Below.ext ?_ ?_ _ _) | (with_reducible refine Below.alloc ?_ ?_ _) | (with_reducible refine Below.setCell ?_ ?_ _) | (with_reducible refine Below.drew ?_) | (with_reducible refine below_draws ?_ _) | go_size | (simp [size_ext]; done) | (simp [size_ext]; omega))))).mono ?_); rintro e w1 ⟨v1, v1', rfl, hb1⟩; obtain ⟨o1, d1, rfl⟩ := ext_of_below hb1; clear hb1)
        go_ret3
        exact ⟨rfl, (by (repeat' (first | (with_reducible exact Below.refl _ _) | (with_reducible assumption) | (with_reducible refine below_ext0 ?_ _ _) | (with_reducible refine below_alloc0 ?_ _) | (with_reducible refine Below.ext ?_ ?_ _ _) | (with_reducible refine Below.alloc ?_ ?_ _) | (with_reducible refine Below.setCell ?_ ?_ _) | (with_reducible refine Below.drew ?_) | (with_reducible refine below_draws ?_ _) | go_size | (simp [size_ext]; done) | (simp [size_ext]; omega))))⟩
    · skip
      try (have p0 : ¬ (T < 0) := by omega)
      try (have p0 : T < 0 := by omega)
      try (have e0 : decide (T < 0) = false := decide_eq_false (by omega))
      try (have e0 : decide (T < 0) = true := decide_eq_true (by omega))
      try (have p1 : ¬ (65535 < T) := by omega)
      try (have p1 : 65535 < T := by omega)
      try (have e1 : decide (65535 < T) = false := decide_eq_false (by omega))
      try (have e1 : decide (65535 < T) = true := decide_eq_true (by omega))
      try (have p2 : ¬ (C < 0) := by omega)
      try (have p2 : C < 0 := by omega)
      try (have e2 : decide (C < 0) = false := decide_eq_false (by omega))
      try (have e2 : decide (C < 0) = true := decide_eq_true (by omega))
      try (have p3 : ¬ (65535 < C) := by omega)
      try (have p3 : 65535 < C := by omega)
      try (have e3 : decide (65535 < C) = false := decide_eq_false (by omega))
      try (have e3 : decide (65535 < C) = true := decide_eq_true (by omega))
      try (have p4 : ¬ (L < 0) := by omega)
      try (have p4 : L < 0 := by omega)
      try (have e4 : decide (L < 0) = false := decide_eq_false (by omega))
      try (have e4 : decide (L < 0) = true := decide_eq_true (by omega))
      try (have p5 : ¬ (0 < L / 4294967296) := by omega)
      try (have p5 : 0 < L / 4294967296 := by omega)
      try (have e5 : decide (0 < L / 4294967296) = false := decide_eq_false (by omega))
      try (have e5 : decide (0 < L / 4294967296) = true := decide_eq_true (by omega))
      try (have p6 : ¬ ((65535 : Int) < (n4 : Int)) := by omega)
      try (have p6 : (65535 : Int) < (n4 : Int) := by omega)
      try (have e6 : decide ((65535 : Int) < (n4 : Int)) = false := decide_eq_false (by omega))
      try (have e6 : decide ((65535 : Int) < (n4 : Int)) = true := decide_eq_true (by omega))
      have tk0 : True := trivial; have tk1 : True := trivial; have tk2 : True := trivial; have tk3 : True := trivial; have tk4 : True := trivial; have tk5 : True := trivial; have tk6 : True := trivial; have tk7 : True := trivial; have tk8 : True := trivial; have tk9 : True := trivial; have tk10 : True := trivial; have tk11 : True := trivial; have tk12 : True := trivial
      go_enter Tryd.func69, Tryd.ntmps69
      go_wp2_with (go_at_call 68; (with_reducible refine (CP.out _ (by (repeat' (first | (with_reducible exact Below.refl _ _) | (with_reducible assumption) | (with_reducible refine below_ext0 ?_ _ _) | (with_reducible refine below_alloc0 ?_ _) | (with_reducible refine Below.ext ?_ ?_ _ _) | (with_reducible refine Below.alloc ?_ ?_ _) | (with_reducible refine Below.setCell ?_ ?_ _) | (with_reducible refine Below.drew ?_) | (with_reducible refine below_draws ?_ _) | go_size | (simp [size_ext]; done) | (simp [size_ext]; omega))))).mono ?_); rintro e w1 ⟨v1, v1', rfl, hb1⟩; obtain ⟨o1, d1, rfl⟩ := ext_of_below hb1; clear hb1)
      go_ret3
      exact ⟨rfl, (by (repeat' (first | (with_reducible exact Below.refl _ _) | (with_reducible assumption) | (with_reducible refine below_ext0 ?_ _ _) | (with_reducible refine below_alloc0 ?_ _) | (with_reducible refine Below.ext ?_ ?_ _ _) | (with_reducible refine Below.alloc ?_ ?_ _) | (with_reducible refine Below.setCell ?_ ?_ _) | (with_reducible refine Below.drew ?_) | (with_reducible refine below_draws ?_ _) | go_size | (simp [size_ext]; done) | (simp [size_ext]; omega))))⟩
  · have CP : ∀ w', Below w.heap.size w w' → Calls Tryd.prog 68 #[.slice A n c, .slice A1 n1 c1, .slice A3 n3 c3] w' fun e w2 => e = .returned (.tuple #[.slice none 0 0, .slice none 0 0, .iface 29 (.int .i64 k)]) ∧ Below w'.heap.size w' w2 := fun w' hb => by
      unfold recErr at hf
      rw [if_neg h0] at hf
      exact pack_bad (hM.later hb) (hS.later hb) (hL.later hb) (by omega) (by omega) hf hk
    replace CP := hid CP
    clear hM hS hL hD h0 hf hlim hlim1
    have tk0 : True := trivial; have tk1 : True := trivial; have tk2 : True := trivial; have tk3 : True := trivial; have tk4 : True := trivial; have tk5 : True := trivial; have tk6 : True := trivial; have tk7 : True := trivial; have tk8 : True := trivial; have tk9 : True := trivial; have tk10 : True := trivial; have tk11 : True := trivial; have tk12 : True := trivial
    go_enter Tryd.func69, Tryd.ntmps69
    go_wp2_with (go_at_call 68; have _t := tk1; (with_reducible refine (CP.out _ (by (repeat' (first | (with_reducible exact Below.refl _ _) | (with_reducible assumption) | (with_reducible refine below_ext0 ?_ _ _) | (with_reducible refine below_alloc0 ?_ _) | (with_reducible refine Below.ext ?_ ?_ _ _) | (with_reducible refine Below.alloc ?_ ?_ _) | (with_reducible refine Below.setCell ?_ ?_ _) | (with_reducible refine Below.drew ?_) | (with_reducible refine below_draws ?_ _) | go_size | (simp [size_ext]; done) | (simp [size_ext]; omega))))).mono ?_); rintro e w1 ⟨rfl, hb⟩; obtain ⟨otk1, dtk1, rfl⟩ := ext_of_below hb; clear hb tk1)
    go_ret3
    exact ⟨rfl, (by (repeat' (first | (with_reducible exact Below.refl _ _) | (with_reducible assumption) | (with_reducible refine below_ext0 ?_ _ _) | (with_reducible refine below_alloc0 ?_ _) | (with_reducible refine Below.ext ?_ ?_ _ _) | (with_reducible refine Below.alloc ?_ ?_ _) | (with_reducible refine Below.setCell ?_ ?_ _) | (with_reducible refine Below.drew ?_) | (with_reducible refine below_draws ?_ _) | go_size | (simp [size_ext]; done) | (simp [size_ext]; omega))))⟩
end Go.Proofs.YtfihedcobopbcaaDoor
/- Messages as they are sent, in plain Lean: questions, records, one behind the other. No function of the program. -/
namespace Go.Proofs.YtfihedcobopbcaaDoor
set_option linter.unusedVariables false
set_option linter.unusedSimpArgs false

abbrev QT := List ByteArray × Int × Int × Unit
def qErr (q : QT) : Int := if nameErr q.1 = 0 then (if 0 ≤ q.2.1 ∧ q.2.1 ≤ 65535 ∧ 0 ≤ q.2.2.1 ∧ q.2.2.1 ≤ 65535 then 0 else 6) else nameErr q.1
def qB (b : List UInt8) (ss : List Int) (q : QT) : List UInt8 := b ++ packT b ss q.1 ++ (two2 q.2.1 ++ two2 q.2.2.1)
def stS (b : List UInt8) (ss : List Int) (l : List ByteArray) : List Int := ss ++ packN b ss l b.length
theorem qErr_zero {q : QT} (h : qErr q = 0) : nameErr q.1 = 0 ∧ (0 ≤ q.2.1 ∧ q.2.1 ≤ 65535) ∧ (0 ≤ q.2.2.1 ∧ q.2.2.1 ≤ 65535) := by
  unfold qErr at h
  by_cases h0 : nameErr q.1 = 0
  · rw [if_pos h0] at h
    split at h
    · rename_i h1; exact ⟨h0, ⟨h1.1, h1.2.1⟩, h1.2.2.1, h1.2.2.2⟩
    · cases h
  · rw [if_neg h0] at h; exact absurd h h0
/-- questions written behind bytes: what is wrong, the bytes, the starts -/
def wrQ : List QT → List UInt8 → List Int → Int × List UInt8 × List Int
  | [], b, ss => (0, b, ss)
  | q :: qs, b, ss => if qErr q = 0 then wrQ qs (qB b ss q) (stS b ss q.1) else (qErr q, [], [])
def wrR : List RecT → List UInt8 → List Int → Int × List UInt8 × List Int
  | [], b, ss => (0, b, ss)
  | r :: rs, b, ss => if recErr r = 0 then wrR rs (recB b ss r) (stS b ss r.1) else (recErr r, [], [])
end Go.Proofs.YtfihedcobopbcaaDoor
/- msg: the writer's question and record. -/
namespace Go.Proofs.YtfihedcobopbcaaDoor
open Go.RowKit
set_option linter.unusedVariables false
set_option linter.unusedSimpArgs false

/-- the writer's cells -/
@[reducible] def wrC (A : Option Addr) (n c : Nat) (A1 : Option Addr) (n1 c1 : Nat) : Array Value := #[.slice A n c, .slice A1 n1 c1]
/-- what the writer holds behind a step -/
structure WrO (w w' : World) (g : Nat) (b : List UInt8) (ss : List Int) : Prop where
  ex : ∃ A n c A1 n1 c1, Blk w' g 99 (wrC A n c A1 n1 c1) ∧ Rd u8R w' w'.heap.size A n c b ∧ Rd intR w' w'.heap.size A1 n1 c1 ss ∧ w'.ownsRow w.heap.size 5 1 (.slice A n c) n (bytesV b)
  grown : w.grownBy w' (some g)
theorem below_grown {w w' : World} (h : Below w.heap.size w w') (r : Option Nat) : w.grownBy w' r := ⟨h.os, h.tape, h.output, h.size, fun k hk _ => h.block k hk⟩
theorem q_cells (P : List UInt8) (T C : Int) (hT : 0 ≤ T ∧ T ≤ 65535) (hC : 0 ≤ C ∧ C ≤ 65535) :
    bytesV P ++ [Value.int .u8 (T / 256), .int .u8 (T % 256), .int .u8 (C / 256), .int .u8 (C % 256)] = bytesV (P ++ (two2 T ++ two2 C)) := by
  have c : ∀ x : Int, 0 ≤ x → x ≤ 255 → ((UInt8.ofNat x.toNat).toNat : Int) = x := fun x h0 h1 => by rw [UInt8.toNat_ofNat']; omega
  simp only [two2, bytesV, List.map_append, List.map_cons, List.map_nil]
  rw [c (T / 256 % 256) (by omega) (by omega), c (T % 256) (by omega) (by omega), c (C / 256 % 256) (by omega) (by omega), c (C % 256) (by omega) (by omega)]
  rw [show T / 256 % 256 = T / 256 by omega, show C / 256 % 256 = C / 256 by omega]
  simp

theorem wr_end {w w2 : World} {g : Nat} {A A' A2 B2 : Option Addr} {n c n1 c1 n2 c2 n' c' : Nat} {X : List UInt8} {Y : List Int} (hk : Blk w2 g 99 (wrC A n c A2 n1 c1)) (hX : Rd u8R w2 w2.heap.size B2 n2 c2 X) (hY : Rd intR w2 w2.heap.size A' n' c' Y) (hb : Below w.heap.size w w2) (hg : g < w.heap.size) (hO : w2.ownsRow w.heap.size 5 1 (.slice B2 n2 c2) n2 (bytesV X)) :
    WrO w ((w2.setCell ⟨g, 0, none⟩ (.slice B2 n2 c2)).setCell ⟨g, 1, none⟩ (.slice A' n' c')) g X Y := by
  have hne : (Value.slice B2 n2 c2).ownBlock ≠ some g := fun e => by have := (hO.lt g e).1; omega
  refine ⟨⟨B2, n2, c2, A', n', c', ?_, ?_, ?_, (hO.kept (grown_set 0 _) (.inr hne)).kept (grown_set 1 _) (.inr hne)⟩, ((below_grown hb _).trans (grown_set _ _)).trans (grown_set _ _)⟩
  · have := (hk.set 0 (.slice B2 n2 c2)).set 1 (.slice A' n' c')
    simpa [wrC] using this
  · exact hX.near_u8 (((NearP.of_sim (SimP.refl _ _)).set (FreeB.of_blk hk (by simp [IsU8])) _).set (FreeB.of_blk hk (by simp [IsU8])) _)
  · exact hY.near_int (((NearP.of_sim (SimP.refl _ _)).set (FreeB.of_blk hk (by simp [IsI64])) _).set (FreeB.of_blk hk (by simp [IsI64])) _)

set_option maxRecDepth 100000 in
set_option maxHeartbeats 4000000 in
theorem wquestion_ok {w : World} {g : Nat} {A : Option Addr} {n c : Nat} {A1 : Option Addr} {n1 c1 : Nat} (hB : Blk w g 99 (wrC A n c A1 n1 c1)) {b : List UInt8} (hM : Rd u8R w w.heap.size A n c b) {ss : List Int} (hS : Rd intR w w.heap.size A1 n1 c1 ss) {A3 : Option Addr} {n3 c3 : Nat} {l : List ByteArray} (hL : Rd strR w w.heap.size A3 n3 c3 l) {T C : Int}
    (hlim : n + 65536 + 512 ≤ 140737488355328) (hlim1 : n1 * 8 + 4096 ≤ 140737488355328) (hf : qErr (l, T, C, ()) = 0) :
    Calls Tryd.prog 43 #[.pointer (some ⟨g, 0, none⟩), .agg #[.slice A3 n3 c3, .int .i64 T, .int .i64 C]] w fun e w' => e = .returned .nilIface ∧ WrO w w' g (qB b ss (l, T, C, ())) (stS b ss l) := by
  obtain ⟨h0, ⟨t1, t2⟩, ⟨u1, u2⟩⟩ := qErr_zero hf
  simp only at h0 t1 t2 u1 u2
  have hmn := hM.len
  have hsn := hS.len
  have hok := nameErr_zero.1 h0
  have hls : lsum l ≤ 254 := by have := hok.2; rw [nsize_lsum] at this; omega
  have hp := packT_len b ss l hok.1
  have hXl : (b ++ packT b ss l).length ≤ n + 255 := by rw [List.length_append]; omega
  have hl2 : (stS b ss l).length ≤ n1 + 255 := by
    have h1 := packN_len b ss l b.length
    have h2 := lsum_len l
    unfold stS
    rw [List.length_append]; omega
  have hg := hB.lt
  have CP : ∀ w', Below w.heap.size w w' → Calls Tryd.prog 68 #[.slice A n c, .slice A1 n1 c1, .slice A3 n3 c3] w' fun e w2 => ∃ v A' n' c', e = .returned (.tuple #[v, .slice A' n' c', .nilIface]) ∧ OwnP w' w2 b ss l v (.slice A' n' c') ∧ Below w'.heap.size w' w2 := fun w' hb => by
    refine (pack_own w' A n c b (hM.later hb) A1 n1 c1 ss (hS.later hb) A3 n3 c3 l (hL.later hb) (by omega) (by omega)).mono ?_
    rintro e w2 ⟨hb2, he⟩
    rw [if_pos h0] at he
    obtain ⟨v, v', he, ho⟩ := he
    obtain ⟨A', c', rfl, _⟩ := own_slice ho.all
    exact ⟨v, A', _, c', he, ho, hb2⟩
  replace CP := hid CP
  have c0 : w.cell? ⟨g, 0, none⟩ = some (.slice A n c) := hB.cell 0
  have c1' : w.cell? ⟨g, 1, none⟩ = some (.slice A1 n1 c1) := hB.cell 1
  have HB := hid hB
  obtain ⟨N, hN⟩ : ∃ N, (b ++ packT b ss l).length = N := ⟨_, rfl⟩
  have HN := hid hN
  have HL2 := hid hl2
  have hNb : N ≤ n + 255 := by omega
  clear hM hS hL hf hok hp hXl hN hls hmn hsn hB hl2
  have r0 : ¬ T < 0 := by omega
  have r1 : ¬ 65535 < T := by omega
  have r2 : ¬ C < 0 := by omega
  have r3 : ¬ 65535 < C := by omega
  have e0 : decide (T < 0) = false := decide_eq_false r0
  have e1 : decide (65535 < T) = false := decide_eq_false r1
  have e2 : decide (C < 0) = false := decide_eq_false r2
  have e3 : decide (65535 < C) = false := decide_eq_false r3
  have ab1 : (N + 4) * 1 ≤ 140737488355328 := by omega
  have ab2 : N + 4 ≤ maxLen := by unfold maxLen; omega
  have tk0 : True := trivial; have tk1 : True := trivial; have tk2 : True := trivial; have tk3 : True := trivial; have tk4 : True := trivial; have tk5 : True := trivial; have tk6 : True := trivial; have tk7 : True := trivial; have tk8 : True := trivial; have tk9 : True := trivial; have tk10 : True := trivial; have tk11 : True := trivial; have tk12 : True := trivial
  go_enter Tryd.func43, Tryd.ntmps43
  go_wp2_with fail
  go_region_held3 (fun w' => w'.cell? ⟨g, 0, none⟩ = some (.slice A n c) ∧ w'.cell? ⟨g, 1, none⟩ = some (.slice A1 n1 c1) ∧ w'.cell? ⟨w.heap.size, 0, none⟩ = some (.slice A3 n3 c3)) (((try dsimp only); (repeat' apply And.intro) <;> (first | assumption | (go_simp; done)))) (first
    | (go_at_call 68; have _t := tk1; (with_reducible refine (CP.out _ (by (repeat' (first | (with_reducible exact Below.refl _ _) | (with_reducible assumption) | (with_reducible refine below_ext0 ?_ _ _) | (with_reducible refine below_alloc0 ?_ _) | (with_reducible refine Below.ext ?_ ?_ _ _) | (with_reducible refine Below.alloc ?_ ?_ _) | (with_reducible refine Below.setCell ?_ ?_ _) | (with_reducible refine Below.drew ?_) | (with_reducible refine below_draws ?_ _) | go_size | (simp [size_ext]; done) | (simp [size_ext]; omega))))).mono ?_); rintro e w1 ⟨v1, A', n', c', rfl, ho1, hb1⟩; have hB0 := HB.out; have hk := (Blk.below (by (repeat' (first | (with_reducible exact Blk.new _ _ _) | (with_reducible assumption) | (with_reducible refine Blk.ext ?_ _ _) | (with_reducible refine Blk.drew ?_) | (with_reducible refine Blk.alloc ?_ _)))) hb1 (by simp; omega) : Blk w1 g 99 (wrC A n c A1 n1 c1)); have kx := (Blk.below (by (repeat' (first | (with_reducible exact Blk.new _ _ _) | (with_reducible assumption) | (with_reducible refine Blk.ext ?_ _ _) | (with_reducible refine Blk.drew ?_) | (with_reducible refine Blk.alloc ?_ _)))) hb1 (by simp) : Blk w1 w.heap.size 65 #[.slice A3 n3 c3, .int .i64 T, .int .i64 C]); have x0 : w1.cell? ⟨w.heap.size, 0, none⟩ = some (.slice A3 n3 c3) := kx.cell 0; have x1 : w1.cell? ⟨w.heap.size, 1, none⟩ = some (.int .i64 T) := kx.cell 1; have x2 : w1.cell? ⟨w.heap.size, 2, none⟩ = some (.int .i64 C) := kx.cell 2; have y0 : w1.cell? ⟨g, 0, none⟩ = some (.slice A n c) := hk.cell 0; have y1 : w1.cell? ⟨g, 1, none⟩ = some (.slice A1 n1 c1) := hk.cell 1; have z1 := hb1.size; simp at z1; have ho1' := own_less (base' := w.heap.size + 1) ho1.out (by simp); rw [HN.out] at ho1'; have HO1 := hid ho1'; have HP1 := hid ho1; have HB1 := hid (Below.trans (by (repeat' (first | (with_reducible exact Below.refl _ _) | (with_reducible assumption) | (with_reducible refine below_ext0 ?_ _ _) | (with_reducible refine below_alloc0 ?_ _) | (with_reducible refine Below.ext ?_ ?_ _ _) | (with_reducible refine Below.alloc ?_ ?_ _) | (with_reducible refine Below.setCell ?_ ?_ _) | (with_reducible refine Below.drew ?_) | (with_reducible refine below_draws ?_ _) | go_size | (simp [size_ext]; done) | (simp [size_ext]; omega)))) (hb1.mono (by simp)) : Below w.heap.size w w1); have KX1 := hid kx; have KB1 := hid hk; clear ho1 ho1' hb1 kx hk hB0 tk1))
  all_goals
    go_wp2_with (at_builtin; have _t := tk2; refine wpList_appT rfl _ _ 22 rfl (w.heap.size + 1) 5 1 1 el_u8 v1 N _ rfl (HO1.out.alloc _) _ 4 4 _ rfl (src_lit _ rfl (by simp [Value.oneCell']) rfl) ab1 ab2 (by simp; omega) ?_; intro v2 w2 ho2 ha2; have hb2 := ha2.below (HO1.out.alloc _) (by simp; omega); have hk := (KB1.out.alloc _).below (w' := w2) (B := g + 1) ⟨hb2.os, hb2.tape, hb2.output, hb2.size, fun k hk => ha2.grown.block k (by simp; omega) (fun e => by have := HO1.out.lt k e.symm; omega)⟩ (by omega); have y20 : w2.cell? ⟨g, 0, none⟩ = some (.slice A n c) := hk.cell 0; have y21 : w2.cell? ⟨g, 1, none⟩ = some (.slice A1 n1 c1) := hk.cell 1; have g20 : w2.frozen? ⟨g, 0, none⟩ = false := hk.frozen 0; have g21 : w2.frozen? ⟨g, 1, none⟩ = false := hk.frozen 1; have z2 := hb2.size; simp only [World.size_alloc] at z2; obtain ⟨A2, c2, rfl, _⟩ := own_slice ho2; have HO2 := hid ho2; have HA2 := hid ha2; have HB2 := hid hb2; have KB2 := hid hk; clear ho2 ha2 hb2 hk tk2)
    go_ret
    have ho := HO2.out
    rw [q_cells _ _ _ ⟨t1, t2⟩ ⟨u1, u2⟩] at ho
    obtain ⟨A5, c5, he5, hr5⟩ := own_rd_u8 (l := qB b ss (l, T, C, ())) ho (by omega) (by omega)
    cases he5
    obtain ⟨hall, _⟩ := (HA2.out.alloc).other HP1.out.all HP1.out.apart.symm
    have hl2 := HL2.out
    obtain ⟨A6, c6, he6, hr6⟩ := own_rd_int hall HP1.out.ints (by simp; omega) (by unfold stS at hl2; omega)
    cases he6
    exact ⟨rfl, wr_end KB2.out hr5 hr6 (Below.trans (Below.alloc HB1.out (by omega) _) (HB2.out.mono (by omega))) hg (own_less ho (by omega))⟩

set_option maxRecDepth 100000 in
set_option maxHeartbeats 4000000 in
theorem wrecord_ok {w : World} {g : Nat} {A : Option Addr} {n c : Nat} {A1 : Option Addr} {n1 c1 : Nat} (hB : Blk w g 99 (wrC A n c A1 n1 c1)) {b : List UInt8} (hM : Rd u8R w w.heap.size A n c b) {ss : List Int} (hS : Rd intR w w.heap.size A1 n1 c1 ss) {A3 : Option Addr} {n3 c3 : Nat} {l : List ByteArray} (hL : Rd strR w w.heap.size A3 n3 c3 l) {T C L : Int} {A4 : Option Addr} {n4 c4 : Nat} {d : List UInt8} (hD : Rd u8R w w.heap.size A4 n4 c4 d)
    (hlim : n + 65536 + 512 ≤ 140737488355328) (hlim1 : n1 * 8 + 4096 ≤ 140737488355328) (hn : n ≤ 70368744177664) (hn1 : n1 ≤ 70368744177) (hf : recErr (l, T, C, L, d, ()) = 0) :
    Calls Tryd.prog 44 #[.pointer (some ⟨g, 0, none⟩), .agg #[.slice A3 n3 c3, .int .i64 T, .int .i64 C, .int .i64 L, .slice A4 n4 c4]] w fun e w' => e = .returned .nilIface ∧ WrO w w' g (recB b ss (l, T, C, L, d, ())) (stS b ss l) := by
  have hg := hB.lt
  have hlb := hM.len
  have hls := hS.len
  have CP : ∀ w', Below w.heap.size w w' → Calls Tryd.prog 69 #[.slice A n c, .slice A1 n1 c1, .agg #[.slice A3 n3 c3, .int .i64 T, .int .i64 C, .int .i64 L, .slice A4 n4 c4]] w' fun e w2 => ∃ A2 n2 c2 A' n' c', e = .returned (.tuple #[.slice A2 n2 c2, .slice A' n' c', .nilIface]) ∧ (Rd u8R w2 w2.heap.size A2 n2 c2 (recB b ss (l, T, C, L, d, ())) ∧ Rd intR w2 w2.heap.size A' n' c' (stS b ss l) ∧ w2.ownsRow w'.heap.size 5 1 (.slice A2 n2 c2) n2 (bytesV (recB b ss (l, T, C, L, d, ())))) ∧ Below w'.heap.size w' w2 := fun w' hb => by
    refine (rwrite_ok (hM.later hb) (hS.later hb) (hL.later hb) (hD.later hb) hlim hlim1 hf).mono ?_
    rintro e w2 ⟨v, v', he, ho, hb2⟩
    have hy := ho.lenY
    simp only at hy
    have hx := ho.lenX
    have ha := ho.all
    have hi := ho.ints
    simp only at ha hi
    obtain ⟨A2, c2, rfl, hr⟩ := own_rd_u8 ho.out hb2.size (by omega)
    obtain ⟨A', c', rfl, hr2⟩ := own_rd_int ha hi hb2.size (by omega)
    exact ⟨A2, _, c2, A', _, c', he, ⟨hr, hr2, ho.out⟩, hb2⟩
  replace CP := hid CP
  have c0 : w.cell? ⟨g, 0, none⟩ = some (.slice A n c) := hB.cell 0
  have c1' : w.cell? ⟨g, 1, none⟩ = some (.slice A1 n1 c1) := hB.cell 1
  have HB := hid hB
  clear hM hS hL hD hf hB hlb hls
  have tk0 : True := trivial; have tk1 : True := trivial; have tk2 : True := trivial; have tk3 : True := trivial; have tk4 : True := trivial; have tk5 : True := trivial; have tk6 : True := trivial; have tk7 : True := trivial; have tk8 : True := trivial; have tk9 : True := trivial; have tk10 : True := trivial; have tk11 : True := trivial; have tk12 : True := trivial
  go_enter Tryd.func44, Tryd.ntmps44
  go_wp2_with fail
  go_region_held3 (fun w' => w'.cell? ⟨g, 0, none⟩ = some (.slice A n c) ∧ w'.cell? ⟨g, 1, none⟩ = some (.slice A1 n1 c1) ∧ w'.cell? ⟨w.heap.size, 0, none⟩ = some (.slice A3 n3 c3) ∧ w'.cell? ⟨w.heap.size, 1, none⟩ = some (.int .i64 T) ∧ w'.cell? ⟨w.heap.size, 2, none⟩ = some (.int .i64 C) ∧ w'.cell? ⟨w.heap.size, 3, none⟩ = some (.int .i64 L) ∧ w'.cell? ⟨w.heap.size, 4, none⟩ = some (.slice A4 n4 c4)) (((try dsimp only); (repeat' apply And.intro) <;> (first | assumption | (go_simp; done)))) (first
    | (go_at_call 69; have _t := tk1; (with_reducible refine (CP.out _ (by (repeat' (first | (with_reducible exact Below.refl _ _) | (with_reducible assumption) | (with_reducible refine below_ext0 ?_ _ _) | (with_reducible refine below_alloc0 ?_ _) | (with_reducible refine Below.ext ?_ ?_ _ _) | (with_reducible refine Below.alloc ?_ ?_ _) | (with_reducible refine Below.setCell ?_ ?_ _) | (with_reducible refine Below.drew ?_) | (with_reducible refine below_draws ?_ _) | go_size | (simp [size_ext]; done) | (simp [size_ext]; omega))))).mono ?_); rintro e w1 ⟨A2, n2, c2, A', n', c', rfl, ⟨hr, hr2, hro⟩, hb1⟩; have HRO := hid (own_less hro (base' := w.heap.size) (by simp)); clear hro; have hB0 := HB.out; have hk := (Blk.below (by (repeat' (first | (with_reducible exact Blk.new _ _ _) | (with_reducible assumption) | (with_reducible refine Blk.ext ?_ _ _) | (with_reducible refine Blk.drew ?_) | (with_reducible refine Blk.alloc ?_ _)))) hb1 (by simp; omega) : Blk w1 g 99 (wrC A n c A1 n1 c1)); have kx := (Blk.below (by (repeat' (first | (with_reducible exact Blk.new _ _ _) | (with_reducible assumption) | (with_reducible refine Blk.ext ?_ _ _) | (with_reducible refine Blk.drew ?_) | (with_reducible refine Blk.alloc ?_ _)))) hb1 (by simp) : Blk w1 w.heap.size 67 #[.slice A3 n3 c3, .int .i64 T, .int .i64 C, .int .i64 L, .slice A4 n4 c4]); have x0 : w1.cell? ⟨w.heap.size, 0, none⟩ = some (.slice A3 n3 c3) := kx.cell 0; have x1 : w1.cell? ⟨w.heap.size, 1, none⟩ = some (.int .i64 T) := kx.cell 1; have x2 : w1.cell? ⟨w.heap.size, 2, none⟩ = some (.int .i64 C) := kx.cell 2; have x3 : w1.cell? ⟨w.heap.size, 3, none⟩ = some (.int .i64 L) := kx.cell 3; have x4 : w1.cell? ⟨w.heap.size, 4, none⟩ = some (.slice A4 n4 c4) := kx.cell 4; have y0 : w1.cell? ⟨g, 0, none⟩ = some (.slice A n c) := hk.cell 0; have y1 : w1.cell? ⟨g, 1, none⟩ = some (.slice A1 n1 c1) := hk.cell 1; have g0 : w1.frozen? ⟨g, 0, none⟩ = false := hk.frozen 0; have g1 : w1.frozen? ⟨g, 1, none⟩ = false := hk.frozen 1; have z1 := hb1.size; simp at z1; have HB1 := hid (Below.trans (by (repeat' (first | (with_reducible exact Below.refl _ _) | (with_reducible assumption) | (with_reducible refine below_ext0 ?_ _ _) | (with_reducible refine below_alloc0 ?_ _) | (with_reducible refine Below.ext ?_ ?_ _ _) | (with_reducible refine Below.alloc ?_ ?_ _) | (with_reducible refine Below.setCell ?_ ?_ _) | (with_reducible refine Below.drew ?_) | (with_reducible refine below_draws ?_ _) | go_size | (simp [size_ext]; done) | (simp [size_ext]; omega)))) (hb1.mono (by simp)) : Below w.heap.size w w1); have KB1 := hid hk; have R1 := hid hr; have R2 := hid hr2; clear hr hr2 hb1 kx hk hB0 tk1))
  all_goals
    go_wp2
    go_ret
    exact ⟨rfl, wr_end KB1.out R1.out R2.out HB1.out hg HRO.out⟩
end Go.Proofs.YtfihedcobopbcaaDoor
/- msg: the writer's question and record, where they may not be. -/
namespace Go.Proofs.YtfihedcobopbcaaDoor
open Go.RowKit
set_option linter.unusedVariables false
set_option linter.unusedSimpArgs false

set_option maxRecDepth 100000 in
set_option maxHeartbeats 4000000 in
theorem wquestion_bad {w : World} {g : Nat} {A : Option Addr} {n c : Nat} {A1 : Option Addr} {n1 c1 : Nat} (hB : Blk w g 99 (wrC A n c A1 n1 c1)) {b : List UInt8} (hM : Rd u8R w w.heap.size A n c b) {ss : List Int} (hS : Rd intR w w.heap.size A1 n1 c1 ss) {A3 : Option Addr} {n3 c3 : Nat} {l : List ByteArray} (hL : Rd strR w w.heap.size A3 n3 c3 l) {T C : Int} (hT : I64 T) (hC : I64 C)
    (hlim : n + 65536 + 512 ≤ 140737488355328) (hlim1 : n1 * 8 + 4096 ≤ 140737488355328) {k : Int} (hf : qErr (l, T, C, ()) = k) (hk : k ≠ 0) :
    Calls Tryd.prog 43 #[.pointer (some ⟨g, 0, none⟩), .agg #[.slice A3 n3 c3, .int .i64 T, .int .i64 C]] w fun e w' => e = .returned (.iface 29 (.int .i64 k)) ∧ Below w.heap.size w w' := by
  have hg := hB.lt
  have HB := hid hB
  have c0 : w.cell? ⟨g, 0, none⟩ = some (.slice A n c) := hB.cell 0
  have c1' : w.cell? ⟨g, 1, none⟩ = some (.slice A1 n1 c1) := hB.cell 1
  obtain ⟨a1, a2⟩ := hT
  obtain ⟨b1, b2⟩ := hC
  by_cases h0 : nameErr l = 0
  · have CP : ∀ w', Below w.heap.size w w' → Calls Tryd.prog 68 #[.slice A n c, .slice A1 n1 c1, .slice A3 n3 c3] w' fun e w2 => ∃ A2 n2 c2 A' n' c', e = .returned (.tuple #[.slice A2 n2 c2, .slice A' n' c', .nilIface]) ∧ Below w'.heap.size w' w2 := fun w' hb => by
      refine (pack_own w' A n c b (hM.later hb) A1 n1 c1 ss (hS.later hb) A3 n3 c3 l (hL.later hb) (by omega) (by omega)).mono ?_
      rintro e w2 ⟨hb2, he⟩
      rw [if_pos h0] at he
      obtain ⟨v, v', he, ho⟩ := he
      obtain ⟨A', c', rfl, _⟩ := own_slice ho.all
      obtain ⟨A2, c2, rfl, _⟩ := own_slice ho.out
      exact ⟨A2, _, c2, A', _, c', he, hb2⟩
    replace CP := hid CP
    have ways : k = 6 ∧ ((T < 0) ∨ (0 ≤ T ∧ 65535 < T) ∨ (0 ≤ T ∧ T ≤ 65535 ∧ C < 0) ∨ (0 ≤ T ∧ T ≤ 65535 ∧ 0 ≤ C ∧ 65535 < C)) := by
      unfold qErr at hf
      rw [if_pos h0] at hf
      simp only at hf
      split at hf
      · exact absurd hf.symm hk
      · exact ⟨hf.symm, by omega⟩
    clear hf hk h0 hM hS hL hB
    obtain ⟨rfl, h⟩ := ways
    rcases h with q1 | ⟨q1, q2⟩ | ⟨q1, q2, q3⟩ | ⟨q1, q2, q3, q4⟩
    all_goals
      try (have p0 : ¬ (T < 0) := by omega)
      try (have p0 : T < 0 := by omega)
      try (have e0 : decide (T < 0) = false := decide_eq_false (by omega))
      try (have e0 : decide (T < 0) = true := decide_eq_true (by omega))
      try (have p1 : ¬ (65535 < T) := by omega)
      try (have p1 : 65535 < T := by omega)
      try (have e1 : decide (65535 < T) = false := decide_eq_false (by omega))
      try (have e1 : decide (65535 < T) = true := decide_eq_true (by omega))
      try (have p2 : ¬ (C < 0) := by omega)
      try (have p2 : C < 0 := by omega)
      try (have e2 : decide (C < 0) = false := decide_eq_false (by omega))
      try (have e2 : decide (C < 0) = true := decide_eq_true (by omega))
      try (have p3 : ¬ (65535 < C) := by omega)
      try (have p3 : 65535 < C := by omega)
      try (have e3 : decide (65535 < C) = false := decide_eq_false (by omega))
      try (have e3 : decide (65535 < C) = true := decide_eq_true (by omega))
      have tk0 : True := trivial; have tk1 : True := trivial; have tk2 : True := trivial; have tk3 : True := trivial; have tk4 : True := trivial; have tk5 : True := trivial; have tk6 : True := trivial; have tk7 : True := trivial; have tk8 : True := trivial; have tk9 : True := trivial; have tk10 : True := trivial; have tk11 : True := trivial; have tk12 : True := trivial
      go_enter Tryd.func43, Tryd.ntmps43
      go_wp2_with fail
      go_region_held3 (fun w' => w'.cell? ⟨g, 0, none⟩ = some (.slice A n c) ∧ w'.cell? ⟨g, 1, none⟩ = some (.slice A1 n1 c1) ∧ w'.cell? ⟨w.heap.size, 0, none⟩ = some (.slice A3 n3 c3)) (((try dsimp only); (repeat' apply And.intro) <;> (first | assumption | (go_simp; done)))) (first
        | (go_at_call 68; have _t := tk1; (with_reducible refine (CP.out _ (by (repeat' (first | (with_reducible exact Below.refl _ _) | (with_reducible assumption) | (with_reducible refine below_ext0 ?_ _ _) | (with_reducible refine below_alloc0 ?_ _) | (with_reducible refine Below.ext ?_ ?_ _ _) | (with_reducible refine Below.alloc ?_ ?_ _) | (with_reducible refine Below.setCell ?_ ?_ _) | (with_reducible refine Below.drew ?_) | (with_reducible refine below_draws ?_ _) | go_size | (simp [size_ext]; done) | (simp [size_ext]; omega))))).mono ?_); rintro e w1 ⟨A2, n2, c2, A', n', c', rfl, hb1⟩; have kx := (Blk.below (by (repeat' (first | (with_reducible exact Blk.new _ _ _) | (with_reducible assumption) | (with_reducible refine Blk.ext ?_ _ _) | (with_reducible refine Blk.drew ?_) | (with_reducible refine Blk.alloc ?_ _)))) hb1 (by simp) : Blk w1 w.heap.size 65 #[.slice A3 n3 c3, .int .i64 T, .int .i64 C]); have hB0 := HB.out; have hk := (Blk.below (by (repeat' (first | (with_reducible exact Blk.new _ _ _) | (with_reducible assumption) | (with_reducible refine Blk.ext ?_ _ _) | (with_reducible refine Blk.drew ?_) | (with_reducible refine Blk.alloc ?_ _)))) hb1 (by simp; omega) : Blk w1 g 99 (wrC A n c A1 n1 c1)); have kg0 : w1.cell? ⟨g, 0, none⟩ = some (.slice A n c) := hk.cell 0; have kg1 : w1.cell? ⟨g, 1, none⟩ = some (.slice A1 n1 c1) := hk.cell 1; have x0 : w1.cell? ⟨w.heap.size, 0, none⟩ = some (.slice A3 n3 c3) := kx.cell 0; have x1 : w1.cell? ⟨w.heap.size, 1, none⟩ = some (.int .i64 T) := kx.cell 1; have x2 : w1.cell? ⟨w.heap.size, 2, none⟩ = some (.int .i64 C) := kx.cell 2; have HB1 := hid (Below.trans (by (repeat' (first | (with_reducible exact Below.refl _ _) | (with_reducible assumption) | (with_reducible refine below_ext0 ?_ _ _) | (with_reducible refine below_alloc0 ?_ _) | (with_reducible refine Below.ext ?_ ?_ _ _) | (with_reducible refine Below.alloc ?_ ?_ _) | (with_reducible refine Below.setCell ?_ ?_ _) | (with_reducible refine Below.drew ?_) | (with_reducible refine below_draws ?_ _) | go_size | (simp [size_ext]; done) | (simp [size_ext]; omega)))) (hb1.mono (by simp)) : Below w.heap.size w w1); clear hb1 kx hk hB0 tk1))
      all_goals
        go_wp2
        go_ret
        exact ⟨rfl, HB1.out⟩
  · have CP : ∀ w', Below w.heap.size w w' → Calls Tryd.prog 68 #[.slice A n c, .slice A1 n1 c1, .slice A3 n3 c3] w' fun e w2 => e = .returned (.tuple #[.slice none 0 0, .slice none 0 0, .iface 29 (.int .i64 k)]) ∧ Below w'.heap.size w' w2 := fun w' hb => by
      unfold qErr at hf
      rw [if_neg h0] at hf
      exact pack_bad (hM.later hb) (hS.later hb) (hL.later hb) (by omega) (by omega) hf hk
    replace CP := hid CP
    clear hM hS hL hB hf hk h0
    have tk0 : True := trivial; have tk1 : True := trivial; have tk2 : True := trivial; have tk3 : True := trivial; have tk4 : True := trivial; have tk5 : True := trivial; have tk6 : True := trivial; have tk7 : True := trivial; have tk8 : True := trivial; have tk9 : True := trivial; have tk10 : True := trivial; have tk11 : True := trivial; have tk12 : True := trivial
    go_enter Tryd.func43, Tryd.ntmps43
    go_wp2_with fail
    go_region_held3 (fun w' => w'.cell? ⟨g, 0, none⟩ = some (.slice A n c) ∧ w'.cell? ⟨g, 1, none⟩ = some (.slice A1 n1 c1) ∧ w'.cell? ⟨w.heap.size, 0, none⟩ = some (.slice A3 n3 c3)) (((try dsimp only); (repeat' apply And.intro) <;> (first | assumption | (go_simp; done)))) (first
      | (go_at_call 68; have _t := tk1; (with_reducible refine (CP.out _ (by (repeat' (first | (with_reducible exact Below.refl _ _) | (with_reducible assumption) | (with_reducible refine below_ext0 ?_ _ _) | (with_reducible refine below_alloc0 ?_ _) | (with_reducible refine Below.ext ?_ ?_ _ _) | (with_reducible refine Below.alloc ?_ ?_ _) | (with_reducible refine Below.setCell ?_ ?_ _) | (with_reducible refine Below.drew ?_) | (with_reducible refine below_draws ?_ _) | go_size | (simp [size_ext]; done) | (simp [size_ext]; omega))))).mono ?_); rintro e w1 ⟨rfl, hb1⟩; have kx := (Blk.below (by (repeat' (first | (with_reducible exact Blk.new _ _ _) | (with_reducible assumption) | (with_reducible refine Blk.ext ?_ _ _) | (with_reducible refine Blk.drew ?_) | (with_reducible refine Blk.alloc ?_ _)))) hb1 (by simp) : Blk w1 w.heap.size 65 #[.slice A3 n3 c3, .int .i64 T, .int .i64 C]); have hB0 := HB.out; have hk := (Blk.below (by (repeat' (first | (with_reducible exact Blk.new _ _ _) | (with_reducible assumption) | (with_reducible refine Blk.ext ?_ _ _) | (with_reducible refine Blk.drew ?_) | (with_reducible refine Blk.alloc ?_ _)))) hb1 (by simp; omega) : Blk w1 g 99 (wrC A n c A1 n1 c1)); have kg0 : w1.cell? ⟨g, 0, none⟩ = some (.slice A n c) := hk.cell 0; have kg1 : w1.cell? ⟨g, 1, none⟩ = some (.slice A1 n1 c1) := hk.cell 1; have x0 : w1.cell? ⟨w.heap.size, 0, none⟩ = some (.slice A3 n3 c3) := kx.cell 0; have HB1 := hid (Below.trans (by (repeat' (first | (with_reducible exact Below.refl _ _) | (with_reducible assumption) | (with_reducible refine below_ext0 ?_ _ _) | (with_reducible refine below_alloc0 ?_ _) | (with_reducible refine Below.ext ?_ ?_ _ _) | (with_reducible refine Below.alloc ?_ ?_ _) | (with_reducible refine Below.setCell ?_ ?_ _) | (with_reducible refine Below.drew ?_) | (with_reducible refine below_draws ?_ _) | go_size | (simp [size_ext]; done) | (simp [size_ext]; omega)))) (hb1.mono (by simp)) : Below w.heap.size w w1); clear hb1 kx hk hB0 tk1))
    all_goals
      go_wp2
      go_ret
      exact ⟨rfl, HB1.out⟩

set_option maxRecDepth 100000 in
set_option maxHeartbeats 4000000 in
theorem wrecord_bad {w : World} {g : Nat} {A : Option Addr} {n c : Nat} {A1 : Option Addr} {n1 c1 : Nat} (hB : Blk w g 99 (wrC A n c A1 n1 c1)) {b : List UInt8} (hM : Rd u8R w w.heap.size A n c b) {ss : List Int} (hS : Rd intR w w.heap.size A1 n1 c1 ss) {A3 : Option Addr} {n3 c3 : Nat} {l : List ByteArray} (hL : Rd strR w w.heap.size A3 n3 c3 l) {T C L : Int} {A4 : Option Addr} {n4 c4 : Nat} {d : List UInt8} (hD : Rd u8R w w.heap.size A4 n4 c4 d) (hT : I64 T) (hC : I64 C) (hTL : I64 L)
    (hlim : n + 65536 + 512 ≤ 140737488355328) (hlim1 : n1 * 8 + 4096 ≤ 140737488355328) {k : Int} (hf : recErr (l, T, C, L, d, ()) = k) (hk : k ≠ 0) :
    Calls Tryd.prog 44 #[.pointer (some ⟨g, 0, none⟩), .agg #[.slice A3 n3 c3, .int .i64 T, .int .i64 C, .int .i64 L, .slice A4 n4 c4]] w fun e w' => e = .returned (.iface 29 (.int .i64 k)) ∧ Below w.heap.size w w' := by
  have hg := hB.lt
  have HB := hid hB
  have CP := hid fun w' (hb : Below w.heap.size w w') => rwrite_bad (hM.later hb) (hS.later hb) (hL.later hb) (hD.later hb) hT hC hTL hlim hlim1 hf hk
  have c0 : w.cell? ⟨g, 0, none⟩ = some (.slice A n c) := hB.cell 0
  have c1' : w.cell? ⟨g, 1, none⟩ = some (.slice A1 n1 c1) := hB.cell 1
  clear hM hS hL hD hf hB hk
  have tk0 : True := trivial; have tk1 : True := trivial; have tk2 : True := trivial; have tk3 : True := trivial; have tk4 : True := trivial; have tk5 : True := trivial; have tk6 : True := trivial; have tk7 : True := trivial; have tk8 : True := trivial; have tk9 : True := trivial; have tk10 : True := trivial; have tk11 : True := trivial; have tk12 : True := trivial
  go_enter Tryd.func44, Tryd.ntmps44
  go_wp2_with fail
  go_region_held3 (fun w' => w'.cell? ⟨g, 0, none⟩ = some (.slice A n c) ∧ w'.cell? ⟨g, 1, none⟩ = some (.slice A1 n1 c1) ∧ w'.cell? ⟨w.heap.size, 0, none⟩ = some (.slice A3 n3 c3) ∧ w'.cell? ⟨w.heap.size, 1, none⟩ = some (.int .i64 T) ∧ w'.cell? ⟨w.heap.size, 2, none⟩ = some (.int .i64 C) ∧ w'.cell? ⟨w.heap.size, 3, none⟩ = some (.int .i64 L) ∧ w'.cell? ⟨w.heap.size, 4, none⟩ = some (.slice A4 n4 c4)) (((try dsimp only); (repeat' apply And.intro) <;> (first | assumption | (go_simp; done)))) (first
    | (go_at_call 69; have _t := tk1; (with_reducible refine (CP.out _ (by (repeat' (first | (with_reducible exact Below.refl _ _) | (with_reducible assumption) | (with_reducible refine below_ext0 ?_ _ _) | (with_reducible refine below_alloc0 ?_ _) | (with_reducible refine Below.ext ?_ ?_ _ _) | (with_reducible refine Below.alloc ?_ ?_ _) | (with_reducible refine Below.setCell ?_ ?_ _) | (with_reducible refine Below.drew ?_) | (with_reducible refine below_draws ?_ _) | go_size | (simp [size_ext]; done) | (simp [size_ext]; omega))))).mono ?_); rintro e w1 ⟨rfl, hb1⟩; have kx := (Blk.below (by (repeat' (first | (with_reducible exact Blk.new _ _ _) | (with_reducible assumption) | (with_reducible refine Blk.ext ?_ _ _) | (with_reducible refine Blk.drew ?_) | (with_reducible refine Blk.alloc ?_ _)))) hb1 (by simp) : Blk w1 w.heap.size 67 #[.slice A3 n3 c3, .int .i64 T, .int .i64 C, .int .i64 L, .slice A4 n4 c4]); have x0 : w1.cell? ⟨w.heap.size, 0, none⟩ = some (.slice A3 n3 c3) := kx.cell 0; have x1 : w1.cell? ⟨w.heap.size, 1, none⟩ = some (.int .i64 T) := kx.cell 1; have x2 : w1.cell? ⟨w.heap.size, 2, none⟩ = some (.int .i64 C) := kx.cell 2; have x3 : w1.cell? ⟨w.heap.size, 3, none⟩ = some (.int .i64 L) := kx.cell 3; have x4 : w1.cell? ⟨w.heap.size, 4, none⟩ = some (.slice A4 n4 c4) := kx.cell 4; have hB0 := HB.out; have hk := (Blk.below (by (repeat' (first | (with_reducible exact Blk.new _ _ _) | (with_reducible assumption) | (with_reducible refine Blk.ext ?_ _ _) | (with_reducible refine Blk.drew ?_) | (with_reducible refine Blk.alloc ?_ _)))) hb1 (by simp; omega) : Blk w1 g 99 (wrC A n c A1 n1 c1)); have kg0 : w1.cell? ⟨g, 0, none⟩ = some (.slice A n c) := hk.cell 0; have kg1 : w1.cell? ⟨g, 1, none⟩ = some (.slice A1 n1 c1) := hk.cell 1; have HB1 := hid (Below.trans (by (repeat' (first | (with_reducible exact Below.refl _ _) | (with_reducible assumption) | (with_reducible refine below_ext0 ?_ _ _) | (with_reducible refine below_alloc0 ?_ _) | (with_reducible refine Below.ext ?_ ?_ _ _) | (with_reducible refine Below.alloc ?_ ?_ _) | (with_reducible refine Below.setCell ?_ ?_ _) | (with_reducible refine Below.drew ?_) | (with_reducible refine below_draws ?_ _) | go_size | (simp [size_ext]; done) | (simp [size_ext]; omega)))) (hb1.mono (by simp)) : Below w.heap.size w w1); clear hb1 kx hk hB0 tk1))
  all_goals
    go_wp2
    go_ret
    exact ⟨rfl, HB1.out⟩
end Go.Proofs.YtfihedcobopbcaaDoor
/- rr: Read. -/
namespace Go.Proofs.YtfihedcobopbcaaDoor
open Go.RowKit
set_option linter.unusedVariables false
set_option linter.unusedSimpArgs false
attribute [local go_sem ↓] Go.wp_at_zero Go.wp_at_succ

set_option maxRecDepth 100000 in
set_option maxHeartbeats 4000000 in
theorem rread_ok {w : World} {A : Option Addr} {n c : Nat} {m : List UInt8} (hM : Rd u8R w w.heap.size A n c m) {at_ : Int} {l : List ByteArray} {p en : Nat} (hr : rrF m at_ = (0, l, p, en)) {k : Nat} (hk : l.length = k) {T C L : Int} {D : List UInt8} (hrec : recOf m l p en = (l, T, C, L, D, ())) {nd : Nat} (hd : D.length = nd) :
    Calls Tryd.prog 29 #[.slice A n c, .int .i64 at_] w fun e w' => ∃ A' c' A2 c2, e = .returned (.tuple #[.agg #[.slice A' k c', .int .i64 T, .int .i64 C, .int .i64 L, .slice A2 nd c2], .int .i64 (en : Int), .nilIface]) ∧ (Rd strR w' w'.heap.size A' k c' l ∧ Rd u8R w' w'.heap.size A2 nd c2 D) ∧ Below w.heap.size w w' := by
  obtain ⟨h1, h2, h3, h4⟩ := rrF_ok.1 hr
  have hn := hM.len
  have hcap := hM.cap
  have hmax := hM.max
  have hlim := hM.lim
  simp only [u8R, Nat.mul_one] at hlim
  unfold maxLen at hmax
  rw [hn] at h2 h4
  obtain ⟨b, o, rfl, lb⟩ := hM.addr (by omega)
  have CF := hid fun w' (hb : Below w.heap.size w w') => fixed_ok (hM.later hb) hr hk
  simp only [recOf, Prod.mk.injEq, true_and, and_true] at hrec
  obtain ⟨r1, r2, r3, r4⟩ := hrec
  have T1 := at2_le m p
  have T2 := at2_le m (p + 2)
  have T3 := at2_le m (p + 4)
  have T4 := at2_le m (p + 6)
  have CT0 := fun w' (hb : Below w.heap.size w w') => two_rr ((hM.later hb).dropB (k := p) (by omega)) (by omega) (at2_drop m p 0)
  have CT2 := fun w' (hb : Below w.heap.size w w') => two_rr ((hM.later hb).dropB (k := p + 2) (by omega)) (by omega) (at2_drop m (p + 2) 0)
  have CT4 := fun w' (hb : Below w.heap.size w w') => two_rr ((hM.later hb).dropB (k := p + 4) (by omega)) (by omega) (at2_drop m (p + 4) 0)
  have CT6 := fun w' (hb : Below w.heap.size w w') => two_rr ((hM.later hb).dropB (k := p + 6) (by omega)) (by omega) (at2_drop m (p + 6) 0)
  simp only [Nat.add_zero] at CT0 CT2 CT4 CT6
  have bo := b64_or (at2 m (p + 4) * 65536) (at2 m (p + 6)) (by omega) (by omega)
  rw [show at2 m (p + 4) * 65536 ||| at2 m (p + 6) = at2 m (p + 4) * 65536 + at2 m (p + 6) from or_low _ _ 16 (by omega)] at bo
  have bo' : bits .or .i64 ((at2 m (p + 4) : Nat) * 65536 : Int) (at2 m (p + 6) : Nat) = L := by rw [← r3]; simpa using bo
  have wl : IntKind.i64.wrap (((at2 m (p + 4) : Nat) : Int) * 65536) = ((at2 m (p + 4) : Nat) : Int) * 65536 := IntWalk.i64_in _ (by omega)
  have hD : en - (p + 10) = nd := by rw [← hd, ← r4, List.length_take, List.length_drop]; omega
  obtain ⟨SA, SC, hs, hrd⟩ := slice_two hM (i := p + 10) (j := en) (by omega) h4 (by omega) (a := (p : Int) + 10) (b := (en : Int)) (by omega) rfl
  rw [r4] at hrd
  rw [hD] at hs hrd
  have CC := fun w' (hb : Below w.heap.size w w') => clone_rd (hrd.below hb) (by omega)
  replace CC := hid CC
  generalize at2 m p = t0 at *
  generalize at2 m (p + 2) = t2 at *
  generalize at2 m (p + 4) = t4 at *
  generalize at2 m (p + 6) = t6 at *
  subst r1 r2
  rw [show p + 2 = ((p : Int) + 2).toNat by omega] at CT2
  rw [show p + 4 = ((p : Int) + 4).toNat by omega] at CT4
  rw [show p + 6 = ((p : Int) + 6).toNat by omega] at CT6
  have CT0 := hid CT0
  have CT2 := hid CT2
  have CT4 := hid CT4
  have CT6 := hid CT6
  have h3' : p + 10 ≤ en := by omega
  clear hr hM h1 h3 bo r3 r4 hrd hD hd
  have w2 : IntKind.i64.wrap ((p : Int) + 2) = (p : Int) + 2 := IntWalk.i64_in _ (by omega)
  have w4 : IntKind.i64.wrap ((p : Int) + 4) = (p : Int) + 4 := IntWalk.i64_in _ (by omega)
  have w6 : IntKind.i64.wrap ((p : Int) + 6) = (p : Int) + 6 := IntWalk.i64_in _ (by omega)
  have w10 : IntKind.i64.wrap ((p : Int) + 10) = (p : Int) + 10 := IntWalk.i64_in _ (by omega)
  have q0 : (p : Int) ≤ (n : Int) := by omega
  have q2 : (p : Int) + 2 ≤ (n : Int) := by omega
  have q4 : (p : Int) + 4 ≤ (n : Int) := by omega
  have q6 : (p : Int) + 6 ≤ (n : Int) := by omega
  have p0 : (0 : Int) ≤ (p : Int) := by omega
  have p2 : (0 : Int) ≤ (p : Int) + 2 := by omega
  have p4 : (0 : Int) ≤ (p : Int) + 4 := by omega
  have p6 : (0 : Int) ≤ (p : Int) + 6 := by omega
  have q0' : p ≤ n := by omega
  have q2' : p + 2 ≤ n := by omega
  have q4' : p + 4 ≤ n := by omega
  have q6' : p + 6 ≤ n := by omega
  have x0 : ¬ c = p := by omega
  have x2 : ¬ c = p + 2 := by omega
  have x4 : ¬ c = p + 4 := by omega
  have x6 : ¬ c = p + 6 := by omega
  have tk0 : True := trivial; have tk1 : True := trivial; have tk2 : True := trivial; have tk3 : True := trivial; have tk4 : True := trivial; have tk5 : True := trivial; have tk6 : True := trivial; have tk7 : True := trivial; have tk8 : True := trivial; have tk9 : True := trivial; have tk10 : True := trivial; have tk11 : True := trivial; have tk12 : True := trivial
  go_enter Tryd.func29, Tryd.ntmps29
  go_wp2_with (go_at_call 60; have _t := tk1; (with_reducible refine (CF.out _ (by (repeat' (first | (with_reducible exact Below.refl _ _) | (with_reducible assumption) | (with_reducible refine below_ext0 ?_ _ _) | (with_reducible refine below_alloc0 ?_ _) | (with_reducible refine Below.ext ?_ ?_ _ _) | (with_reducible refine Below.alloc ?_ ?_ _) | (with_reducible refine Below.setCell ?_ ?_ _) | (with_reducible refine Below.drew ?_) | (with_reducible refine below_draws ?_ _) | go_size | (simp [size_ext]; done) | (simp [size_ext]; omega))))).mono ?_); rintro e w1 ⟨Atk1, ctk1, rfl, hr, hb⟩; obtain ⟨otk1, dtk1, rfl⟩ := ext_of_below hb; (try simp only [ext_drew, ext_drewN] at hr); have R1 := hid hr; clear hr; clear hb tk1)
  go_region_held3 (fun _ => True) (trivial) (first
    | (go_at_call 61; have _t := tk2; (with_reducible refine (CT0.out _ (by (repeat' (first | (with_reducible exact Below.refl _ _) | (with_reducible assumption) | (with_reducible refine below_ext0 ?_ _ _) | (with_reducible refine below_alloc0 ?_ _) | (with_reducible refine Below.ext ?_ ?_ _ _) | (with_reducible refine Below.alloc ?_ ?_ _) | (with_reducible refine Below.setCell ?_ ?_ _) | (with_reducible refine Below.drew ?_) | (with_reducible refine below_draws ?_ _) | go_size | (simp [size_ext]; done) | (simp [size_ext]; omega))))).mono ?_); rintro e w1 ⟨rfl, hb⟩; obtain ⟨otk2, dtk2, rfl⟩ := ext_of_below hb; clear hb tk2)
    | (go_at_call 61; have _t := tk3; (with_reducible refine (CT2.out _ (by (repeat' (first | (with_reducible exact Below.refl _ _) | (with_reducible assumption) | (with_reducible refine below_ext0 ?_ _ _) | (with_reducible refine below_alloc0 ?_ _) | (with_reducible refine Below.ext ?_ ?_ _ _) | (with_reducible refine Below.alloc ?_ ?_ _) | (with_reducible refine Below.setCell ?_ ?_ _) | (with_reducible refine Below.drew ?_) | (with_reducible refine below_draws ?_ _) | go_size | (simp [size_ext]; done) | (simp [size_ext]; omega))))).mono ?_); rintro e w1 ⟨rfl, hb⟩; obtain ⟨otk3, dtk3, rfl⟩ := ext_of_below hb; clear hb tk3)
    | (go_at_call 61; have _t := tk4; (with_reducible refine (CT4.out _ (by (repeat' (first | (with_reducible exact Below.refl _ _) | (with_reducible assumption) | (with_reducible refine below_ext0 ?_ _ _) | (with_reducible refine below_alloc0 ?_ _) | (with_reducible refine Below.ext ?_ ?_ _ _) | (with_reducible refine Below.alloc ?_ ?_ _) | (with_reducible refine Below.setCell ?_ ?_ _) | (with_reducible refine Below.drew ?_) | (with_reducible refine below_draws ?_ _) | go_size | (simp [size_ext]; done) | (simp [size_ext]; omega))))).mono ?_); rintro e w1 ⟨rfl, hb⟩; obtain ⟨otk4, dtk4, rfl⟩ := ext_of_below hb; clear hb tk4)
    | (go_at_call 61; have _t := tk5; (with_reducible refine (CT6.out _ (by (repeat' (first | (with_reducible exact Below.refl _ _) | (with_reducible assumption) | (with_reducible refine below_ext0 ?_ _ _) | (with_reducible refine below_alloc0 ?_ _) | (with_reducible refine Below.ext ?_ ?_ _ _) | (with_reducible refine Below.alloc ?_ ?_ _) | (with_reducible refine Below.setCell ?_ ?_ _) | (with_reducible refine Below.drew ?_) | (with_reducible refine below_draws ?_ _) | go_size | (simp [size_ext]; done) | (simp [size_ext]; omega))))).mono ?_); rintro e w1 ⟨rfl, hb⟩; obtain ⟨otk5, dtk5, rfl⟩ := ext_of_below hb; clear hb tk5))
  all_goals
    clear CT0 CT2 CT4 CT6 w2 w4 w6 q0 q2 q4 q6 p0 p2 p4 p6 q0' q2' q4' q6' x0 x2 x4 x6 bo' wl T1 T2 T3 T4
    go_wp2_with (go_at_call 62; have _t := tk6; (with_reducible refine (CC.out _ (by (repeat' (first | (with_reducible exact Below.refl _ _) | (with_reducible assumption) | (with_reducible refine below_ext0 ?_ _ _) | (with_reducible refine below_alloc0 ?_ _) | (with_reducible refine Below.ext ?_ ?_ _ _) | (with_reducible refine Below.alloc ?_ ?_ _) | (with_reducible refine Below.setCell ?_ ?_ _) | (with_reducible refine Below.drew ?_) | (with_reducible refine below_draws ?_ _) | go_size | (simp [size_ext]; done) | (simp [size_ext]; omega))))).mono ?_); rintro e w1 ⟨Atk6, ctk6, rfl, hr, hb⟩; obtain ⟨otk6, dtk6, rfl⟩ := ext_of_below hb; (try simp only [ext_drew, ext_drewN] at hr); have R6 := hid hr; clear hr; clear hb tk6)
    refine bodyPost_ret (v := .tuple #[.agg #[.slice Atk1 k ctk1, .int .i64 (t0 : Int), .int .i64 (t2 : Int), .int .i64 L, .slice Atk6 nd ctk6], .int .i64 (en : Int), .nilIface]) (by simp [results, Tryd.results29, go_sem]) rfl ?_
    refine ⟨_, _, _, _, rfl, ⟨?_, ?_⟩, (by (repeat' (first | (with_reducible exact Below.refl _ _) | (with_reducible assumption) | (with_reducible refine below_ext0 ?_ _ _) | (with_reducible refine below_alloc0 ?_ _) | (with_reducible refine Below.ext ?_ ?_ _ _) | (with_reducible refine Below.alloc ?_ ?_ _) | (with_reducible refine Below.setCell ?_ ?_ _) | (with_reducible refine Below.drew ?_) | (with_reducible refine below_draws ?_ _) | go_size | (simp [size_ext]; done) | (simp [size_ext]; omega))))⟩
    · exact Rd.near_str R1.out (by (repeat' (first | ((with_reducible refine NearP.of_sim ?_); (repeat' (first | (with_reducible exact SimP.refl _ _) | (with_reducible refine SimP.ext ?_ _ _ _) | (with_reducible refine SimP.alloc ?_ _) | (with_reducible refine SimP.allocs ?_ _ _ _ ?_) | (with_reducible refine SimP.set ?_ _ _ _) | (with_reducible assumption) | (with_reducible refine FreeB.far ?_ ?_ _) | (with_reducible refine SimP.drew ?_) | (with_reducible refine SimP.drew' ?_) | (simp [IsStr, IsU8, IsI64]; done))); done) | (with_reducible refine NearP.ext ?_ _ _) | (with_reducible refine NearP.alloc ?_ _) | (with_reducible refine NearP.drew ?_))))
    · exact Rd.near_u8 R6.out (by (repeat' (first | ((with_reducible refine NearP.of_sim ?_); (repeat' (first | (with_reducible exact SimP.refl _ _) | (with_reducible refine SimP.ext ?_ _ _ _) | (with_reducible refine SimP.alloc ?_ _) | (with_reducible refine SimP.allocs ?_ _ _ _ ?_) | (with_reducible refine SimP.set ?_ _ _ _) | (with_reducible assumption) | (with_reducible refine FreeB.far ?_ ?_ _) | (with_reducible refine SimP.drew ?_) | (with_reducible refine SimP.drew' ?_) | (simp [IsStr, IsU8, IsI64]; done))); done) | (with_reducible refine NearP.ext ?_ _ _) | (with_reducible refine NearP.alloc ?_ _) | (with_reducible refine NearP.drew ?_))))
end Go.Proofs.YtfihedcobopbcaaDoor
/- records: how one lies in memory; are two the same; a record sent, as the laws meet it; a store into a row of the call's own. -/
namespace Go.Proofs.YtfihedcobopbcaaDoor
open Go.RowKit
set_option linter.unusedVariables false
set_option linter.unusedSimpArgs false

abbrev recR : Rep RecT := pairR (sliceR strR) (pairR intR (pairR intR (pairR intR (pairR (sliceR u8R) unitR))))
theorem opens_record : Opens Tryd.prog 67 recR := opens_struct Tryd.underlying67 rfl (by kernel_rfl) (fields_cons rfl (by kernel_rfl) (opens_slice Tryd.underlying60 (opens_str Tryd.underlying9) (by kernel_rfl) (by decide) (of_decide_eq_true (by kernel_rfl))) (fields_cons rfl (by kernel_rfl) (opens_int Tryd.underlying3) (fields_cons rfl (by kernel_rfl) (opens_int Tryd.underlying3) (fields_cons rfl (by kernel_rfl) (opens_int Tryd.underlying3) (fields_cons rfl (by kernel_rfl) (opens_slice Tryd.underlying22 (opens_u8 Tryd.underlying5) (by kernel_rfl) (by decide) (of_decide_eq_true (by kernel_rfl))) (fields_nil _))))))
theorem record_of {w : World} {B : Nat} {x : RecT} {cs : Array Value} (h : recR.rel w B x cs.toList) :
    ∃ A n c A' n' c' l T C L d, x = (l, T, C, L, d, ()) ∧ cs = #[.slice A n c, .int .i64 T, .int .i64 C, .int .i64 L, .slice A' n' c'] ∧ Rd strR w B A n c l ∧ (I64 T ∧ I64 C ∧ I64 L) ∧ Rd u8R w B A' n' c' d := by
  obtain ⟨l, T, C, L, d, u⟩ := x
  obtain ⟨_, _, e0, ⟨A, n, c, rfl, h1⟩, _, _, rfl, ⟨rfl, h2⟩, _, _, rfl, ⟨rfl, h3⟩, _, _, rfl, ⟨rfl, h4⟩, _, _, rfl, ⟨A', n', c', rfl, h5⟩, rfl⟩ := h
  exact ⟨A, n, c, A', n', c', l, T, C, L, d, rfl, by cases cs; simp_all, h1, ⟨h2, h3, h4⟩, h5⟩

theorem record_yes {w : World} {A1 : Option Addr} {n1 c1 B1 : Nat} {l : List ByteArray} {A2 : Option Addr} {n2 c2 B2 : Nat} {d : List UInt8} {A3 : Option Addr} {n3 c3 B3 : Nat} {A4 : Option Addr} {n4 c4 B4 : Nat} {T C L : Int} (h1 : Rd strR w B1 A1 n1 c1 l) (h2 : Rd u8R w B2 A2 n2 c2 d) (h3 : Rd strR w B3 A3 n3 c3 l) (h4 : Rd u8R w B4 A4 n4 c4 d)
    (z1 : B1 ≤ w.heap.size) (z2 : B2 ≤ w.heap.size) (z3 : B3 ≤ w.heap.size) (z4 : B4 ≤ w.heap.size) :
    Calls Tryd.prog 64 #[.agg #[.slice A1 n1 c1, .int .i64 T, .int .i64 C, .int .i64 L, .slice A2 n2 c2], .agg #[.slice A3 n3 c3, .int .i64 T, .int .i64 C, .int .i64 L, .slice A4 n4 c4]] w fun e w' => e = .returned (.bool true) ∧ Below w.heap.size w w' := by
  have q : ∀ {B : Nat} {w' : World}, B ≤ w.heap.size → Below w.heap.size w w' → Below B w w' := fun hB hb => hb.mono hB
  have CT := hid fun w' (hb : Below w.heap.size w w') => texts_yes (h1.below (q z1 hb)) (h3.below (q z3 hb))
  have CB := hid fun w' (hb : Below w.heap.size w w') => bytes_yes (h2.below (q z2 hb)) (h4.below (q z4 hb))
  clear h1 h2 h3 h4 q
  have tk0 : True := trivial; have tk1 : True := trivial; have tk2 : True := trivial; have tk3 : True := trivial; have tk4 : True := trivial; have tk5 : True := trivial; have tk6 : True := trivial; have tk7 : True := trivial; have tk8 : True := trivial; have tk9 : True := trivial; have tk10 : True := trivial; have tk11 : True := trivial; have tk12 : True := trivial
  go_enter Tryd.func64, Tryd.ntmps64
  go_wp2_with (first
    | (go_at_call 31; have _t := tk1; (with_reducible refine (CT.out _ (by (repeat' (first | (with_reducible exact Below.refl _ _) | (with_reducible assumption) | (with_reducible refine below_ext0 ?_ _ _) | (with_reducible refine below_alloc0 ?_ _) | (with_reducible refine Below.ext ?_ ?_ _ _) | (with_reducible refine Below.alloc ?_ ?_ _) | (with_reducible refine Below.setCell ?_ ?_ _) | (with_reducible refine Below.drew ?_) | (with_reducible refine below_draws ?_ _) | go_size | (simp [size_ext]; done) | (simp [size_ext]; omega))))).mono ?_); rintro e w1 ⟨rfl, hb⟩; obtain ⟨otk1, dtk1, rfl⟩ := ext_of_below hb; clear hb tk1)
    | (go_at_call 11; have _t := tk2; (with_reducible refine (CB.out _ (by (repeat' (first | (with_reducible exact Below.refl _ _) | (with_reducible assumption) | (with_reducible refine below_ext0 ?_ _ _) | (with_reducible refine below_alloc0 ?_ _) | (with_reducible refine Below.ext ?_ ?_ _ _) | (with_reducible refine Below.alloc ?_ ?_ _) | (with_reducible refine Below.setCell ?_ ?_ _) | (with_reducible refine Below.drew ?_) | (with_reducible refine below_draws ?_ _) | go_size | (simp [size_ext]; done) | (simp [size_ext]; omega))))).mono ?_); rintro e w1 ⟨rfl, hb⟩; obtain ⟨otk2, dtk2, rfl⟩ := ext_of_below hb; clear hb tk2))
  go_ret
  exact ⟨by simp, (by (repeat' (first | (with_reducible exact Below.refl _ _) | (with_reducible assumption) | (with_reducible refine below_ext0 ?_ _ _) | (with_reducible refine below_alloc0 ?_ _) | (with_reducible refine Below.ext ?_ ?_ _ _) | (with_reducible refine Below.alloc ?_ ?_ _) | (with_reducible refine Below.setCell ?_ ?_ _) | (with_reducible refine Below.drew ?_) | (with_reducible refine below_draws ?_ _) | go_size | (simp [size_ext]; done) | (simp [size_ext]; omega))))⟩

/-- a store into a row of the call's own -/
theorem own_set {w : World} {base g n cap : Nat} {e : TypeId} {xs : List Value} (h : w.ownsRow base e 1 (.slice (some ⟨g, 0, none⟩) n cap) n xs) (i : Nat) (u : Value) : (w.setCell ⟨g, i, none⟩ u).ownsRow base e 1 (.slice (some ⟨g, 0, none⟩) n cap) n (xs.set i u) := by
  refine ⟨by rw [List.length_set]; exact h.1, ?_⟩
  rcases h.2 with ⟨h1, _⟩ | ⟨g', cap', cur, h1, hb, hh, hn, hc, hs, ht⟩
  · cases h1
  · cases h1
    refine .inr ⟨g, cap, cur.setIfInBounds i u, rfl, hb, Blk.set (show Blk w g e cur from hh) i u, hn, hc, by simpa using hs, ?_⟩
    rw [Array.toList_setIfInBounds, List.take_set, ht]
theorem own_cell {w : World} {base g n cap : Nat} {e : TypeId} {xs : List Value} (h : w.ownsRow base e 1 (.slice (some ⟨g, 0, none⟩) n cap) n xs) (i : Nat) (hi : i < n) : ∃ u, w.cell? ⟨g, i, none⟩ = some u ∧ w.frozen? ⟨g, i, none⟩ = false := by
  rcases h.2 with ⟨h1, _⟩ | ⟨g', cap', cur, h1, hb, hh, hn, hc, hs, ht⟩
  · cases h1
  · cases h1
    have hk : Blk w g e cur := hh
    refine ⟨cur[i]'(by omega), ?_, hk.frozen i⟩
    rw [hk.cell, Array.getElem?_eq_getElem]
/-- the four stores of a TTL -/
@[reducible] def ttlW (w : World) (g a : Nat) (L : Int) : World := (((w.setCell ⟨g, a, none⟩ (.int .u8 (L / 16777216))).setCell ⟨g, a + 1, none⟩ (.int .u8 (L / 65536 % 256))).setCell ⟨g, a + 2, none⟩ (.int .u8 (L / 256 % 256))).setCell ⟨g, a + 3, none⟩ (.int .u8 (L % 256))
/-- another TTL stored in its place -/
theorem rd_ttl {w : World} {base g n cap : Nat} {P d : List UInt8} {T C L L' : Int} (ho : w.ownsRow base 5 1 (.slice (some ⟨g, 0, none⟩) n cap) n (bytesV (P ++ recTail T C L d))) (hb : base ≤ w.heap.size) (a : Nat) (ha : a = P.length + 4) (hL : 0 ≤ L' ∧ L' ≤ 4294967295) (hn : n ≤ 140737488355328) :
    Rd u8R (ttlW w g a L') (ttlW w g a L').heap.size (some ⟨g, 0, none⟩) n cap (P ++ recTail T C L' d) := by
  have h4 := own_set (own_set (own_set (own_set ho a (.int .u8 (L' / 16777216))) (a + 1) (.int .u8 (L' / 65536 % 256))) (a + 2) (.int .u8 (L' / 256 % 256))) (a + 3) (.int .u8 (L' % 256))
  have c : ∀ x : Int, 0 ≤ x → x ≤ 255 → Value.int .u8 x = Value.int .u8 ((UInt8.ofNat x.toNat).toNat : Int) := fun x h0 h1 => by congr 1; rw [UInt8.toNat_ofNat']; omega
  have hset := recB_ttl P d T C L L' a ha
  have e : (((((bytesV (P ++ recTail T C L d)).set a (.int .u8 (L' / 16777216))).set (a + 1) (.int .u8 (L' / 65536 % 256))).set (a + 2) (.int .u8 (L' / 256 % 256))).set (a + 3) (.int .u8 (L' % 256))) = bytesV (P ++ recTail T C L' d) := by
    rw [← hset, c (L' / 16777216) (by omega) (by omega), c (L' / 65536 % 256) (by omega) (by omega), c (L' / 256 % 256) (by omega) (by omega), c (L' % 256) (by omega) (by omega)]
    rw [show L' / 65536 / 256 % 256 = L' / 16777216 by omega, show L' % 65536 / 256 % 256 = L' / 256 % 256 by omega, show L' % 65536 % 256 = L' % 256 by omega]
    simp only [bytesV, List.map_set]
  rw [e] at h4
  have hl : (P ++ recTail T C L' d).length = n := by
    have := ho.1
    simp only [bytesV, List.length_map, List.length_append, recTail_len, Nat.mul_one] at this
    rw [List.length_append, recTail_len]; omega
  subst hl
  obtain ⟨A', c', he, hr⟩ := own_rd_u8 h4 (by simpa using hb) hn
  cases he
  exact hr

/-- a record sent, as the laws meet it -/
theorem rwrite_rd {w : World} {A : Option Addr} {n c : Nat} {m : List UInt8} (hM : Rd u8R w w.heap.size A n c m) {A1 : Option Addr} {n1 c1 : Nat} {ss : List Int} (hS : Rd intR w w.heap.size A1 n1 c1 ss) {A3 : Option Addr} {n3 c3 : Nat} {l : List ByteArray} (hL : Rd strR w w.heap.size A3 n3 c3 l) {T C L : Int} {A4 : Option Addr} {n4 c4 : Nat} {d : List UInt8} (hD : Rd u8R w w.heap.size A4 n4 c4 d)
    (hlim : n + 65536 + 512 ≤ 140737488355328) (hlim1 : n1 * 8 + 4096 ≤ 140737488355328) (hf : recErr (l, T, C, L, d, ()) = 0) {X : List UInt8} (hX : recB m ss (l, T, C, L, d, ()) = X) {Y : List Int} (hY : ss ++ packN m ss l m.length = Y) {k k2 : Nat} (hk : X.length = k) (hk2 : Y.length = k2) :
    Calls Tryd.prog 69 #[.slice A n c, .slice A1 n1 c1, .agg #[.slice A3 n3 c3, .int .i64 T, .int .i64 C, .int .i64 L, .slice A4 n4 c4]] w fun e w' => ∃ A' c' A2 c2, e = .returned (.tuple #[.slice A' k c', .slice A2 k2 c2, .nilIface]) ∧ (Rd u8R w' w'.heap.size A' k c' X ∧ Rd intR w' w'.heap.size A2 k2 c2 Y) ∧ Below w.heap.size w w' := by
  have hm := hM.len
  have hs := hS.len
  refine (rwrite_ok hM hS hL hD hlim hlim1 hf).mono ?_
  rintro e w' ⟨v, v', rfl, ho, hb⟩
  have h1 := ho.out
  have h2 := ho.all
  have h3 := ho.ints
  have h4 := ho.lenX
  have h5 := ho.lenY
  simp only at h2 h3 h5
  rw [hX] at h1 h4
  rw [hY] at h2 h3 h5
  subst hk hk2
  obtain ⟨A', c', rfl, hr⟩ := own_rd_u8 h1 hb.size (by omega)
  obtain ⟨A2, c2, rfl, hr2⟩ := own_rd_int h2 h3 hb.size (by omega)
  exact ⟨A', c', A2, c2, rfl, ⟨hr, hr2⟩, hb⟩
theorem rd_seven {w : World} {g : Nat} (t : TypeId) (hg : g = w.heap.size) : Rd u8R (w.alloc (.cells #[.int .u8 7] t)) (w.alloc (.cells #[.int .u8 7] t)).heap.size (some ⟨g, 0, none⟩) 1 1 [7] :=
  rd_lit t _ [7] 1 hg rfl rfl (by omega)
theorem fact_rr {w : World} {g : Nat} (t : TypeId) (hg : g = w.heap.size) : Calls Tryd.prog 69 #[.slice none 0 0, .slice none 0 0, .agg #[.slice none 0 0, .int .i64 1, .int .i64 0, .int .i64 0, .slice (some ⟨g, 0, none⟩) 1 1]] (w.alloc (.cells #[.int .u8 7] t)) fun e w' => ∃ A' c' A2 c2, e = .returned (.tuple #[.slice A' 12 c', .slice A2 0 c2, .nilIface]) ∧ (Rd u8R w' w'.heap.size A' 12 c' (recB [] [] ([], 1, 0, 0, [7], ())) ∧ Rd intR w' w'.heap.size A2 0 c2 []) ∧ Below (w.alloc (.cells #[.int .u8 7] t)).heap.size (w.alloc (.cells #[.int .u8 7] t)) w' :=
  rwrite_rd (rd_nil _ _) (rd_nil _ _) (rd_nil _ _) (rd_seven t hg) (by omega) (by omega) (by decide +kernel) rfl rfl rfl rfl
theorem sz_bytes (l : List UInt8) : (sliceR u8R).sz l = l.length + 1 := by
  show (l.map fun _ => 1).sum + 1 = _
  induction l with
  | nil => rfl
  | cons a l ih => simp at ih ⊢; omega
theorem sz_ints (l : List Int) : (sliceR intR).sz l = l.length + 1 := by
  show (l.map fun _ => 1).sum + 1 = _
  induction l with
  | nil => rfl
  | cons a l ih => simp at ih ⊢; omega
end Go.Proofs.YtfihedcobopbcaaDoor
