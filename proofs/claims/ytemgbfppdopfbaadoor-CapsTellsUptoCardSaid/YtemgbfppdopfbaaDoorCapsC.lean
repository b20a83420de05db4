/- Great and small letters: Bits. -/
import Derived.Test.YtemgbfppdopfbaaDoorCapsB
import Derived.Test.YtemgbfppdopfbaaDoorRound
namespace Go.Proofs.YtemgbfppdopfbaaDoor
open Go.RowKit Go.Shelf
set_option linter.unusedVariables false
set_option linter.unusedSimpArgs false
attribute [local go_sem] Oper.semAt_some

def byteAt (ns : List ByteArray) (x : Nat × Nat) : UInt8 := (bytesOf (ns.getD x.1 .empty)).getD x.2 0
def bitAt (ns : List ByteArray) (x : Nat × Nat) : Bool := greatB (byteAt ns x)
theorem el_bool : El Tryd.prog 23 4 1 1 := el_of (z := .bool false) Tryd.underlying23 (by kernel_rfl) rfl (by decide)
@[reducible] def boolsV (l : List Bool) : List Value := l.map Value.bool
theorem rels_bool {w : World} {B : Nat} {l : List Bool} : Rels boolR w B l (boolsV l) := by
  refine ⟨l.map fun b => [Value.bool b], by simp, ?_, fun i hi hi' => by simp [boolR]⟩
  induction l with
  | nil => rfl
  | cons a l ih => simp [ih]
/-- append onto a row of the call's own, as one step -/
theorem wp_app {P : Program} {w : World} {o : Oper} {a : Act} {Q : Exit → Act → World → Prop} {K : Act → World → Prop} (s x : Operand) (t : TypeId)
    (ho : o.op = .call { callee := .builtin .append, args := #[s, x], argTypes := #[t, t] }) (base : Nat) (e : TypeId) (size bytes : Nat) (E : El P t e size bytes)
    (v : Value) (n : Nat) (xs : List Value) (hs : a.eval s = v) (hown : w.ownsRow base e size v n xs) (A : Option Addr) (m c : Nat) (ys : List Value) (hx : a.eval x = .slice A m c) (hsrc : Src w A m c size ys)
    (hbytes : (n + m) * bytes ≤ 140737488355328) (h63 : n + m ≤ maxLen) (hbase : base ≤ w.heap.size)
    (h : ∀ v' w', w'.ownsRow base e size v' (n + m) (xs ++ ys) → w.grownBy w' v.ownBlock → (v'.ownBlock = v.ownBlock ∨ v'.ownBlock = some w.heap.size) → K (a.put o.dst v') w') : Oper.wp P o a w K Q := by
  obtain ⟨v', w', hr, h2, h3, h5⟩ := run_app (P := P) (w := w) base t o.type e size bytes E v n xs hown A m c ys hsrc hbytes h63 hbase
  unfold Oper.wp execOp
  simp only [ho, resolve, invoke, builtin, Sem.run_bind, Sem.run_pure, Result.andThen_ok, List.map_toArray, List.map_cons, List.map_nil, hs, hx, hr]
  exact h v' w' h2 h3 h5
theorem posK_bits (l : List UInt8) (ns : List ByteArray) (i : Nat) (hl : bytesOf (ns.getD i .empty) = l) : ∀ K, K ≤ l.length → (posK l i K).map (bitAt ns) = bitsB (l.take K)
  | 0, _ => rfl
  | K + 1, hK => by
    have h1 := posK_bits l ns i hl K (by omega)
    have ht : l.take (K + 1) = l.take K ++ [l[K]] := List.take_succ_eq_append_getElem (by omega)
    have hg : l.getD K 0 = l[K] := by rw [List.getD_eq_getElem?_getD, List.getElem?_eq_getElem (by omega)]; rfl
    have hb : bitsB (l.take K ++ [l[K]]) = bitsB (l.take K) ++ bitsB [l[K]] := by unfold bitsB; rw [List.filter_append, List.map_append]
    rw [ht, hb]
    have hba : bitAt ns (i, K) = greatB l[K] := by unfold bitAt byteAt; rw [hl, hg]
    cases hc : letterB (l.getD K 0) with
    | true =>
      rw [posK_yes hc, List.map_append, h1]
      rw [hg] at hc
      simp [bitsB, hc, hba]
    | false =>
      rw [posK_no hc, h1]
      rw [hg] at hc
      simp [bitsB, hc]
theorem posN_bits (ns : List ByteArray) : ∀ I, I ≤ ns.length → (posN ns I).map (bitAt ns) = bitsN ((ns.take I).map bytesOf)
  | 0, _ => rfl
  | I + 1, hI => by
    have h1 := posN_bits ns I (by omega)
    have ht : ns.take (I + 1) = ns.take I ++ [ns[I]] := List.take_succ_eq_append_getElem (by omega)
    have hg : ns.getD I .empty = ns[I] := by rw [List.getD_eq_getElem?_getD, List.getElem?_eq_getElem (by omega)]; rfl
    rw [posN_succ, List.map_append, h1, ht, List.map_append, posK_bits _ ns I rfl _ (by rw [bytesOf_len]; exact Nat.le_refl _), hg]
    have hfull : (bytesOf ns[I]).take ns[I].size = bytesOf ns[I] := List.take_of_length_le (by rw [bytesOf_len]; exact Nat.le_refl _)
    rw [hfull]
    unfold bitsN
    rw [List.flatMap_append]
    simp
theorem posN_len (ns : List ByteArray) : (posN ns ns.length).length = (bitsN (ns.map bytesOf)).length := by
  have := congrArg List.length (posN_bits ns ns.length (Nat.le_refl _))
  rwa [List.length_map, List.take_length] at this

set_option maxRecDepth 100000 in
set_option maxHeartbeats 4000000 in
theorem bits_any (w : World) (A : Option Addr) (len cap : Nat) (ns : List ByteArray) (hR : Rd strR w w.heap.size A len cap ns) (hN : (posN ns len).length ≤ 1073741824) :
    Calls Tryd.prog 7 #[.slice A len cap] w fun e w' => ∃ A' c', e = .returned (.slice A' (posN ns len).length c') ∧ Rd boolR w' w'.heap.size A' (posN ns len).length c' (bitsN (ns.map bytesOf)) ∧ Below w.heap.size w w' := by
  have hm := hR.max
  have hcap := hR.cap
  unfold maxLen at hm
  refine (callsIn_wide (n := 3)).1 ?_
  refine callsIn_of_wp_marks Tryd.func7 rfl trivial ?_ rfl
  simp only [Tryd.ntmps7, List.size_toArray, List.length_cons, List.length_nil, Nat.reduceAdd, Nat.reduceSub, Array.replicate_succ, Array.replicate_zero, List.push_toArray, List.append_toArray, List.nil_append, List.cons_append]
  gi_wp2_with (refine ⟨trivial, ?_⟩; gi_at_call 30; refine (letters_in 2 _ _ _ _).mono ?_; rintro e w' ⟨rfl, rfl⟩)
  obtain ⟨w0, hw0⟩ : ∃ w0, ((w.alloc (.cells #[.slice A len cap] 22)).alloc (.cells #[.slice none 0 0] 23)).alloc (.cells #[.slice A len cap] 22) = w0 := ⟨_, rfl⟩
  have z0 : w0.heap.size = w.heap.size + 1 + 1 + 1 := by rw [← hw0]; simp
  have b1 : Boxed w0 w.heap.size 22 (.slice A len cap) := by rw [← hw0]; exact ((Boxed.new _ _ _).alloc _).alloc _
  have b2 : Boxed w0 (w.heap.size + 1) 23 (.slice none 0 0) := by
    rw [← hw0]
    have := Boxed.new (w.alloc (.cells #[.slice A len cap] 22)) 23 (.slice none 0 0)
    rw [World.size_alloc] at this
    exact this.alloc _
  have b3 : Boxed w0 (w.heap.size + 1 + 1) 22 (.slice A len cap) := by
    rw [← hw0]
    have := Boxed.new ((w.alloc (.cells #[.slice A len cap] 22)).alloc (.cells #[.slice none 0 0] 23)) 22 (.slice A len cap)
    rwa [World.size_alloc, World.size_alloc] at this
  have hB0 : Below w.heap.size w w0 := by rw [← hw0]; exact (((Below.refl _ w).alloc (Nat.le_refl _) _).alloc (by simp) _).alloc (by simp; omega) _
  rw [hw0]
  clear hw0
  have hl := hR.len
  have HR := hid hR
  have HB0 := hid hB0
  have o1 := holdsRow_own (β := List (PosT ns len)) w.heap.size (w.heap.size + 1) 23 4 1 (fun pre => pre.length) (fun pre => boolsV (pre.map fun x => bitAt ns x.1)) (fun _ _ => True)
  have o2 : Own (fun (_ : List (PosT ns len)) (W : World) => Boxed W w.heap.size 22 (.slice A len cap)) := boxed_own _ _ _
  have o3 : OwnFrom w0.heap.size (fun (_ : List (PosT ns len)) (W : World) => Below w.heap.size w W) := ownFrom_below (Nat.le_refl _) (by omega)
  have o4 := OwnFrom.and (OwnFrom.and (Own.from o1 w0.heap.size) (Own.from o2 w0.heap.size)) o3
  have h0 : ((∃ v, Boxed w0 (w.heap.size + 1) 23 v ∧ w0.ownsRow w.heap.size 4 1 v ([] : List (PosT ns len)).length (boolsV (([] : List (PosT ns len)).map fun x => bitAt ns x.1)) ∧ True) ∧ Boxed w0 w.heap.size 22 (.slice A len cap)) ∧ Below w.heap.size w w0 := ⟨⟨⟨_, b2, World.ownsRow_nil _ _ _ _, trivial⟩, b1⟩, hB0⟩
  have hseq := letters_stops 2 (by decide) (w.heap.size + 1 + 1) w.heap.size A len cap ns w0 (by omega) (by omega) b3.cell (hR.below hB0)
  refine wpIn_rangeFunc_ownG rfl (by decide) (gf := 48) (lb := #[.pointer (some ⟨w.heap.size + 1 + 1, 0, none⟩)]) rfl trivial (enters_of Tryd.func48 (by kernel_rfl) rfl)
    hseq belowK_t (belowK_b (by omega)) (Below.refl _ _) (fun _ => rfl) _ (fun _ _ _ => False) o4
    (fun _ _ _ _ _ hs _ _ => hs) h0
    (fun x => { tmps := #[.slice A len cap, .pointer (some ⟨w.heap.size, 0, none⟩), .slice none 0 0, .pointer (some ⟨w.heap.size + 1, 0, none⟩), .int .i64 (x.1.1 : Int), .int .i64 (x.1.2 : Int), .slice A len cap, .func (.func 48) #[] #[.pointer (some ⟨w.heap.size + 1 + 1, 0, none⟩)], .int .i64 (x.1.1 : Int), .int .i64 (x.1.2 : Int), undef, undef, undef, undef, undef, undef, undef, undef, undef, undef, undef], defers := [] }) ?assign ?body ?done ?stop
  case assign =>
    intro l x W K hK
    gi_wp2
    exact hK
  case body =>
    rintro l pre ⟨⟨I, K⟩, hI, hK⟩ W ⟨⟨⟨v, hv, hrow, _⟩, bn⟩, hB⟩ hlt
    dsimp only at hI hK ⊢
    clear hseq h0 o4 o3 o2 o1 b1 b2 b3 hB0 hR
    have cn := bn.cell
    have BN := hid bn
    obtain ⟨b, o, rfl, hb, hc, hz⟩ := (HR.out.below hB).str I hI
    obtain ⟨s, hs⟩ : ∃ s, ns[I]'(by rw [hl]; exact hI) = s := ⟨_, rfl⟩
    have hgs : ns.getD I .empty = s := by rw [List.getD_eq_getElem?_getD, List.getElem?_eq_getElem (by rw [hl]; exact hI)]; exact hs
    rw [hs] at hc hz
    have hK' : K < s.size := by rw [← hgs]; exact hK
    obtain ⟨x, hx⟩ : ∃ x, s[K]'hK' = x := ⟨_, rfl⟩
    have hbit : bitAt ns (I, K) = greatB x := by unfold bitAt byteAt; rw [hgs, bytesOf_get s K hK', hx]
    have hcell := hv.cell
    have hfr := hv.frozen
    have hzW := hB.size
    have hpl : pre.length < 1073741824 := by omega
    have blt : (x.toNat : Int) < 97 ↔ greatB x = true := by unfold greatB; rw [decide_eq_true_iff]; omega
    have hbW : b < W.heap.size := by omega
    have HV := hid hv
    have HROW := hid hrow
    have HBB := hid hB
    have HBIT := hid hbit
    have HCC := hid hc
    have ab1 : (pre.length + 1) * 1 ≤ 140737488355328 := by omega
    have ab2 : pre.length + 1 ≤ maxLen := by unfold maxLen; omega
    have hQ : ∀ (pre' : List (PosT ns len)) (Kp : World → World → Prop) (I : List (PosT ns len) → World → Prop) (Ix : Code → List (PosT ns len) → World → Prop) (W : World), ¬ LetsOut (Exit.inBlock 1 (ownPostG w0.heap.size Kp I Ix pre' W)) := by
      rintro pre' Kp I Ix W ⟨a, w', h⟩
      exact h
    cases hgr : greatB x with
    | true =>
      have q1 : (x.toNat : Int) < 97 := blt.2 hgr
      have HGR := hid hgr
      clear hv hrow hB hbit blt hgs hs hgr bn
      refine wpIn_block ?_
      refine wpIn_held_round (fun w' => w'.cell? ⟨w.heap.size + 1, 0, none⟩ = some v ∧ w'.cell? ⟨w.heap.size, 0, none⟩ = some (.slice (some ⟨b, o, none⟩) len cap) ∧ w'.cell? ⟨b, o + I, none⟩ = some (.string s)) 10 (by kernel_rfl) (by kernel_rfl) (hQ _ _ _ _ _) ?_
      have hS : (fun w' => w'.cell? ⟨w.heap.size + 1, 0, none⟩ = some v ∧ w'.cell? ⟨w.heap.size, 0, none⟩ = some (.slice (some ⟨b, o, none⟩) len cap) ∧ w'.cell? ⟨b, o + I, none⟩ = some (.string s)) W.drew := ⟨hcell, cn, hc⟩
      refine wpAnyT_take (i := 0) v (by decide) (by kernel_rfl) rfl (by kernel_rfl) (by kernel_rfl) (by kernel_rfl) (fun _ _ _ h => h) (by rfl) hS (by rintro w' ⟨h1, h2, h3⟩; go_simp) ?_
      try simp only [Act.put, List.setIfInBounds_toArray, List.set_cons_zero, List.set_cons_succ]
      refine wpAnyT_take (i := 1) (.slice (some ⟨b, o, none⟩) len cap) (by decide) (by kernel_rfl) rfl (by kernel_rfl) (by kernel_rfl) (by kernel_rfl) (fun _ _ _ h => h) (by rfl) hS (by rintro w' ⟨h1, h2, h3⟩; go_simp) ?_
      try simp only [Act.put, List.setIfInBounds_toArray, List.set_cons_zero, List.set_cons_succ]
      refine wpAnyT_take (i := 2) (.int .i64 (I : Int)) (by decide) (by kernel_rfl) rfl (by kernel_rfl) (by kernel_rfl) (by kernel_rfl) (fun _ _ _ h => h) (by rfl) hS (by rintro w' ⟨h1, h2, h3⟩; go_simp) ?_
      try simp only [Act.put, List.setIfInBounds_toArray, List.set_cons_zero, List.set_cons_succ]
      refine wpAnyT_take (i := 3) (.pointer (some ⟨b, o + I, none⟩)) (by decide) (by kernel_rfl) rfl (by kernel_rfl) (by kernel_rfl) (by kernel_rfl) (fun _ _ _ h => h) (by rfl) hS (by rintro w' ⟨h1, h2, h3⟩; go_simp) ?_
      try simp only [Act.put, List.setIfInBounds_toArray, List.set_cons_zero, List.set_cons_succ]
      refine wpAnyT_take (i := 4) (.string s) (by decide) (by kernel_rfl) rfl (by kernel_rfl) (by kernel_rfl) (by kernel_rfl) (fun _ _ _ h => h) (by rfl) hS (by rintro w' ⟨h1, h2, h3⟩; go_simp) ?_
      try simp only [Act.put, List.setIfInBounds_toArray, List.set_cons_zero, List.set_cons_succ]
      refine wpAnyT_take (i := 5) (.int .i64 (K : Int)) (by decide) (by kernel_rfl) rfl (by kernel_rfl) (by kernel_rfl) (by kernel_rfl) (fun _ _ _ h => h) (by rfl) hS (by rintro w' ⟨h1, h2, h3⟩; go_simp) ?_
      try simp only [Act.put, List.setIfInBounds_toArray, List.set_cons_zero, List.set_cons_succ]
      refine wpAnyT_take (i := 6) (.int .u8 (x.toNat : Int)) (by decide) (by kernel_rfl) rfl (by kernel_rfl) (by kernel_rfl) (by kernel_rfl) (fun _ _ _ h => h) (by rfl) hS (by rintro w' ⟨h1, h2, h3⟩; go_simp) ?_
      try simp only [Act.put, List.setIfInBounds_toArray, List.set_cons_zero, List.set_cons_succ]
      refine wpAnyT_take (i := 7) (.bool true) (by decide) (by kernel_rfl) rfl (by kernel_rfl) (by kernel_rfl) (by kernel_rfl) (fun _ _ _ h => h) (by rfl) hS (by rintro w' ⟨h1, h2, h3⟩; go_simp) ?_
      try simp only [Act.put, List.setIfInBounds_toArray, List.set_cons_zero, List.set_cons_succ]
      refine wpAnyT_one (i := 8) (by kernel_rfl) (by kernel_rfl) rfl (by rfl) (fun KK hKK => ?_)
      go_simp
      have hS2 : (fun w' => w'.cell? ⟨w.heap.size + 1, 0, none⟩ = some v ∧ w'.cell? ⟨w.heap.size, 0, none⟩ = some (.slice (some ⟨b, o, none⟩) len cap) ∧ w'.cell? ⟨b, o + I, none⟩ = some (.string s)) (W.drew.alloc (.cells #[.bool true] 4)) := ⟨(World.cell?_alloc_lt _ _ _ HV.out.lt).trans hcell, (World.cell?_alloc_lt _ _ _ BN.out.lt).trans cn, (World.cell?_alloc_lt _ _ _ hbW).trans hc⟩
      refine hKK.out _ _ hS2 ?_
      clear hKK KK
      try simp only [Act.put, List.setIfInBounds_toArray, List.set_cons_zero, List.set_cons_succ]
      refine wpAnyT_one (i := 9) (by kernel_rfl) (by kernel_rfl) rfl (by rfl) (fun KK hKK => ?_)
      refine wp_app (.tmp 10) (.tmp 18) 23 rfl w.heap.size 4 1 1 el_bool v pre.length _ rfl (HROW.out.drew.alloc _) (some ⟨W.heap.size, 0, none⟩) 1 1 [.bool true] rfl (src_one (w := W.drew) _ rfl rfl) ab1 ab2 (by simp; omega) ?_
      intro v' w1 ho hg0 hn
      have hg : (W.alloc _).grownBy w1 v.ownBlock := ⟨hg0.os, hg0.tape, hg0.output, hg0.size, hg0.block⟩
      obtain ⟨g', cap', rfl⟩ := ownsRow_succ ho
      obtain ⟨hv1, hv2, hr2, hk2, hb2⟩ := (Boxed.appended (W := W) HV.out (by decide) HROW.out hzW (by omega) ho hg)
      have hc1 := hv1.cell
      have hf1 := hv1.frozen
      have hb0 := (BN.out.alloc _).kept hg (BN.out.not_row (by decide) HROW.out)
      have hbx := hb0.other (by omega) (.slice (some ⟨g', 0, none⟩) (pre.length + 1) cap') (B' := w.heap.size + 1)
      have hb1 : Below w.heap.size W w1 := ((Below.refl _ _).alloc hzW _).grown hg (by simp; omega) (fun k e => (HROW.out.lt k e).1)
      refine hKK.out _ _ (show (fun w' => w'.cell? ⟨w.heap.size + 1, 0, none⟩ = some v ∧ w'.cell? ⟨w.heap.size, 0, none⟩ = some (.slice (some ⟨b, o, none⟩) len cap) ∧ w'.cell? ⟨b, o + I, none⟩ = some (.string s)) w1 from ⟨hc1, hb0.cell, (hb1.cell (p := ⟨b, o + I, none⟩) hb).trans hc⟩) ?_
      clear hKK KK
      try simp only [Act.put, List.setIfInBounds_toArray, List.set_cons_zero, List.set_cons_succ]
      refine wpAnyT_tail (by kernel_rfl) ?_
      refine wpAny_one (i := 10) (by kernel_rfl) rfl (by rfl) (fun KK hKK => ?_)
      go_simp
      refine hKK.out _ _ ?_
      refine wpAny_done (by kernel_rfl) ?_ _
      refine ⟨hk2.from _, hb2, ⟨⟨⟨_, hv2, ?_, trivial⟩, hbx⟩, HBB.out.trans hb2⟩⟩
      rw [List.length_append, List.map_append]
      have e1 : boolsV ((pre.map fun x => bitAt ns x.1) ++ [bitAt ns (I, K)]) = boolsV (pre.map fun x => bitAt ns x.1) ++ [Value.bool true] := by rw [HBIT.out, HGR.out]; simp
      show World.ownsRow _ _ _ _ _ (pre.length + 1) (boolsV ((pre.map fun x => bitAt ns x.1) ++ [bitAt ns (I, K)]))
      rw [e1]
      exact hr2
    | false =>
      have q1 : ¬ (x.toNat : Int) < 97 := fun h => (by rw [blt.1 h] at hgr; cases hgr)
      have HGR := hid hgr
      clear hv hrow hB hbit blt hgs hs hgr bn
      refine wpIn_block ?_
      refine wpIn_held_round (fun w' => w'.cell? ⟨w.heap.size + 1, 0, none⟩ = some v ∧ w'.cell? ⟨w.heap.size, 0, none⟩ = some (.slice (some ⟨b, o, none⟩) len cap) ∧ w'.cell? ⟨b, o + I, none⟩ = some (.string s)) 10 (by kernel_rfl) (by kernel_rfl) (hQ _ _ _ _ _) ?_
      have hS : (fun w' => w'.cell? ⟨w.heap.size + 1, 0, none⟩ = some v ∧ w'.cell? ⟨w.heap.size, 0, none⟩ = some (.slice (some ⟨b, o, none⟩) len cap) ∧ w'.cell? ⟨b, o + I, none⟩ = some (.string s)) W.drew := ⟨hcell, cn, hc⟩
      refine wpAnyT_take (i := 0) v (by decide) (by kernel_rfl) rfl (by kernel_rfl) (by kernel_rfl) (by kernel_rfl) (fun _ _ _ h => h) (by rfl) hS (by rintro w' ⟨h1, h2, h3⟩; go_simp) ?_
      try simp only [Act.put, List.setIfInBounds_toArray, List.set_cons_zero, List.set_cons_succ]
      refine wpAnyT_take (i := 1) (.slice (some ⟨b, o, none⟩) len cap) (by decide) (by kernel_rfl) rfl (by kernel_rfl) (by kernel_rfl) (by kernel_rfl) (fun _ _ _ h => h) (by rfl) hS (by rintro w' ⟨h1, h2, h3⟩; go_simp) ?_
      try simp only [Act.put, List.setIfInBounds_toArray, List.set_cons_zero, List.set_cons_succ]
      refine wpAnyT_take (i := 2) (.int .i64 (I : Int)) (by decide) (by kernel_rfl) rfl (by kernel_rfl) (by kernel_rfl) (by kernel_rfl) (fun _ _ _ h => h) (by rfl) hS (by rintro w' ⟨h1, h2, h3⟩; go_simp) ?_
      try simp only [Act.put, List.setIfInBounds_toArray, List.set_cons_zero, List.set_cons_succ]
      refine wpAnyT_take (i := 3) (.pointer (some ⟨b, o + I, none⟩)) (by decide) (by kernel_rfl) rfl (by kernel_rfl) (by kernel_rfl) (by kernel_rfl) (fun _ _ _ h => h) (by rfl) hS (by rintro w' ⟨h1, h2, h3⟩; go_simp) ?_
      try simp only [Act.put, List.setIfInBounds_toArray, List.set_cons_zero, List.set_cons_succ]
      refine wpAnyT_take (i := 4) (.string s) (by decide) (by kernel_rfl) rfl (by kernel_rfl) (by kernel_rfl) (by kernel_rfl) (fun _ _ _ h => h) (by rfl) hS (by rintro w' ⟨h1, h2, h3⟩; go_simp) ?_
      try simp only [Act.put, List.setIfInBounds_toArray, List.set_cons_zero, List.set_cons_succ]
      refine wpAnyT_take (i := 5) (.int .i64 (K : Int)) (by decide) (by kernel_rfl) rfl (by kernel_rfl) (by kernel_rfl) (by kernel_rfl) (fun _ _ _ h => h) (by rfl) hS (by rintro w' ⟨h1, h2, h3⟩; go_simp) ?_
      try simp only [Act.put, List.setIfInBounds_toArray, List.set_cons_zero, List.set_cons_succ]
      refine wpAnyT_take (i := 6) (.int .u8 (x.toNat : Int)) (by decide) (by kernel_rfl) rfl (by kernel_rfl) (by kernel_rfl) (by kernel_rfl) (fun _ _ _ h => h) (by rfl) hS (by rintro w' ⟨h1, h2, h3⟩; go_simp) ?_
      try simp only [Act.put, List.setIfInBounds_toArray, List.set_cons_zero, List.set_cons_succ]
      refine wpAnyT_take (i := 7) (.bool false) (by decide) (by kernel_rfl) rfl (by kernel_rfl) (by kernel_rfl) (by kernel_rfl) (fun _ _ _ h => h) (by rfl) hS (by rintro w' ⟨h1, h2, h3⟩; go_simp) ?_
      try simp only [Act.put, List.setIfInBounds_toArray, List.set_cons_zero, List.set_cons_succ]
      refine wpAnyT_one (i := 8) (by kernel_rfl) (by kernel_rfl) rfl (by rfl) (fun KK hKK => ?_)
      go_simp
      have hS2 : (fun w' => w'.cell? ⟨w.heap.size + 1, 0, none⟩ = some v ∧ w'.cell? ⟨w.heap.size, 0, none⟩ = some (.slice (some ⟨b, o, none⟩) len cap) ∧ w'.cell? ⟨b, o + I, none⟩ = some (.string s)) (W.drew.alloc (.cells #[.bool false] 4)) := ⟨(World.cell?_alloc_lt _ _ _ HV.out.lt).trans hcell, (World.cell?_alloc_lt _ _ _ BN.out.lt).trans cn, (World.cell?_alloc_lt _ _ _ hbW).trans hc⟩
      refine hKK.out _ _ hS2 ?_
      clear hKK KK
      try simp only [Act.put, List.setIfInBounds_toArray, List.set_cons_zero, List.set_cons_succ]
      refine wpAnyT_one (i := 9) (by kernel_rfl) (by kernel_rfl) rfl (by rfl) (fun KK hKK => ?_)
      refine wp_app (.tmp 10) (.tmp 18) 23 rfl w.heap.size 4 1 1 el_bool v pre.length _ rfl (HROW.out.drew.alloc _) (some ⟨W.heap.size, 0, none⟩) 1 1 [.bool false] rfl (src_one (w := W.drew) _ rfl rfl) ab1 ab2 (by simp; omega) ?_
      intro v' w1 ho hg0 hn
      have hg : (W.alloc _).grownBy w1 v.ownBlock := ⟨hg0.os, hg0.tape, hg0.output, hg0.size, hg0.block⟩
      obtain ⟨g', cap', rfl⟩ := ownsRow_succ ho
      obtain ⟨hv1, hv2, hr2, hk2, hb2⟩ := (Boxed.appended (W := W) HV.out (by decide) HROW.out hzW (by omega) ho hg)
      have hc1 := hv1.cell
      have hf1 := hv1.frozen
      have hb0 := (BN.out.alloc _).kept hg (BN.out.not_row (by decide) HROW.out)
      have hbx := hb0.other (by omega) (.slice (some ⟨g', 0, none⟩) (pre.length + 1) cap') (B' := w.heap.size + 1)
      have hb1 : Below w.heap.size W w1 := ((Below.refl _ _).alloc hzW _).grown hg (by simp; omega) (fun k e => (HROW.out.lt k e).1)
      refine hKK.out _ _ (show (fun w' => w'.cell? ⟨w.heap.size + 1, 0, none⟩ = some v ∧ w'.cell? ⟨w.heap.size, 0, none⟩ = some (.slice (some ⟨b, o, none⟩) len cap) ∧ w'.cell? ⟨b, o + I, none⟩ = some (.string s)) w1 from ⟨hc1, hb0.cell, (hb1.cell (p := ⟨b, o + I, none⟩) hb).trans hc⟩) ?_
      clear hKK KK
      try simp only [Act.put, List.setIfInBounds_toArray, List.set_cons_zero, List.set_cons_succ]
      refine wpAnyT_tail (by kernel_rfl) ?_
      refine wpAny_one (i := 10) (by kernel_rfl) rfl (by rfl) (fun KK hKK => ?_)
      go_simp
      refine hKK.out _ _ ?_
      refine wpAny_done (by kernel_rfl) ?_ _
      refine ⟨hk2.from _, hb2, ⟨⟨⟨_, hv2, ?_, trivial⟩, hbx⟩, HBB.out.trans hb2⟩⟩
      rw [List.length_append, List.map_append]
      have e1 : boolsV ((pre.map fun x => bitAt ns x.1) ++ [bitAt ns (I, K)]) = boolsV (pre.map fun x => bitAt ns x.1) ++ [Value.bool false] := by rw [HBIT.out, HGR.out]; simp
      show World.ownsRow _ _ _ _ _ (pre.length + 1) (boolsV ((pre.map fun x => bitAt ns x.1) ++ [bitAt ns (I, K)]))
      rw [e1]
      exact hr2
  case done =>
    rintro D ys W hD hys ⟨⟨⟨v, hv, hrow, _⟩, bn⟩, hB⟩ hK
    clear hseq h0 o4 o3 o2 o1 b1 b2 b3 hB0 hR
    have hyl : ys.length = (posN ns len).length := by rw [← hys, List.length_map]
    have hyb : (ys.map fun x => bitAt ns x.1) = bitsN (ns.map bytesOf) := by
      have e1 : (ys.map fun x => bitAt ns x.1) = (ys.map Subtype.val).map (bitAt ns) := by rw [List.map_map]; rfl
      have e2 := posN_bits ns ns.length (Nat.le_refl _)
      rw [List.take_length, hl] at e2
      rw [e1, hys, e2]
    rw [hyl, hyb] at hrow
    have hN2 : (bitsN (ns.map bytesOf)).length = (posN ns len).length := by rw [← hyb, List.length_map, hyl]
    have hlo := hid (hB.trans (belowK_b (w := w) (Nat.le_refl _) W D _ (.deferred none) (by omega) hK rfl rfl))
    obtain ⟨A', c', e, hr⟩ := rd_of_own (R := boolR) (ownsRow_putObj hrow (.deferred none) hK rfl) (rels_bool (B := 0)) hN2 (Nat.zero_le _) (by show _ * 1 ≤ _; omega) (by decide)
    subst e
    have hc := hv.cell
    have HRR := hid hr
    clear hys hyl hyb hrow hv bn hr hN2 hB
    gi_wp2
    refine ⟨by simp, .inl ⟨_, _, rfl, run_takeDeferred hK, ?_⟩⟩
    exact ⟨_, results_tmp rfl _ _ _, A', c', rfl, HRR.out, hlo.out⟩
  case stop =>
    rintro D c pre W _ _ h _
    exact h.elim
end Go.Proofs.YtemgbfppdopfbaaDoor
