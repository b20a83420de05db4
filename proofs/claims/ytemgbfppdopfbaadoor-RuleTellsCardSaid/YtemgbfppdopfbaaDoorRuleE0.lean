/- A rule read as its tree: what the walk of read rests on. -/
import Derived.Test.YtemgbfppdopfbaaDoorRuleD
namespace Go.Proofs.YtemgbfppdopfbaaDoor
open Go.RowKit
set_option linter.unusedVariables false
set_option linter.unusedSimpArgs false

@[reducible] def zeroNode : Array Value := #[.int .i64 0, .int .i64 0, .slice none 0 0, .slice none 0 0, .slice none 0 0]
theorem matches_at {r : List MT} : ∀ {i : Nat} (hi : i < r.length), (∀ j (hj : j < r.length), j < i → matchErr r[j] = 0) → matchErr r[i] ≠ 0 → matchesErr r = matchErr r[i] := by
  induction r with
  | nil => intro i hi; simp at hi
  | cons m r ih =>
    intro i hi h0 hne
    cases i with
    | zero =>
      have hne' : matchErr m ≠ 0 := hne
      rw [matchesErr, if_neg hne']
      rfl
    | succ i =>
      have hm : matchErr m = 0 := h0 0 (by simp) (by omega)
      rw [matchesErr, if_pos hm]
      exact ih (by simpa using hi) (fun j hj hji => h0 (j + 1) (by simpa using hj) (by omega)) hne
theorem stack_step {r : List MT} {i : Nat} (hi : i < r.length) {st : List Tree} (h : stackT (r.take i) [] = some st) : stackT (r.take (i + 1)) [] = pushT r[i] st := by
  rw [List.take_succ_eq_append_getElem hi, stackT_app, h]
  show (match pushT r[i] st with | none => none | some st2 => stackT [] st2) = _
  cases pushT r[i] st <;> rfl
theorem stack_none {r : List MT} {i : Nat} (h : stackT (r.take i) [] = none) : stackT r [] = none := by
  have e : r = r.take i ++ r.drop i := (List.take_append_drop i r).symm
  rw [e, stackT_app, h]
  rfl
theorem res_read {tmps : Array Value} {W : World} {g : Nat} {T : TypeId} {e : Value} {c0 c1 c2 c3 c4 : Value} (h2 : tmps[2]? = some (.pointer (some ⟨g, 0, none⟩))) (h3 : tmps[3]? = some e) (hB : Blk W g T #[c0, c1, c2, c3, c4]) :
    (results Tryd.f41 tmps).run Tryd.prog W = .ok (.tuple #[.agg #[c0, c1, c2, c3, c4], e]) W := by
  have k0 : W.cell? ⟨g, 0, none⟩ = some c0 := hB.cell 0
  have k1 : W.cell? ⟨g, 1, none⟩ = some c1 := hB.cell 1
  have k2 : W.cell? ⟨g, 2, none⟩ = some c2 := hB.cell 2
  have k3 : W.cell? ⟨g, 3, none⟩ = some c3 := hB.cell 3
  have k4 : W.cell? ⟨g, 4, none⟩ = some c4 := hB.cell 4
  simp [results, Tryd.results41, go_sem, h2, h3, k0, k1, k2, k3, k4]
/-- what read hands back -/
def ReadO (r : List MT) (w : World) (e : Ending) (w' : World) : Prop :=
  (match treeOf r with
  | .inl k => e = .returned (.tuple #[.agg zeroNode, errV k])
  | .inr t => ∃ vs : List Value, e = .returned (.tuple #[.agg vs.toArray, .nilIface]) ∧ NodeAt w' w'.heap.size t vs) ∧ Below w.heap.size w w'
theorem Rd.match_ {w : World} {B n c : Nat} {A : Option Addr} {r : List MT} (h : Rd matchR w B A n c r) (i : Nat) (hi : i < n) :
    ∃ b o A1 n1 c1 A2 n2 c2 op N l ad, A = some ⟨b, o, none⟩ ∧ b < B ∧ r[i]'(by rw [h.len]; exact hi) = (op, N, l, ad, ()) ∧ w.cell? ⟨b, o + i * 4, none⟩ = some (.int .i64 op) ∧ w.cell? ⟨b, o + i * 4 + 1, none⟩ = some (.int .i64 N) ∧ w.cell? ⟨b, o + i * 4 + 2, none⟩ = some (.slice A1 n1 c1) ∧ w.cell? ⟨b, o + i * 4 + 3, none⟩ = some (.slice A2 n2 c2) ∧ Rd strR w B A1 n1 c1 l ∧ Rd u8R w B A2 n2 c2 ad ∧ (I64 op ∧ I64 N) := by
  obtain ⟨b, o, vs, e, hb, hr, hc⟩ := h.at_ i (by rw [h.len]; exact hi)
  obtain ⟨A1, n1, c1, A2, n2, c2, op, N, l, ad, e1, rfl, hi64, h3, h4⟩ := match_of hr
  exact ⟨b, o, A1, n1, c1, A2, n2, c2, op, N, l, ad, e, hb, e1, hc 0 _ rfl, hc 1 _ rfl, hc 2 _ rfl, hc 3 _ rfl, h3, h4, hi64⟩

theorem eV_zero : errV 0 = .nilIface := if_pos rfl
theorem eV_ne {n : Int} (h : n ≠ 0) : errV n = .iface 26 (.int .i64 n) := if_neg h
theorem node_over {w : World} {g : Nat} {T : TypeId} {c0 c1 c2 c3 c4 : Value} (y0 y1 y2 y3 y4 : Value) (hB : Blk w g T #[c0, c1, c2, c3, c4]) : Blk (((((w.setCell ⟨g, 0, none⟩ y0).setCell ⟨g, 1, none⟩ y1).setCell ⟨g, 2, none⟩ y2).setCell ⟨g, 3, none⟩ y3).setCell ⟨g, 4, none⟩ y4) g T #[y0, y1, y2, y3, y4] := by
  have := ((((hB.set 0 y0).set 1 y1).set 2 y2).set 3 y3).set 4 y4
  simpa using this
theorem readO_no {r : List MT} {w w' : World} {k : Int} (ht : treeOf r = .inl k) (hb : Below w.heap.size w w') : ReadO r w (.returned (.tuple #[.agg zeroNode, errV k])) w' := by
  unfold ReadO
  rw [ht]
  exact ⟨rfl, hb⟩

theorem own_shut {w : World} {Z : Nat → Bool} {base : Nat} {e : TypeId} {k n : Nat} {v : Value} {xs : List Value} (h : w.ownsRow base e k v n xs) (hz : ∀ g, v.ownBlock = some g → Z g = false) : (shut w Z).ownsRow base e k v n xs := by
  obtain ⟨h1, h2⟩ := h
  refine ⟨h1, ?_⟩
  rcases h2 with h2 | ⟨g, cap, cur, rfl, hb, hh, rest⟩
  · exact .inl h2
  · refine .inr ⟨g, cap, cur, rfl, hb, ?_, rest⟩
    rw [← hh]
    unfold shut
    simp only [Array.getElem?_mapIdx]
    rw [hh, hz g rfl]
    rfl
theorem HRow.blk {α : Type} {R : Rep α} {Z : Nat → Bool} {e : TypeId} {base : Nat} {w : World} {v : Value} {l : List α} (h : HRow Z R e base w v l) {g : Nat} (hg : v.ownBlock = some g) : base ≤ g ∧ g < w.heap.size := by
  obtain ⟨xs, h1, _⟩ := h
  exact h1.lt g hg
theorem blkZ_no {Z : Nat → Bool} {v : Value} {i : Nat} (h1 : Z i = false) (h2 : v.ownBlock ≠ some i) : blkZ Z v i = false := by
  unfold blkZ
  rw [h1, decide_eq_false h2]
  rfl
/-- one more node, behind some -/
theorem push_at {w wr W : World} {op N : Int} {l : List ByteArray} {ad : List UInt8} {A1 A2 A9 : Option Addr} {n1 c1 n2 c2 c9 K : Nat} {V : Value} {st : List Tree} {ys : List Value} {base : Nat}
    (r1 : Rd strR wr w.heap.size A1 n1 c1 l) (r2 : Rd u8R wr w.heap.size A2 n2 c2 ad) (hi : I64 op ∧ I64 N) (hK : (st.drop K).length = takesN op)
    (hw : w.heap.size ≤ wr.heap.size) (hV : ∀ g, V.ownBlock = some g → w.heap.size + 1 ≤ g ∧ g < wr.heap.size) (hr : Rels nodeR (shut wr (blkZ (fun i => decide (i = w.heap.size)) V)) wr.heap.size (st.drop K) ys)
    (hb : Below wr.heap.size wr W) (hbase : wr.heap.size ≤ base) (hw0 : w.heap.size < wr.heap.size) (ho : W.ownsRow base 86 5 (.slice A9 (st.drop K).length c9) (st.drop K).length ys) :
    NodeAt (shut W (blkZ (fun i => decide (i = w.heap.size)) V)) W.heap.size (mkT (op, N, l, ad, ()) (st.drop K)) [.int .i64 op, .int .i64 N, .slice A1 n1 c1, .slice A2 n2 c2, .slice A9 (st.drop K).length c9] := by
  have hZ : ∀ i, i < w.heap.size → blkZ (fun i => decide (i = w.heap.size)) V i = false := fun i hi => blkZ_no (by simp; omega) fun e => by have := (hV i e).1; omega
  have hbw := hb.mono hw
  have ht : takesN op ≤ 2 := by unfold takesN; split; · omega
                                split <;> omega
  have hkids : (mkT (op, N, l, ad, ()) (st.drop K)).kids = st.drop K := by
    match st.drop K, hK with
    | [], _ => rfl
    | [a], _ => rfl
    | [a, b], _ => rfl
    | a :: b :: c :: q, h => simp only [List.length_cons] at h; omega
  have htop : (mkT (op, N, l, ad, ()) (st.drop K)).top = (op, N, l, ad, ()) := by
    match st.drop K with
    | [] => rfl
    | [a] => rfl
    | a :: b :: q => rfl
  refine node_mk htop hi ((r1.below hbw).shutB mono_str (Nat.le_trans hw hb.size) hZ) ((r2.below hbw).shutB mono_u8 (Nat.le_trans hw hb.size) hZ) ?_
  rw [hkids]
  have hr2 : Rels nodeR (shut W (blkZ (fun i => decide (i = w.heap.size)) V)) wr.heap.size (st.drop K) ys := hr.mono' mono_node (Nat.le_refl _) fun p u hp hu => shut_more (fun p hp _ => hb.cell hp) (fun i _ hz => hz) p u hp hu
  have ho2 := own_shut (Z := blkZ (fun i => decide (i = w.heap.size)) V) ho (fun g hg => by
    have h1 := (ho.lt g hg).1
    exact blkZ_no (by simp; omega) fun e => by have := (hV g e).2; omega)
  obtain ⟨A', c', e, hrd⟩ := rd_of_own (R := nodeR) ho2 hr2 rfl (by rw [shut_size]; exact hb.size) (by rw [hK]; show takesN op * 88 ≤ _; omega) (by decide)
  cases e
  rw [shut_size] at hrd
  exact hrd
theorem push_at' {w wr W : World} {op N : Int} {l : List ByteArray} {ad : List UInt8} {A1 A2 A9 : Option Addr} {n1 c1 n2 c2 c9 K m : Nat} {V : Value} {st : List Tree} {ys : List Value} (hm : (st.drop K).length = m)
    (r1 : Rd strR wr w.heap.size A1 n1 c1 l) (r2 : Rd u8R wr w.heap.size A2 n2 c2 ad) (hi : I64 op ∧ I64 N) (hK : takesN op = m)
    (hw : w.heap.size ≤ wr.heap.size) (hV : ∀ g, V.ownBlock = some g → w.heap.size + 1 ≤ g ∧ g < wr.heap.size) (hr : Rels nodeR (shut wr (blkZ (fun i => decide (i = w.heap.size)) V)) wr.heap.size (st.drop K) ys)
    (hb : Below wr.heap.size wr W) (hw0 : w.heap.size < wr.heap.size) (ho : ∃ base, wr.heap.size ≤ base ∧ W.ownsRow base 86 5 (.slice A9 m c9) m ys) :
    nodeR.rel (shut W (blkZ (fun i => decide (i = w.heap.size)) V)) W.heap.size (mkT (op, N, l, ad, ()) (st.drop K)) [.int .i64 op, .int .i64 N, .slice A1 n1 c1, .slice A2 n2 c2, .slice A9 m c9] := by
  subst hm
  obtain ⟨base, hbase, ho⟩ := ho
  exact push_at r1 r2 hi hK.symm hw hV hr hb hbase hw0 ho
theorem own_ext' {w w2 : World} {o : Array Obj} {d d2 base k n : Nat} {e : TypeId} {v : Value} {xs : List Value} (h : (ext w o d).ownsRow base e k v n xs) (h1 : w.heap.size ≤ base) (h2 : w2.heap.size = w.heap.size) : (ext w2 o d2).ownsRow base e k v n xs := by
  obtain ⟨h3, h4⟩ := h
  refine ⟨h3, ?_⟩
  rcases h4 with h4 | ⟨g, cap, cur, rfl, hb, hh, rest⟩
  · exact .inl h4
  · refine .inr ⟨g, cap, cur, rfl, hb, ?_, rest⟩
    rw [← hh]
    unfold ext
    rw [Array.getElem?_append_right (by omega), Array.getElem?_append_right (by omega), h2]
theorem Src.drewX {w : World} {A : Option Addr} {m c s : Nat} {ys : List Value} (h : Src w A m c s ys) : Src w.drew A m c s ys := ⟨h.len, h.at_, h.nil, h.one⟩
theorem blk_keep {wr w w' : World} {g : Nat} {T : TypeId} {cs : Array Value} {V v' : Value} (hB : Blk wr g T cs) (hb : Below wr.heap.size wr w) (ha : AppTo w w' V v') (hV : V.ownBlock ≠ some g) : Blk w' g T cs :=
  (ha.grown.block g (by have := hB.lt; have := hb.size; omega) (fun e => hV e.symm)).trans ((hb.block g hB.lt).trans hB)
theorem over_heap {w : World} {g k : Nat} (y0 y1 y2 y3 y4 : Value) (h : k ≠ g) : (((((w.setCell ⟨g, 0, none⟩ y0).setCell ⟨g, 1, none⟩ y1).setCell ⟨g, 2, none⟩ y2).setCell ⟨g, 3, none⟩ y3).setCell ⟨g, 4, none⟩ y4).heap[k]? = w.heap[k]? := by
  have h' : g ≠ k := Ne.symm h
  rw [Below.heap_setCell _ ⟨g, 4, none⟩ y4 k h, Below.heap_setCell _ ⟨g, 3, none⟩ y3 k h, Below.heap_setCell _ ⟨g, 2, none⟩ y2 k h, Below.heap_setCell _ ⟨g, 1, none⟩ y1 k h, Below.heap_setCell _ ⟨g, 0, none⟩ y0 k h]
theorem over_low {B : Nat} {w0 w : World} {g : Nat} (y0 y1 y2 y3 y4 : Value) (h : Below B w0 w) (hg : B ≤ g) : Below B w0 (((((w.setCell ⟨g, 0, none⟩ y0).setCell ⟨g, 1, none⟩ y1).setCell ⟨g, 2, none⟩ y2).setCell ⟨g, 3, none⟩ y3).setCell ⟨g, 4, none⟩ y4) :=
  Below.setCell (Below.setCell (Below.setCell (Below.setCell (Below.setCell h hg _) hg _) hg _) hg _) hg _
theorem over_size {w : World} {g : Nat} (y0 y1 y2 y3 y4 : Value) : (((((w.setCell ⟨g, 0, none⟩ y0).setCell ⟨g, 1, none⟩ y1).setCell ⟨g, 2, none⟩ y2).setCell ⟨g, 3, none⟩ y3).setCell ⟨g, 4, none⟩ y4).heap.size = w.heap.size := by simp
/-- what is read with a block shut, behind a store into it -/
theorem over_node {w : World} {Z Z' : Nat → Bool} {g : Nat} {t : Tree} {vs : List Value} (y0 y1 y2 y3 y4 : Value) (h : NodeAt (shut w Z) w.heap.size t vs) (hz : Z g = true) (hZ : ∀ i, Z i = false → Z' i = false) :
    NodeAt (shut (((((w.setCell ⟨g, 0, none⟩ y0).setCell ⟨g, 1, none⟩ y1).setCell ⟨g, 2, none⟩ y2).setCell ⟨g, 3, none⟩ y3).setCell ⟨g, 4, none⟩ y4) Z') (((((w.setCell ⟨g, 0, none⟩ y0).setCell ⟨g, 1, none⟩ y1).setCell ⟨g, 2, none⟩ y2).setCell ⟨g, 3, none⟩ y3).setCell ⟨g, 4, none⟩ y4).heap.size t vs := by
  refine NodeAt.mono t h (by rw [over_size]; exact Nat.le_refl _) fun p u hp hu => ?_
  refine shut_more (B := w.heap.size) (fun p hp hzp => ?_) (fun i _ hzi => hZ i hzi) p u hp hu
  refine World.cell?_of_block (over_heap y0 y1 y2 y3 y4 ?_)
  intro e
  rw [e, hz] at hzp
  cases hzp
theorem node_unshut {w : World} {Z : Nat → Bool} {B : Nat} {t : Tree} {vs : List Value} (h : NodeAt (shut w Z) B t vs) : NodeAt w B t vs := NodeAt.mono t h (Nat.le_refl _) fun p u _ hu => unshut p u hu
/-- where blocks of a call lie now -/
def OutAt (W : World) (N : Nat) (o : Array Obj) : Prop := ∀ i, i < o.size → W.heap[N + i]? = o[i]?
theorem OutAt.base {w : World} {N : Nat} {o : Array Obj} (h : w.heap.size = N) (d : Nat) : OutAt (ext w o d) N o := fun i hi => by
  unfold ext
  simp only
  rw [Array.getElem?_append_right (by omega), h, Nat.add_sub_cancel_left]
theorem OutAt.drew {W : World} {N : Nat} {o : Array Obj} (h : OutAt W N o) : OutAt W.drew N o := h
theorem OutAt.keep {W W' : World} {N : Nat} {o : Array Obj} (h : OutAt W N o) (hs : N + o.size ≤ W.heap.size) (hk : Below W.heap.size W W') : OutAt W' N o := fun i hi => (hk.block _ (by omega)).trans (h i hi)
theorem OutAt.alloc {W : World} {N : Nat} {o : Array Obj} (h : OutAt W N o) (hs : N + o.size ≤ W.heap.size) (ob : Obj) : OutAt (W.alloc ob) N o := h.keep hs ((Below.refl _ _).alloc (Nat.le_refl _) _)
theorem OutAt.ext {W : World} {N : Nat} {o : Array Obj} (h : OutAt W N o) (hs : N + o.size ≤ W.heap.size) (o' : Array Obj) (d : Nat) : OutAt (ext W o' d) N o := h.keep hs (below_ext W o' d)
def OwnO (o : Array Obj) (N : Nat) (e : TypeId) (k n : Nat) (v : Value) (xs : List Value) : Prop := ∀ W : World, OutAt W N o → W.ownsRow N e k v n xs
theorem own_outs {w : World} {o : Array Obj} {d k n : Nat} {e : TypeId} {v : Value} {xs : List Value} (h : (ext w o d).ownsRow w.heap.size e k v n xs) : OwnO o w.heap.size e k n v xs := fun W hW => by
  obtain ⟨h3, h4⟩ := h
  refine ⟨h3, ?_⟩
  rcases h4 with h4 | ⟨g, cap, cur, rfl, hb, hh, rest⟩
  · exact .inl h4
  · refine .inr ⟨g, cap, cur, rfl, hb, ?_, rest⟩
    rw [← hh]
    unfold ext at hh ⊢
    simp only at hh ⊢
    rw [Array.getElem?_append_right hb] at hh ⊢
    have hi : g - w.heap.size < o.size := by
      rcases Nat.lt_or_ge (g - w.heap.size) o.size with h | h
      · exact h
      · rw [Array.getElem?_eq_none h] at hh; cases hh
    rw [← hW _ hi, show w.heap.size + (g - w.heap.size) = g by omega]
end Go.Proofs.YtemgbfppdopfbaaDoor
