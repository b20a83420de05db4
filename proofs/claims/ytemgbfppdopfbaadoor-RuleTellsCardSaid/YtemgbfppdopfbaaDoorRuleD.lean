/- A rule read: Clone of nodes; read as its tree. -/
import Derived.Test.YtemgbfppdopfbaaDoorRuleC
namespace Go.Proofs.YtemgbfppdopfbaaDoor
open Go.RowKit
set_option linter.unusedVariables false
set_option linter.unusedSimpArgs false

theorem el_node : El Tryd.prog 84 86 5 88 := el_of (z := .agg #[.int .i64 0, .int .i64 0, .slice none 0 0, .slice none 0 0, .slice none 0 0]) Tryd.underlying84 (by kernel_rfl) rfl (by decide)
theorem el_match : El Tryd.prog 50 81 4 64 := el_of (z := .agg #[.int .i64 0, .int .i64 0, .slice none 0 0, .slice none 0 0]) Tryd.underlying50 (by kernel_rfl) rfl (by decide)
theorem match_of {w : World} {B : Nat} {m : MT} {vs : List Value} (h : matchR.rel w B m vs) :
    ∃ A n c A' n' c' op N l ad, m = (op, N, l, ad, ()) ∧ vs = [.int .i64 op, .int .i64 N, .slice A n c, .slice A' n' c'] ∧ (I64 op ∧ I64 N) ∧ Rd strR w B A n c l ∧ Rd u8R w B A' n' c' ad := by
  obtain ⟨op, N, l, ad, u⟩ := m
  obtain ⟨_, _, rfl, ⟨rfl, h1⟩, _, _, rfl, ⟨rfl, h2⟩, _, _, rfl, ⟨A, n, c, rfl, h3⟩, _, _, rfl, ⟨A', n', c', rfl, h4⟩, rfl⟩ := h
  exact ⟨A, n, c, A', n', c', op, N, l, ad, rfl, rfl, ⟨h1, h2⟩, h3, h4⟩
theorem node_of {w : World} {B : Nat} {t : Tree} {vs : List Value} (h : NodeAt w B t vs) :
    ∃ A n c A' n' c' op N l ad A2 n2 c2, t.top = (op, N, l, ad, ()) ∧ vs = [.int .i64 op, .int .i64 N, .slice A n c, .slice A' n' c', .slice A2 n2 c2] ∧ (I64 op ∧ I64 N) ∧ Rd strR w B A n c l ∧ Rd u8R w B A' n' c' ad ∧ Rd nodeR w B A2 n2 c2 t.kids := by
  obtain ⟨ms, A2, n2, c2, rfl, h1, h2⟩ := node_iff.1 h
  obtain ⟨A, n, c, A', n', c', op, N, l, ad, e, rfl, hi, h3, h4⟩ := match_of h1
  exact ⟨A, n, c, A', n', c', op, N, l, ad, A2, n2, c2, e, rfl, hi, h3, h4, h2⟩
theorem node_mk {w : World} {B : Nat} {A A' A2 : Option Addr} {n c n' c' n2 c2 : Nat} {op N : Int} {l : List ByteArray} {ad : List UInt8} {t : Tree} (ht : t.top = (op, N, l, ad, ())) (hi : I64 op ∧ I64 N) (h3 : Rd strR w B A n c l) (h4 : Rd u8R w B A' n' c' ad) (h2 : Rd nodeR w B A2 n2 c2 t.kids) :
    NodeAt w B t [.int .i64 op, .int .i64 N, .slice A n c, .slice A' n' c', .slice A2 n2 c2] := by
  refine node_iff.2 ⟨[.int .i64 op, .int .i64 N, .slice A n c, .slice A' n' c'], A2, n2, c2, rfl, ?_, h2⟩
  rw [ht]
  exact ⟨[_], _, rfl, ⟨rfl, hi.1⟩, [_], _, rfl, ⟨rfl, hi.2⟩, [_], _, rfl, ⟨A, n, c, rfl, h3⟩, [_], _, rfl, ⟨A', n', c', rfl, h4⟩, rfl⟩
set_option maxHeartbeats 1000000 in
theorem clone_nodes (w : World) (A : Option Addr) (n c : Nat) (ys : List Value) (hs : Src w A n c 5 ys) (hn : n ≤ 1000000) :
    Calls Tryd.prog 57 #[.slice A n c] w fun e w' => ∃ v, e = .returned v ∧ w'.ownsRow w.heap.size 86 5 v n ys ∧ Below w.heap.size w w' := by
  have he := fun w a n c => Lib.run_eql_slice_nil (P := Tryd.prog) w 84 86 a n c 0 0 Tryd.underlying84
  have HS := hid hs
  rcases A with _ | ad
  · have hn : n = 0 ∧ c = 0 := hs.nil rfl
    obtain ⟨rfl, rfl⟩ := hn
    have hl : ys = [] := List.eq_nil_of_length_eq_zero hs.len
    subst hl
    clear hs
    go_enter Tryd.func57, Tryd.ntmps57
    go_wp2
    go_ret
    exact ⟨_, rfl, World.ownsRow_nil _ _ _ _, Below.refl _ _⟩
  · clear hs
    go_enter Tryd.func57, Tryd.ntmps57
    go_wp2_with (at_builtin; refine wpList_app rfl _ _ 84 rfl w.heap.size 86 5 88 el_node (.slice (some ⟨w.heap.size, 0, none⟩) 0 0) 0 [] rfl (own_lit #[] [] rfl (Nat.le_refl _) rfl (by decide) rfl) _ n c ys rfl (HS.out.later ((Below.refl _ _).alloc (Nat.le_refl _) _)) (by omega) (by unfold maxLen; omega) (by simp) ?_; intro v' w1 ho hg _)
    go_ret
    refine ⟨_, rfl, by simpa using ho, ?_⟩
    exact ((Below.refl _ w).alloc (Nat.le_refl _) _).grown hg (by simp) (by simp [Value.ownBlock])
theorem node_one {w : World} {B : Nat} {t : Tree} {vs : List Value} (h : NodeAt w B t vs) : ∀ u ∈ vs, u.oneCell' = true := by
  obtain ⟨A, n, c, A', n', c', op, N, l, ad, A2, n2, c2, _, rfl, _⟩ := node_of h
  simp [Value.oneCell']
section
variable {α : Type} {R : Rep α} {Z : Nat → Bool} {e : TypeId} {base n c i : Nat} {w w' : World} {v v' : Value} {l m : List α} {A : Option Addr}
theorem rels_parts {w : World} {B : Nat} {xs : List Value} (h : Rels R w B l xs) {i : Nat} (hi : i ≤ l.length) : Rels R w B (l.take i) (xs.take (i * R.k)) ∧ Rels R w B (l.drop i) (xs.drop (i * R.k)) := by
  obtain ⟨vss, v1, rfl, v2⟩ := h
  have hkk : ∀ vs ∈ vss, vs.length = R.k := by
    intro vs hvs
    obtain ⟨j, hj, rfl⟩ := List.getElem_of_mem hvs
    exact R.len (v2 j (by omega) hj)
  have e3 : (vss.take i).flatten.length = i * R.k := by rw [flat_len (fun vs hvs => hkk vs (List.mem_of_mem_take hvs)), List.length_take, v1, Nat.min_eq_left hi]
  have e2 : vss.flatten = (vss.take i).flatten ++ (vss.drop i).flatten := by rw [← List.flatten_append, List.take_append_drop]
  refine ⟨⟨vss.take i, by rw [List.length_take, List.length_take, v1], by rw [e2, List.take_left' e3], fun j hj hj' => ?_⟩, ⟨vss.drop i, by rw [List.length_drop, List.length_drop, v1], by rw [e2, List.drop_left' e3], fun j hj hj' => ?_⟩⟩
  · rw [List.getElem_take, List.getElem_take]
    exact v2 j (by rw [List.length_take] at hj; omega) (by rw [List.length_take] at hj'; omega)
  · rw [List.getElem_drop, List.getElem_drop]
    exact v2 (i + j) (by rw [List.length_drop] at hj; omega) (by rw [List.length_drop] at hj'; omega)
/-- a row cut -/
theorem HRow.cut (h : HRow Z R e base w (.slice A n c) l) (hl : l.length = n) (hi : i ≤ n) : HRow Z R e base w (.slice A i c) (l.take i) := by
  subst hl
  obtain ⟨xs, h1, h2⟩ := h
  have hli : (l.take i).length = i := by rw [List.length_take]; omega
  have hxl : xs.length = l.length * R.k := h2.len
  have hz : blkZ Z (.slice A l.length c) = blkZ Z (.slice A i c) := by cases A <;> rfl
  have h3 := (rels_parts h2 hi).1
  rw [hz] at h3
  refine ⟨xs.take (i * R.k), ?_, h3⟩
  rw [hli]
  rcases h1.2 with ⟨e0, e9⟩ | ⟨g', cap', cur, e0, hb, hh, hn, hc, hs, ht⟩
  · injection e0 with e1 e2 e3
    obtain rfl : i = 0 := by omega
    subst e1 e3
    rw [Nat.zero_mul, List.take_zero]
    exact World.ownsRow_nil _ _ _ _
  · injection e0 with e1 e2 e3
    subst e1 e3
    have hle : i * R.k ≤ l.length * R.k := Nat.mul_le_mul_right _ hi
    refine ⟨by rw [List.length_take, hxl]; omega, .inr ⟨g', _, cur, rfl, hb, hh, by omega, hc, hs, ?_⟩⟩
    rw [← ht, List.take_take, Nat.min_eq_left hle]
set_option maxRecDepth 100000 in
theorem HRow.tail {ts : List Tree} (h : HRow Z nodeR e base w (.slice A n c) ts) (hl : ts.length = n) (hi : i ≤ n) :
    ∃ S ys, (∀ w' : World, (Instr.slice 84 (.slice A n c) (some (.int .i64 (i : Int))) none none).run Tryd.prog w' = .ok (.slice S (n - i) (c - i)) w') ∧ Src w S (n - i) (c - i) 5 ys ∧ Rels nodeR (shut w (blkZ Z (.slice A n c))) w.heap.size (ts.drop i) ys := by
  subst hl
  obtain ⟨xs, h1, h2⟩ := h
  have hsz : (Tryd.prog.info? 86).map (·.size) = some 5 := by kernel_rfl
  have hxl : xs.length = ts.length * 5 := h2.len
  have hr := (rels_parts h2 hi).2
  have hone : ∀ u ∈ xs.drop (i * nodeR.k), u.oneCell' = true := by
    intro u hu
    obtain ⟨vss, v1, e1, v2⟩ := hr
    rw [e1, List.mem_flatten] at hu
    obtain ⟨vs, hvs, hu⟩ := hu
    obtain ⟨j, hj, rfl⟩ := List.getElem_of_mem hvs
    exact node_one (v2 j (by omega) hj) u hu
  rcases h1.2 with ⟨e0, e9⟩ | ⟨g', cap', cur, e0, hb, hh, hn, hc, hs, ht⟩
  · injection e0 with e1 e2 e3
    obtain rfl : i = 0 := by omega
    subst e1 e3
    have hts : ts = [] := List.eq_nil_of_length_eq_zero e2
    subst hts
    refine ⟨none, [], fun w' => ?_, ⟨rfl, fun ad h => (by cases h), fun _ => ⟨rfl, rfl⟩, fun u hu => (by cases hu)⟩, Rels.nil⟩
    simp [Instr.slice, Instr.sliceBounds, Instr.sliceBound, go_sem, Tryd.underlying84]
  · injection e0 with e1 e2 e3
    subst e1 e3
    have hlen : (xs.drop (i * nodeR.k)).length = (ts.length - i) * 5 := by
      rw [List.length_drop, hxl]
      show ts.length * 5 - i * 5 = _
      omega
    by_cases hci : c = i
    · refine ⟨some ⟨g', 0, none⟩, _, fun w' => ?_, ⟨hlen, fun ad h j u hu => ?_, fun h => (by cases h), hone⟩, hr⟩
      · obtain rfl : ts.length = i := by omega
        subst hci
        simp [Instr.slice, Instr.sliceBounds, Instr.sliceBound, go_sem, Tryd.underlying84]
      · have : (xs.drop (i * nodeR.k)) = [] := List.eq_nil_of_length_eq_zero (by rw [hlen]; omega)
        rw [this] at hu
        cases hu
    · refine ⟨some ⟨g', i * 5, none⟩, _, fun w' => ?_, ⟨hlen, fun ad h j u hu => ?_, fun h => (by cases h), hone⟩, hr⟩
      · simp [Instr.slice, Instr.sliceBounds, Instr.sliceBound, go_sem, Tryd.underlying84, hi, hci]
      · cases h
        rw [List.getElem?_drop] at hu
        have := h1.cells (g := g') rfl (i * 5 + j) u hu
        rw [add_none] at this ⊢
        simpa using this
set_option maxRecDepth 100000 in
theorem HRow.upto {ts : List Tree} (h : HRow Z nodeR e base w (.slice A n c) ts) {i : Nat} (hl : ts.length = n) (hi : i ≤ n) (w' : World) : (Instr.slice 84 (.slice A n c) none (some (.int .i64 (i : Int))) none).run Tryd.prog w' = .ok (.slice A i c) w' := by
  obtain ⟨xs, h1, h2⟩ := h
  have hsz : (Tryd.prog.info? 86).map (·.size) = some 5 := by kernel_rfl
  subst hl
  rcases h1.2 with ⟨e0, e9⟩ | ⟨g', cap', cur, e0, hb, hh, hn, hc, hs, ht⟩
  · injection e0 with e1 e2 e3
    obtain rfl : i = 0 := by omega
    subst e1 e3
    simp [Instr.slice, Instr.sliceBounds, Instr.sliceBound, go_sem, Tryd.underlying84]
  · injection e0 with e1 e2 e3
    subst e1 e3
    have hic : i ≤ c := by omega
    simp [Instr.slice, Instr.sliceBounds, Instr.sliceBound, go_sem, Tryd.underlying84, hi, hic]
/-- append of one element -/
theorem step_hrow {P : Program} (hR : Mono R) {t : TypeId} {bytes : Nat} (E : El P t e R.k bytes) {wr : World} {V : Value} (hv : HRow Z R e base wr V l)
    {ops : Array Oper} {o : Oper} {a : Act} {Q : Exit → Act → World → Prop} {K : Act → World → Prop} {F : Prop} (a' : α) (ys : List Value) (hgd : o.guard = none) (s x : Operand) (hop : o.op = .call { callee := .builtin .append, args := #[s, x], argTypes := #[t, t] }) {A : Option Addr} {c : Nat} (hs : a.eval s = V) (hx : a.eval x = .slice A 1 c)
    (hb : Below wr.heap.size wr w) (hsrc : Src w A 1 c R.k ys) (hrel : R.rel (shut w (blkZ Z V)) w.heap.size a' ys) (hbytes : (l.length + 1) * bytes ≤ 140737488355328) (h63 : l.length + 1 ≤ maxLen) (hbase : base ≤ wr.heap.size)
    (h : ∀ v' w', HRow Z R e base w' v' (l ++ [a']) → AppTo w w' V v' → Below base w w' → K (a.put o.dst v') w') : if Region.wanted o (yielded ops a.tmps) = true then Oper.wp P o a w K Q else F := by
  obtain ⟨xs, h1, h2⟩ := hv.later hR hb
  refine step_app hgd s x t hop base e R.k bytes E V l.length xs hs h1 A 1 c ys hx hsrc hbytes h63 (Nat.le_trans hbase hb.size) fun v' w' ho hg hbk => ?_
  have ha : AppTo w w' V v' := ⟨hg, hbk.imp id fun e => ⟨_, e, Nat.le_refl _⟩⟩
  exact h v' w' (HRow.app hR (m := [a']) h2 (Rels.one hrel) ho ha) ha (ha.below h1 (Nat.le_trans hbase hb.size))
theorem wpList_hrow {P : Program} (hR : Mono R) {t : TypeId} {bytes : Nat} (E : El P t e R.k bytes) {wr : World} {V : Value} (hv : HRow Z R e base wr V l)
    {ops : Array Oper} {rest : List Oper} {o : Oper} {a : Act} {Q : Exit → Act → World → Prop} (a' : α) (ys : List Value) (hgd : o.guard = none) (s x : Operand) (hop : o.op = .call { callee := .builtin .append, args := #[s, x], argTypes := #[t, t] }) {A : Option Addr} {c : Nat} (hs : a.eval s = V) (hx : a.eval x = .slice A 1 c)
    (hb : Below wr.heap.size wr w) (hsrc : Src w A 1 c R.k ys) (hrel : R.rel (shut w (blkZ Z V)) w.heap.size a' ys) (hbytes : (l.length + 1) * bytes ≤ 140737488355328) (h63 : l.length + 1 ≤ maxLen) (hbase : base ≤ wr.heap.size)
    (h : ∀ v' w', HRow Z R e base w' v' (l ++ [a']) → AppTo w w' V v' → Below base w w' → wpList P ops Q rest (a.put o.dst v') w') : wpList P ops Q (o :: rest) a w := by
  obtain ⟨xs, h1, h2⟩ := hv.later hR hb
  refine wpList_appT hgd s x t hop base e R.k bytes E V l.length xs hs h1 A 1 c ys hx hsrc hbytes h63 (Nat.le_trans hbase hb.size) fun v' w' ho ha => ?_
  exact h v' w' (HRow.app hR (m := [a']) h2 (Rels.one hrel) ho ha) ha (ha.below h1 (Nat.le_trans hbase hb.size))
end
end Go.Proofs.YtemgbfppdopfbaaDoor
