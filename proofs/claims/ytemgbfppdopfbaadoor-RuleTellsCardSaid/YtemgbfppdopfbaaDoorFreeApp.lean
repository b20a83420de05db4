/- append onto a row of the call's own, whose block holds nothing of a kind: neither does the new row's block. No function of the program. -/
import Derived.Test.YtemgbfppdopfbaaDoorAppS
import Derived.Test.YtemgbfppdopfbaaDoorSim
namespace Go.Proofs.YtemgbfppdopfbaaDoor
open Go.RowKit
set_option linter.unusedVariables false
set_option linter.unusedSimpArgs false

/-- a slice's own block holds nothing of a kind -/
def FreeV (K : Value → Prop) (w : World) (v : Value) : Prop := ∀ k, v.ownBlock = some k → FreeB K w k
section
variable {K : Value → Prop} {w w' : World} {v : Value}
theorem FreeV.nil : FreeV K w (.slice none 0 0) := fun k h => (by cases h)
theorem FreeV.lit {g n c : Nat} (h : FreeB K w g) : FreeV K w (.slice (some ⟨g, 0, none⟩) n c) := fun k e => (by cases e; exact h)
theorem FreeV.below {base : Nat} {e : TypeId} {size n : Nat} {xs : List Value} (h : FreeV K w v) (ho : w.ownsRow base e size v n xs) (hb : Below w.heap.size w w') : FreeV K w' v := fun k hk => (h k hk).below hb (ho.lt k hk).2
theorem FreeV.grown {base : Nat} {e : TypeId} {size n : Nat} {xs : List Value} {r : Option Nat} (h : FreeV K w v) (ho : w.ownsRow base e size v n xs) (hg : w.grownBy w' r) (hr : v.ownBlock = none ∨ v.ownBlock ≠ r) : FreeV K w' v := by
  intro k hk i u hu
  refine h k hk i u ?_
  rw [← hu]
  exact (World.cell?_of_block (hg.block k (ho.lt k hk).2 (by rw [← hk]; exact hr.resolve_left (by rw [hk]; simp)))).symm
theorem FreeV.set {g i : Nat} {s : Option Nat} {u : Value} (h : FreeV K w v) (hne : v.ownBlock = none ∨ v.ownBlock ≠ some g) : FreeV K (w.setCell ⟨g, i, s⟩ u) v := fun k hk =>
  (h k hk).far (fun e => (hne.elim (fun h0 => by rw [hk] at h0; cases h0) fun h1 => h1 (by rw [hk, show k = g from e]))) u
theorem FreeV.drew (h : FreeV K w v) : FreeV K w.drew v := h
theorem mem_zero {z : Array Value} {n : Nat} {u : Value} (h : u ∈ (Builtin.zeroCells z n).toList) : u ∈ z.toList := by
  unfold Builtin.zeroCells at h
  simp only [Array.toList_map, List.mem_map, Array.mem_toList_iff] at h
  obtain ⟨i, hi, rfl⟩ := h
  rw [Array.mem_range] at hi
  have hz : 0 < z.size := by
    rcases Nat.eq_zero_or_pos z.size with h | h
    · rw [h] at hi; omega
    · exact h
  have := Nat.mod_lt i hz
  rw [getElem!_pos z _ this]
  exact Array.mem_toList_iff.2 (Array.getElem_mem this)
/-- what a row of the call's own holds is of no kind, if its block holds nothing of it -/
theorem own_free {base : Nat} {e : TypeId} {size n : Nat} {xs : List Value} (ho : w.ownsRow base e size v n xs) (hf : FreeV K w v) (hn : 0 < n ∨ xs = []) : ∀ u ∈ xs, ¬ K u := by
  rcases ho.2 with ⟨rfl, rfl⟩ | ⟨g, cap, cur, rfl, hbg, hg, hnc, hcm, hcs, htake⟩
  · have hx : xs = [] := List.eq_nil_of_length_eq_zero (by simpa using ho.1)
    subst hx
    simp
  · intro u hu
    obtain ⟨j, hj, rfl⟩ := List.getElem_of_mem hu
    have := ho.cells (g := g) rfl j _ (List.getElem?_eq_getElem hj)
    rw [add_none] at this
    exact hf g rfl _ _ this
end
section
variable {P : Program} {w : World} {K : Value → Prop}
theorem free_app (base : Nat) (t ty e : TypeId) (size bytes : Nat) (E : El P t e size bytes) (hz : ∀ z, (P.info? e).bind (·.zero) = some z → ∀ u ∈ z.cells.toList, ¬ K u) {v : Value} {n : Nat} {xs : List Value} (hown : w.ownsRow base e size v n xs) (hf : FreeV K w v)
    {A : Option Addr} {m c : Nat} {ys : List Value} (hs : Src w A m c size ys) (hy : ∀ u ∈ ys, ¬ K u) (hbytes : (n + m) * bytes ≤ 140737488355328) (h63 : n + m ≤ maxLen) {v' : Value} {w' : World}
    (hr : (Builtin.append_ #[t, t] ty #[v, .slice A m c]).run P w = .ok v' w') : FreeV K w' v' := by
  obtain ⟨ht, ⟨i, z, hi, hz0, hsz, hby, hzs⟩, hp⟩ := E
  have hzz := hz z (by rw [hi]; exact hz0)
  have hsmall : n + m ≤ 9223372036854775807 := by simp only [maxLen] at h63; omega
  rcases A with _ | ad
  · obtain ⟨rfl, rfl⟩ := hs.nil rfl
    have h2 := run_append_owned_none (P := P) (w := w) base t ty e i size ht hi v n xs hown
    have h3 := hr.symm.trans h2
    injection h3 with h3 h4
    subst h3; subst h4
    exact hf
  · have hl := hs.len
    have hnews := hs.at_ ad rfl
    subst hsz
    subst hby
    rcases hown.2 with ⟨rfl, rfl⟩ | ⟨g, cap, cur, rfl, hbg, hg, hnc, hcm, hcs, htake⟩
    · by_cases hm : m = 0
      · subst hm
        have hn : ys = [] := List.eq_nil_of_length_eq_zero (by simpa using hl)
        subst hn
        have h2 : (Builtin.append_ #[t, t] ty #[.slice none 0 0, .slice (some ad) 0 c]).run P w = .ok (.slice none 0 0) w := by
          simp [Builtin.append_, run_underlying ht, sizeOf, typeInfo, hi, Builtin.lenOf, Builtin.firstCells, loadCells, loadCellsFrom]
        have h3 := hr.symm.trans h2
        injection h3 with h3 h4
        subst h3; subst h4
        exact hf
      · have h2 := run_append_nil (P := P) w t ty e i z ht hi hz0 ad m c ys hl hnews (by omega) (by omega) (by simp only [Nat.zero_add] at hbytes; omega)
        have h3 := hr.symm.trans h2
        injection h3 with h3 h4
        subst h3; subst h4
        refine FreeV.lit (FreeB.of_blk (t := e) (cs := ys.toArray ++ Builtin.zeroCells z.cells (grownCap w m 0 e - m)) (Blk.new w.drew _ _) ?_)
        intro u hu
        rw [Array.toList_append, List.mem_append] at hu
        rcases hu with hu | hu
        · exact hy u hu
        · exact hzz u (mem_zero hu)
    · by_cases hroom : n + m ≤ cap
      · have hfit : n * i.size + ys.length ≤ cur.size := by rw [hl, hcs, ← Nat.add_mul]; exact Nat.mul_le_mul_right _ hroom
        have h2 := run_append_room (P := P) w t ty e i ht hi g n cap cur hg ad m c ys hl hnews hs.one hroom hfit
        have h3 := hr.symm.trans h2
        injection h3 with h3 h4
        subst h3; subst h4
        have hb : Blk w g e cur := hg
        have hcur : ∀ u ∈ cur.toList, ¬ K u := by
          intro u hu
          obtain ⟨j, hj, rfl⟩ := List.getElem_of_mem hu
          refine hf g rfl j _ ?_
          rw [hb.cell j]
          simp only [Array.length_toList] at hj
          rw [Array.getElem?_eq_getElem hj]
          simp
        refine FreeV.lit (FreeB.of_blk (t := e) (setRow_heap w g cur _ e _ hg) ?_)
        intro u hu
        simp only [List.mem_append] at hu
        rcases hu with (hu | hu) | hu
        · exact hcur u (List.mem_of_mem_take hu)
        · exact hy u hu
        · exact hcur u (List.mem_of_mem_drop hu)
      · have h2 := run_append_grow (P := P) w t ty e i z ht hi hz0 ⟨g, 0, none⟩ n cap xs hown.1 (hown.cells (g := g) rfl) ad m c ys hl hnews (by omega) (by omega) (growslice_fits (by omega) hbytes)
        have h3 := hr.symm.trans h2
        injection h3 with h3 h4
        subst h3; subst h4
        refine FreeV.lit (FreeB.of_blk (t := e) (cs := xs.toArray ++ ys.toArray ++ Builtin.zeroCells z.cells (grownCap w (n + m) cap e - (n + m))) (Blk.new w.drew _ _) ?_)
        have hxs : ∀ u ∈ xs, ¬ K u := by
          intro u hu
          obtain ⟨j, hj, rfl⟩ := List.getElem_of_mem hu
          have := hown.cells (g := g) rfl j _ (List.getElem?_eq_getElem hj)
          rw [add_none] at this
          exact hf g rfl _ _ this
        intro u hu
        rw [Array.toList_append, Array.toList_append, List.mem_append, List.mem_append] at hu
        rcases hu with (hu | hu) | hu
        · exact hxs u hu
        · exact hy u hu
        · exact hzz u (mem_zero hu)
/-- append, in a region that draws: where the new row lies, and that it holds nothing of a kind -/
theorem step_appF {ops : Array Oper} {o : Oper} {a : Act} {Q : Exit → Act → World → Prop} {KK : Act → World → Prop} {F : Prop} (hgd : o.guard = none) (s x : Operand) (t : TypeId)
    (ho : o.op = .call { callee := .builtin .append, args := #[s, x], argTypes := #[t, t] }) (base : Nat) (e : TypeId) (size bytes : Nat) (E : El P t e size bytes) (hz : ∀ z, (P.info? e).bind (·.zero) = some z → ∀ u ∈ z.cells.toList, ¬ K u)
    (v : Value) (n : Nat) (xs : List Value) (hs : a.eval s = v) (hown : w.ownsRow base e size v n xs) (hf : FreeV K w v) (A : Option Addr) (m c : Nat) (ys : List Value) (hx : a.eval x = .slice A m c) (hsrc : Src w A m c size ys) (hy : ∀ u ∈ ys, ¬ K u)
    (hbytes : (n + m) * bytes ≤ 140737488355328) (h63 : n + m ≤ maxLen) (hbase : base ≤ w.heap.size)
    (h : ∀ v' w', w'.ownsRow base e size v' (n + m) (xs ++ ys) → AppTo w w' v v' → FreeV K w' v' → KK (a.put o.dst v') w') :
    if Region.wanted o (yielded ops a.tmps) = true then Oper.wp P o a w KK Q else F := by
  have hw : Region.wanted o (yielded ops a.tmps) = true := by simp [Region.wanted, hgd]
  rw [if_pos hw]
  obtain ⟨v', w', hr, h2, h3, h5⟩ := run_app (P := P) (w := w) base t o.type e size bytes E v n xs hown A m c ys hsrc hbytes h63 hbase
  have h6 := free_app (K := K) base t o.type e size bytes E hz hown hf hsrc hy hbytes h63 hr
  unfold Oper.wp execOp
  simp only [ho, resolve, invoke, builtin, Sem.run_bind, Sem.run_pure, Result.andThen_ok, List.map_toArray, List.map_cons, List.map_nil, hs, hx, hr]
  exact h v' w' h2 ⟨h3, h5.imp id fun e => ⟨_, e, Nat.le_refl _⟩⟩ h6
theorem wpList_appF {ops : Array Oper} {rest : List Oper} {o : Oper} {a : Act} {Q : Exit → Act → World → Prop} (hgd : o.guard = none) (s x : Operand) (t : TypeId)
    (ho : o.op = .call { callee := .builtin .append, args := #[s, x], argTypes := #[t, t] }) (base : Nat) (e : TypeId) (size bytes : Nat) (E : El P t e size bytes) (hz : ∀ z, (P.info? e).bind (·.zero) = some z → ∀ u ∈ z.cells.toList, ¬ K u)
    (v : Value) (n : Nat) (xs : List Value) (hs : a.eval s = v) (hown : w.ownsRow base e size v n xs) (hf : FreeV K w v) (A : Option Addr) (m c : Nat) (ys : List Value) (hx : a.eval x = .slice A m c) (hsrc : Src w A m c size ys) (hy : ∀ u ∈ ys, ¬ K u)
    (hbytes : (n + m) * bytes ≤ 140737488355328) (h63 : n + m ≤ maxLen) (hbase : base ≤ w.heap.size)
    (h : ∀ v' w', w'.ownsRow base e size v' (n + m) (xs ++ ys) → AppTo w w' v v' → FreeV K w' v' → wpList P ops Q rest (a.put o.dst v') w') :
    wpList P ops Q (o :: rest) a w := by
  refine wpList_plain hgd fun KK hK => ?_
  obtain ⟨v', w', hr, h2, h3, h5⟩ := run_app (P := P) (w := w) base t o.type e size bytes E v n xs hown A m c ys hsrc hbytes h63 hbase
  have h6 := free_app (K := K) base t o.type e size bytes E hz hown hf hsrc hy hbytes h63 hr
  unfold Oper.wp execOp
  simp only [ho, resolve, invoke, builtin, Sem.run_bind, Sem.run_pure, Result.andThen_ok, List.map_toArray, List.map_cons, List.map_nil, hs, hx, hr]
  exact hK _ _ (h v' w' h2 ⟨h3, h5.imp id fun e => ⟨_, e, Nat.le_refl _⟩⟩ h6)
end
section
variable {K : Value → Prop} {w w' : World} {v v' : Value}
/-- readings of a kind are kept where one row grew that holds nothing of the kind -/
theorem AppTo.near (h : AppTo w w' v v') (hf : FreeV K w v) : NearP K w w' :=
  ⟨h.grown.size, fun k hk => by
    by_cases e : v.ownBlock = some k
    · exact .inr (hf k e)
    · exact .inl (h.grown.block k hk (fun h => e h.symm))⟩
end
end Go.Proofs.YtemgbfppdopfbaaDoor
