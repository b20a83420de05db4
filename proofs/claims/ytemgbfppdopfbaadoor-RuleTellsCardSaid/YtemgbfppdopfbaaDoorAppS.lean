/- append of a text's bytes onto a row of the call's own, and where the new row lies; several appends one behind the other. No function of the program. -/
import Derived.Test.YtemgbfppdopfbaaDoorApp
import Derived.Lib.AppendStr
namespace Go.Proofs.YtemgbfppdopfbaaDoor
open Go.RowKit
set_option linter.unusedVariables false
set_option linter.unusedSimpArgs false

/-- from v to v': only v's own row and new blocks are others, and v' lies in one of these -/
structure AppTo (w w' : World) (v v' : Value) : Prop where
  grown : w.grownBy w' v.ownBlock
  blk : v'.ownBlock = v.ownBlock ∨ ∃ g, v'.ownBlock = some g ∧ w.heap.size ≤ g
section
variable {w w1 w2 : World} {v v1 v2 : Value}
theorem AppTo.refl (w : World) (v : Value) : AppTo w w v v := ⟨⟨rfl, rfl, rfl, Nat.le_refl _, fun _ _ _ => rfl⟩, .inl rfl⟩
theorem AppTo.trans (h : AppTo w w1 v v1) (k : AppTo w1 w2 v1 v2) : AppTo w w2 v v2 := by
  refine ⟨⟨k.grown.os.trans h.grown.os, k.grown.tape.trans h.grown.tape, k.grown.output.trans h.grown.output, Nat.le_trans h.grown.size k.grown.size, fun i hi hne => ?_⟩, ?_⟩
  · have h1 := h.grown.block i hi hne
    rw [← h1]
    refine k.grown.block i (Nat.lt_of_lt_of_le hi h.grown.size) ?_
    rcases h.blk with e | ⟨g, e, hg⟩
    · rw [e]; exact hne
    · rw [e]; intro h; cases h; omega
  · rcases k.blk with e | ⟨g, e, hg⟩
    · rw [e]; exact h.blk
    · exact .inr ⟨g, e, Nat.le_trans h.grown.size hg⟩
theorem AppTo.alloc {o : Obj} (h : AppTo (w.alloc o) w1 v v1) : AppTo w w1 v v1 := by
  refine ⟨⟨h.grown.os, h.grown.tape, h.grown.output, by have := h.grown.size; simp at this; omega, fun i hi hne => (h.grown.block i (by simp; omega) hne).trans (Below.heap_alloc w o i hi)⟩, ?_⟩
  rcases h.blk with e | ⟨g, e, hg⟩
  · exact .inl e
  · exact .inr ⟨g, e, by simp at hg; omega⟩
theorem AppTo.ext {os : Array Obj} {d : Nat} (h : AppTo (ext w os d) w1 v v1) : AppTo w w1 v v1 := by
  refine ⟨⟨h.grown.os, h.grown.tape, h.grown.output, by have := h.grown.size; simp [size_ext] at this; omega, fun i hi hne => (h.grown.block i (by simp [size_ext]; omega) hne).trans (heap_ext w os d hi)⟩, ?_⟩
  rcases h.blk with e | ⟨g, e, hg⟩
  · exact .inl e
  · exact .inr ⟨g, e, by simp [size_ext] at hg; omega⟩
/-- another row of the call's own, that lies in another block -/
theorem AppTo.other {base : Nat} {e : TypeId} {size n : Nat} {u : Value} {xs : List Value} (h : AppTo w w1 v v1) (ho : w.ownsRow base e size u n xs) (hne : u.ownBlock = none ∨ u.ownBlock ≠ v.ownBlock) :
    w1.ownsRow base e size u n xs ∧ (u.ownBlock = none ∨ u.ownBlock ≠ v1.ownBlock) := by
  refine ⟨ho.kept h.grown hne, ?_⟩
  rcases h.blk with e | ⟨g, e, hg⟩
  · rw [e]; exact hne
  · cases eu : u.ownBlock with
    | none => exact .inl rfl
    | some k =>
      right
      rw [e]
      have := (ho.lt k eu).2
      intro h
      cases h
      omega
theorem AppTo.below {base : Nat} {e : TypeId} {size n : Nat} {xs : List Value} (h : AppTo w w1 v v1) (ho : w.ownsRow base e size v n xs) (hb : base ≤ w.heap.size) : Below base w w1 := grown_below ho h.grown hb
end

section
variable {P : Program} {w : World}
theorem str_block (base : Nat) (t u ty e : TypeId) (i : TypeInfo) (ht : P.underlying t = some (.slice e)) (hu : P.underlying u = some .string) (hi : P.info? e = some i) (hz : i.zero = some (.int .u8 0)) (hsize : i.size = 1) (hby : i.bytes = 1)
    (v : Value) (n : Nat) (xs : List Value) (hown : w.ownsRow base e 1 v n xs) (s : ByteArray) (hbytes : n + s.size ≤ 140737488355328) {v' : Value} {w' : World}
    (hr : (Builtin.append_ #[t, u] ty #[v, .string s]).run P w = .ok v' w') : v'.ownBlock = v.ownBlock ∨ v'.ownBlock = some w.heap.size := by
  rcases hown.2 with ⟨rfl, rfl⟩ | ⟨g, cap, cur, rfl, hbg, hg, hnc, hcm, hcs, htake⟩
  · by_cases hm : s.size = 0
    · left
      have hn : Lib.strCells s = [] := List.eq_nil_of_length_eq_zero (by rw [Lib.strCells_length]; exact hm)
      have hf := Lib.run_firstCells_string (P := P) w 1 s
      rw [hm] at hf
      have hr' := hr
      simp [Builtin.append_, run_underlying ht, run_underlying hu, sizeOf, typeInfo, hi, hsize, Builtin.lenOf, hm, hf] at hr'
      rw [← hr'.1]
    · right
      have h2 := run_append_nil_string (P := P) w t u ty e i (.int .u8 0) ht hu hi hz s (by omega) (by omega) (by rw [hby]; omega)
      have h3 := hr.symm.trans h2
      injection h3 with h3
      rw [h3]; rfl
  · by_cases hroom : n + s.size ≤ cap
    · left
      have hcs' : cur.size = cap := by simpa using hcs
      have h2 := Lib.run_append_room_string (P := P) w t u ty e i ht hu hi hsize g n cap cur hg s hroom (by omega)
      have h3 := hr.symm.trans h2
      injection h3 with h3
      rw [h3]; rfl
    · right
      have hxl : xs.length = n := by simpa using hown.1
      have h2 := Lib.run_append_grow_string (P := P) w t u ty e i (.int .u8 0) ht hu hi hz ⟨g, 0, none⟩ n cap xs (by rw [hsize]; simpa using hxl) (hown.cells (g := g) rfl) s (by omega) (by omega) (by rw [hby]; exact growslice_fits (by omega) (by omega))
      have h3 := hr.symm.trans h2
      injection h3 with h3
      rw [h3]; rfl
theorem wpList_app_str {ops : Array Oper} {rest : List Oper} {o : Oper} {a : Act} {Q : Exit → Act → World → Prop} (hgd : o.guard = none) (sl x : Operand) (t u : TypeId)
    (ho : o.op = .call { callee := .builtin .append, args := #[sl, x], argTypes := #[t, u] }) (base : Nat) (e : TypeId) (E : El P t e 1 1) (hu : P.underlying u = some .string) (hze : (P.info? e).bind (·.zero) = some (.int .u8 0))
    (v : Value) (n : Nat) (xs : List Value) (hs : a.eval sl = v) (hown : w.ownsRow base e 1 v n xs) (s : ByteArray) (hx : a.eval x = .string s)
    (hbytes : n + s.size ≤ 140737488355328) (hbase : base ≤ w.heap.size)
    (h : ∀ v' w', w'.ownsRow base e 1 v' (n + s.size) (xs ++ Lib.strCells s) → AppTo w w' v v' → wpList P ops Q rest (a.put o.dst v') w') : wpList P ops Q (o :: rest) a w := by
  obtain ⟨ht, ⟨i, z, hi, hz, hsz, hby, hzs⟩, hp⟩ := E
  rw [hi] at hze
  have hz0 : i.zero = some (.int .u8 0) := hze
  refine wpList_plain hgd fun K hK => ?_
  obtain ⟨v', w', hr, h2, h3, h4⟩ := Lib.run_append_own_string (P := P) w base t u o.type e i ht hu hi hz0 hsz hby v n xs hown s (by unfold maxLen; omega) hbytes hbase
  have hb := str_block base t u o.type e i ht hu hi hz0 hsz hby v n xs hown s hbytes hr
  unfold Oper.wp execOp
  simp only [ho, resolve, invoke, builtin, Sem.run_bind, Sem.run_pure, Result.andThen_ok, List.map_toArray, List.map_cons, List.map_nil, hs, hx, hr]
  exact hK _ _ (h v' w' h2 ⟨h3, hb.imp id fun e => ⟨_, e, Nat.le_refl _⟩⟩)
/-- append of a slice, and where the new row lies -/
theorem wpList_appT {ops : Array Oper} {rest : List Oper} {o : Oper} {a : Act} {Q : Exit → Act → World → Prop} (hgd : o.guard = none) (s x : Operand) (t : TypeId)
    (ho : o.op = .call { callee := .builtin .append, args := #[s, x], argTypes := #[t, t] }) (base : Nat) (e : TypeId) (size bytes : Nat) (E : El P t e size bytes)
    (v : Value) (n : Nat) (xs : List Value) (hs : a.eval s = v) (hown : w.ownsRow base e size v n xs) (A : Option Addr) (m c : Nat) (ys : List Value) (hx : a.eval x = .slice A m c) (hsrc : Src w A m c size ys)
    (hbytes : (n + m) * bytes ≤ 140737488355328) (h63 : n + m ≤ maxLen) (hbase : base ≤ w.heap.size)
    (h : ∀ v' w', w'.ownsRow base e size v' (n + m) (xs ++ ys) → AppTo w w' v v' → wpList P ops Q rest (a.put o.dst v') w') :
    wpList P ops Q (o :: rest) a w :=
  wpList_app hgd s x t ho base e size bytes E v n xs hs hown A m c ys hx hsrc hbytes h63 hbase fun v' w' h1 h2 h3 => h v' w' h1 ⟨h2, h3.imp id fun e => ⟨_, e, Nat.le_refl _⟩⟩
end
theorem zero_u8 : (Tryd.prog.info? 5).bind (·.zero) = some (.int .u8 0) := by kernel_rfl
end Go.Proofs.YtemgbfppdopfbaaDoor
