/- Rows of the call's own whose elements lead to what lay there before: appends of rows and of literals, in plain regions and in such as draw. -/
import Derived.Test.YtemgbfppdopfbaaDoorFreeApp
namespace Go.Proofs.YtemgbfppdopfbaaDoor
open Go.RowKit
set_option linter.unusedVariables false
set_option linter.unusedSimpArgs false

/-- a row that lies at the base or behind it; its elements lead below B -/
structure OwnR {α : Type} (R : Rep α) (e : TypeId) (B base : Nat) (w : World) (v : Value) (l : List α) : Prop where
  ex : ∃ xs, w.ownsRow base e R.k v l.length xs ∧ Rels R w B l xs
  lo : B ≤ base
  le : base ≤ w.heap.size
/-- a source: it reads as m, below B -/
structure SrcR {α : Type} (R : Rep α) (B : Nat) (w : World) (A : Option Addr) (n c : Nat) (m : List α) : Prop where
  ex : ∃ ys, Src w A n c R.k ys ∧ Rels R w B m ys
  len : m.length = n
section
variable {α : Type} {P : Program} {R : Rep α} {e t : TypeId} {bytes B base : Nat} {w w' : World} {v v' : Value} {l m : List α}
theorem OwnR.nil (hB : B ≤ base) (h : base ≤ w.heap.size) : OwnR R e B base w (.slice none 0 0) [] := ⟨⟨[], World.ownsRow_nil w base e R.k, Rels.nil⟩, hB, h⟩
theorem OwnR.empty {g : Nat} (hg : g = w.heap.size) (hB : B ≤ base) (hb : base ≤ g) : OwnR R e B base (w.alloc (.cells #[] e)) (.slice (some ⟨g, 0, none⟩) 0 0) ([] : List α) :=
  ⟨⟨[], own_lit #[] [] hg hb (by simp) (by decide) rfl, Rels.nil⟩, hB, by subst hg; simp; omega⟩
theorem OwnR.ofBlk {g : Nat} (hg : Blk w g e #[]) (hB : B ≤ base) (hb : base ≤ g) : OwnR R e B base w (.slice (some ⟨g, 0, none⟩) 0 0) ([] : List α) :=
  ⟨⟨[], ⟨by simp, .inr ⟨g, 0, #[], rfl, hb, hg, Nat.le_refl _, by decide, by simp, by simp⟩⟩, Rels.nil⟩, hB, by have := hg.lt; omega⟩
theorem OwnR.below (h : OwnR R e B base w v l) (hb : Below w.heap.size w w') : OwnR R e B base w' v l := by
  obtain ⟨⟨xs, h1, h2⟩, h0, h3⟩ := h
  exact ⟨⟨xs, own_low h1 hb (Nat.le_refl _), h2.below (hb.mono (Nat.le_trans h0 h3))⟩, h0, Nat.le_trans h3 hb.size⟩
theorem OwnR.drew (h : OwnR R e B base w v l) : OwnR R e B base w.drew v l := by
  obtain ⟨⟨xs, h1, h2⟩, h0, h3⟩ := h
  exact ⟨⟨xs, h1.drew, h2.keep (w' := w.drew) (Nat.le_refl _) (fun _ _ => rfl)⟩, h0, h3⟩
/-- a store between what the elements lead to and the row -/
theorem OwnR.set (h : OwnR R e B base w v l) {k : Nat} (h1 : B ≤ k) (h2 : k < base) (i : Nat) (s : Option Nat) (u : Value) : OwnR R e B base (w.setCell ⟨k, i, s⟩ u) v l := by
  obtain ⟨⟨xs, h4, h5⟩, h0, h3⟩ := h
  refine ⟨⟨xs, own_far h4 h2 u, h5.keep (Nat.le_refl _) fun p hp => World.cell?_of_block (Below.heap_setCell w _ u p.block (by simp only; omega))⟩, h0, by simpa using h3⟩
theorem OwnR.app {xs ys : List Value} (h2 : Rels R w B l xs) (h1 : w.ownsRow base e R.k v l.length xs) (hB : B ≤ base) (hle : base ≤ w.heap.size) (hm : Rels R w B m ys) (ho : w'.ownsRow base e R.k v' (l.length + m.length) (xs ++ ys)) (ha : AppTo w w' v v') : OwnR R e B base w' v' (l ++ m) := by
  have hb := (ha.below h1 hle).mono hB
  exact ⟨⟨xs ++ ys, by rw [List.length_append]; exact ho, (h2.below hb).append (hm.below hb)⟩, hB, Nat.le_trans hle ha.grown.size⟩
theorem OwnR.rd (h : OwnR R e B base w v l) (hlim : l.length * R.bs ≤ 140737488355328) (hk : 0 < R.k) : ∃ A c, v = .slice A l.length c ∧ Rd R w w.heap.size A l.length c l := by
  obtain ⟨⟨xs, h1, h2⟩, h0, h3⟩ := h
  exact rd_of_own h1 h2 rfl (Nat.le_trans h0 h3) hlim hk
theorem OwnR.slice (h : OwnR R e B base w v l) : ∃ A c, v = .slice A l.length c := by
  obtain ⟨⟨xs, h1, h2⟩, h3⟩ := h
  obtain ⟨A, c, e, _⟩ := own_slice h1
  exact ⟨A, c, e⟩
theorem OwnR.slice' {n : Nat} (h : OwnR R e B base w v l) (hn : l.length = n) : ∃ A c, v = .slice A n c := by subst hn; exact h.slice
theorem OwnR.rd' {n : Nat} {A : Option Addr} {c : Nat} (h : OwnR R e B base w (.slice A n c) l) (hn : l.length = n) (hlim : n * R.bs ≤ 140737488355328) (hk : 0 < R.k) : Rd R w w.heap.size A n c l := by
  subst hn
  obtain ⟨A', c', e, hr⟩ := h.rd hlim hk
  cases e
  exact hr
theorem SrcR.below {A : Option Addr} {n c : Nat} (h : SrcR R B w A n c m) (hb : Below w.heap.size w w') (hle : B ≤ w.heap.size) : SrcR R B w' A n c m := by
  obtain ⟨⟨ys, h1, h2⟩, h3⟩ := h
  exact ⟨⟨ys, h1.later hb, h2.below (hb.mono hle)⟩, h3⟩
theorem SrcR.of {A : Option Addr} {n c : Nat} (h : Rd R w B A n c m) (h1 : ∀ (a : α) vs, R.rel w B a vs → ∀ u ∈ vs, u.oneCell' = true) : SrcR R B w A n c m := by
  obtain ⟨ys, h2, h3⟩ := h.src h1
  exact ⟨⟨ys, h3, h2⟩, h.len⟩
theorem SrcR.u8 {A : Option Addr} {n c : Nat} {m : List UInt8} (h : Rd u8R w B A n c m) : SrcR u8R B w A n c m :=
  SrcR.of h (by rintro a vs rfl u hu; simp at hu; subst hu; rfl)
theorem SrcR.lit {g : Nat} {cs : Array Value} {a : α} {ty : TypeId} (hg : Blk w g ty cs) (hr : R.rel w B a cs.toList) (hu : ∀ u ∈ cs.toList, u.oneCell' = true) : SrcR R B w (some ⟨g, 0, none⟩) 1 1 [a] := by
  have hl := R.len hr
  refine ⟨⟨cs.toList, ⟨by rw [hl]; omega, fun ad ha j u h => ?_, fun h => (by cases h), hu⟩, Rels.one hr⟩, rfl⟩
  cases ha
  have := hg.cell j
  rw [add_none, Nat.zero_add, this]
  simpa using h
theorem wpList_own {w : World} {ops : Array Oper} {rest : List Oper} {o : Oper} {a : Act} {Q : Exit → Act → World → Prop} (E : El P t e R.k bytes) (hgd : o.guard = none) (s x : Operand) (hop : o.op = .call { callee := .builtin .append, args := #[s, x], argTypes := #[t, t] })
    (hs : a.eval s = v) (hv : OwnR R e B base w v l) {A : Option Addr} {n c : Nat} (hx : a.eval x = .slice A n c) (hm : SrcR R B w A n c m) (hbytes : (l.length + n) * bytes ≤ 140737488355328) (h63 : l.length + n ≤ maxLen)
    (h : ∀ v' w', OwnR R e B base w' v' (l ++ m) → Below base w w' → wpList P ops Q rest (a.put o.dst v') w') : wpList P ops Q (o :: rest) a w := by
  obtain ⟨⟨xs, h1, h2⟩, h0, h3⟩ := hv
  obtain ⟨⟨ys, h4, h5⟩, rfl⟩ := hm
  exact wpList_appT hgd s x t hop base e R.k bytes E v l.length xs hs h1 A _ c ys hx h4 hbytes h63 h3 fun v' w' ho ha => h v' w' (OwnR.app h2 h1 h0 h3 h5 ho ha) (ha.below h1 h3)
theorem step_own {w : World} {ops : Array Oper} {o : Oper} {a : Act} {Q : Exit → Act → World → Prop} {K : Act → World → Prop} {F : Prop} (E : El P t e R.k bytes) (hgd : o.guard = none) (s x : Operand) (hop : o.op = .call { callee := .builtin .append, args := #[s, x], argTypes := #[t, t] })
    (hs : a.eval s = v) (hv : OwnR R e B base w v l) {A : Option Addr} {n c : Nat} (hx : a.eval x = .slice A n c) (hm : SrcR R B w A n c m) (hbytes : (l.length + n) * bytes ≤ 140737488355328) (h63 : l.length + n ≤ maxLen)
    (h : ∀ v' w', OwnR R e B base w' v' (l ++ m) → Below base w w' → AppTo w w' v v' → K (a.put o.dst v') w') : if Region.wanted o (yielded ops a.tmps) = true then Oper.wp P o a w K Q else F := by
  obtain ⟨⟨xs, h1, h2⟩, h0, h3⟩ := hv
  obtain ⟨⟨ys, h4, h5⟩, rfl⟩ := hm
  exact step_app hgd s x t hop base e R.k bytes E v l.length xs hs h1 A _ c ys hx h4 hbytes h63 h3 fun v' w' ho hg hv =>
    have ha : AppTo w w' v v' := ⟨hg, hv.imp id fun e => ⟨_, e, Nat.le_refl _⟩⟩
    h v' w' (OwnR.app h2 h1 h0 h3 h5 ho ha) (ha.below h1 h3) ha
/-- a block beside the row -/
theorem AppTo.beside {k g : Nat} {T : TypeId} {cs : Array Value} (ha : AppTo w w' v v') (hk : Blk w k T cs) (hv : v.ownBlock = some g) (hne : k ≠ g) : Blk w' k T cs :=
  (ha.grown.block k hk.lt (fun e => hne (by rw [hv] at e; cases e; rfl))).trans hk
end
end Go.Proofs.YtemgbfppdopfbaaDoor
