/- Values put for names, as the datum of a map: what it holds, how many. No function of the program. -/
import Derived.Test.YtemgbfppdopfbaaDoorTailP
import Derived.Maps.Own
import Derived.Maps.OwnSet
import Derived.Maps.Views
namespace Go.Proofs.YtemgbfppdopfbaaDoor
set_option linter.unusedVariables false
set_option linter.unusedSimpArgs false

def keyLit (n : List ByteArray) : Lit := .string (keyS n)
theorem keyLit_key (n : List ByteArray) : WideAt.IsKeyLit (keyLit n) := trivial
theorem keyLit_inj {a b : List ByteArray} (ha : short a = true) (hb : short b = true) : keyLit a = keyLit b ↔ sameL a b = true := by
  rw [← keyS_inj ha hb]
  unfold keyLit
  constructor
  · intro h; injection h
  · intro h; rw [h]
/-- the map's datum behind so many puts -/
def mapT (es : List EndT) : DataW Unit := es.foldl (fun D e => D.put (keyLit e.1) (.lit (.int .i64 e.2.1))) (.map [])
theorem mapT_snoc (es : List EndT) (e : EndT) : mapT (es ++ [e]) = (mapT es).put (keyLit e.1) (.lit (.int .i64 e.2.1)) := by simp [mapT, List.foldl_append]
theorem mapT_tidy : ∀ es : List EndT, Maps.Tidy (mapT es) := by
  intro es
  unfold mapT
  have h : ∀ (es : List EndT) (D : DataW Unit), Maps.Tidy D → Maps.Tidy (es.foldl (fun D e => D.put (keyLit e.1) (.lit (.int .i64 e.2.1))) D) := by
    intro es
    induction es with
    | nil => intro D h; exact h
    | cons e es ih => intro D h; exact ih _ (h.put (keyLit_key _) _)
  exact h es _ Maps.tidy_empty
theorem find_cong {α : Type} {p q : α → Bool} : ∀ {l : List α}, (∀ x ∈ l, p x = q x) → l.find? p = l.find? q
  | [], _ => rfl
  | a :: l, h => by
    rw [List.find?_cons, List.find?_cons, h a (by simp), find_cong fun x hx => h x (by simp [hx])]
theorem lastFor_snoc (es : List EndT) (e : EndT) (n : List ByteArray) : lastFor (es ++ [e]) n = if sameL n e.1 = true then some es.length else lastFor es n := by
  unfold lastFor
  rw [List.length_append, List.length_singleton, List.range_succ, List.reverse_append, List.reverse_singleton, List.singleton_append, List.find?_cons, List.getElem?_append_right (Nat.le_refl _), Nat.sub_self]
  simp only [List.getElem?_cons_zero]
  by_cases h : sameL n e.1 = true
  · rw [h]; rfl
  · have h' : sameL n e.1 = false := by simpa using h
    rw [h']
    refine find_cong fun x hx => ?_
    have hx' : x < es.length := by simpa using hx
    rw [List.getElem?_append_left hx']
def Shorts (es : List EndT) : Prop := ∀ e ∈ es, short e.1 = true
/-- what is found -/
def Looks (D : DataW Unit) (es : List EndT) (n : List ByteArray) : Option Nat → Prop
  | none => Maps.has D (keyLit n) = false
  | some i => Maps.has D (keyLit n) = true ∧ D.atKey (keyLit n) (.lit (.int .i64 0)) = .lit (.int .i64 (es.getD i ([], 0, ())).2.1)
theorem snoc_ind {α : Type} {P : List α → Prop} (h0 : P []) (h1 : ∀ l a, P l → P (l ++ [a])) (l : List α) : P l := by
  have : ∀ l : List α, P l.reverse := by
    intro l
    induction l with
    | nil => exact h0
    | cons a l ih => rw [List.reverse_cons]; exact h1 _ _ ih
  have h := this l.reverse
  rwa [List.reverse_reverse] at h
theorem mapT_looks (n : List ByteArray) (hn : short n = true) (es : List EndT) : Shorts es → Looks (mapT es) es n (lastFor es n) := by
  induction es using snoc_ind with
  | h0 => intro _; rfl
  | h1 es e ih =>
    intro hs
    have h1 := ih fun x hx => hs x (by simp [hx])
    have he := hs e (by simp)
    rw [lastFor_snoc, mapT_snoc]
    by_cases h : sameL n e.1 = true
    · rw [if_pos h]
      have hk : keyLit n = keyLit e.1 := (keyLit_inj hn he).2 h
      show Maps.has _ _ = true ∧ _
      rw [hk]
      refine ⟨Maps.has_put_same (mapT_tidy es).isMap (keyLit_key _) _, ?_⟩
      rw [Maps.atKey_put_same (mapT_tidy es).isMap (keyLit_key _)]
      simp
    · rw [if_neg h]
      have hk : keyLit n ≠ keyLit e.1 := fun hk => h ((keyLit_inj hn he).1 hk)
      cases hl : lastFor es n with
      | none =>
        rw [hl] at h1
        show Maps.has _ _ = false
        rw [Maps.has_put_other hk]
        exact h1
      | some i =>
        rw [hl] at h1
        obtain ⟨hi, _⟩ := lastFor_some hl
        show Maps.has _ _ = true ∧ _
        rw [Maps.has_put_other hk, Maps.atKey_put_other hk]
        refine ⟨h1.1, h1.2.trans ?_⟩
        rw [List.getD_eq_getElem?_getD, List.getD_eq_getElem?_getD, List.getElem?_append_left hi]

/-- is the name at a place none of those ahead of it? -/
def freshA (es : List EndT) (i : Nat) : Bool := (List.range i).all fun j => !sameL (es.getD i ([], 0, ())).1 (es.getD j ([], 0, ())).1
def endsK (es : List EndT) (k : Nat) : Nat := ((List.range k).filter (freshA es)).length
theorem endsK_succ (es : List EndT) (k : Nat) : endsK es (k + 1) = if freshA es k = true then endsK es k + 1 else endsK es k := by
  unfold endsK
  rw [List.range_succ, List.filter_append, List.length_append, List.filter_cons]
  split <;> simp
theorem endsK_le (es : List EndT) (k : Nat) : endsK es k ≤ k := by
  unfold endsK
  have := List.length_filter_le (freshA es) (List.range k)
  rwa [List.length_range] at this
theorem freshA_app (es : List EndT) (e : EndT) (i : Nat) (hi : i < es.length) : freshA (es ++ [e]) i = freshA es i := by
  unfold freshA
  rw [Bool.eq_iff_iff, List.all_eq_true, List.all_eq_true]
  have h : ∀ j ≤ i, (es ++ [e]).getD j ([], 0, ()) = es.getD j ([], 0, ()) := fun j hj => by
    rw [List.getD_eq_getElem?_getD, List.getD_eq_getElem?_getD, List.getElem?_append_left (by omega)]
  constructor
  · intro hh j hj
    have := hh j hj
    rwa [h i (Nat.le_refl _), h j (by have := List.mem_range.1 hj; omega)] at this
  · intro hh j hj
    have := hh j hj
    rwa [h i (Nat.le_refl _), h j (by have := List.mem_range.1 hj; omega)]
theorem endsK_app (es : List EndT) (e : EndT) (k : Nat) (hk : k ≤ es.length) : endsK (es ++ [e]) k = endsK es k := by
  induction k with
  | zero => rfl
  | succ k ih => rw [endsK_succ, endsK_succ, ih (by omega), freshA_app es e k (by omega)]
theorem freshA_last (es : List EndT) (e : EndT) : freshA (es ++ [e]) es.length = (lastFor es e.1).isNone := by
  unfold freshA
  have h0 : (es ++ [e]).getD es.length ([], 0, ()) = e := by simp
  rw [h0]
  cases hl : lastFor es e.1 with
  | none =>
    rw [Option.isNone_none, List.all_eq_true]
    intro j hj
    have hj' := List.mem_range.1 hj
    have h1 : (es ++ [e]).getD j ([], 0, ()) = es[j] := by rw [List.getD_eq_getElem?_getD, List.getElem?_append_left hj', List.getElem?_eq_getElem hj']; rfl
    rw [h1, lastFor_none hl _ (List.getElem_mem hj')]
    rfl
  | some i =>
    obtain ⟨hi, h1, _⟩ := lastFor_some hl
    rw [Option.isNone_some]
    apply Bool.eq_false_iff.2
    intro h
    rw [List.all_eq_true] at h
    have h2 := h i (List.mem_range.2 hi)
    have h3 : (es ++ [e]).getD i ([], 0, ()) = es[i] := by rw [List.getD_eq_getElem?_getD, List.getElem?_append_left hi, List.getElem?_eq_getElem hi]; rfl
    rw [h3, h1] at h2
    cases h2
theorem mapT_size (es : List EndT) : Shorts es → Maps.size (mapT es) = endsK es es.length := by
  induction es using snoc_ind with
  | h0 => intro _; rfl
  | h1 es e ih =>
    intro hs
    have hs' : Shorts es := fun x hx => hs x (by simp [hx])
    have h1 := ih hs'
    have h2 := mapT_looks e.1 (hs e (by simp)) es hs'
    rw [mapT_snoc, Maps.size_put (mapT_tidy es), List.length_append, List.length_singleton, endsK_succ, endsK_app _ _ _ (Nat.le_refl _), freshA_last, h1]
    cases hl : lastFor es e.1 with
    | none =>
      rw [hl] at h2
      have h3 : Maps.has (mapT es) (keyLit e.1) = false := h2
      rw [h3]
      rfl
    | some i =>
      rw [hl] at h2
      rw [h2.1]
      rfl
end Go.Proofs.YtemgbfppdopfbaaDoor
