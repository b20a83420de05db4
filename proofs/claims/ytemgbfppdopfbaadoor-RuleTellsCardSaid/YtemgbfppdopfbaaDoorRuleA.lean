/- Rules in memory: nodes and what they take; a row of the call's own whose elements are read with the row's own block shut. No function of the program. -/
import Derived.Test.YtemgbfppdopfbaaDoorRuleP
import Derived.Test.YtemgbfppdopfbaaDoorApp
import Derived.Test.YtemgbfppdopfbaaDoorAppS
import Derived.Test.YtemgbfppdopfbaaDoorOwnRow
namespace Go.Proofs.YtemgbfppdopfbaaDoor
open Go.RowKit
set_option linter.unusedVariables false
set_option linter.unusedSimpArgs false

/-- what is read stays so where all that is there is there still -/
def Mono {α : Type} (R : Rep α) : Prop := ∀ {w w' : World} {B B' : Nat} {a : α} {vs : List Value}, R.rel w B a vs → B ≤ B' → (∀ p u, p.block < B → w.cell? p = some u → w'.cell? p = some u) → R.rel w' B' a vs
theorem mono_int : Mono intR := fun h _ _ => h
theorem mono_u8 : Mono u8R := fun h _ _ => h
theorem mono_bool : Mono boolR := fun h _ _ => h
theorem mono_str : Mono strR := fun h _ _ => h
theorem mono_unit : Mono unitR := fun h _ _ => h
theorem mono_pair {α β : Type} {R : Rep α} {S : Rep β} (hR : Mono R) (hS : Mono S) : Mono (pairR R S) := fun h hB hk => by
  obtain ⟨u, v, rfl, h1, h2⟩ := h
  exact ⟨u, v, rfl, hR h1 hB hk, hS h2 hB hk⟩
theorem Rd.mono' {α : Type} {R : Rep α} (hR : Mono R) {w w' : World} {B B' n c : Nat} {A : Option Addr} {l : List α} (h : Rd R w B A n c l) (hB : B ≤ B') (hk : ∀ p u, p.block < B → w.cell? p = some u → w'.cell? p = some u) : Rd R w' B' A n c l :=
  ⟨h.len, h.cap, h.max, h.lim, h.nil, fun i hi => by
    obtain ⟨b, off, vs, e, hb, hr, hc⟩ := h.at_ i hi
    exact ⟨b, off, vs, e, by omega, hR hr hB hk, fun j u hu => hk _ _ hb (hc j u hu)⟩⟩
theorem mono_slice {α : Type} {R : Rep α} (hR : Mono R) : Mono (sliceR R) := fun h hB hk => by
  obtain ⟨A, n, c, rfl, h⟩ := h
  exact ⟨A, n, c, rfl, h.mono' hR hB hk⟩
theorem Rels.mono' {α : Type} {R : Rep α} (hR : Mono R) {w w' : World} {B B' : Nat} {l : List α} {xs : List Value} (h : Rels R w B l xs) (hB : B ≤ B') (hk : ∀ p u, p.block < B → w.cell? p = some u → w'.cell? p = some u) : Rels R w' B' l xs := by
  obtain ⟨v, h1, h2, r⟩ := h
  exact ⟨v, h1, h2, fun i hi hi' => hR (r i hi hi') hB hk⟩

abbrev matchR : Rep MT := pairR intR (pairR intR (pairR (sliceR strR) (pairR (sliceR u8R) unitR)))
theorem mono_match : Mono matchR := mono_pair mono_int (mono_pair mono_int (mono_pair (mono_slice mono_str) (mono_pair (mono_slice mono_u8) mono_unit)))
/-- a slice of nodes, each said by what its cells are -/
def KidsAt (w : World) (B : Nat) (A : Option Addr) (n c : Nat) (ps : List (List Value → Prop)) : Prop :=
  ps.length = n ∧ n ≤ c ∧ c ≤ maxLen ∧ n * 88 ≤ 140737488355328 ∧ (A = none → c = 0) ∧ ∀ i (h : i < ps.length), ∃ b off vs, A = some ⟨b, off, none⟩ ∧ b < B ∧ ps[i] vs ∧ ∀ j u, vs[j]? = some u → w.cell? ⟨b, off + i * 5 + j, none⟩ = some u
theorem KidsAt.to {w w' : World} {B B' n c : Nat} {A : Option Addr} {ps qs : List (List Value → Prop)} (h : KidsAt w B A n c ps) (hl : qs.length = ps.length) (hB : B ≤ B') (hk : ∀ p u, p.block < B → w.cell? p = some u → w'.cell? p = some u) (hi : ∀ i (h : i < ps.length) (h' : i < qs.length) vs, ps[i] vs → qs[i] vs) : KidsAt w' B' A n c qs := by
  obtain ⟨h1, h2, h3, h4, h5, h6⟩ := h
  refine ⟨by omega, h2, h3, h4, h5, fun i hq => ?_⟩
  obtain ⟨b, off, vs, e, hb, hr, hc⟩ := h6 i (by omega)
  exact ⟨b, off, vs, e, by omega, hi i (by omega) hq vs hr, fun j u hu => hk _ _ hb (hc j u hu)⟩
def NodeAt (w : World) (B : Nat) : Tree → List Value → Prop
  | .leaf m, vs => ∃ ms A n c, vs = ms ++ [.slice A n c] ∧ matchR.rel w B m ms ∧ KidsAt w B A n c []
  | .one m a, vs => ∃ ms A n c, vs = ms ++ [.slice A n c] ∧ matchR.rel w B m ms ∧ KidsAt w B A n c [NodeAt w B a]
  | .two m a b, vs => ∃ ms A n c, vs = ms ++ [.slice A n c] ∧ matchR.rel w B m ms ∧ KidsAt w B A n c [NodeAt w B a, NodeAt w B b]
theorem NodeAt.mono : ∀ (t : Tree) {w w' : World} {B B' : Nat} {vs : List Value}, NodeAt w B t vs → B ≤ B' → (∀ p u, p.block < B → w.cell? p = some u → w'.cell? p = some u) → NodeAt w' B' t vs
  | .leaf m, w, w', B, B', vs, h, hB, hk => by
    obtain ⟨ms, A, n, c, e, h1, h2⟩ := h
    exact ⟨ms, A, n, c, e, mono_match h1 hB hk, h2.to rfl hB hk fun i h => by simp at h⟩
  | .one m a, w, w', B, B', vs, h, hB, hk => by
    obtain ⟨ms, A, n, c, e, h1, h2⟩ := h
    refine ⟨ms, A, n, c, e, mono_match h1 hB hk, h2.to rfl hB hk fun i h h' vs hv => ?_⟩
    match i, h, h', hv with
    | 0, h, h', hv => exact NodeAt.mono a hv hB hk
  | .two m a b, w, w', B, B', vs, h, hB, hk => by
    obtain ⟨ms, A, n, c, e, h1, h2⟩ := h
    refine ⟨ms, A, n, c, e, mono_match h1 hB hk, h2.to rfl hB hk fun i h h' vs hv => ?_⟩
    match i, h, h', hv with
    | 0, h, h', hv => exact NodeAt.mono a hv hB hk
    | 1, h, h', hv => exact NodeAt.mono b hv hB hk
theorem NodeAt.len {w : World} {B : Nat} {t : Tree} {vs : List Value} (h : NodeAt w B t vs) : vs.length = 5 := by
  cases t with
  | leaf m =>
    obtain ⟨ms, A, n, c, rfl, h1, _⟩ := h
    rw [List.length_append, matchR.len h1]; rfl
  | one m a =>
    obtain ⟨ms, A, n, c, rfl, h1, _⟩ := h
    rw [List.length_append, matchR.len h1]; rfl
  | two m a b =>
    obtain ⟨ms, A, n, c, rfl, h1, _⟩ := h
    rw [List.length_append, matchR.len h1]; rfl
def nodeR : Rep Tree where
  k := 5
  bs := 88
  rel := NodeAt
  sz t := t.size
  len h := h.len
  keep h hB hk := h.mono _ hB fun p u hp hu => (hk p hp).trans hu
theorem mono_node : Mono nodeR := fun h hB hk => NodeAt.mono _ h hB hk
theorem kids_rd {w : World} {B n c : Nat} {A : Option Addr} {ts : List Tree} : KidsAt w B A n c (ts.map (NodeAt w B)) ↔ Rd nodeR w B A n c ts := by
  constructor
  · rintro ⟨h1, h2, h3, h4, h5, h6⟩
    refine ⟨by simpa using h1, h2, h3, h4, h5, fun i hi => ?_⟩
    obtain ⟨b, off, vs, e, hb, hr, hc⟩ := h6 i (by simpa using hi)
    rw [List.getElem_map] at hr
    exact ⟨b, off, vs, e, hb, hr, hc⟩
  · intro h
    refine ⟨by simpa using h.len, h.cap, h.max, h.lim, h.nil, fun i hi => ?_⟩
    obtain ⟨b, off, vs, e, hb, hr, hc⟩ := h.at_ i (by simpa using hi)
    rw [List.getElem_map]
    exact ⟨b, off, vs, e, hb, hr, hc⟩
theorem node_iff {w : World} {B : Nat} {t : Tree} {vs : List Value} : NodeAt w B t vs ↔ ∃ ms A n c, vs = ms ++ [.slice A n c] ∧ matchR.rel w B t.top ms ∧ Rd nodeR w B A n c t.kids := by
  cases t with
  | leaf m => simp only [← kids_rd]; rfl
  | one m a => simp only [← kids_rd]; rfl
  | two m a b => simp only [← kids_rd]; rfl

/-! a world with some blocks shut -/
def shut (w : World) (Z : Nat → Bool) : World := { w with heap := w.heap.mapIdx fun i o => if Z i then .cells #[] 0 else o }
theorem shut_size (w : World) (Z : Nat → Bool) : (shut w Z).heap.size = w.heap.size := by simp [shut]
theorem shut_cell (w : World) (Z : Nat → Bool) (p : Addr) : (shut w Z).cell? p = if Z p.block then none else w.cell? p := by
  by_cases h : Z p.block = true
  · rw [if_pos h]
    unfold World.cell? shut
    simp only [Array.getElem?_mapIdx]
    cases w.heap[p.block]? with
    | none => simp
    | some o => simp [h]
  · rw [if_neg h]
    refine World.cell?_of_block ?_
    unfold shut
    simp only [Array.getElem?_mapIdx]
    cases w.heap[p.block]? with
    | none => simp
    | some o => simp [h]
def noZ : Nat → Bool := fun _ => false
def blkZ (Z : Nat → Bool) (v : Value) : Nat → Bool := fun i => Z i || decide (v.ownBlock = some i)
theorem unshut {w : World} {Z : Nat → Bool} (p : Addr) (u : Value) (h : (shut w Z).cell? p = some u) : w.cell? p = some u := by
  rw [shut_cell] at h
  split at h
  · cases h
  · exact h
theorem shut_no (w : World) (p : Addr) : (shut w noZ).cell? p = w.cell? p := by rw [shut_cell]; rfl
/-- more shut: what was read lies elsewhere -/
theorem shut_more {w w' : World} {Z Z' : Nat → Bool} {B : Nat} (hk : ∀ p : Addr, p.block < B → Z p.block = false → w'.cell? p = w.cell? p) (hZ : ∀ i, i < B → Z i = false → Z' i = false) (p : Addr) (u : Value) (hp : p.block < B) (h : (shut w Z).cell? p = some u) : (shut w' Z').cell? p = some u := by
  rw [shut_cell] at h ⊢
  split at h
  · cases h
  · rename_i hz
    have hz' : Z p.block = false := by simpa using hz
    rw [hZ _ hp hz', if_neg (by simp), hk p hp hz']
    exact h
theorem rel_shut {α : Type} {R : Rep α} (hR : Mono R) {w : World} {Z : Nat → Bool} {B : Nat} {a : α} {vs : List Value} (h : R.rel (shut w Z) B a vs) : R.rel w B a vs := hR h (Nat.le_refl _) fun p u _ hu => unshut p u hu
theorem rel_later {α : Type} {R : Rep α} (hR : Mono R) {w w' : World} {Z Z' : Nat → Bool} {B B' : Nat} {a : α} {vs : List Value} (h : R.rel (shut w Z) B a vs) (hb : Below B w w') (hB : B ≤ B') (hZ : ∀ i, i < B → Z i = false → Z' i = false) : R.rel (shut w' Z') B' a vs :=
  hR h hB fun p u hp hu => shut_more (fun p hp _ => hb.cell hp) hZ p u hp hu
theorem Rd.shutL {α : Type} {R : Rep α} (hR : Mono R) {w w' : World} {Z Z' : Nat → Bool} {B B' n c : Nat} {A : Option Addr} {l : List α} (h : Rd R (shut w Z) B A n c l) (hb : Below B w w') (hB : B ≤ B') (hZ : ∀ i, i < B → Z i = false → Z' i = false) : Rd R (shut w' Z') B' A n c l :=
  h.mono' hR hB fun p u hp hu => shut_more (fun p hp _ => hb.cell hp) hZ p u hp hu
theorem Rd.unshut {α : Type} {R : Rep α} (hR : Mono R) {w : World} {Z : Nat → Bool} {B n c : Nat} {A : Option Addr} {l : List α} (h : Rd R (shut w Z) B A n c l) : Rd R w B A n c l := h.mono' hR (Nat.le_refl _) fun p u _ hu => Go.Proofs.YtemgbfppdopfbaaDoor.unshut p u hu
theorem Rd.shutNo {α : Type} {R : Rep α} {w : World} {B n c : Nat} {A : Option Addr} {l : List α} (h : Rd R w B A n c l) : Rd R (shut w noZ) B A n c l := h.keep (Nat.le_refl _) fun p _ => shut_no w p
/-- shut what lies behind -/
theorem Rd.shutB {α : Type} {R : Rep α} (hR : Mono R) {w : World} {Z : Nat → Bool} {B B' n c : Nat} {A : Option Addr} {l : List α} (h : Rd R w B A n c l) (hB : B ≤ B') (hZ : ∀ i, i < B → Z i = false) : Rd R (shut w Z) B' A n c l :=
  h.mono' hR hB fun p u hp hu => by rw [shut_cell, hZ _ hp]; exact hu

/-- a row of the call's own whose elements are read with its block, and Z, shut -/
def HRow {α : Type} (Z : Nat → Bool) (R : Rep α) (e : TypeId) (base : Nat) (w : World) (v : Value) (l : List α) : Prop :=
  ∃ xs, w.ownsRow base e R.k v l.length xs ∧ Rels R (shut w (blkZ Z v)) w.heap.size l xs
section
variable {α : Type} {R : Rep α} {Z : Nat → Bool} {e : TypeId} {base : Nat} {w w' : World} {v v' : Value} {l m : List α}
theorem HRow.nil : HRow Z R e base w (.slice none 0 0) [] := ⟨[], World.ownsRow_nil w base e R.k, Rels.nil⟩
theorem HRow.later (hR : Mono R) (h : HRow Z R e base w v l) (hb : Below w.heap.size w w') : HRow Z R e base w' v l := by
  obtain ⟨xs, h1, h2⟩ := h
  exact ⟨xs, own_low h1 hb (Nat.le_refl _), h2.mono' hR hb.size fun p u hp hu => shut_more (fun p hp _ => hb.cell hp) (fun i _ hz => hz) p u hp hu⟩
/-- what is read with the row's block shut, behind an append -/
theorem app_shut (ha : AppTo w w' v v') {Z : Nat → Bool} {B : Nat} (hB : B ≤ w.heap.size) (p : Addr) (u : Value) (hp : p.block < B) (h : (shut w (blkZ Z v)).cell? p = some u) : (shut w' (blkZ Z v')).cell? p = some u := by
  refine shut_more (B := B) (fun p hp hz => ?_) (fun i hi hz => ?_) p u hp h
  · refine World.cell?_of_block (ha.grown.block _ (by omega) ?_)
    unfold blkZ at hz
    simp only [Bool.or_eq_false_iff, decide_eq_false_iff_not] at hz
    exact fun e => hz.2 e.symm
  · unfold blkZ at hz ⊢
    simp only [Bool.or_eq_false_iff, decide_eq_false_iff_not] at hz ⊢
    refine ⟨hz.1, fun e => ?_⟩
    rcases ha.blk with hb | ⟨g, hb, hg⟩
    · exact hz.2 (hb.symm.trans e)
    · rw [hb] at e
      cases e
      omega
theorem HRow.app (hR : Mono R) {xs ys : List Value} (h2 : Rels R (shut w (blkZ Z v)) w.heap.size l xs) (hm : Rels R (shut w (blkZ Z v)) w.heap.size m ys) (ho : w'.ownsRow base e R.k v' (l.length + m.length) (xs ++ ys)) (ha : AppTo w w' v v') : HRow Z R e base w' v' (l ++ m) :=
  ⟨xs ++ ys, by rw [List.length_append]; exact ho, (h2.append hm).mono' hR ha.grown.size fun p u hp hu => app_shut ha (Nat.le_refl _) p u hp hu⟩
theorem HRow.rd (hR : Mono R) (h : HRow Z R e base w v l) (hlim : l.length * R.bs ≤ 140737488355328) (hk : 0 < R.k) : ∃ A c, v = .slice A l.length c ∧ Rd R w w.heap.size A l.length c l := by
  obtain ⟨xs, h1, h2⟩ := h
  exact rd_of_own h1 (h2.mono' hR (Nat.le_refl _) fun p u _ hu => unshut p u hu) rfl (Nat.le_refl _) hlim hk
theorem HRow.slice (h : HRow Z R e base w v l) : ∃ A c, v = .slice A l.length c := by
  obtain ⟨xs, h1, h2⟩ := h
  obtain ⟨A, c, e, _⟩ := own_slice h1
  exact ⟨A, c, e⟩
end
end Go.Proofs.YtemgbfppdopfbaaDoor
