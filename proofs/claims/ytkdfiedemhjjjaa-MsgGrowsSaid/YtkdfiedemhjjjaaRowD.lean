/- A row of the call's own whose elements hold slices that lie elsewhere: kept while it grows, while others grow, and while one block is stored into that holds no bytes and no texts. No function of the program. -/
import Derived.Test.YtkdfiedemhjjjaaFreeApp
import Derived.Test.YtkdfiedemhjjjaaMsgC
namespace Go.Proofs.Ytkdfiedemhjjjaa
open Go.RowKit
set_option linter.unusedVariables false

def IsD (v : Value) : Prop := IsStr v ∨ IsU8 v
def Near {α : Type} (K : Value → Prop) (R : Rep α) : Prop := ∀ {w w' : World} {a : α} {vs : List Value}, R.rel w w.heap.size a vs → NearP K w w' → R.rel w' w'.heap.size a vs
theorem near_int (K : Value → Prop) : Near K intR := fun h _ => h
theorem near_unit (K : Value → Prop) : Near K unitR := fun h _ => h
theorem near_pair {α β : Type} {K : Value → Prop} {R : Rep α} {S : Rep β} (h1 : Near K R) (h2 : Near K S) : Near K (pairR R S) := by
  rintro w w' a vs ⟨u, v, rfl, r1, r2⟩ hn
  exact ⟨u, v, rfl, h1 r1 hn, h2 r2 hn⟩
theorem near_strs : Near IsD (sliceR strR) := by
  rintro w w' a vs ⟨A, n, c, rfl, h⟩ hn
  exact ⟨A, n, c, rfl, Rd.near (R := strR) IsD (fun hr u hu => by rw [hr.1] at hu; exact .inl ⟨_, List.mem_singleton.1 hu⟩) (fun hr => hr) h hn⟩
theorem near_bytes : Near IsD (sliceR u8R) := by
  rintro w w' a vs ⟨A, n, c, rfl, h⟩ hn
  exact ⟨A, n, c, rfl, Rd.near (R := u8R) IsD (fun hr u hu => by rw [show _ = [_] from hr] at hu; exact .inr ⟨_, List.mem_singleton.1 hu⟩) (fun hr => hr) h hn⟩
theorem near_q : Near IsD qR := near_pair near_strs (near_pair (near_int _) (near_pair (near_int _) (near_unit _)))
theorem near_rec : Near IsD recR := near_pair near_strs (near_pair (near_int _) (near_pair (near_int _) (near_pair (near_int _) (near_pair near_bytes (near_unit _)))))
theorem not_d_slice (A : Option Addr) (n c : Nat) : ¬ IsD (.slice A n c) := by rintro (⟨_, h⟩ | ⟨_, h⟩) <;> cases h
theorem not_d_int (x : Int) : ¬ IsD (.int .i64 x) := by rintro (⟨_, h⟩ | ⟨_, h⟩) <;> cases h
theorem not_d_bool (x : Bool) : ¬ IsD (.bool x) := by rintro (⟨_, h⟩ | ⟨_, h⟩) <;> cases h
theorem not_d_nil (v : Value) (h : v = .slice none 0 0) : ¬ IsD v := by subst h; exact not_d_slice _ _ _
theorem rels_near {α : Type} {K : Value → Prop} {R : Rep α} (hR : Near K R) {w w' : World} {l : List α} {xs : List Value} (h : Rels R w w.heap.size l xs) (hn : NearP K w w') : Rels R w' w'.heap.size l xs := by
  obtain ⟨vss, h1, h2, r⟩ := h
  exact ⟨vss, h1, h2, fun i hi hi' => hR (r i hi hi') hn⟩
theorem near_grown {K : Value → Prop} {w w' : World} {g : Nat} (hg : w.grownBy w' (some g)) (hf : FreeB K w g) : NearP K w w' :=
  ⟨hg.size, fun k hk => by
    by_cases e : k = g
    · subst e; exact .inr hf
    · exact .inl (hg.block k hk (fun h => e (by cases h; rfl)))⟩
theorem near_below {K : Value → Prop} {w w' : World} (hb : Below w.heap.size w w') : NearP K w w' := ⟨hb.size, fun k hk => .inl (hb.block k hk)⟩

/-- such a row -/
structure Row {α : Type} (R : Rep α) (t : TypeId) (w : World) (base : Nat) (v : Value) (l : List α) : Prop where
  ex : ∃ cs, w.ownsRow base t R.k v l.length cs ∧ Rels R w w.heap.size l cs ∧ FreeV IsD w v
section
variable {α : Type} {R : Rep α} {t : TypeId} {w w' : World} {base : Nat} {v : Value} {l : List α}
theorem Row.nil (R : Rep α) (t : TypeId) (w : World) (base : Nat) : Row R t w base (.slice none 0 0) [] := ⟨[], World.ownsRow_nil w base t R.k, Rels.nil, FreeV.nil⟩
theorem Row.near (hR : Near IsD R) (h : Row R t w base v l) {r : Option Nat} (hg : w.grownBy w' r) (hne : v.ownBlock = none ∨ v.ownBlock ≠ r) (hn : NearP IsD w w') : Row R t w' base v l := by
  obtain ⟨cs, h1, h2, h3⟩ := h
  exact ⟨cs, h1.kept hg hne, rels_near hR h2 hn, h3.grown h1 hg hne⟩
theorem Row.apart (h : Row R t w base v l) {g : Nat} (hg : g < base) : v.ownBlock = none ∨ v.ownBlock ≠ some g := by
  obtain ⟨cs, h1, h2, h3⟩ := h
  cases e : v.ownBlock with
  | none => exact .inl rfl
  | some k =>
    right
    have := (h1.lt k e).1
    intro h
    cases h
    omega
theorem Row.grown (hR : Near IsD R) (h : Row R t w base v l) {g : Nat} (hg : w.grownBy w' (some g)) (hf : FreeB IsD w g) (hne : g < base) : Row R t w' base v l := h.near hR hg (h.apart hne) (near_grown hg hf)
theorem Row.below (hR : Near IsD R) (h : Row R t w base v l) (hb : Below w.heap.size w w') : Row R t w' base v l := by
  refine h.near hR (below_grown hb none) ?_ (near_below hb)
  cases e : v.ownBlock with
  | none => exact .inl rfl
  | some k => exact .inr (by simp)
theorem Row.drew (h : Row R t w base v l) : Row R t w.drew base v l := by
  obtain ⟨cs, h1, h2, h3⟩ := h
  exact ⟨cs, h1.drew, h2.keep (w' := w.drew) (Nat.le_refl _) (fun _ _ => rfl), h3⟩
theorem Row.less {base' : Nat} (h : Row R t w base v l) (hb : base' ≤ base) : Row R t w base' v l := by
  obtain ⟨cs, h1, h2, h3⟩ := h
  exact ⟨cs, own_less h1 hb, h2, h3⟩
theorem Row.rd (h : Row R t w base v l) (hb : base ≤ w.heap.size) (hlim : l.length * R.bs ≤ 140737488355328) (hk : 0 < R.k) : ∃ A c, v = .slice A l.length c ∧ Rd R w w.heap.size A l.length c l := by
  obtain ⟨cs, h1, h2, h3⟩ := h
  exact rd_of_own h1 h2 rfl (Nat.le_refl _) hlim hk
theorem Row.slice (h : Row R t w base v l) : ∃ A c, v = .slice A l.length c := by
  obtain ⟨cs, h1, h2, h3⟩ := h
  obtain ⟨A, c, e, _⟩ := own_slice h1
  exact ⟨A, c, e⟩
/-- one element more -/
theorem Row.app (hR : Near IsD R) {v' : Value} {cs ys : List Value} {a : α} (h2 : Rels R w w.heap.size l cs) (hf : FreeV IsD w v) (ho : w'.ownsRow base t R.k v' (l.length + 1) (cs ++ ys)) (ha : AppTo w w' v v') (hf' : FreeV IsD w' v') (hr : R.rel w w.heap.size a ys) : Row R t w' base v' (l ++ [a]) := by
  have hn := ha.near hf
  refine ⟨cs ++ ys, ?_, (rels_near hR h2 hn).append (Rels.one (hR hr hn)), hf'⟩
  rw [List.length_append, List.length_singleton]
  exact ho
theorem grown_refl (w : World) (r : Option Nat) : w.grownBy w r := ⟨rfl, rfl, rfl, Nat.le_refl _, fun _ _ _ => rfl⟩
end
theorem FreeB.grown_msg {w : World} {g : Nat} {T : TypeId} {h : Hd} {Q X Y Z : Value} (hb : Blk w g T (msgC h Q X Y Z)) (hq : ¬ IsD Q) (hx : ¬ IsD X) (hy : ¬ IsD Y) (hz : ¬ IsD Z) : FreeB IsD w g := by
  refine FreeB.of_blk hb ?_
  intro v hv
  simp only [msgC, List.mem_cons, List.not_mem_nil, or_false] at hv
  rcases hv with rfl | rfl | rfl | rfl | rfl | rfl | rfl | rfl | rfl | rfl | rfl | rfl | rfl | rfl | rfl <;> first | exact not_d_int _ | exact not_d_bool _ | assumption
end Go.Proofs.Ytkdfiedemhjjjaa
