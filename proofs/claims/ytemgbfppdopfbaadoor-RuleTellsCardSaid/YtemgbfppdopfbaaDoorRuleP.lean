/- Rules, plain: nodes, trees, what a tree holds of, plain trees; a row of nodes and its tree. No function of the program. -/
import Derived.Test.YtemgbfppdopfbaaDoorSubRefA
import Derived.Test.YtemgbfppdopfbaaDoorNameC
namespace Go.Proofs.YtemgbfppdopfbaaDoor
set_option linter.unusedVariables false
set_option linter.unusedSimpArgs false

/-- a node: Op, N, Name, Addr -/
abbrev MT := Int × Int × List ByteArray × List UInt8 × Unit
/-- a query: Name, Type, Class, Opcode, RD, From -/
abbrev QryT := List ByteArray × Int × Int × Int × Bool × List UInt8 × Unit
inductive Tree where
  | leaf (m : MT)
  | one (m : MT) (a : Tree)
  | two (m : MT) (a b : Tree)
namespace Tree
def top : Tree → MT
  | leaf m => m
  | one m _ => m
  | two m _ _ => m
def kids : Tree → List Tree
  | leaf _ => []
  | one _ a => [a]
  | two _ a b => [a, b]
def size : Tree → Nat
  | leaf _ => 1
  | one _ a => a.size + 1
  | two _ a b => a.size + b.size + 1
/-- the nodes, what each takes ahead of it -/
def flat : Tree → List MT
  | leaf m => [m]
  | one m a => a.flat ++ [m]
  | two m a b => a.flat ++ b.flat ++ [m]
def flats : List Tree → List MT
  | [] => []
  | t :: ts => t.flat ++ flats ts
end Tree
open Tree
theorem flats_app (a b : List Tree) : flats (a ++ b) = flats a ++ flats b := by
  induction a with
  | nil => rfl
  | cons t ts ih => simp [flats, ih]
theorem flat_kids (t : Tree) : t.flat = flats t.kids ++ [t.top] := by cases t <;> simp [flat, kids, top, flats]
theorem tflat_len (t : Tree) : t.flat.length = t.size := by
  induction t with
  | leaf m => rfl
  | one m a ih => simp [flat, size, ih]
  | two m a b iha ihb => simp [flat, size, iha, ihb]; omega
/-- how many a node takes -/
def takesN (op : Int) : Nat := if op = 8 then 1 else if op = 9 ∨ op = 10 then 2 else 0
/-- each node takes as many as it says -/
def Tree.ok : Tree → Prop
  | leaf m => takesN m.1 = 0
  | one m a => takesN m.1 = 1 ∧ a.ok
  | two m a b => takesN m.1 = 2 ∧ a.ok ∧ b.ok
theorem Tree.ok.kids {t : Tree} (h : t.ok) : t.kids.length = takesN t.top.1 ∧ ∀ k ∈ t.kids, k.ok := by
  cases t with
  | leaf m => exact ⟨h.symm, fun k hk => by cases hk⟩
  | one m a => exact ⟨h.1.symm, fun k hk => by simp [Tree.kids] at hk; rw [hk]; exact h.2⟩
  | two m a b => exact ⟨h.1.symm, fun k hk => by simp [Tree.kids] at hk; rcases hk with rfl | rfl; exact h.2.1; exact h.2.2⟩
/-- a node of so many -/
def mkT (m : MT) : List Tree → Tree
  | [] => leaf m
  | [a] => one m a
  | a :: b :: _ => two m a b
theorem mkT_ok {m : MT} {ks : List Tree} (h : ks.length = takesN m.1) (hk : ∀ k ∈ ks, k.ok) : (mkT m ks).ok ∧ (mkT m ks).kids = ks ∧ (mkT m ks).top = m := by
  have ht : takesN m.1 ≤ 2 := by unfold takesN; split; · omega
                                 split <;> omega
  match ks, h, hk with
  | [], h, hk => exact ⟨h.symm, rfl, rfl⟩
  | [a], h, hk => exact ⟨⟨h.symm, hk a (by simp)⟩, rfl, rfl⟩
  | [a, b], h, hk => exact ⟨⟨h.symm, hk a (by simp), hk b (by simp)⟩, rfl, rfl⟩
  | a :: b :: c :: l, h, hk => simp only [List.length_cons] at h; omega
theorem mkT_kids {t : Tree} : mkT t.top t.kids = t := by cases t <;> rfl
/-- one more node behind some trees -/
def pushT (m : MT) (st : List Tree) : Option (List Tree) :=
  if takesN m.1 ≤ st.length then some (st.take (st.length - takesN m.1) ++ [mkT m (st.drop (st.length - takesN m.1))]) else none
def stackT : List MT → List Tree → Option (List Tree)
  | [], st => some st
  | m :: r, st => match pushT m st with
    | none => none
    | some st2 => stackT r st2
theorem stackT_app : ∀ (a b : List MT) (st : List Tree), stackT (a ++ b) st = (stackT a st).bind (stackT b)
  | [], b, st => rfl
  | m :: a, b, st => by
    rw [List.cons_append, stackT, stackT]
    cases pushT m st with
    | none => rfl
    | some st2 => exact stackT_app a b st2
theorem pushT_ok {m : MT} {st st2 : List Tree} (h : pushT m st = some st2) (hk : ∀ t ∈ st, t.ok) : (∀ t ∈ st2, t.ok) ∧ flats st2 = flats st ++ [m] ∧ st2.length + takesN m.1 = st.length + 1 := by
  unfold pushT at h
  split at h
  · rename_i hle
    cases h
    obtain ⟨h1, h2, h3⟩ := mkT_ok (m := m) (ks := st.drop (st.length - takesN m.1)) (by rw [List.length_drop]; omega) (fun k hk' => hk k (List.mem_of_mem_drop hk'))
    refine ⟨fun t ht => ?_, ?_, ?_⟩
    · rcases List.mem_append.1 ht with ht | ht
      · exact hk t (List.mem_of_mem_take ht)
      · simp at ht; rw [ht]; exact h1
    · rw [flats_app, flats, flats, flat_kids, h2, h3, List.append_nil, ← List.append_assoc, ← flats_app, List.take_append_drop]
    · rw [List.length_append, List.length_take, List.length_singleton]; omega
  · cases h
theorem stackT_ok : ∀ {r : List MT} {st st2 : List Tree}, stackT r st = some st2 → (∀ t ∈ st, t.ok) → (∀ t ∈ st2, t.ok) ∧ flats st2 = flats st ++ r
  | [], st, st2, h, hk => by cases h; exact ⟨hk, by simp⟩
  | m :: r, st, st2, h, hk => by
    rw [stackT] at h
    cases hp : pushT m st with
    | none => rw [hp] at h; cases h
    | some s1 =>
      rw [hp] at h
      obtain ⟨a1, a2, _⟩ := pushT_ok hp hk
      obtain ⟨b1, b2⟩ := stackT_ok h a1
      exact ⟨b1, by rw [b2, a2]; simp⟩
/-- the nodes of a tree, behind some trees, are that tree behind them -/
theorem stackT_flat : ∀ (t : Tree), t.ok → ∀ st, stackT t.flat st = some (st ++ [t])
  | .leaf m, h, st => by
    have h0 : takesN m.1 = 0 := h
    simp [flat, stackT, pushT, h0, mkT]
  | .one m a, h, st => by
    have h0 : takesN m.1 = 1 := h.1
    rw [flat, stackT_app, stackT_flat a h.2]
    simp [stackT, pushT, h0, mkT]
  | .two m a b, h, st => by
    have h0 : takesN m.1 = 2 := h.1
    rw [flat, stackT_app, stackT_app, stackT_flat a h.2.1, Option.bind_some, stackT_flat b h.2.2, Option.bind_some, List.append_assoc]
    have e : (st ++ ([a] ++ [b])).length - 2 = st.length := by simp
    simp only [stackT, pushT, h0]
    rw [if_pos (by simp), e]
    simp [mkT]

/-- what is wrong with a node -/
def numOp (op : Int) : Bool := op == 3 || op == 4 || op == 5 || op == 7
def mostM (m : MT) : Int := if m.1 = 5 then 15 else if m.1 = 7 then 8 * (m.2.2.2.1.length : Int) else 65535
def matchErr (m : MT) : Int :=
  if m.1 < 1 ∨ 10 < m.1 then 1
  else if (numOp m.1 = false ∧ m.2.1 ≠ 0) ∨ (m.1 ≠ 2 ∧ 0 < m.2.2.1.length) ∨ (m.1 ≠ 7 ∧ 0 < m.2.2.2.1.length) then 1
  else if m.1 = 2 then nameErr m.2.2.1
  else if m.1 = 7 ∧ 16 < m.2.2.2.1.length then 6
  else if m.2.1 < 0 ∨ mostM m < m.2.1 then 6 else 0
def matchesErr : List MT → Int
  | [] => 0
  | m :: r => if matchErr m = 0 then matchesErr r else matchErr m
theorem matchesErr_app : ∀ (a b : List MT), matchesErr (a ++ b) = if matchesErr a = 0 then matchesErr b else matchesErr a
  | [], b => by simp [matchesErr]
  | m :: a, b => by
    rw [List.cons_append, matchesErr, matchesErr, matchesErr_app a b]
    by_cases h : matchErr m = 0
    · rw [if_pos h, if_pos h]
    · rw [if_neg h, if_neg h, if_neg h]
theorem matchesErr_zero {r : List MT} : matchesErr r = 0 ↔ ∀ m ∈ r, matchErr m = 0 := by
  induction r with
  | nil => simp [matchesErr]
  | cons m r ih =>
    rw [matchesErr]
    by_cases h : matchErr m = 0
    · rw [if_pos h, ih]; simp [h]
    · rw [if_neg h]; simp [h]
/-- a rule's tree; what is wrong -/
def treeOf (r : List MT) : Int ⊕ Tree :=
  if 200 < r.length then .inl 7
  else if matchesErr r ≠ 0 then .inl (matchesErr r)
  else match stackT r [] with
    | some [t] => .inr t
    | _ => .inl 1
theorem treeOf_inr {r : List MT} {t : Tree} (h : treeOf r = .inr t) : t.ok ∧ t.flat = r ∧ r.length ≤ 200 ∧ matchesErr r = 0 := by
  unfold treeOf at h
  split at h
  · cases h
  · split at h
    · cases h
    · rename_i hne
      split at h
      · rename_i t' hs
        cases h
        obtain ⟨h1, h2⟩ := stackT_ok hs (fun t ht => by cases ht)
        refine ⟨h1 t (by simp), by simpa [flats] using h2, by omega, Decidable.of_not_not hne⟩
      · cases h
theorem treeOf_flat {t : Tree} (h : t.ok) (hl : t.flat.length ≤ 200) (he : matchesErr t.flat = 0) : treeOf t.flat = .inr t := by
  unfold treeOf
  rw [if_neg (by omega), if_neg (by simp [he]), stackT_flat t h]
  rfl
theorem treeOf_ne {r : List MT} {k : Int} (h : treeOf r = .inl k) : k ≠ 0 := by
  unfold treeOf at h
  split at h
  · cases h; decide
  · split at h
    · rename_i h2; cases h; exact h2
    · split at h
      · cases h
      · cases h; decide

/-- are the first bits the same? -/
def begT (a b : List UInt8) (n : Int) : Bool := decide (n ≤ 8 * (a.length : Int)) && decide (∀ i, i < n.toNat → bitL a i = bitL b i)
def leafH (m : MT) (q : QryT) : Bool :=
  if m.1 = 2 then underL q.1 m.2.2.1
  else if m.1 = 3 then decide (q.2.1 = m.2.1)
  else if m.1 = 4 then decide (q.2.2.1 = m.2.1)
  else if m.1 = 5 then decide (q.2.2.2.1 = m.2.1)
  else if m.1 = 6 then q.2.2.2.2.1
  else if m.1 = 7 then begT q.2.2.2.2.2.1 m.2.2.2.1 m.2.1
  else true
def Tree.holds (q : QryT) : Tree → Bool
  | leaf m => leafH m q
  | one _ a => !a.holds q
  | two m a b => if m.1 = 9 then a.holds q && b.holds q else a.holds q || b.holds q

def notM : MT := (8, 0, [], [], ())
def swapM (m : MT) : MT := (19 - m.1, m.2)
/-- a plain tree -/
def Tree.plain : Tree → Bool → Tree
  | leaf m, false => leaf m
  | leaf m, true => one notM (leaf m)
  | one _ a, n => a.plain (!n)
  | two m a b, n => two (if n then swapM m else m) (a.plain n) (b.plain n)
def Tree.isPlain : Tree → Prop
  | leaf _ => True
  | one m (leaf _) => m = notM
  | one _ _ => False
  | two _ a b => a.isPlain ∧ b.isPlain
theorem takes_two {m : MT} (h : takesN m.1 = 2) : m.1 = 9 ∨ m.1 = 10 := by
  unfold takesN at h
  split at h
  · cases h
  · split at h
    · assumption
    · cases h
theorem takes_one {m : MT} (h : takesN m.1 = 1) : m.1 = 8 := by
  unfold takesN at h
  split at h
  · assumption
  · split at h <;> cases h
theorem takes_swap {m : MT} (h : takesN m.1 = 2) : takesN (swapM m).1 = 2 := by
  unfold swapM takesN
  rcases takes_two h with h | h <;> simp [h]
theorem plain_ok : ∀ (t : Tree), t.ok → ∀ n, (t.plain n).ok ∧ (t.plain n).isPlain
  | .leaf m, h, false => ⟨h, trivial⟩
  | .leaf m, h, true => ⟨⟨rfl, h⟩, rfl⟩
  | .one m a, h, n => plain_ok a h.2 (!n)
  | .two m a b, h, n => by
    obtain ⟨a1, a2⟩ := plain_ok a h.2.1 n
    obtain ⟨b1, b2⟩ := plain_ok b h.2.2 n
    refine ⟨⟨?_, a1, b1⟩, a2, b2⟩
    cases n
    · exact h.1
    · exact takes_swap h.1
theorem plain_holds (q : QryT) : ∀ (t : Tree), t.ok → ∀ n, (t.plain n).holds q = (if n then !t.holds q else t.holds q)
  | .leaf m, h, false => rfl
  | .leaf m, h, true => rfl
  | .one m a, h, n => by
    show (a.plain (!n)).holds q = if n then !(!a.holds q) else !a.holds q
    rw [plain_holds q a h.2 (!n)]
    cases n <;> simp
  | .two m a b, h, n => by
    have ha := plain_holds q a h.2.1 n
    have hb := plain_holds q b h.2.2 n
    show (if (if n then swapM m else m).1 = 9 then (a.plain n).holds q && (b.plain n).holds q else (a.plain n).holds q || (b.plain n).holds q) = _
    cases n
    · simp only [Bool.false_eq_true, if_false] at ha hb ⊢
      rw [ha, hb]
      rfl
    · simp only [if_true] at ha hb ⊢
      rw [ha, hb]
      show _ = !(if m.1 = 9 then a.holds q && b.holds q else a.holds q || b.holds q)
      rcases takes_two h.1 with hm | hm
      · simp [swapM, hm]
      · simp [swapM, hm]
theorem plain_again : ∀ (t : Tree), t.isPlain → t.plain false = t
  | .leaf m, _ => rfl
  | .one m (.leaf x), h => by
    have h' : m = notM := h
    subst h'
    rfl
  | .two m a b, h => by
    show two m (a.plain false) (b.plain false) = _
    rw [plain_again a h.1, plain_again b h.2]
theorem matchErr_not : matchErr notM = 0 := by decide
theorem matchErr_swap {m : MT} (h : takesN m.1 = 2) (he : matchErr m = 0) : matchErr (swapM m) = 0 := by
  obtain ⟨op, n, nm, ad, _⟩ := m
  have h2 := takes_two h
  simp only at h2
  unfold matchErr at he ⊢
  unfold swapM
  simp only at he ⊢
  rcases h2 with rfl | rfl
  · have e1 : numOp 9 = false := rfl
    have e2 : numOp (19 - 9) = false := rfl
    rw [e1] at he
    rw [e2]
    rw [if_neg (by omega)] at he
    rw [if_neg (by omega)]
    split at he
    · cases he
    · rename_i hh
      rw [if_neg (by
        intro h
        apply hh
        rcases h with h | ⟨_, h⟩ | ⟨_, h⟩
        · exact .inl h
        · exact .inr (.inl ⟨by decide, h⟩)
        · exact .inr (.inr ⟨by decide, h⟩))]
      have hn0 : n = 0 := by
        apply Decidable.of_not_not
        intro h
        exact hh (.inl ⟨rfl, h⟩)
      subst hn0
      simp [mostM]
  · have e1 : numOp 10 = false := rfl
    have e2 : numOp (19 - 10) = false := rfl
    rw [e1] at he
    rw [e2]
    rw [if_neg (by omega)] at he
    rw [if_neg (by omega)]
    split at he
    · cases he
    · rename_i hh
      rw [if_neg (by
        intro h
        apply hh
        rcases h with h | ⟨_, h⟩ | ⟨_, h⟩
        · exact .inl h
        · exact .inr (.inl ⟨by decide, h⟩)
        · exact .inr (.inr ⟨by decide, h⟩))]
      have hn0 : n = 0 := by
        apply Decidable.of_not_not
        intro h
        exact hh (.inl ⟨rfl, h⟩)
      subst hn0
      simp [mostM]
theorem plain_err : ∀ (t : Tree), t.ok → ∀ n, (∀ m ∈ t.flat, matchErr m = 0) → ∀ m ∈ (t.plain n).flat, matchErr m = 0
  | .leaf x, h, false, he, m, hm => he m hm
  | .leaf x, h, true, he, m, hm => by
    simp [Tree.plain, flat] at hm
    rcases hm with rfl | rfl
    · exact he _ (by simp [flat])
    · exact matchErr_not
  | .one x a, h, n, he, m, hm => plain_err a h.2 (!n) (fun m hm => he m (by simp [flat, hm])) m hm
  | .two x a b, h, n, he, m, hm => by
    have hm' : m ∈ (a.plain n).flat ++ (b.plain n).flat ++ [if n then swapM x else x] := hm
    rcases List.mem_append.1 hm' with hm' | hm'
    · rcases List.mem_append.1 hm' with hm' | hm'
      · exact plain_err a h.2.1 n (fun m hm => he m (by simp [flat, hm])) m hm'
      · exact plain_err b h.2.2 n (fun m hm => he m (by simp [flat, hm])) m hm'
    · simp at hm'
      rw [hm']
      cases n
      · exact he _ (by simp [flat])
      · exact matchErr_swap h.1 (he _ (by simp [flat]))
/-- Plain's rule is one, of the plain tree -/
theorem plain_tree {r : List MT} {t : Tree} (h : treeOf r = .inr t) (hl : (t.plain false).flat.length ≤ 200) : treeOf (t.plain false).flat = .inr (t.plain false) := by
  obtain ⟨h1, h2, _, h4⟩ := treeOf_inr h
  refine treeOf_flat (plain_ok t h1 false).1 hl (matchesErr_zero.2 (plain_err t h1 false ?_))
  rw [h2]
  exact matchesErr_zero.1 h4
/-- no node behind one that takes some is Not -/
def NotLast (l : List MT) : Prop := ∀ i, (h : i + 1 < l.length) → (l[i + 1]).1 = 8 → takesN (l[i]'(by omega)).1 = 0
theorem flat_ne (t : Tree) : t.flat ≠ [] := by cases t <;> simp [flat]
theorem flat_head : ∀ (t : Tree), t.ok → ∃ m r, t.flat = m :: r ∧ takesN m.1 = 0
  | .leaf m, h => ⟨m, [], rfl, h⟩
  | .one m a, h => by
    obtain ⟨x, r, e, hx⟩ := flat_head a h.2
    exact ⟨x, r ++ [m], by rw [flat, e]; rfl, hx⟩
  | .two m a b, h => by
    obtain ⟨x, r, e, hx⟩ := flat_head a h.2.1
    exact ⟨x, r ++ b.flat ++ [m], by rw [flat, e]; rfl, hx⟩
theorem notLast_app {a b : List MT} (ha : NotLast a) (hb : NotLast b) (hh : ∀ m r, b = m :: r → m.1 ≠ 8) : NotLast (a ++ b) := by
  intro i hi h8
  by_cases h1 : i + 1 < a.length
  · rw [List.getElem_append_left h1] at h8
    rw [List.getElem_append_left (by omega)]
    exact ha i h1 h8
  · by_cases h2 : i + 1 = a.length
    · exfalso
      cases b with
      | nil => simp at hi; omega
      | cons m r =>
        rw [List.getElem_append_right (by omega)] at h8
        have h3 : i + 1 - a.length = 0 := by omega
        simp only [h3, List.getElem_cons_zero] at h8
        exact hh m r rfl h8
    · have h3 : a.length ≤ i := by omega
      rw [List.getElem_append_right (by omega)] at h8
      rw [List.getElem_append_right h3]
      have e : i + 1 - a.length = i - a.length + 1 := by omega
      simp only [e] at h8
      exact hb (i - a.length) (by rw [List.length_append] at hi; omega) h8
theorem notLast_one (m : MT) : NotLast [m] := fun i hi => by simp at hi
theorem plain_notLast : ∀ (t : Tree), t.ok → t.isPlain → NotLast t.flat
  | .leaf m, _, _ => notLast_one m
  | .one m (.leaf x), h, hp => by
    intro i hi h8
    have hi' : i = 0 := by simp [flat] at hi; omega
    subst hi'
    exact h.2
  | .two m a b, h, hp => by
    have ha := plain_notLast a h.2.1 hp.1
    have hb := plain_notLast b h.2.2 hp.2
    rw [flat]
    refine notLast_app (notLast_app ha hb fun x r e hx => ?_) (notLast_one m) fun x r e hx => ?_
    · obtain ⟨y, s, e2, hy⟩ := flat_head b h.2.2
      rw [e] at e2
      cases e2
      rw [hx] at hy
      cases hy
    · cases e
      have := takes_two h.1
      omega
/-- joined -/
theorem tree_and {r s : List MT} {t u : Tree} (hr : treeOf r = .inr t) (hs : treeOf s = .inr u) (hl : r.length + s.length + 1 ≤ 200) {m : MT} (hm : matchErr m = 0) (h2 : takesN m.1 = 2) : treeOf (r ++ s ++ [m]) = .inr (.two m t u) := by
  obtain ⟨a1, a2, _, a4⟩ := treeOf_inr hr
  obtain ⟨b1, b2, _, b4⟩ := treeOf_inr hs
  have e : r ++ s ++ [m] = (Tree.two m t u).flat := by rw [flat, a2, b2]
  rw [e]
  refine treeOf_flat ⟨h2, a1, b1⟩ (by rw [← e]; simp; omega) ?_
  rw [← e, matchesErr_app, matchesErr_app, a4, b4]
  simp [matchesErr, hm]
theorem tree_not {r : List MT} {t : Tree} (hr : treeOf r = .inr t) (hl : r.length + 1 ≤ 200) {m : MT} (hm : matchErr m = 0) (h2 : takesN m.1 = 1) : treeOf (r ++ [m]) = .inr (.one m t) := by
  obtain ⟨a1, a2, _, a4⟩ := treeOf_inr hr
  have e : r ++ [m] = (Tree.one m t).flat := by rw [flat, a2]
  rw [e]
  refine treeOf_flat ⟨h2, a1⟩ (by rw [← e]; simp; omega) ?_
  rw [← e, matchesErr_app, a4]
  simp [matchesErr, hm]
end Go.Proofs.YtemgbfppdopfbaaDoor
