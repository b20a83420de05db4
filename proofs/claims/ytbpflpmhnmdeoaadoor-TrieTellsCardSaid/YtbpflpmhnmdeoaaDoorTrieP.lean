/- A trie: what it holds, by beginnings of bits; the longest one that has a value; a list of puts. No function of the program. -/
import Derived.Test.YtbpflpmhnmdeoaaDoorSubRefA
namespace Go.Proofs.YtbpflpmhnmdeoaaDoor
open Go.RowKit
set_option linter.unusedVariables false

/-- a bit of an address, as a Bool -/
def bitB (l : List UInt8) (i : Nat) : Bool := bitL l i == 1
theorem bitB_nat (l : List UInt8) (i : Nat) : (bitB l i).toNat = bitL l i := by
  have := bitL_le l i
  unfold bitB
  rcases (by omega : bitL l i = 0 ∨ bitL l i = 1) with h | h <;> rw [h] <;> rfl
theorem bitB_eq {l m : List UInt8} {i : Nat} : bitB l i = bitB m i ↔ bitL l i = bitL m i := by
  constructor
  · intro h; rw [← bitB_nat, ← bitB_nat, h]
  · intro h; unfold bitB; rw [h]
/-- the bits of an address -/
def bitsL (l : List UInt8) : List Bool := (List.range (8 * l.length)).map (bitB l)
theorem bitsL_len (l : List UInt8) : (bitsL l).length = 8 * l.length := by simp [bitsL]
theorem bitsL_get {l : List UInt8} {i : Nat} (h : i < (bitsL l).length) : (bitsL l)[i] = bitB l i := by simp [bitsL]
theorem bitsL_take {l : List UInt8} {k : Nat} (h : k < 8 * l.length) : (bitsL l).take (k + 1) = (bitsL l).take k ++ [bitB l k] := by
  rw [List.take_succ_eq_append_getElem (by rw [bitsL_len]; exact h), bitsL_get]
theorem bits_alike {a b : List UInt8} {m : Nat} (ha : m ≤ 8 * a.length) (hb : m ≤ 8 * b.length) : (bitsL a).take m = (bitsL b).take m ↔ ∀ i, i < m → bitL a i = bitL b i := by
  constructor
  · intro h i hi
    have h1 : ((bitsL a).take m)[i]? = ((bitsL b).take m)[i]? := by rw [h]
    rw [List.getElem?_take_of_lt hi, List.getElem?_take_of_lt hi, List.getElem?_eq_getElem (by rw [bitsL_len]; omega), List.getElem?_eq_getElem (by rw [bitsL_len]; omega), bitsL_get, bitsL_get] at h1
    exact bitB_eq.1 (Option.some.inj h1)
  · intro h
    apply List.ext_getElem
    · simp only [List.length_take, bitsL_len]; omega
    · intro i hi hi'
      rw [List.getElem_take, List.getElem_take, bitsL_get, bitsL_get]
      simp only [List.length_take, bitsL_len] at hi
      exact bitB_eq.2 (h i (by omega))

/-- values by beginnings -/
abbrev Vals := List Bool → Option Int
def noVals : Vals := fun _ => none
def putV (V : Vals) (p : List Bool) (v : Int) : Vals := fun q => if q = p then some v else V q
theorem putV_same (V : Vals) (p : List Bool) (v : Int) : putV V p v p = some v := if_pos rfl
theorem putV_other (V : Vals) {p q : List Bool} (v : Int) (h : q ≠ p) : putV V p v q = V q := if_neg h

/-- the longest beginning of so many bits at most that has a value -/
def bestV (V : Vals) (bs : List Bool) : Nat → Option Nat
  | 0 => if (V []).isSome then some 0 else none
  | k + 1 => if (V (bs.take (k + 1))).isSome then some (k + 1) else bestV V bs k
theorem bestV_some {V : Vals} {bs : List Bool} {k m : Nat} (h : bestV V bs k = some m) : m ≤ k ∧ (V (bs.take m)).isSome = true ∧ ∀ j, m < j → j ≤ k → (V (bs.take j)).isSome = false := by
  induction k with
  | zero =>
    unfold bestV at h
    split at h
    · cases h
      exact ⟨Nat.le_refl _, by rwa [List.take_zero], fun j h1 h2 => by omega⟩
    · cases h
  | succ k ih =>
    unfold bestV at h
    split at h
    · cases h
      rename_i hs
      exact ⟨Nat.le_refl _, hs, fun j h1 h2 => by omega⟩
    · rename_i hs
      obtain ⟨h1, h2, h3⟩ := ih h
      refine ⟨by omega, h2, fun j hj hk => ?_⟩
      by_cases e : j = k + 1
      · subst e; simpa using hs
      · exact h3 j hj (by omega)
theorem bestV_none {V : Vals} {bs : List Bool} {k : Nat} (h : bestV V bs k = none) : ∀ j, j ≤ k → (V (bs.take j)).isSome = false := by
  induction k with
  | zero =>
    intro j hj
    obtain rfl : j = 0 := by omega
    unfold bestV at h
    split at h
    · cases h
    · rename_i hs; rw [List.take_zero]; simpa using hs
  | succ k ih =>
    intro j hj
    unfold bestV at h
    split at h
    · cases h
    · rename_i hs
      by_cases e : j = k + 1
      · subst e; simpa using hs
      · exact ih h j (by omega)
/-- it is the one -/
theorem bestV_is {V : Vals} {bs : List Bool} {k m : Nat} (h1 : m ≤ k) (h2 : (V (bs.take m)).isSome = true) (h3 : ∀ j, m < j → j ≤ k → (V (bs.take j)).isSome = false) : bestV V bs k = some m := by
  cases h : bestV V bs k with
  | none => have := bestV_none h m h1; rw [h2] at this; cases this
  | some m' =>
    obtain ⟨a, b, c⟩ := bestV_some h
    congr 1
    rcases Nat.lt_trichotomy m m' with hlt | he | hgt
    · have := h3 m' hlt a; rw [b] at this; cases this
    · exact he.symm
    · have := c m hgt h1; rw [h2] at this; cases this
theorem bestV_isNone {V : Vals} {bs : List Bool} {k : Nat} (h : ∀ j, j ≤ k → (V (bs.take j)).isSome = false) : bestV V bs k = none := by
  cases h' : bestV V bs k with
  | none => rfl
  | some m => obtain ⟨a, b, _⟩ := bestV_some h'; have := h m a; rw [b] at this; cases this

/-- what Get tells: value, number of bits, whether there is one -/
def tellV (V : Vals) (bs : List Bool) : Option Nat → Int × Nat × Bool
  | none => (0, 0, false)
  | some k => ((V (bs.take k)).getD 0, k, true)
def getV (V : Vals) (bs : List Bool) : Int × Nat × Bool := tellV V bs (bestV V bs bs.length)

/-- one more value -/
theorem getV_put_fits {V : Vals} {bs : List Bool} {n : Nat} {v : Int} (hn : n ≤ bs.length) (hb : (getV V bs).2.2 = false ∨ (getV V bs).2.1 ≤ n) : getV (putV V (bs.take n) v) bs = (v, n, true) := by
  have hbest : bestV (putV V (bs.take n) v) bs bs.length = some n := by
    refine bestV_is hn (by rw [putV_same]; rfl) fun j h1 h2 => ?_
    rw [putV_other _ _ (fun e => by have := congrArg List.length e; simp only [List.length_take] at this; omega)]
    unfold getV at hb
    cases h : bestV V bs bs.length with
    | none => exact bestV_none h j h2
    | some m =>
      rw [h] at hb
      obtain ⟨a, b, c⟩ := bestV_some h
      rcases hb with hb | hb
      · cases hb
      · exact c j (by have : m ≤ n := hb; omega) h2
  unfold getV
  rw [hbest]
  simp only [tellV, putV_same, Option.getD_some]
theorem getV_put_not {V : Vals} {bs q : List Bool} {v : Int} (h : ¬ (q = bs.take q.length ∧ q.length ≤ bs.length ∧ ((getV V bs).2.2 = false ∨ (getV V bs).2.1 ≤ q.length))) : getV (putV V q v) bs = getV V bs := by
  by_cases hf : q = bs.take q.length ∧ q.length ≤ bs.length
  · obtain ⟨h1, h2⟩ := hf
    have h3 : ¬ ((getV V bs).2.2 = false ∨ (getV V bs).2.1 ≤ q.length) := fun h4 => h ⟨h1, h2, h4⟩
    unfold getV at h3 ⊢
    cases hb : bestV V bs bs.length with
    | none => rw [hb] at h3; exact absurd (Or.inl rfl) h3
    | some m =>
      rw [hb] at h3
      obtain ⟨a, b, c⟩ := bestV_some hb
      have hlt : q.length < m := by
        rcases Nat.lt_or_ge q.length m with h5 | h5
        · exact h5
        · exact absurd (Or.inr h5) h3
      have hne : ∀ j, q.length < j → j ≤ bs.length → bs.take j ≠ q := fun j h5 h6 e => by
        have := congrArg List.length e
        simp only [List.length_take] at this
        omega
      rw [bestV_is (V := putV V q v) a (by rw [putV_other _ _ (hne m hlt a)]; exact b) fun j h5 h6 => by rw [putV_other _ _ (hne j (by omega) h6)]; exact c j h5 h6]
      simp only [tellV, putV_other _ _ (hne m hlt a)]
  · have hne : ∀ j, j ≤ bs.length → bs.take j ≠ q := fun j h6 e => by
      have := congrArg List.length e
      simp only [List.length_take] at this
      exact hf ⟨by rw [← e]; simp, by omega⟩
    unfold getV
    cases hb : bestV V bs bs.length with
    | none =>
      rw [bestV_isNone fun j hj => by rw [putV_other _ _ (hne j hj)]; exact bestV_none hb j hj]
      rfl
    | some m =>
      obtain ⟨a, b, c⟩ := bestV_some hb
      rw [bestV_is (V := putV V q v) a (by rw [putV_other _ _ (hne m a)]; exact b) fun j h5 h6 => by rw [putV_other _ _ (hne j h6)]; exact c j h5 h6]
      simp only [tellV, putV_other _ _ (hne m a)]
theorem getV_le (V : Vals) (bs : List Bool) : (getV V bs).2.1 ≤ bs.length := by
  unfold getV
  cases h : bestV V bs bs.length with
  | none => exact Nat.zero_le _
  | some m => exact (bestV_some h).1

theorem Blk.as {w : World} {g : Nat} {t : TypeId} {cs ds : Array Value} (h : Blk w g t cs) (e : cs = ds) : Blk w g t ds := e ▸ h

/-! where a trie's nodes lie -/
abbrev Nodes := List Bool → Option Nat
def ptrV : Option Nat → Value
  | none => .pointer none
  | some b => .pointer (some ⟨b, 0, none⟩)
def putN (N : Nodes) (p : List Bool) (b : Nat) : Nodes := fun q => if q = p then some b else N q
theorem putN_same (N : Nodes) (p : List Bool) (b : Nat) : putN N p b p = some b := if_pos rfl
theorem putN_other (N : Nodes) {p q : List Bool} (b : Nat) (h : q ≠ p) : putN N p b q = N q := if_neg h
def nodeCs (N : Nodes) (V : Vals) (cnt : Int) (p : List Bool) : Array Value :=
  #[.bool (V p).isSome, .int .i64 ((V p).getD 0), ptrV (N (p ++ [false])), ptrV (N (p ++ [true]))] ++ (if p = [] then #[.int .i64 cnt] else #[])
structure TrieAt (w : World) (base g : Nat) (N : Nodes) (V : Vals) (cnt : Int) : Prop where
  root : N [] = some g
  node : ∀ p b, N p = some b → ∃ T, Blk w b T (nodeCs N V cnt p)
  inj : ∀ p q b, N p = some b → N q = some b → p = q
  up : ∀ p c, N (p ++ [c]) ≠ none → N p ≠ none
  val : ∀ p, N p = none → V p = none
  low : ∀ p b, N p = some b → base ≤ b
/-- what lies outside of a trie is kept -/
structure Outside (N : Nodes) (w w' : World) : Prop where
  os : w'.os = w.os
  tape : w'.tape = w.tape
  output : w'.output = w.output
  size : w.heap.size ≤ w'.heap.size
  block : ∀ k, k < w.heap.size → (∀ p, N p ≠ some k) → w'.heap[k]? = w.heap[k]?
theorem Outside.below {N : Nodes} {w w' : World} {base : Nat} (h : Outside N w w') (hl : ∀ p b, N p = some b → base ≤ b) (hb : base ≤ w.heap.size) : Below base w w' :=
  ⟨h.os, h.tape, h.output, h.size, fun k hk => h.block k (by omega) fun p e => by have := hl p k e; omega⟩
theorem Outside.refl (N : Nodes) (w : World) : Outside N w w := ⟨rfl, rfl, rfl, Nat.le_refl _, fun _ _ _ => rfl⟩
theorem Outside.trans {N M : Nodes} {w w1 w2 : World} (h : Outside N w w1) (k : Outside M w1 w2) (hm : ∀ p b, M p = some b → (∃ q, N q = some b) ∨ w.heap.size ≤ b) : Outside N w w2 :=
  ⟨k.os.trans h.os, k.tape.trans h.tape, k.output.trans h.output, Nat.le_trans h.size k.size, fun i hi hn => (k.block i (Nat.lt_of_lt_of_le hi h.size) fun p e => by
    rcases hm p i e with ⟨q, hq⟩ | hq
    · exact hn q hq
    · omega).trans (h.block i hi hn)⟩
theorem Outside.of_below {N : Nodes} {w w' : World} (h : Below w.heap.size w w') : Outside N w w' := ⟨h.os, h.tape, h.output, h.size, fun k hk _ => h.block k hk⟩
theorem Outside.set {N : Nodes} {w : World} {p : List Bool} {b : Nat} (h : N p = some b) (i : Nat) (s : Option Nat) (u : Value) : Outside N w (w.setCell ⟨b, i, s⟩ u) :=
  ⟨rfl, rfl, rfl, by simp, fun k _ hn => Below.heap_setCell w _ u k (fun e => hn p (by rw [h, e]))⟩

section
variable {w w' : World} {base g : Nat} {N : Nodes} {V : Vals} {cnt : Int}
theorem TrieAt.lt (h : TrieAt w base g N V cnt) {p : List Bool} {b : Nat} (hp : N p = some b) : b < w.heap.size := by
  obtain ⟨T, hb⟩ := h.node p b hp
  exact hb.lt
/-- kept, where its blocks are -/
theorem TrieAt.keep (h : TrieAt w base g N V cnt) (hk : ∀ p b, N p = some b → w'.heap[b]? = w.heap[b]?) : TrieAt w' base g N V cnt :=
  ⟨h.root, fun p b hp => by obtain ⟨T, hb⟩ := h.node p b hp; exact ⟨T, (hk p b hp).trans hb⟩, h.inj, h.up, h.val, h.low⟩
theorem TrieAt.later (h : TrieAt w base g N V cnt) (hb : Below w.heap.size w w') : TrieAt w' base g N V cnt := h.keep fun p b hp => hb.block b (h.lt hp)
theorem TrieAt.beside {M : Nodes} (h : TrieAt w base g N V cnt) (ho : Outside M w w') (hd : ∀ p q b, N p = some b → M q ≠ some b) : TrieAt w' base g N V cnt :=
  h.keep fun p b hp => ho.block b (h.lt hp) fun q => hd p q b hp
theorem TrieAt.above (h : TrieAt w base g N V cnt) {p : List Bool} (hp : N p ≠ none) (k : Nat) : N (p.take k) ≠ none := by
  induction hn : p.length - k generalizing k with
  | zero => rwa [List.take_of_length_le (by omega)]
  | succ m ih =>
    have h1 := ih (k + 1) (by omega)
    rw [List.take_succ_eq_append_getElem (by omega)] at h1
    exact h.up _ _ h1
/-- a new node -/
theorem TrieAt.grow (h : TrieAt w base g N V cnt) {p : List Bool} {b : Nat} (hp : N p = some b) (c : Bool) (hc : N (p ++ [c]) = none) (T : TypeId) (hw : base ≤ w.heap.size) :
    TrieAt ((w.alloc (.cells #[.bool false, .int .i64 0, .pointer none, .pointer none] T)).setCell ⟨b, 2 + c.toNat, none⟩ (.pointer (some ⟨w.heap.size, 0, none⟩))) base g (putN N (p ++ [c]) w.heap.size) V cnt := by
  have hlt := h.lt hp
  have hne : ∀ q b', N q = some b' → q ≠ p ++ [c] := fun q b' hq e => by subst e; rw [hc] at hq; cases hq
  have hkid : ∀ d, N (p ++ [c] ++ [d]) = none := fun d => by
    cases hd : N (p ++ [c] ++ [d]) with
    | none => rfl
    | some x => exact absurd hc (h.up _ d (by rw [hd]; simp))
  refine ⟨?_, fun q b' hq => ?_, fun q r b' hq hr => ?_, fun q d hq => ?_, fun q hq => ?_, fun q b' hq => ?_⟩
  · rw [putN_other _ _ (by simp)]; exact h.root
  · by_cases e : q = p ++ [c]
    · subst e
      rw [putN_same] at hq
      cases hq
      refine ⟨T, ?_⟩
      have hv := h.val _ hc
      have h0 : nodeCs (putN N (p ++ [c]) w.heap.size) V cnt (p ++ [c]) = #[.bool false, .int .i64 0, .pointer none, .pointer none] := by
        unfold nodeCs
        rw [hv, putN_other _ _ (by simp), putN_other _ _ (by simp), hkid, hkid, if_neg (by simp)]
        rfl
      rw [h0]
      exact (Blk.new w T _).far (by simp; omega) _
    · rw [putN_other _ _ e] at hq
      obtain ⟨T', hb⟩ := h.node q b' hq
      by_cases eb : b' = b
      · subst eb
        obtain rfl := h.inj _ _ _ hq hp
        refine ⟨T', ?_⟩
        have := (hb.alloc (.cells #[.bool false, .int .i64 0, .pointer none, .pointer none] T)).set (2 + c.toNat) (.pointer (some ⟨w.heap.size, 0, none⟩))
        refine this.as ?_
        unfold nodeCs
        cases c
        · rw [putN_same, putN_other (q := q ++ [true]) _ _ (by simp)]
          by_cases hq0 : q = [] <;> simp [hq0, ptrV]
        · rw [putN_same, putN_other (q := q ++ [false]) _ _ (by simp)]
          by_cases hq0 : q = [] <;> simp [hq0, ptrV]
      · refine ⟨T', ?_⟩
        have := (hb.alloc (.cells #[.bool false, .int .i64 0, .pointer none, .pointer none] T)).far (p := ⟨b, 2 + c.toNat, none⟩) eb (.pointer (some ⟨w.heap.size, 0, none⟩))
        refine this.as ?_
        unfold nodeCs
        have hx : ∀ d, q ++ [d] ≠ p ++ [c] := fun d e' => by
          obtain ⟨e1, _⟩ := List.append_inj' e' rfl
          subst e1
          rw [hp] at hq
          cases hq
          exact eb rfl
        rw [putN_other _ _ (hx _), putN_other _ _ (hx _)]
  · by_cases e1 : q = p ++ [c]
    · by_cases e2 : r = p ++ [c]
      · rw [e1, e2]
      · subst e1
        rw [putN_same] at hq
        cases hq
        rw [putN_other _ _ e2] at hr
        have := h.lt hr
        omega
    · rw [putN_other _ _ e1] at hq
      by_cases e2 : r = p ++ [c]
      · subst e2
        rw [putN_same] at hr
        cases hr
        have := h.lt hq
        omega
      · rw [putN_other _ _ e2] at hr
        exact h.inj _ _ _ hq hr
  · by_cases e1 : q = p ++ [c]
    · subst e1
      rw [putN_same]; simp
    · rw [putN_other _ _ e1]
      by_cases e2 : q ++ [d] = p ++ [c]
      · obtain ⟨e3, _⟩ := List.append_inj' e2 rfl
        subst e3
        rw [hp]; simp
      · rw [putN_other _ _ e2] at hq
        exact h.up _ _ hq
  · by_cases e1 : q = p ++ [c]
    · subst e1
      rw [putN_same] at hq; cases hq
    · rw [putN_other _ _ e1] at hq
      exact h.val _ hq
  · by_cases e1 : q = p ++ [c]
    · subst e1
      rw [putN_same] at hq; cases hq
      exact hw
    · rw [putN_other _ _ e1] at hq
      exact h.low _ _ hq
/-- a value laid in a node that is there -/
theorem TrieAt.lay (h : TrieAt w base g N V cnt) {p : List Bool} {b : Nat} (hp : N p = some b) (v : Int) :
    TrieAt ((w.setCell ⟨b, 0, none⟩ (.bool true)).setCell ⟨b, 1, none⟩ (.int .i64 v)) base g N (putV V p v) cnt := by
  refine ⟨h.root, fun q b' hq => ?_, h.inj, h.up, fun q hq => ?_, h.low⟩
  · obtain ⟨T', hb⟩ := h.node q b' hq
    by_cases eb : b' = b
    · subst eb
      obtain rfl := h.inj _ _ _ hq hp
      refine ⟨T', ?_⟩
      have := (hb.set 0 (.bool true)).set 1 (.int .i64 v)
      refine this.as ?_
      unfold nodeCs
      rw [putV_same]
      by_cases hq0 : q = [] <;> simp [hq0]
    · refine ⟨T', ?_⟩
      have := (hb.far (p := ⟨b, 0, none⟩) eb (.bool true)).far (p := ⟨b, 1, none⟩) eb (.int .i64 v)
      refine this.as ?_
      have hne : q ≠ p := fun e => by subst e; rw [hp] at hq; cases hq; exact eb rfl
      unfold nodeCs
      rw [putV_other _ _ hne]
  · have hne : q ≠ p := fun e => by subst e; rw [hp] at hq; cases hq
    rw [putV_other _ _ hne]
    exact h.val _ hq
/-- another count -/
theorem TrieAt.count (h : TrieAt w base g N V cnt) (cnt' : Int) : TrieAt (w.setCell ⟨g, 4, none⟩ (.int .i64 cnt')) base g N V cnt' := by
  refine ⟨h.root, fun q b' hq => ?_, h.inj, h.up, h.val, h.low⟩
  obtain ⟨T', hb⟩ := h.node q b' hq
  refine ⟨T', ?_⟩
  by_cases eb : b' = g
  · subst eb
    obtain rfl := h.inj _ _ _ hq h.root
    have := hb.set 4 (.int .i64 cnt')
    refine this.as ?_
    unfold nodeCs
    simp
  · have := hb.far (p := ⟨g, 4, none⟩) eb (.int .i64 cnt')
    refine this.as ?_
    have hne : q ≠ [] := fun e => by subst e; rw [h.root] at hq; cases hq; exact eb rfl
    unfold nodeCs
    rw [if_neg hne, if_neg hne]
def rootN (g : Nat) : Nodes := fun p => if p = [] then some g else none
/-- a new trie -/
theorem TrieAt.new (w : World) (base : Nat) (T : TypeId) (hb : base ≤ w.heap.size) {g : Nat} (hg : g = w.heap.size) : TrieAt (w.alloc (.cells #[.bool false, .int .i64 0, .pointer none, .pointer none, .int .i64 0] T)) base g (rootN g) noVals 0 := by
  subst hg
  have hr : ∀ q b, rootN w.heap.size q = some b → q = [] ∧ b = w.heap.size := fun q b h => by
    unfold rootN at h
    split at h
    · rename_i e; cases h; exact ⟨e, rfl⟩
    · cases h
  refine ⟨if_pos rfl, fun q b hq => ?_, fun q r b hq hr' => ?_, fun q c hq => ?_, fun q hq => rfl, fun q b hq => ?_⟩
  · obtain ⟨rfl, rfl⟩ := hr q b hq
    refine ⟨T, ?_⟩
    have := Blk.new w T #[.bool false, .int .i64 0, .pointer none, .pointer none, .int .i64 0]
    refine this.as ?_
    simp [nodeCs, rootN, noVals, ptrV]
  · rw [(hr q b hq).1, (hr r b hr').1]
  · exact absurd (if_neg (by simp)) hq
  · obtain ⟨rfl, rfl⟩ := hr q b hq
    exact hb
end
end Go.Proofs.YtbpflpmhnmdeoaaDoor
