/- How data lie in memory: a reading of cells for numbers, texts, structs and slices; kept while old memory is kept; what the form's own reading of an argument gives of it. -/
import Derived.Test.YtemgbfppdopfbaaDoorBase
import Derived.Test.YtemgbfppdopfbaaDoorRows
import Derived.ProofKit
import Derived.SizedLaws
import Derived.Deep.CondSized
namespace Go.Proofs.YtemgbfppdopfbaaDoor
open Go.RowKit Go.ChangeShapes Go.WideShapes

structure Rep (α : Type) where
  k : Nat
  bs : Nat
  rel : World → Nat → α → List Value → Prop
  sz : α → Nat
  len : ∀ {w : World} {B : Nat} {a : α} {vs : List Value}, rel w B a vs → vs.length = k
  keep : ∀ {w w' : World} {B B' : Nat} {a : α} {vs : List Value}, rel w B a vs → B ≤ B' → (∀ p : Addr, p.block < B → w'.cell? p = w.cell? p) → rel w' B' a vs

/-- what a walk is told of an int -/
def I64 (n : Int) : Prop := -9223372036854775808 ≤ n ∧ n ≤ 9223372036854775807
def intR : Rep Int where
  k := 1
  bs := 8
  rel _ _ n vs := vs = [.int .i64 n] ∧ I64 n
  sz _ := 1
  len h := by rw [h.1]; rfl
  keep h _ _ := h
def u8R : Rep UInt8 where
  k := 1
  bs := 1
  rel _ _ n vs := vs = [.int .u8 (n.toNat : Int)]
  sz _ := 1
  len h := by rw [h]; rfl
  keep h _ _ := h
def boolR : Rep Bool where
  k := 1
  bs := 1
  rel _ _ b vs := vs = [.bool b]
  sz _ := 1
  len h := by rw [h]; rfl
  keep h _ _ := h
def strR : Rep ByteArray where
  k := 1
  bs := 16
  rel _ _ s vs := vs = [.string s] ∧ s.size ≤ 140737488355328
  sz s := s.size + 1
  len h := by rw [h.1]; rfl
  keep h _ _ := h
def unitR : Rep Unit where
  k := 0
  bs := 0
  rel _ _ _ vs := vs = []
  sz _ := 0
  len h := by rw [h]; rfl
  keep h _ _ := h
def pairR {α β : Type} (R : Rep α) (S : Rep β) : Rep (α × β) where
  k := R.k + S.k
  bs := R.bs + S.bs
  rel w B x vs := ∃ u v, vs = u ++ v ∧ R.rel w B x.1 u ∧ S.rel w B x.2 v
  sz x := R.sz x.1 + S.sz x.2
  len h := by obtain ⟨u, v, rfl, h1, h2⟩ := h; rw [List.length_append, R.len h1, S.len h2]
  keep h hB hk := by obtain ⟨u, v, rfl, h1, h2⟩ := h; exact ⟨u, v, rfl, R.keep h1 hB hk, S.keep h2 hB hk⟩

/-- the slice value '.slice A n c' holds the elements l, below block B -/
structure Rd {α : Type} (R : Rep α) (w : World) (B : Nat) (A : Option Addr) (n c : Nat) (l : List α) : Prop where
  len : l.length = n
  cap : n ≤ c
  max : c ≤ maxLen
  lim : n * R.bs ≤ 140737488355328
  nil : A = none → c = 0
  at_ : ∀ i (h : i < l.length), ∃ b off vs, A = some ⟨b, off, none⟩ ∧ b < B ∧ R.rel w B l[i] vs ∧ ∀ j u, vs[j]? = some u → w.cell? ⟨b, off + i * R.k + j, none⟩ = some u

section
variable {α : Type} {R : Rep α} {w w' : World} {B B' n c : Nat} {A : Option Addr} {l : List α}
theorem Rd.keep (h : Rd R w B A n c l) (hB : B ≤ B') (hk : ∀ p : Addr, p.block < B → w'.cell? p = w.cell? p) : Rd R w' B' A n c l :=
  ⟨h.len, h.cap, h.max, h.lim, h.nil, fun i hi => by
    obtain ⟨b, off, vs, e, hb, hr, hc⟩ := h.at_ i hi
    exact ⟨b, off, vs, e, by omega, R.keep hr hB hk, fun j u hu => (hk _ hb).trans (hc j u hu)⟩⟩
theorem Rd.below (h : Rd R w B A n c l) (hb : Below B w w') : Rd R w' B A n c l := h.keep (Nat.le_refl _) fun _ hp => hb.cell hp
/-- all of old memory is kept -/
theorem Rd.later (h : Rd R w w.heap.size A n c l) (hb : Below w.heap.size w w') : Rd R w' w'.heap.size A n c l := h.keep hb.size fun _ hp => hb.cell hp
end

def sliceR {α : Type} (R : Rep α) : Rep (List α) where
  k := 1
  bs := 24
  rel w B l vs := ∃ A n c, vs = [.slice A n c] ∧ Rd R w B A n c l
  sz l := (l.map R.sz).sum + 1
  len h := by obtain ⟨A, n, c, rfl, _⟩ := h; rfl
  keep h hB hk := by obtain ⟨A, n, c, rfl, h⟩ := h; exact ⟨A, n, c, rfl, h.keep hB hk⟩

theorem Rep.later {α : Type} (R : Rep α) {w w' : World} {a : α} {vs : List Value} (h : R.rel w w.heap.size a vs) (hb : Below w.heap.size w w') : R.rel w' w'.heap.size a vs :=
  R.keep h hb.size fun _ hp => hb.cell hp

/-! ### what the form's reading of an argument gives -/
theorem cell_lt {w : World} {b off : Nat} {s : Option Nat} {u : Value} (h : w.cell? ⟨b, off, s⟩ = some u) : b < w.heap.size := by
  rcases Nat.lt_or_ge b w.heap.size with hlt | hge
  · exact hlt
  · simp [World.cell?, Array.getElem?_eq_none hge] at h

def Opens (P : Program) (t : TypeId) {α : Type} (R : Rep α) : Prop :=
  ∀ (H : Type) (enc : TypeId × Value → H) (w : World) (sp : Nat → Bool) (held : Bool) (fuel : Nat) (cs : List Value) (x : DataW H × List MemPlace),
    DataW.trod enc P w 0 sp held fuel t cs = some x → (∀ k ∈ x.1.weights P t, k ≤ reachBytes) → ∃ a, R.rel w w.heap.size a cs ∧ R.sz a ≤ Rows.uptoBulk x.1

section
variable {P : Program} {t e : TypeId}
theorem opens_int (ht : P.underlying t = some (.int .i64)) : Opens P t intR := by
  intro H enc w sp held fuel cs x h _
  obtain ⟨n, rfl, rfl, hw⟩ := DataW.trod_int ht h
  refine ⟨n, ⟨rfl, ?_⟩, Nat.le_refl _⟩
  simpa [Lit.wf, IntKind.min, IntKind.max, IntKind.bits, IntKind.signed, I64] using hw
theorem opens_u8 (ht : P.underlying t = some (.int .u8)) : Opens P t u8R := by
  intro H enc w sp held fuel cs x h _
  obtain ⟨n, rfl, rfl, hw⟩ := DataW.trod_int ht h
  have hn : 0 ≤ n ∧ n ≤ 255 := by simpa [Lit.wf, IntKind.min, IntKind.max, IntKind.bits, IntKind.signed] using hw
  refine ⟨UInt8.ofNat n.toNat, ?_, Nat.le_refl _⟩
  show [Value.int .u8 n] = _
  simp only [UInt8.toNat_ofNat']
  congr 2
  omega
theorem opens_bool (ht : P.underlying t = some .bool) : Opens P t boolR := by
  intro H enc w sp held fuel cs x h _
  obtain ⟨n, rfl, rfl⟩ := DataW.trod_bool ht h
  exact ⟨n, rfl, Nat.le_refl _⟩
theorem opens_str (ht : P.underlying t = some .string) : Opens P t strR := by
  intro H enc w sp held fuel cs x h hw
  obtain ⟨s, rfl, rfl, hs⟩ := DataW.trod_string ht h
  have hb := hw s.size (by simp [DataW.weights])
  refine ⟨s, ⟨rfl, by unfold reachBytes at hb; omega⟩, ?_⟩
  show s.size + 1 ≤ Rows.uptoBulk (.lit (.string s.data.toList))
  simp [Rows.uptoBulk]

theorem bulkAll_sum {H : Type} (l : List (DataW H)) : Rows.uptoBulkAll l = (l.map Rows.uptoBulk).sum := by
  induction l with
  | nil => simp [Rows.uptoBulkAll]
  | cons a l ih => simp [Rows.uptoBulkAll, ih]

theorem sum_le {α : Type} {l : List α} {m : List Nat} (f : α → Nat) (hl : l.length = m.length) (h : ∀ i (hi : i < l.length) (hj : i < m.length), f l[i] ≤ m[i]) : (l.map f).sum ≤ m.sum := by
  induction l generalizing m with
  | nil => simp
  | cons a l ih =>
    cases m with
    | nil => simp at hl
    | cons b m =>
      simp only [List.map_cons, List.sum_cons]
      have h0 := h 0 (by simp) (by simp)
      have := ih (m := m) (by simpa using hl) fun i hi hj => h (i + 1) (by simp; omega) (by simp; omega)
      simp at h0
      omega

theorem add_none (b off m : Nat) : (⟨b, off, none⟩ : Addr).add m = ⟨b, off + m, none⟩ := by
  unfold Addr.add
  by_cases h : m = 0
  · simp [h]
  · simp [h]

theorem list_of {α : Type} {n : Nat} {p : Nat → α → Prop} (h : ∀ i, i < n → ∃ x, p i x) : ∃ l : List α, l.length = n ∧ ∀ i (hi : i < l.length), p i l[i] := by
  induction n with
  | zero => exact ⟨[], rfl, fun i hi => absurd hi (by simp)⟩
  | succ n ih =>
    obtain ⟨l, hl, hp⟩ := ih fun i hi => h i (by omega)
    obtain ⟨x, hx⟩ := h n (by omega)
    refine ⟨l ++ [x], by simp [hl], fun i hi => ?_⟩
    by_cases c : i < l.length
    · rw [List.getElem_append_left c]; exact hp i c
    · have : i = n := by simp at hi; omega
      subst this
      simp only [← hl, List.getElem_append_right (Nat.le_refl _)]
      simpa [hl] using hx

theorem mem_weightsAll {H : Type} {P : Program} {e : TypeId} {d : DataW H} {l : List (DataW H)} (hd : d ∈ l) {n : Nat} (hn : n ∈ d.weights P e) : n ∈ DataW.weightsAll P e l := by
  induction l with
  | nil => simp at hd
  | cons a l ih =>
    rw [DataW.weightsAll, List.mem_append]
    rcases List.mem_cons.1 hd with rfl | h
    · exact .inl hn
    · exact .inr (ih h)

theorem opens_slice {α : Type} {R : Rep α} (ht : P.underlying t = some (.slice e)) (he : Opens P e R) (hC : P.cellsOf e = R.k) (hpos : 0 < R.k) (hbs : R.bs ≤ P.bytesOf e) : Opens P t (sliceR R) := by
  intro H enc w sp held fuel cs x h hw
  rcases DataW.trod_slice ht h with ⟨rfl, rfl⟩ | ⟨a, len, cap, elems, rest, n, _, rfl, rfl, _, hl, hm, hlen, hel, _, _⟩
  · refine ⟨[], ⟨none, 0, 0, rfl, ⟨rfl, Nat.le_refl _, by simp [maxLen], by simp, fun _ => rfl, fun i hi => absurd hi (by simp)⟩⟩, by simp [sliceR, Rows.uptoBulk]⟩
  · rw [hC] at hel
    simp only [DataW.weights, ht] at hw
    have hlim : len * R.bs ≤ 140737488355328 := by
      have h1 := hw _ (List.mem_cons_self ..)
      rw [List.length_map, List.length_map, hlen] at h1
      have h2 : len * R.bs ≤ (len + rest.length) * P.bytesOf e := Nat.mul_le_mul (Nat.le_add_right _ _) hbs
      unfold reachBytes at h1
      omega
    have step : ∀ i, i < len → ∃ (y : α) (cs' : List Value), R.rel w w.heap.size y cs' ∧ (∀ j, j < R.k → w.cell? ((a.add (i * R.k)).add j) = cs'[j]?) ∧ cs'.length = R.k ∧ ∃ z, elems[i]? = some z ∧ R.sz y ≤ Rows.uptoBulk z.1 := by
      intro i hi
      have h1 := hel i hi
      have hz : elems[i]? = some (elems[i]'(by omega)) := List.getElem?_eq_getElem (by omega)
      rw [hz, Option.bind_eq_some_iff] at h1
      obtain ⟨cs', hc, h2⟩ := h1
      obtain ⟨y, hy, hs⟩ := he H enc w sp held n cs' _ h2 fun k hk => hw k (List.mem_cons_of_mem _ (List.mem_append_left _ (mem_weightsAll (List.mem_map_of_mem (List.getElem_mem (by omega))) hk)))
      obtain ⟨_, hcl, hcell⟩ := World.cells?_some hc
      exact ⟨y, cs', hy, hcell, hcl, _, hz, hs⟩
    by_cases h0 : len = 0
    · subst h0
      refine ⟨[], ⟨some a, 0, cap, rfl, ⟨rfl, hl, hm, by simp, fun h => (by cases h), fun i hi => absurd hi (by simp)⟩⟩, by simp [sliceR, Rows.uptoBulk]⟩
    · have hspot : a.spot = none := by
        obtain ⟨_, cs', _, hc, hcl, _⟩ := step 0 (by omega)
        have h2 := hc 0 hpos
        rw [List.getElem?_eq_getElem (by omega)] at h2
        simpa [Addr.add] using World.cell?_spot h2
      obtain ⟨b, off, spot⟩ := a
      simp only at hspot
      subst hspot
      obtain ⟨l, hll, hp⟩ := list_of step
      refine ⟨l, ⟨some ⟨b, off, none⟩, len, cap, rfl, ⟨hll, hl, hm, hlim, fun h => (by cases h), fun i hi => ?_⟩⟩, ?_⟩
      · obtain ⟨cs', hy, hc, hcl, _⟩ := hp i hi
        simp only [add_none] at hc
        have h2 := hc 0 hpos
        rw [List.getElem?_eq_getElem (by omega)] at h2
        refine ⟨b, off, cs', rfl, cell_lt h2, hy, fun j u hu => ?_⟩
        have hj : j < cs'.length := by
          rcases Nat.lt_or_ge j cs'.length with h | h
          · exact h
          · rw [List.getElem?_eq_none h] at hu; cases hu
        rw [hc j (by omega), hu]
      · show (l.map R.sz).sum + 1 ≤ Rows.uptoBulk (.slice _ _)
        simp only [Rows.uptoBulk, bulkAll_sum, List.map_map]
        have := sum_le (l := l) (m := elems.map fun z => Rows.uptoBulk z.1) R.sz (by simp [hll, hlen]) fun i hi hj => by
          obtain ⟨_, _, _, _, z, hz, hs⟩ := hp i hi
          have hi' : i < elems.length := by omega
          rw [List.getElem?_eq_getElem hi'] at hz
          injection hz with hz
          simp only [List.getElem_map, hz]
          exact hs
        simp only [Function.comp_def] at *
        omega

/-! structs: the fields one behind the other -/
def Fields (P : Program) (o : Nat) (fs : List Field) {γ : Type} (R : Rep γ) : Prop :=
  ∀ (H : Type) (enc : TypeId × Value → H) (w : World) (sp : Nat → Bool) (held : Bool) (n : Nat) (cs : List Value) (xs : List (DataW H × List MemPlace)), cs.length = o + R.k → xs.length = fs.length →
    (∀ (i : Nat) (f : Field), fs[i]? = some f → DataW.trod enc P w 0 sp held n f.type ((cs.drop f.offset).take (P.cellsOf f.type)) = xs[i]?) → (∀ k ∈ DataW.weightsEach P (fs.map (·.type)) (xs.map (·.1)), k ≤ reachBytes) → ∃ c, R.rel w w.heap.size c (cs.drop o) ∧ R.sz c ≤ Rows.uptoBulkAll (xs.map (·.1))

theorem fields_nil (o : Nat) : Fields P o [] unitR := by
  intro H enc w sp held n cs xs hl _ _ _
  refine ⟨(), ?_, Nat.zero_le _⟩
  show cs.drop o = []
  apply List.drop_eq_nil_of_le
  have : unitR.k = 0 := rfl
  omega

theorem fields_cons {α β : Type} {R : Rep α} {S : Rep β} {o : Nat} {f : Field} {fs : List Field} (ho : f.offset = o) (hC : P.cellsOf f.type = R.k) (hf : Opens P f.type R) (hs : Fields P (o + R.k) fs S) : Fields P o (f :: fs) (pairR R S) := by
  intro H enc w sp held n cs xs hl hxl hat hw
  have hk : (pairR R S).k = R.k + S.k := rfl
  cases xs with
  | nil => simp at hxl
  | cons x xs =>
    have h0 := hat 0 f rfl
    rw [ho, hC] at h0
    simp only [List.map_cons, DataW.weightsEach, List.mem_append] at hw
    obtain ⟨a, ha, has⟩ := hf H enc w sp held n _ x h0 fun k hk => hw k (.inl hk)
    obtain ⟨c, hc, hcs⟩ := hs H enc w sp held n cs xs (by omega) (by simpa using hxl) (fun i f' hi => by simpa using hat (i + 1) f' (by simpa using hi)) fun k hk => hw k (.inr hk)
    refine ⟨(a, c), ⟨_, _, ?_, ha, hc⟩, ?_⟩
    · rw [← List.drop_drop, List.take_append_drop]
    · show R.sz a + S.sz c ≤ _
      simp only [List.map_cons, Rows.uptoBulkAll]
      omega

theorem opens_struct {γ : Type} {R : Rep γ} {fs : Array Field} {fl : List Field} (ht : P.underlying t = some (.struct fs)) (hfl : fs.toList = fl) (hC : P.cellsOf t = R.k) (hf : Fields P 0 fl R) : Opens P t R := by
  subst hfl
  intro H enc w sp held fuel cs x h hw
  obtain ⟨xs, n, _, rfl, hl, hxl, hat⟩ := DataW.trod_struct ht h
  simp only [DataW.weights, ht] at hw
  obtain ⟨c, hc, hs⟩ := hf H enc w sp held n cs xs (by omega) (by simpa using hxl) (fun i f hi => hat i f (by simpa using hi)) hw
  refine ⟨c, by simpa using hc, ?_⟩
  simp only [Rows.uptoBulk]
  omega

/-- a value of whatever type, by its cells -/
theorem Opens.arg {α : Type} {R : Rep α} (h : Opens P t R) {H : Type} {enc : TypeId × Value → H} {w : World} {v : Value} {d : DataW H} {p : List MemPlace} (hd : DataW.Trod enc P w 0 (fun _ => true) true t v d p) (hw : ∀ k ∈ d.weights P t, k ≤ reachBytes) :
    ∃ a, R.rel w w.heap.size a v.cells.toList ∧ R.sz a ≤ Rows.uptoBulk d := by
  obtain ⟨fuel, hf⟩ := hd
  exact h H enc w _ _ fuel _ _ hf hw

section
variable {H : Type} {enc : TypeId × Value → H} {w : World} {v : Value} {d : DataW H} {p : List MemPlace} {r : Reach} {b0 : Nat}
theorem arg_int (ht : P.underlying t = some (.int .i64)) (hv : Value.okWide P w r b0 t v) (hd : DataW.Trod enc P w 0 (fun _ => true) true t v d p) (hw : ∀ k ∈ d.weights P t, k ≤ reachBytes) : ∃ n, v = .int .i64 n ∧ I64 n ∧ 1 ≤ Rows.uptoBulk d := by
  obtain ⟨n, rfl, _⟩ := open_int ht hv hd
  obtain ⟨m, ⟨h1, h2⟩, h3⟩ := Opens.arg (opens_int ht) hd hw
  simp only [Value.cells, List.cons.injEq, Value.int.injEq, true_and, and_true] at h1
  subst h1
  exact ⟨_, rfl, h2, h3⟩
theorem arg_bool (ht : P.underlying t = some .bool) (hv : Value.okWide P w r b0 t v) (hd : DataW.Trod enc P w 0 (fun _ => true) true t v d p) (hw : ∀ k ∈ d.weights P t, k ≤ reachBytes) : ∃ n, v = .bool n ∧ 1 ≤ Rows.uptoBulk d := by
  obtain ⟨n, rfl, _⟩ := open_bool ht hv hd
  obtain ⟨m, h1, h3⟩ := Opens.arg (opens_bool ht) hd hw
  exact ⟨_, rfl, h3⟩
theorem arg_str (ht : P.underlying t = some .string) (hv : Value.okWide P w r b0 t v) (hd : DataW.Trod enc P w 0 (fun _ => true) true t v d p) (hw : ∀ k ∈ d.weights P t, k ≤ reachBytes) : ∃ s, v = .string s ∧ s.size ≤ 140737488355328 ∧ s.size + 1 ≤ Rows.uptoBulk d := by
  obtain ⟨s, rfl, _, _, hs⟩ := ChangeMaps.open_string ht hv hd
  obtain ⟨m, ⟨h1, h2⟩, h3⟩ := Opens.arg (opens_str ht) hd hw
  simp only [Value.cells, List.cons.injEq, Value.string.injEq, and_true] at h1
  subst h1
  exact ⟨_, rfl, h2, h3⟩
theorem arg_slice {α : Type} {R : Rep α} (ht : P.underlying t = some (.slice e)) (ho : Opens P t (sliceR R)) (hv : Value.okWide P w r b0 t v) (hd : DataW.Trod enc P w 0 (fun _ => true) true t v d p) (hw : ∀ k ∈ d.weights P t, k ≤ reachBytes) :
    ∃ A n c l, v = .slice A n c ∧ Rd R w w.heap.size A n c l ∧ (sliceR R).sz l ≤ Rows.uptoBulk d := by
  obtain ⟨A, n, c, rfl⟩ := okWide_slice ht hv
  obtain ⟨l, ⟨A', n', c', h1, h2⟩, h3⟩ := Opens.arg ho hd hw
  simp only [Value.cells, List.cons.injEq, Value.slice.injEq, and_true] at h1
  obtain ⟨rfl, rfl, rfl⟩ := h1
  exact ⟨_, _, _, l, rfl, h2, h3⟩
/-- how many bytes a slice that came in takes -/
theorem arg_lim {A : Option Addr} {n c : Nat} (ht : P.underlying t = some (.slice e)) (k : Nat) (hk : k ≤ P.bytesOf e) (hd : DataW.Trod enc P w 0 (fun _ => true) true t (.slice A n c) d p) (hw : ∀ k ∈ d.weights P t, k ≤ reachBytes) : n * k ≤ 140737488351232 := by
  obtain ⟨fuel, hf⟩ := hd
  rcases DataW.trod_slice ht hf with ⟨h1, _⟩ | ⟨a, len, cap, elems, rest, n', _, h1, h0, _, _, _, hlen, _⟩
  · simp only [Value.cells, List.cons.injEq, Value.slice.injEq, and_true] at h1
    obtain ⟨_, rfl, _⟩ := h1
    simp
  · simp only [Value.cells, List.cons.injEq, Value.slice.injEq, and_true] at h1
    obtain ⟨_, rfl, _⟩ := h1
    simp only [Prod.mk.injEq] at h0
    obtain ⟨rfl, _⟩ := h0
    simp only [DataW.weights, ht] at hw
    have h1 := hw _ (List.mem_cons_self ..)
    rw [List.length_map, List.length_map, hlen] at h1
    have h2 : n * k ≤ (n + rest.length) * P.bytesOf e := Nat.mul_le_mul (Nat.le_add_right _ _) hk
    unfold reachBytes at h1
    omega
theorem arg_struct {α : Type} {R : Rep α} {fs : Array Field} (ht : P.underlying t = some (.struct fs)) (ho : Opens P t R) (hv : Value.okWide P w r b0 t v) (hd : DataW.Trod enc P w 0 (fun _ => true) true t v d p) (hw : ∀ k ∈ d.weights P t, k ≤ reachBytes) :
    ∃ x cs, v = .agg cs ∧ R.rel w w.heap.size x cs.toList ∧ R.sz x ≤ Rows.uptoBulk d := by
  obtain ⟨cs, rfl, _⟩ := okWide_struct ht hv
  obtain ⟨x, h1, h3⟩ := Opens.arg ho hd hw
  exact ⟨x, cs, rfl, h1, h3⟩
end
end

theorem bulk_of {H : Type} {ds : List (DataW H)} (h : Rows.uptoSmall H ds = true) : (ds.map Rows.uptoBulk).sum ≤ 1048576 := by
  have h : Rows.uptoBulkAll ds ≤ 1048576 := of_decide_eq_true h
  rwa [bulkAll_sum] at h

theorem own : ownKnob Tryd.prog.godebug = none := by kernel_rfl
theorem laidOut : laidOutB Tryd.prog = true := by kernel_rfl

/-- one cell of a slice of ints, of bytes .. : its address, and that it holds the element -/
theorem Rd.int {w : World} {B n c : Nat} {A : Option Addr} {l : List Int} (h : Rd intR w B A n c l) (i : Nat) (hi : i < n) :
    ∃ b off, A = some ⟨b, off, none⟩ ∧ b < B ∧ w.cell? ⟨b, off + i, none⟩ = some (.int .i64 (l[i]'(by rw [h.len]; exact hi))) ∧ I64 (l[i]'(by rw [h.len]; exact hi)) := by
  obtain ⟨b, off, vs, e, hb, ⟨rfl, hr⟩, hc⟩ := h.at_ i (by rw [h.len]; exact hi)
  have := hc 0 _ rfl
  exact ⟨b, off, e, hb, by simpa [intR] using this, hr⟩
theorem Rd.u8 {w : World} {B n c : Nat} {A : Option Addr} {l : List UInt8} (h : Rd u8R w B A n c l) (i : Nat) (hi : i < n) :
    ∃ b off, A = some ⟨b, off, none⟩ ∧ b < B ∧ w.cell? ⟨b, off + i, none⟩ = some (.int .u8 ((l[i]'(by rw [h.len]; exact hi)).toNat : Int)) := by
  obtain ⟨b, off, vs, e, hb, rfl, hc⟩ := h.at_ i (by rw [h.len]; exact hi)
  have := hc 0 _ rfl
  exact ⟨b, off, e, hb, by simpa [u8R] using this⟩

/-! a block known whole -/
def Blk (w : World) (g : Nat) (t : TypeId) (cs : Array Value) : Prop := w.heap[g]? = some (.cells cs t (0, 0))
section
variable {w w' : World} {g : Nat} {t : TypeId} {cs : Array Value}
theorem Blk.lt (h : Blk w g t cs) : g < w.heap.size := by
  rcases Nat.lt_or_ge g w.heap.size with hlt | hge
  · exact hlt
  · unfold Blk at h; rw [Array.getElem?_eq_none hge] at h; cases h
theorem Blk.cell (h : Blk w g t cs) (i : Nat) : w.cell? ⟨g, i, none⟩ = cs[i]? := by
  unfold Blk at h
  simp [World.cell?, h]
theorem Blk.frozen (h : Blk w g t cs) (i : Nat) : w.frozen? ⟨g, i, none⟩ = false := by
  unfold Blk at h
  simp [World.frozen?, h]
theorem Blk.new (w : World) (t : TypeId) (cs : Array Value) : Blk (w.alloc (.cells cs t)) w.heap.size t cs := heap_alloc_new w _
theorem Blk.new' {w : World} {g : Nat} (t : TypeId) (cs : Array Value) (h : g = w.heap.size) : Blk (w.alloc (.cells cs t)) g t cs := by subst h; exact heap_alloc_new w _
theorem Blk.alloc (h : Blk w g t cs) (o : Obj) : Blk (w.alloc o) g t cs := (Below.heap_alloc w o g h.lt).trans h
theorem Blk.ext (h : Blk w g t cs) (os : Array Obj) (d : Nat) : Blk (ext w os d) g t cs := (heap_ext w os d h.lt).trans h
theorem Blk.drew (h : Blk w g t cs) : Blk w.drew g t cs := h
theorem Blk.set (h : Blk w g t cs) (i : Nat) (u : Value) : Blk (w.setCell ⟨g, i, none⟩ u) g t (cs.setIfInBounds i u) := by
  unfold Blk at h ⊢
  simp [World.setCell, Array.getElem?_modify, h]
theorem Blk.far (h : Blk w g t cs) {p : Addr} (hp : g ≠ p.block) (u : Value) : Blk (w.setCell p u) g t cs := (Below.heap_setCell w p u g hp).trans h
theorem Blk.below {B : Nat} (h : Blk w g t cs) (hb : Below B w w') (hg : g < B) : Blk w' g t cs := (hb.block g hg).trans h
theorem Blk.grown {row : Option Nat} (h : Blk w g t cs) (hb : w.grownBy w' row) (hg : some g ≠ row) : Blk w' g t cs := (hb.block g h.lt hg).trans h
end

theorem Rd.take {α : Type} {R : Rep α} {w : World} {B n c k : Nat} {A : Option Addr} {l : List α} (h : Rd R w B A n c l) (hk : k ≤ n) : Rd R w B A k c (l.take k) := by
  refine ⟨by rw [List.length_take, h.len]; omega, Nat.le_trans hk h.cap, h.max, Nat.le_trans (Nat.mul_le_mul_right _ hk) h.lim, h.nil, fun i hi => ?_⟩
  have hi' : i < l.length := by rw [List.length_take] at hi; omega
  obtain ⟨b, off, vs, e, hb, hr, hc⟩ := h.at_ i hi'
  exact ⟨b, off, vs, e, hb, by rw [List.getElem_take]; exact hr, hc⟩
/-- a block of bytes as a slice -/
theorem rd_of_blk {w : World} {g : Nat} {t : TypeId} {cs : Array Value} (l : List UInt8) (h : Blk w g t cs) (hl : cs.toList = l.map fun b => Value.int .u8 (b.toNat : Int)) (hm : l.length ≤ 140737488355328) : Rd u8R w w.heap.size (some ⟨g, 0, none⟩) l.length l.length l := by
  refine ⟨rfl, Nat.le_refl _, by unfold maxLen; omega, by simpa [u8R] using hm, fun e => (by cases e), fun i hi => ?_⟩
  refine ⟨g, 0, _, rfl, h.lt, rfl, fun j u hu => ?_⟩
  have hj : j = 0 := by
    cases j with
    | zero => rfl
    | succ j => simp at hu
  subst hj
  simp at hu
  subst hu
  have := h.cell i
  rw [← Array.getElem?_toList, hl] at this
  simpa [u8R, hi] using this

/-- a literal of bytes, just laid -/
theorem rd_lit {w : World} {g : Nat} (t : TypeId) (cs : Array Value) (l : List UInt8) (n : Nat) (hg : g = w.heap.size) (hl : cs.toList = l.map fun b => Value.int .u8 (b.toNat : Int)) (hn : l.length = n) (hm : n ≤ 140737488355328) : Rd u8R (w.alloc (.cells cs t)) (w.alloc (.cells cs t)).heap.size (some ⟨g, 0, none⟩) n n l := by
  subst hn
  exact rd_of_blk l (Blk.new' t cs hg) hl hm
theorem Rd.alloc {α : Type} {R : Rep α} {w : World} {B n c : Nat} {A : Option Addr} {l : List α} (h : Rd R w B A n c l) (hB : B ≤ w.heap.size) (o : Obj) : Rd R (w.alloc o) B A n c l :=
  h.keep (Nat.le_refl _) fun p hp => World.cell?_alloc_lt w o p (by omega)


/-! rows of the call's own, kept -/
section
variable {w w' : World} {base : Nat} {e : TypeId} {size : Nat} {v : Value} {n : Nat} {xs : List Value}
theorem own_low {B : Nat} (h : w.ownsRow base e size v n xs) (hb : Below B w w') (hB : w.heap.size ≤ B) : w'.ownsRow base e size v n xs :=
  h.kept (row := none) ⟨hb.os, hb.tape, hb.output, hb.size, fun k hk _ => hb.block k (by omega)⟩ (by cases v.ownBlock <;> simp)
theorem own_far (h : w.ownsRow base e size v n xs) {p : Addr} (hp : p.block < base) (u : Value) : (w.setCell p u).ownsRow base e size v n xs := ownsRow_setCell_below h hp u
theorem own_ext (h : w.ownsRow base e size v n xs) (os : Array Obj) (d : Nat) : (ext w os d).ownsRow base e size v n xs := own_low h (below_ext w os d) (Nat.le_refl _)
end

/-! this program's structs -/
abbrev bucketR : Rep (Int × Int × Int × Int × Unit) := pairR intR (pairR intR (pairR intR (pairR intR unitR)))
theorem bucket_of {w : World} {B : Nat} {x : Int × Int × Int × Int × Unit} {cs : Array Value} (h : bucketR.rel w B x cs.toList) :
    ∃ r u s a, cs = #[.int .i64 r, .int .i64 u, .int .i64 s, .int .i64 a] ∧ I64 r ∧ I64 u ∧ I64 s ∧ I64 a := by
  obtain ⟨_, _, e0, ⟨rfl, h1⟩, _, _, rfl, ⟨rfl, h2⟩, _, _, rfl, ⟨rfl, h3⟩, _, _, rfl, ⟨rfl, h4⟩, rfl⟩ := h
  exact ⟨_, _, _, _, by cases cs; simp_all, h1, h2, h3, h4⟩
end Go.Proofs.YtemgbfppdopfbaaDoor
