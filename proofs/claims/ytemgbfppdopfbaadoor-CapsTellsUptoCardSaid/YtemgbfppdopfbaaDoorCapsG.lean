/- A name mixed, plain: by its own bits, its bits, the same but for small letters, unlike bits. No function of the program. -/
import Derived.Test.YtemgbfppdopfbaaDoorCapsD
namespace Go.Proofs.YtemgbfppdopfbaaDoor
set_option linter.unusedVariables false
set_option linter.unusedSimpArgs false

open Go.RowKit in
theorem rd_litC {w : World} {g : Nat} (t : TypeId) {cs : Array Value} (l : List ByteArray) (n : Nat) (hg : g = w.heap.size) (hl : cs.toList = strsV l) (hs : ∀ s ∈ l, s.size ≤ 140737488355328) (hn : l.length = n) (hm : n ≤ 1000) :
    Rd strR (w.alloc (.cells cs t)) (w.alloc (.cells cs t)).heap.size (some ⟨g, 0, none⟩) n n l := by
  subst hn
  subst hg
  have h := Blk.new w t cs
  refine ⟨rfl, Nat.le_refl _, by unfold maxLen; omega, by simp only [strR]; omega, fun e => (by cases e), fun i hi => ?_⟩
  refine ⟨_, 0, _, rfl, h.lt, ⟨rfl, hs _ (List.getElem_mem hi)⟩, fun j u hu => ?_⟩
  have hj : j = 0 := by
    cases j with
    | zero => rfl
    | succ j => simp at hu
  subst hj
  simp only [List.getElem?_cons_zero, Option.some.injEq] at hu
  subst hu
  have := h.cell i
  rw [← Array.getElem?_toList, hl] at this
  simpa [strR, hi] using this
theorem Rd.boolD {w : World} {B n c : Nat} {A : Option Addr} {l : List Bool} (h : Rd boolR w B A n c l) (i : Nat) (hi : i < n) :
    ∃ b off, A = some ⟨b, off, none⟩ ∧ b < B ∧ w.cell? ⟨b, off + i, none⟩ = some (.bool (l.getD i false)) := by
  obtain ⟨b, off, vs, e, hb, rfl, hc⟩ := h.at_ i (by rw [h.len]; exact hi)
  refine ⟨b, off, e, hb, ?_⟩
  have := hc 0 _ rfl
  rw [List.getD_eq_getElem?_getD, List.getElem?_eq_getElem (by rw [h.len]; exact hi)]
  simpa [boolR] using this
theorem mixS_len (ns : List ByteArray) (bl : List Bool) : (mixS ns bl).length = ns.length := by
  unfold mixS
  rw [List.length_map, mixN_len, List.length_map]
theorem bytes_back (ns : List ByteArray) : ((ns.map bytesOf).map fun l : List UInt8 => (⟨l.toArray⟩ : ByteArray)) = ns := by
  rw [List.map_map]
  have : ((fun l : List UInt8 => (⟨l.toArray⟩ : ByteArray)) ∘ bytesOf) = id := by
    funext s
    cases s
    rfl
  rw [this, List.map_id]
theorem mixS_own (ns : List ByteArray) : mixS ns (bitsN (ns.map bytesOf)) = ns := by
  unfold mixS
  have := mixN_own (ns.map bytesOf) []
  rw [List.append_nil] at this
  rw [this, bytes_back]
theorem mixS_bits (ns : List ByteArray) (a : List Bool) (h : (bitsN (ns.map bytesOf)).length ≤ a.length) : bitsN ((mixS ns a).map bytesOf) = a.take (bitsN (ns.map bytesOf)).length := by
  rw [mixS_bytes, mixN_bits _ _ h]
theorem mixS_inj {ns : List ByteArray} {a b : List Bool} (ha : (bitsN (ns.map bytesOf)).length ≤ a.length) (hb : (bitsN (ns.map bytesOf)).length ≤ b.length) : mixS ns a = mixS ns b ↔ a.take (bitsN (ns.map bytesOf)).length = b.take (bitsN (ns.map bytesOf)).length := by
  rw [← mixN_inj ha hb]
  constructor
  · intro h
    rw [← mixS_bytes, ← mixS_bytes, h]
  · intro h
    unfold mixS
    rw [h]
theorem low_mix (b : UInt8) (h : letterB b = true) (g : Bool) : lowB (mix1 b g) = lowB b := by
  have hg : ∀ b : UInt8, letterB b = true → ∀ g, lowB (mix1 b g) = lowB b := by
    intro b
    refine byte_all (P := fun b => letterB b = true → ∀ g, lowB (mix1 b g) = lowB b) ?_ b
    decide +kernel
  exact hg b h g
theorem low_mixB : ∀ (l : List UInt8) (bs : List Bool), (mixB l bs).map lowB = l.map lowB
  | [], bs => rfl
  | b :: l, bs => by
    rw [mixB]
    by_cases h : letterB b = true
    · rw [if_pos h, List.map_cons, List.map_cons, low_mix b h, low_mixB l _]
    · rw [if_neg h, List.map_cons, List.map_cons, low_mixB l _]
theorem low_mixN : ∀ (n : List (List UInt8)) (bs : List Bool), (mixN n bs).map (List.map lowB) = n.map (List.map lowB)
  | [], bs => rfl
  | l :: n, bs => by rw [mixN, List.map_cons, List.map_cons, low_mixB, low_mixN n _]
theorem mixS_same (ns : List ByteArray) (a : List Bool) : sameL (mixS ns a) ns = true := by
  unfold sameL
  rw [decide_eq_true_iff]
  have h := congrArg (List.map fun l : List UInt8 => (⟨l.toArray⟩ : ByteArray)) (low_mixN (ns.map bytesOf) a)
  rw [← mixS_bytes] at h
  have e : ∀ m : List ByteArray, (((m.map bytesOf).map (List.map lowB)).map fun l : List UInt8 => (⟨l.toArray⟩ : ByteArray)) = m.map smallS := by
    intro m
    rw [List.map_map, List.map_map]
    rfl
  rwa [e, e] at h
/-- are the first so many the same? -/
def alikeK (a b : List Bool) (i : Nat) : Bool := decide (a.take i = b.take i)
theorem alikeK_zero (a b : List Bool) : alikeK a b 0 = true := by simp [alikeK]
theorem alikeK_succ (a b : List Bool) (i : Nat) (ha : i < a.length) (hb : i < b.length) : alikeK a b (i + 1) = (alikeK a b i && (a.getD i false == b.getD i false)) := by
  unfold alikeK
  rw [List.take_succ_eq_append_getElem ha, List.take_succ_eq_append_getElem hb]
  have h1 : a.getD i false = a[i] := by rw [List.getD_eq_getElem?_getD, List.getElem?_eq_getElem ha]; rfl
  have h2 : b.getD i false = b[i] := by rw [List.getD_eq_getElem?_getD, List.getElem?_eq_getElem hb]; rfl
  rw [h1, h2, Bool.eq_iff_iff, Bool.and_eq_true, decide_eq_true_iff, decide_eq_true_iff, beq_iff_eq]
  constructor
  · intro h
    have := List.append_inj' h rfl
    exact ⟨this.1, by simpa using this.2⟩
  · rintro ⟨h, h'⟩
    rw [h, h']
theorem take_getD {a : List Bool} {i n : Nat} (h : i < n) : (a.take n).getD i false = a.getD i false := by
  rw [List.getD_eq_getElem?_getD, List.getD_eq_getElem?_getD, List.getElem?_take_of_lt h]
end Go.Proofs.YtemgbfppdopfbaaDoor
