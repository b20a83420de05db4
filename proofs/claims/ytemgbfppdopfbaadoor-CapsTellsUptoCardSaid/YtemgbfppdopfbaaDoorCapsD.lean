/- A name mixed letter by letter, plain: as one by its bits at once. No function of the program. -/
import Derived.Test.YtemgbfppdopfbaaDoorCapsC
namespace Go.Proofs.YtemgbfppdopfbaaDoor
set_option linter.unusedVariables false
set_option linter.unusedSimpArgs false

def mixStep (bits : List Bool) (s : List (List UInt8) × Nat) (x : Nat × Nat) : List (List UInt8) × Nat :=
  (s.1.set x.1 ((s.1.getD x.1 []).set x.2 (mix1 ((s.1.getD x.1 []).getD x.2 0) (bits.getD s.2 false))), s.2 + 1)
def mixF (rows : List (List UInt8)) (bits : List Bool) (pre : List (Nat × Nat)) : List (List UInt8) × Nat := pre.foldl (mixStep bits) (rows, 0)
theorem mixF_snoc (rows : List (List UInt8)) (bits : List Bool) (pre : List (Nat × Nat)) (x : Nat × Nat) : mixF rows bits (pre ++ [x]) = mixStep bits (mixF rows bits pre) x := by simp [mixF, List.foldl_append]
theorem mixB_app : ∀ (a b : List UInt8) (bs : List Bool), mixB (a ++ b) bs = mixB a bs ++ mixB b (bs.drop (bitsB a).length)
  | [], b, bs => by simp [mixB, bitsB]
  | x :: a, b, bs => by
    rw [List.cons_append, mixB, mixB, bitsB_cons]
    by_cases h : letterB x = true
    · rw [if_pos h, if_pos h, if_pos h, mixB_app a b bs.tail, List.length_cons, List.cons_append]
      congr 3
      cases bs <;> simp
    · rw [if_neg h, if_neg h, if_neg h, mixB_app a b bs, List.cons_append]
theorem mixN_app : ∀ (a : List (List UInt8)) (l : List UInt8) (bs : List Bool), mixN (a ++ [l]) bs = mixN a bs ++ [mixB l (bs.drop (bitsN a).length)]
  | [], l, bs => by simp [mixN, bitsN]
  | x :: a, l, bs => by
    rw [List.cons_append, mixN, mixN, mixN_app a l _, bitsN_cons, List.cons_append, List.drop_drop, List.length_append]
theorem bitsB_snoc (a : List UInt8) (x : UInt8) : bitsB (a ++ [x]) = bitsB a ++ bitsB [x] := by unfold bitsB; rw [List.filter_append, List.map_append]
theorem bitsB_one (x : UInt8) : bitsB [x] = if letterB x = true then [greatB x] else [] := by rw [bitsB_cons]; rfl
theorem row_state (l : List UInt8) (bits : List Bool) (rows : List (List UInt8)) (i cnt : Nat) (hi : i < rows.length) (hl : rows[i] = l) : ∀ K, K ≤ l.length →
    (posK l i K).foldl (mixStep bits) (rows, cnt) = (rows.set i (mixB (l.take K) (bits.drop cnt) ++ l.drop K), cnt + (bitsB (l.take K)).length)
  | 0, _ => by
    rw [posK_zero]
    simp only [List.foldl_nil, List.take_zero, List.drop_zero, mixB, List.nil_append]
    rw [← hl, List.set_getElem_self]
    rfl
  | K + 1, hK => by
    have ih := row_state l bits rows i cnt hi hl K (by omega)
    have hKl : K < l.length := by omega
    have ht : l.take (K + 1) = l.take K ++ [l[K]] := List.take_succ_eq_append_getElem hKl
    have hg : l.getD K 0 = l[K] := by rw [List.getD_eq_getElem?_getD, List.getElem?_eq_getElem hKl]; rfl
    have hlen : (mixB (l.take K) (bits.drop cnt)).length = K := by rw [mixB_len, List.length_take]; omega
    rw [ht, mixB_app, bitsB_snoc, bitsB_one]
    cases hc : letterB (l.getD K 0) with
    | true =>
      rw [posK_yes hc, List.foldl_append, ih]
      rw [hg] at hc
      simp only [List.foldl_cons, List.foldl_nil, mixStep]
      have e1 : (rows.set i (mixB (l.take K) (bits.drop cnt) ++ l.drop K)).getD i [] = mixB (l.take K) (bits.drop cnt) ++ l.drop K := by
        rw [List.getD_eq_getElem?_getD, List.getElem?_set_self hi]
        rfl
      have e2 : (mixB (l.take K) (bits.drop cnt) ++ l.drop K).getD K 0 = l[K] := by
        rw [List.getD_eq_getElem?_getD, List.getElem?_append_right (by omega), hlen, Nat.sub_self, List.getElem?_drop, Nat.add_zero, List.getElem?_eq_getElem hKl]
        rfl
      have e3 : mixB [l[K]] ((bits.drop cnt).drop (bitsB (l.take K)).length) = [mix1 l[K] (bits.getD (cnt + (bitsB (l.take K)).length) false)] := by
        rw [mixB, if_pos hc, List.drop_drop, mixB, List.headD_eq_head?_getD, List.head?_drop, List.getD_eq_getElem?_getD]
      rw [e1, e2, e3, List.set_set, if_pos hc]
      refine Prod.ext ?_ (by simp; omega)
      simp only
      congr 1
      rw [List.set_append_right _ _ (by omega), hlen, Nat.sub_self, List.drop_eq_getElem_cons hKl, List.set_cons_zero, List.append_assoc]
      rfl
    | false =>
      rw [posK_no hc, ih]
      rw [hg] at hc
      rw [if_neg (by rw [hc]; simp), mixB, if_neg (by rw [hc]; simp), mixB, List.append_nil, List.append_assoc]
      rw [List.drop_eq_getElem_cons hKl]
      rfl
theorem all_state (ns : List ByteArray) (bits : List Bool) : ∀ I, I ≤ ns.length →
    mixF (ns.map bytesOf) bits (posN ns I) = (mixN ((ns.map bytesOf).take I) bits ++ (ns.map bytesOf).drop I, (bitsN ((ns.map bytesOf).take I)).length)
  | 0, _ => by simp [mixF, posN_zero, mixN, bitsN]
  | I + 1, hI => by
    have ih := all_state ns bits I (by omega)
    have hIl : I < (ns.map bytesOf).length := by rw [List.length_map]; omega
    have ht : (ns.map bytesOf).take (I + 1) = (ns.map bytesOf).take I ++ [(ns.map bytesOf)[I]] := List.take_succ_eq_append_getElem hIl
    have hg : ns.getD I .empty = ns[I] := by rw [List.getD_eq_getElem?_getD, List.getElem?_eq_getElem (by omega)]; rfl
    have hlen : (mixN ((ns.map bytesOf).take I) bits).length = I := by rw [mixN_len, List.length_take]; omega
    unfold mixF at ih ⊢
    rw [posN_succ, List.foldl_append, ih, hg]
    have hget : (mixN ((ns.map bytesOf).take I) bits ++ (ns.map bytesOf).drop I)[I]'(by rw [List.length_append, hlen, List.length_drop]; omega) = bytesOf ns[I] := by
      rw [List.getElem_append_right (by omega)]
      simp [hlen]
    rw [row_state (bytesOf ns[I]) bits _ I _ (by rw [List.length_append, hlen, List.length_drop]; omega) hget ns[I].size (by rw [bytesOf_len]; exact Nat.le_refl _)]
    have hfull : (bytesOf ns[I]).take ns[I].size = bytesOf ns[I] := List.take_of_length_le (by rw [bytesOf_len]; exact Nat.le_refl _)
    have hnone : (bytesOf ns[I]).drop ns[I].size = [] := List.drop_eq_nil_of_le (by rw [bytesOf_len]; exact Nat.le_refl _)
    have hm : (ns.map bytesOf)[I] = bytesOf ns[I] := by rw [List.getElem_map]
    rw [hfull, hnone, List.append_nil, ht, mixN_app, hm]
    refine Prod.ext ?_ ?_
    · simp only
      rw [List.set_append_right _ _ (by omega), hlen, Nat.sub_self, List.drop_eq_getElem_cons hIl, List.set_cons_zero, List.append_assoc]
      rfl
    · simp only
      unfold bitsN
      rw [List.flatMap_append, List.length_append]
      simp
theorem mix_whole (ns : List ByteArray) (bits : List Bool) : (mixF (ns.map bytesOf) bits (posN ns ns.length)).1 = mixN (ns.map bytesOf) bits := by
  rw [all_state ns bits ns.length (Nat.le_refl _)]
  have e : ns.length = (ns.map bytesOf).length := by rw [List.length_map]
  rw [e, List.take_length, List.drop_length, List.append_nil]
theorem mixStep_lens (bits : List Bool) (s : List (List UInt8) × Nat) (x : Nat × Nat) : (mixStep bits s x).1.map List.length = s.1.map List.length := by
  unfold mixStep
  simp only
  apply List.ext_getElem?
  intro i
  rw [List.getElem?_map, List.getElem?_map, List.getElem?_set]
  by_cases h : x.1 = i
  · subst h
    rw [if_pos rfl]
    by_cases hi : x.1 < s.1.length
    · rw [if_pos hi, List.getElem?_eq_getElem hi]
      simp [List.getD_eq_getElem?_getD, List.getElem?_eq_getElem hi]
    · rw [if_neg hi, List.getElem?_eq_none (by omega)]
  · rw [if_neg h]
theorem mixF_lens (rows : List (List UInt8)) (bits : List Bool) (pre : List (Nat × Nat)) : (mixF rows bits pre).1.map List.length = rows.map List.length := by
  unfold mixF
  have : ∀ (pre : List (Nat × Nat)) (s : List (List UInt8) × Nat), (pre.foldl (mixStep bits) s).1.map List.length = s.1.map List.length := by
    intro pre
    induction pre with
    | nil => intro s; rfl
    | cons x pre ih => intro s; rw [List.foldl_cons, ih, mixStep_lens]
  exact this pre (rows, 0)
theorem mixF_cnt (rows : List (List UInt8)) (bits : List Bool) (pre : List (Nat × Nat)) : (mixF rows bits pre).2 = pre.length := by
  unfold mixF
  have : ∀ (pre : List (Nat × Nat)) (s : List (List UInt8) × Nat), (pre.foldl (mixStep bits) s).2 = s.2 + pre.length := by
    intro pre
    induction pre with
    | nil => intro s; rfl
    | cons x pre ih => intro s; rw [List.foldl_cons, ih]; simp [mixStep]; omega
  have := this pre (rows, 0)
  simpa using this
/-- a name mixed -/
def mixS (ns : List ByteArray) (bits : List Bool) : List ByteArray := (mixN (ns.map bytesOf) bits).map fun l => ⟨l.toArray⟩
theorem mixS_bytes (ns : List ByteArray) (bits : List Bool) : (mixS ns bits).map bytesOf = mixN (ns.map bytesOf) bits := by
  unfold mixS
  rw [List.map_map]
  have : (bytesOf ∘ fun l : List UInt8 => (⟨l.toArray⟩ : ByteArray)) = id := by funext l; rfl
  rw [this, List.map_id]
end Go.Proofs.YtemgbfppdopfbaaDoor
