/- Messages in plain Lean: another header ahead changes nothing of what is laid behind it; more records behind; how long what is sent may be. No function of the program. -/
import Derived.Test.YtkdfiedemhjjjaaMsgT
namespace Go.Proofs.Ytkdfiedemhjjjaa
set_option linter.unusedVariables false

/-- two lists of bytes in which the same names stand at the starts -/
def Al (b b' : List UInt8) (ss : List Int) : Prop := b.length = b'.length ∧ ∀ s ∈ ss, ∃ n x y, rdN b s = (0, n, x) ∧ rdN b' s = (0, n, y)
theorem Al.find {b b' : List UInt8} (n : List ByteArray) : ∀ {ss : List Int}, Al b b' ss → findS b n ss = findS b' n ss := by
  intro ss
  induction ss with
  | nil => intro _; rfl
  | cons s ss ih =>
    intro h
    rw [findS, findS, ih ⟨h.1, fun x hx => h.2 x (by simp [hx])⟩]
    obtain ⟨l, x, y, h1, h2⟩ := h.2 s (by simp)
    rw [h1, h2]
theorem Al.packT {b b' : List UInt8} {ss : List Int} (h : Al b b' ss) : ∀ l : List ByteArray, packT b ss l = packT b' ss l := by
  intro l
  induction l with
  | nil => rfl
  | cons s l ih => rw [Go.Proofs.Ytkdfiedemhjjjaa.packT, Go.Proofs.Ytkdfiedemhjjjaa.packT, h.find, ih]
theorem Al.packN {b b' : List UInt8} {ss : List Int} (h : Al b b' ss) : ∀ (l : List ByteArray) (k : Nat), packN b ss l k = packN b' ss l k := by
  intro l
  induction l with
  | nil => intro k; rfl
  | cons s l ih => intro k; rw [Go.Proofs.Ytkdfiedemhjjjaa.packN, Go.Proofs.Ytkdfiedemhjjjaa.packN, h.find, ih]
theorem Al.pack {b b' : List UInt8} {ss : List Int} (h : Al b b' ss) {l : List ByteArray} (hl : nameErr l = 0) (t : List UInt8) : Al (b ++ Go.Proofs.Ytkdfiedemhjjjaa.packT b ss l ++ t) (b' ++ Go.Proofs.Ytkdfiedemhjjjaa.packT b' ss l ++ t) (stS b ss l) := by
  refine ⟨by simp only [List.length_append, h.1, h.packT], fun s hs => ?_⟩
  unfold stS at hs
  rcases List.mem_append.1 hs with hs | hs
  · obtain ⟨n, x, y, h1, h2⟩ := h.2 s hs
    refine ⟨n, x, y, ?_, ?_⟩
    · rw [List.append_assoc]; exact rdN_app h1 _
    · rw [List.append_assoc]; exact rdN_app h2 _
  · obtain ⟨i, hi, rfl⟩ := List.mem_iff_getElem.1 hs
    obtain ⟨_, x, h1⟩ := pack_starts b ss l hl i hi
    have hi' : i < (Go.Proofs.Ytkdfiedemhjjjaa.packN b' ss l b'.length).length := by rw [← h.packN, ← h.1]; exact hi
    obtain ⟨_, y, h2⟩ := pack_starts b' ss l hl i hi'
    have e : (Go.Proofs.Ytkdfiedemhjjjaa.packN b' ss l b'.length)[i] = (Go.Proofs.Ytkdfiedemhjjjaa.packN b ss l b.length)[i] := by
      have : Go.Proofs.Ytkdfiedemhjjjaa.packN b' ss l b'.length = Go.Proofs.Ytkdfiedemhjjjaa.packN b ss l b.length := by rw [← h.packN, ← h.1]
      simp only [this]
    rw [e] at h2
    exact ⟨l.drop i, x, y, rdN_app h1 t, rdN_app h2 t⟩
theorem wrQ_al : ∀ (qs : List QT) (b b' : List UInt8) (ss : List Int) (c : List UInt8) (s' : List Int), Al b b' ss → wrQ qs b ss = (0, c, s') → ∃ t, c = b ++ t ∧ wrQ qs b' ss = (0, b' ++ t, s') ∧ Al c (b' ++ t) s'
  | [], b, b', ss, c, s', ha, h => by
    simp only [wrQ, Prod.mk.injEq, true_and] at h
    obtain ⟨rfl, rfl⟩ := h
    exact ⟨[], by simp, by simp [wrQ], by simpa using ha⟩
  | q :: qs, b, b', ss, c, s', ha, h => by
    rw [wrQ] at h
    by_cases hq : qErr q = 0
    · rw [if_pos hq] at h
      have h2 := ha.pack (qErr_zero hq).1 (two2 q.2.1 ++ two2 q.2.2.1)
      obtain ⟨t, rfl, g1, g2⟩ := wrQ_al qs (qB b ss q) (qB b' ss q) (stS b ss q.1) c s' h2 h
      refine ⟨packT b ss q.1 ++ (two2 q.2.1 ++ two2 q.2.2.1) ++ t, by simp [qB], ?_, ?_⟩
      · rw [wrQ, if_pos hq]
        have e : stS b' ss q.1 = stS b ss q.1 := by unfold stS; rw [← ha.packN, ← ha.1]
        rw [e, g1]
        simp [qB, ha.packT]
      · have e : b' ++ (packT b ss q.1 ++ (two2 q.2.1 ++ two2 q.2.2.1) ++ t) = qB b' ss q ++ t := by simp [qB, ha.packT]
        rw [e]; exact g2
    · rw [if_neg hq] at h
      simp only [Prod.mk.injEq] at h
      exact absurd h.1 hq
theorem wrR_al : ∀ (rs : List RecT) (b b' : List UInt8) (ss : List Int) (c : List UInt8) (s' : List Int), Al b b' ss → wrR rs b ss = (0, c, s') → ∃ t, c = b ++ t ∧ wrR rs b' ss = (0, b' ++ t, s') ∧ Al c (b' ++ t) s'
  | [], b, b', ss, c, s', ha, h => by
    simp only [wrR, Prod.mk.injEq, true_and] at h
    obtain ⟨rfl, rfl⟩ := h
    exact ⟨[], by simp, by simp [wrR], by simpa using ha⟩
  | r :: rs, b, b', ss, c, s', ha, h => by
    rw [wrR] at h
    by_cases hq : recErr r = 0
    · rw [if_pos hq] at h
      have h2 := ha.pack (recErr_zero hq).1 (recTail r.2.1 r.2.2.1 r.2.2.2.1 r.2.2.2.2.1)
      obtain ⟨t, rfl, g1, g2⟩ := wrR_al rs (recB b ss r) (recB b' ss r) (stS b ss r.1) c s' h2 h
      refine ⟨packT b ss r.1 ++ (recTail r.2.1 r.2.2.1 r.2.2.2.1 r.2.2.2.2.1) ++ t, by simp [recB], ?_, ?_⟩
      · rw [wrR, if_pos hq]
        have e : stS b' ss r.1 = stS b ss r.1 := by unfold stS; rw [← ha.packN, ← ha.1]
        rw [e, g1]
        simp [recB, ha.packT]
      · have e : b' ++ (packT b ss r.1 ++ (recTail r.2.1 r.2.2.1 r.2.2.2.1 r.2.2.2.2.1) ++ t) = recB b' ss r ++ t := by simp [recB, ha.packT]
        rw [e]; exact g2
    · rw [if_neg hq] at h
      simp only [Prod.mk.injEq] at h
      exact absurd h.1 hq

/-! how long -/
def qLen (q : QT) : Nat := lsum q.1 + 1 + 4
def rLen (r : RecT) : Nat := lsum r.1 + 1 + 10 + r.2.2.2.2.1.length
theorem wrQ_len : ∀ (qs : List QT) (b : List UInt8) (ss : List Int) (c : List UInt8) (s' : List Int), wrQ qs b ss = (0, c, s') → c.length ≤ b.length + (qs.map qLen).sum ∧ ∀ q ∈ qs, qErr q = 0
  | [], b, ss, c, s', h => by
    simp only [wrQ, Prod.mk.injEq, true_and] at h
    obtain ⟨rfl, rfl⟩ := h
    exact ⟨by simp, fun q hq => (by cases hq)⟩
  | q :: qs, b, ss, c, s', h => by
    rw [wrQ] at h
    by_cases hq : qErr q = 0
    · rw [if_pos hq] at h
      obtain ⟨g1, g2⟩ := wrQ_len qs _ _ _ _ h
      have hp := (packT_len b ss q.1 (nameErr_zero.1 (qErr_zero hq).1).1).1
      refine ⟨?_, fun x hx => ?_⟩
      · rw [List.map_cons, List.sum_cons]
        unfold qB at g1
        simp only [List.length_append, two2_len] at g1
        unfold qLen at g1 ⊢
        omega
      · rcases List.mem_cons.1 hx with rfl | hx
        · exact hq
        · exact g2 x hx
    · rw [if_neg hq] at h
      simp only [Prod.mk.injEq] at h
      exact absurd h.1 hq
theorem wrR_len : ∀ (rs : List RecT) (b : List UInt8) (ss : List Int) (c : List UInt8) (s' : List Int), wrR rs b ss = (0, c, s') → c.length ≤ b.length + (rs.map rLen).sum ∧ ∀ r ∈ rs, recErr r = 0
  | [], b, ss, c, s', h => by
    simp only [wrR, Prod.mk.injEq, true_and] at h
    obtain ⟨rfl, rfl⟩ := h
    exact ⟨by simp, fun q hq => (by cases hq)⟩
  | r :: rs, b, ss, c, s', h => by
    rw [wrR] at h
    by_cases hq : recErr r = 0
    · rw [if_pos hq] at h
      obtain ⟨g1, g2⟩ := wrR_len rs _ _ _ _ h
      have hp := (packT_len b ss r.1 (nameErr_zero.1 (recErr_zero hq).1).1).1
      refine ⟨?_, fun x hx => ?_⟩
      · rw [List.map_cons, List.sum_cons]
        unfold recB at g1
        simp only [List.length_append, recTail_len] at g1
        unfold rLen at g1 ⊢
        omega
      · rcases List.mem_cons.1 hx with rfl | hx
        · exact hq
        · exact g2 x hx
    · rw [if_neg hq] at h
      simp only [Prod.mk.injEq] at h
      exact absurd h.1 hq
end Go.Proofs.Ytkdfiedemhjjjaa
