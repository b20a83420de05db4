/- Messages as they are read, in plain Lean: questions and records one behind the other; what was sent is read. No function of the program. -/
import Derived.Test.YtkdfiedemhjjjaaMsgP
namespace Go.Proofs.Ytkdfiedemhjjjaa
set_option linter.unusedVariables false

def rdQ (b : List UInt8) : Nat → Nat → List QT → Int × List QT × Nat
  | 0, p, acc => (0, acc, p)
  | k + 1, p, acc => if (rdN b p).1 = 0 then (if (rdN b p).2.2.toNat + 4 ≤ b.length then rdQ b k ((rdN b p).2.2.toNat + 4) (acc ++ [(((rdN b p).2.1, ((at2 b (rdN b p).2.2.toNat : Nat) : Int), ((at2 b ((rdN b p).2.2.toNat + 2) : Nat) : Int), ()) : QT)]) else (2, [], 0)) else ((rdN b p).1, [], 0)
def rdR (b : List UInt8) : Nat → Nat → List RecT → Int × List RecT × Nat
  | 0, p, acc => (0, acc, p)
  | k + 1, p, acc => if (rrF b p).1 = 0 then rdR b k (rrF b p).2.2.2 (acc ++ [recOf b (rrF b p).2.1 (rrF b p).2.2.1 (rrF b p).2.2.2]) else ((rrF b p).1, [], 0)
theorem rdQ_step {b : List UInt8} {k p q : Nat} {acc : List QT} {l : List ByteArray} (h : rdN b p = (0, l, (q : Int))) (hq : q + 4 ≤ b.length) : rdQ b (k + 1) p acc = rdQ b k (q + 4) (acc ++ [((l, ((at2 b q : Nat) : Int), ((at2 b (q + 2) : Nat) : Int), ()) : QT)]) := by
  rw [rdQ, h]
  simp only [Int.toNat_natCast, if_true]
  rw [if_pos hq]
theorem rdQ_short {b : List UInt8} {k p q : Nat} {acc : List QT} {l : List ByteArray} (h : rdN b p = (0, l, (q : Int))) (hq : ¬ q + 4 ≤ b.length) : rdQ b (k + 1) p acc = (2, [], 0) := by
  rw [rdQ, h]
  simp only [Int.toNat_natCast, if_true]
  rw [if_neg hq]
theorem rdQ_bad {b : List UInt8} {k p : Nat} {acc : List QT} {e : Int} (h : (rdN b p).1 = e) (he : e ≠ 0) : rdQ b (k + 1) p acc = (e, [], 0) := by
  rw [rdQ, h, if_neg he]
theorem rdR_step {b : List UInt8} {k p q en : Nat} {acc : List RecT} {l : List ByteArray} (h : rrF b p = (0, l, q, en)) : rdR b (k + 1) p acc = rdR b k en (acc ++ [recOf b l q en]) := by
  rw [rdR, h, if_pos rfl]
theorem rdR_bad {b : List UInt8} {k p : Nat} {acc : List RecT} {e : Int} (h : (rrF b p).1 = e) (he : e ≠ 0) : rdR b (k + 1) p acc = (e, [], 0) := by
  rw [rdR, h, if_neg he]
theorem rdN_nat {b : List UInt8} {p : Nat} (h : (rdN b p).1 = 0) : ∃ l q, rdN b p = (0, l, ((q : Nat) : Int)) ∧ nameErr l = 0 ∧ q ≤ b.length ∧ p < q := by
  obtain ⟨a, k, h1, h2, h3, h4⟩ := rdN_ok.1 (show rdN b p = (0, (rdN b p).2.1, (rdN b p).2.2) by rw [← h])
  have h5 := h3.lt
  exact ⟨_, k, by rw [← h2, ← h], h4, h5.2.1, by omega⟩
theorem rrF_nat {b : List UInt8} {p : Nat} (h : (rrF b p).1 = 0) : ∃ l q en, rrF b p = (0, l, q, en) ∧ nameErr l = 0 ∧ q + 10 ≤ en ∧ en ≤ b.length ∧ p < q := by
  have hh : rrF b p = (0, (rrF b p).2.1, (rrF b p).2.2.1, (rrF b p).2.2.2) := by rw [← h]
  obtain ⟨h1, h2, h3, h4⟩ := rrF_ok.1 hh
  obtain ⟨l, q, e1, e2, e3, e4⟩ := rdN_nat (b := b) (p := p) (by rw [h1])
  rw [e1] at h1
  simp only [Prod.mk.injEq, true_and] at h1
  have : q = (rrF b p).2.2.1 := by omega
  exact ⟨_, _, _, hh, by rw [← h1.1]; exact e2, by omega, h4, by omega⟩
/-- what was sent is read, whatever stands behind it -/
theorem rdQ_wr : ∀ (qs : List QT) (b : List UInt8) (ss : List Int) (b' : List UInt8) (ss' : List Int), wrQ qs b ss = (0, b', ss') → (∃ t, b' = b ++ t) ∧ ∀ k acc, rdQ (b' ++ k) qs.length b.length acc = (0, acc ++ qs, b'.length)
  | [], b, ss, b', ss', h => by
    simp only [wrQ, Prod.mk.injEq, true_and] at h
    obtain ⟨rfl, _⟩ := h
    exact ⟨⟨[], by simp⟩, fun k acc => by simp [rdQ]⟩
  | q :: qs, b, ss, b', ss', h => by
    rw [wrQ] at h
    by_cases hq : qErr q = 0
    · rw [if_pos hq] at h
      obtain ⟨⟨t, ht⟩, ih⟩ := rdQ_wr qs _ _ _ _ h
      obtain ⟨h0, ⟨t0, t1⟩, c0, c1⟩ := qErr_zero hq
      refine ⟨⟨packT b ss q.1 ++ (two2 q.2.1 ++ two2 q.2.2.1) ++ t, by rw [ht]; simp [qB]⟩, fun k acc => ?_⟩
      have hn := rdN_app (pack_back b ss q.1 h0) (two2 q.2.1 ++ (two2 q.2.2.1 ++ (t ++ k)))
      have e : b' ++ k = b ++ packT b ss q.1 ++ (two2 q.2.1 ++ (two2 q.2.2.1 ++ (t ++ k))) := by rw [ht]; simp [qB]
      rw [← e] at hn
      have a0 := at2_app (b ++ packT b ss q.1) (two2 q.2.1 ++ (two2 q.2.2.1 ++ (t ++ k))) 0
      have a2 := at2_app (b ++ packT b ss q.1) (two2 q.2.1 ++ (two2 q.2.2.1 ++ (t ++ k))) 2
      rw [← e] at a0 a2
      rw [Nat.add_zero] at a0
      have e2 := at2_two q.2.1 (two2 q.2.2.1 ++ (t ++ k)) 0
      have hl : (b' ++ k).length = (b ++ packT b ss q.1).length + 4 + (t ++ k).length := by rw [e]; simp only [List.length_append, two2_len]; omega
      rw [List.length_cons, rdQ_step hn (by omega), a0, a2, e2, two2_at _ _ t0 t1, two2_at _ _ c0 c1]
      have := ih k (acc ++ [(q.1, q.2.1, q.2.2.1, ())])
      rw [show (qB b ss q).length = (b ++ packT b ss q.1).length + 4 by simp [qB, two2_len]; omega] at this
      rw [this]
      obtain ⟨q1, q2, q3, u⟩ := q
      simp
    · rw [if_neg hq] at h
      simp only [Prod.mk.injEq] at h
      exact absurd h.1 hq
theorem rdR_wr : ∀ (rs : List RecT) (b : List UInt8) (ss : List Int) (b' : List UInt8) (ss' : List Int), wrR rs b ss = (0, b', ss') → (∃ t, b' = b ++ t) ∧ ∀ k acc, rdR (b' ++ k) rs.length b.length acc = (0, acc ++ rs, b'.length)
  | [], b, ss, b', ss', h => by
    simp only [wrR, Prod.mk.injEq, true_and] at h
    obtain ⟨rfl, _⟩ := h
    exact ⟨⟨[], by simp⟩, fun k acc => by simp [rdR]⟩
  | r :: rs, b, ss, b', ss', h => by
    rw [wrR] at h
    by_cases hr : recErr r = 0
    · rw [if_pos hr] at h
      obtain ⟨⟨t, ht⟩, ih⟩ := rdR_wr rs _ _ _ _ h
      obtain ⟨g1, g2⟩ := rr_back b ss r hr
      refine ⟨⟨packT b ss r.1 ++ recTail r.2.1 r.2.2.1 r.2.2.2.1 r.2.2.2.2.1 ++ t, by rw [ht]; simp [recB]⟩, fun k acc => ?_⟩
      obtain ⟨f1, f2⟩ := rrF_app g1 (t ++ k)
      rw [← List.append_assoc, ← ht] at f1 f2
      rw [List.length_cons, rdR_step f1, f2, g2, ih k (acc ++ [r])]
      simp
    · rw [if_neg hr] at h
      simp only [Prod.mk.injEq] at h
      exact absurd h.1 hr
/-- what is read could be sent -/
theorem rdQ_good : ∀ (k : Nat) (b : List UInt8) (p : Nat) (acc : List QT), (rdQ b k p acc).1 = 0 → (∀ q ∈ acc, qErr q = 0) → (∀ q ∈ (rdQ b k p acc).2.1, qErr q = 0) ∧ (rdQ b k p acc).2.1.length = acc.length + k ∧ (p ≤ b.length → (rdQ b k p acc).2.2 ≤ b.length)
  | 0, b, p, acc, h, ha => ⟨ha, rfl, fun h => h⟩
  | k + 1, b, p, acc, h, ha => by
    by_cases h0 : (rdN b p).1 = 0
    · obtain ⟨l, q, e1, e2, e3, e4⟩ := rdN_nat h0
      by_cases hq : q + 4 ≤ b.length
      · rw [rdQ_step e1 hq] at h ⊢
        obtain ⟨i1, i2, i3⟩ := rdQ_good k b (q + 4) _ h (by
          intro x hx
          rcases List.mem_append.1 hx with hx | hx
          · exact ha x hx
          · rw [List.mem_singleton] at hx
            subst hx
            have z1 := at2_le b q
            have z2 := at2_le b (q + 2)
            unfold qErr
            rw [if_pos e2, if_pos ⟨by simp, by simp only; omega, by simp, by simp only; omega⟩])
        exact ⟨i1, by rw [i2]; simp; omega, fun _ => i3 hq⟩
      · rw [rdQ_short e1 hq] at h; exact absurd h (by decide)
    · rw [rdQ_bad rfl h0] at h; exact absurd h h0
theorem rdR_good : ∀ (k : Nat) (b : List UInt8) (p : Nat) (acc : List RecT), (rdR b k p acc).1 = 0 → (∀ r ∈ acc, recErr r = 0) → (∀ r ∈ (rdR b k p acc).2.1, recErr r = 0) ∧ (rdR b k p acc).2.1.length = acc.length + k ∧ (p ≤ b.length → (rdR b k p acc).2.2 ≤ b.length)
  | 0, b, p, acc, h, ha => ⟨ha, rfl, fun h => h⟩
  | k + 1, b, p, acc, h, ha => by
    by_cases h0 : (rrF b p).1 = 0
    · obtain ⟨l, q, en, e1, e2, e3, e4, e5⟩ := rrF_nat h0
      rw [rdR_step e1] at h ⊢
      obtain ⟨_, _, e6, _⟩ := rrF_ok.1 e1
      obtain ⟨i1, i2, i3⟩ := rdR_good k b en _ h (by
        intro x hx
        rcases List.mem_append.1 hx with hx | hx
        · exact ha x hx
        · rw [List.mem_singleton] at hx
          subst hx
          have z1 := at2_le b q
          have z2 := at2_le b (q + 2)
          have z3 := at2_le b (q + 4)
          have z4 := at2_le b (q + 6)
          have z5 := at2_le b (q + 8)
          unfold recErr recOf
          simp only
          rw [if_pos e2, if_pos (by omega), if_pos (by rw [List.length_take]; omega)])
      exact ⟨i1, by rw [i2]; simp; omega, fun _ => i3 e4⟩
    · rw [rdR_bad rfl h0] at h; exact absurd h h0
theorem wrQ_good : ∀ (qs : List QT) (b : List UInt8) (ss : List Int), (∀ q ∈ qs, qErr q = 0) → (wrQ qs b ss).1 = 0
  | [], b, ss, _ => rfl
  | q :: qs, b, ss, h => by
    rw [wrQ, if_pos (h q (by simp))]
    exact wrQ_good qs _ _ fun x hx => h x (by simp [hx])
theorem wrR_good : ∀ (rs : List RecT) (b : List UInt8) (ss : List Int), (∀ r ∈ rs, recErr r = 0) → (wrR rs b ss).1 = 0
  | [], b, ss, _ => rfl
  | r :: rs, b, ss, h => by
    rw [wrR, if_pos (h r (by simp))]
    exact wrR_good rs _ _ fun x hx => h x (by simp [hx])

/-- a message's parts that are read: what is wrong, the questions, the three rows of records -/
def rdM (b : List UInt8) : Int × List QT × List RecT × List RecT × List RecT :=
  if b.length < 12 then (2, [], [], [], [])
  else if (rdQ b (at2 b 4) 12 []).1 = 0 then
    if (rdR b (at2 b 6) (rdQ b (at2 b 4) 12 []).2.2 []).1 = 0 then
      if (rdR b (at2 b 8) (rdR b (at2 b 6) (rdQ b (at2 b 4) 12 []).2.2 []).2.2 []).1 = 0 then
        if (rdR b (at2 b 10) (rdR b (at2 b 8) (rdR b (at2 b 6) (rdQ b (at2 b 4) 12 []).2.2 []).2.2 []).2.2 []).1 = 0 then
          if (rdR b (at2 b 10) (rdR b (at2 b 8) (rdR b (at2 b 6) (rdQ b (at2 b 4) 12 []).2.2 []).2.2 []).2.2 []).2.2 < b.length then (8, [], [], [], [])
          else (0, (rdQ b (at2 b 4) 12 []).2.1, (rdR b (at2 b 6) (rdQ b (at2 b 4) 12 []).2.2 []).2.1, (rdR b (at2 b 8) (rdR b (at2 b 6) (rdQ b (at2 b 4) 12 []).2.2 []).2.2 []).2.1, (rdR b (at2 b 10) (rdR b (at2 b 8) (rdR b (at2 b 6) (rdQ b (at2 b 4) 12 []).2.2 []).2.2 []).2.2 []).2.1)
        else ((rdR b (at2 b 10) (rdR b (at2 b 8) (rdR b (at2 b 6) (rdQ b (at2 b 4) 12 []).2.2 []).2.2 []).2.2 []).1, [], [], [], [])
      else ((rdR b (at2 b 8) (rdR b (at2 b 6) (rdQ b (at2 b 4) 12 []).2.2 []).2.2 []).1, [], [], [], [])
    else ((rdR b (at2 b 6) (rdQ b (at2 b 4) 12 []).2.2 []).1, [], [], [], [])
  else ((rdQ b (at2 b 4) 12 []).1, [], [], [], [])
end Go.Proofs.Ytkdfiedemhjjjaa
