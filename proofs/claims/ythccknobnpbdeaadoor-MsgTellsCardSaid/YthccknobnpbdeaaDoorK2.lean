/- Records as they are sent, in plain Lean: what is read at a place, what is sent. No function of the program. -/
import Derived.Test.YthccknobnpbdeaaDoorK1
import Derived.Lib.AppendStr
namespace Go.Proofs.YthccknobnpbdeaaDoor
set_option linter.unusedVariables false
set_option linter.unusedSimpArgs false

/-- two bytes at a place -/
def at2 (m : List UInt8) (p : Nat) : Nat := (m.getD p 0).toNat * 256 + (m.getD (p + 1) 0).toNat
theorem at2_le (m : List UInt8) (p : Nat) : at2 m p ≤ 65535 := by
  unfold at2
  have h1 := (m.getD p 0).toNat_lt
  have h2 := (m.getD (p + 1) 0).toNat_lt
  omega
theorem at2_cons (a b : UInt8) (l : List UInt8) : at2 (a :: b :: l) 0 = a.toNat * 256 + b.toNat := rfl
theorem at2_tail (a : UInt8) (l : List UInt8) (k : Nat) : at2 (a :: l) (k + 1) = at2 l k := rfl
theorem at2_app (P t : List UInt8) (k : Nat) : at2 (P ++ t) (P.length + k) = at2 t k := by
  unfold at2
  simp only [List.getD_eq_getElem?_getD]
  rw [List.getElem?_append_right (by omega), List.getElem?_append_right (by omega), Nat.add_sub_cancel_left, show P.length + k + 1 - P.length = k + 1 by omega]
theorem at2_left (P t : List UInt8) (k : Nat) (h : k + 1 < P.length) : at2 (P ++ t) k = at2 P k := by
  unfold at2
  simp only [List.getD_eq_getElem?_getD]
  rw [List.getElem?_append_left (by omega), List.getElem?_append_left (by omega)]
theorem at2_drop (m : List UInt8) (p k : Nat) : at2 (m.drop p) k = at2 m (p + k) := by
  unfold at2
  simp only [List.getD_eq_getElem?_getD, List.getElem?_drop, Nat.add_assoc]
/-- a number in two bytes -/
def two2 (n : Int) : List UInt8 := [UInt8.ofNat (n / 256 % 256).toNat, UInt8.ofNat (n % 256).toNat]
theorem two2_at (n : Int) (l : List UInt8) (h0 : 0 ≤ n) (h1 : n ≤ 65535) : ((at2 (two2 n ++ l) 0 : Nat) : Int) = n := by
  show ((at2 (_ :: _ :: l) 0 : Nat) : Int) = n
  rw [at2_cons, UInt8.toNat_ofNat', UInt8.toNat_ofNat']
  omega
theorem two2_len (n : Int) : (two2 n).length = 2 := rfl

abbrev RecT := List ByteArray × Int × Int × Int × List UInt8 × Unit
def recErr (r : RecT) : Int :=
  if nameErr r.1 = 0 then
    if 0 ≤ r.2.1 ∧ r.2.1 ≤ 65535 ∧ 0 ≤ r.2.2.1 ∧ r.2.2.1 ≤ 65535 ∧ 0 ≤ r.2.2.2.1 ∧ r.2.2.2.1 ≤ 4294967295 then
      if r.2.2.2.2.1.length ≤ 65535 then 0 else 7
    else 6
  else nameErr r.1
/-- behind the name -/
def recTail (T C L : Int) (d : List UInt8) : List UInt8 := two2 T ++ (two2 C ++ (two2 (L / 65536) ++ (two2 (L % 65536) ++ (two2 (d.length : Int) ++ d))))
theorem recTail_len (T C L : Int) (d : List UInt8) : (recTail T C L d).length = 10 + d.length := by simp [recTail, two2]; omega
theorem at2_two (n : Int) (l : List UInt8) (k : Nat) : at2 (two2 n ++ l) (k + 2) = at2 l k := at2_app (two2 n) l k ▸ (by rw [two2_len, Nat.add_comm])
theorem recTail_at (T C L : Int) (d : List UInt8) (hT : 0 ≤ T ∧ T ≤ 65535) (hC : 0 ≤ C ∧ C ≤ 65535) (hL : 0 ≤ L ∧ L ≤ 4294967295) (hd : d.length ≤ 65535) :
    ((at2 (recTail T C L d) 0 : Nat) : Int) = T ∧ ((at2 (recTail T C L d) 2 : Nat) : Int) = C ∧ ((at2 (recTail T C L d) 4 : Nat) : Int) * 65536 + ((at2 (recTail T C L d) 6 : Nat) : Int) = L ∧ at2 (recTail T C L d) 8 = d.length ∧ (recTail T C L d).drop 10 = d := by
  have e2 : at2 (recTail T C L d) 2 = at2 (two2 C ++ (two2 (L / 65536) ++ (two2 (L % 65536) ++ (two2 (d.length : Int) ++ d)))) 0 := at2_two T _ 0
  have e4 : at2 (recTail T C L d) 4 = at2 (two2 (L / 65536) ++ (two2 (L % 65536) ++ (two2 (d.length : Int) ++ d))) 0 := (at2_two T _ 2).trans (at2_two C _ 0)
  have e6 : at2 (recTail T C L d) 6 = at2 (two2 (L % 65536) ++ (two2 (d.length : Int) ++ d)) 0 := (at2_two T _ 4).trans ((at2_two C _ 2).trans (at2_two _ _ 0))
  have e8 : at2 (recTail T C L d) 8 = at2 (two2 (d.length : Int) ++ d) 0 := (at2_two T _ 6).trans ((at2_two C _ 4).trans ((at2_two _ _ 2).trans (at2_two _ _ 0)))
  have h8 := two2_at (d.length : Int) d (by omega) (by omega)
  refine ⟨two2_at T _ hT.1 hT.2, ?_, ?_, ?_, rfl⟩
  · rw [e2]; exact two2_at C _ hC.1 hC.2
  · rw [e4, e6, two2_at _ _ (by omega) (by omega), two2_at _ _ (by omega) (by omega)]; omega
  · rw [e8]; omega

/-- the fixed part: what is wrong, the name, the place behind it, the place behind all -/
def rrF (m : List UInt8) (at_ : Int) : Int × List ByteArray × Nat × Nat :=
  if (rdN m at_).1 = 0 then
    if (rdN m at_).2.2.toNat + 10 ≤ m.length ∧ (rdN m at_).2.2.toNat + 10 + at2 m ((rdN m at_).2.2.toNat + 8) ≤ m.length then (0, (rdN m at_).2.1, (rdN m at_).2.2.toNat, (rdN m at_).2.2.toNat + 10 + at2 m ((rdN m at_).2.2.toNat + 8))
    else (2, [], 0, 0)
  else ((rdN m at_).1, [], 0, 0)
def recOf (m : List UInt8) (l : List ByteArray) (p en : Nat) : RecT := (l, (at2 m p : Nat), (at2 m (p + 2) : Nat), (at2 m (p + 4) : Nat) * 65536 + (at2 m (p + 6) : Nat), (m.drop (p + 10)).take (en - (p + 10)), ())
theorem rrF_ok {m : List UInt8} {at_ : Int} {l : List ByteArray} {p en : Nat} : rrF m at_ = (0, l, p, en) ↔ rdN m at_ = (0, l, (p : Int)) ∧ p + 10 ≤ m.length ∧ en = p + 10 + at2 m (p + 8) ∧ en ≤ m.length := by
  unfold rrF
  constructor
  · intro h
    by_cases h0 : (rdN m at_).1 = 0
    · rw [if_pos h0] at h
      split at h
      · rename_i h1
        simp only [Prod.mk.injEq, true_and] at h
        obtain ⟨h2, h3, h4⟩ := h
        have hr : rdN m at_ = (0, (rdN m at_).2.1, (rdN m at_).2.2) := by rw [← h0]
        obtain ⟨a, k, rfl, hk, _⟩ := rdN_ok.1 hr
        rw [hk, Int.toNat_natCast] at h3 h4 h1
        subst h3
        refine ⟨by rw [hr, h2, hk], h1.1, h4.symm, by omega⟩
      · cases h
    · rw [if_neg h0] at h
      simp only [Prod.mk.injEq] at h
      exact absurd h.1 h0
  · rintro ⟨h, h1, rfl, h2⟩
    rw [h]
    simp only [Int.toNat_natCast, if_true]
    rw [if_pos ⟨h1, h2⟩]
theorem rrF_bad {m : List UInt8} {at_ : Int} {k : Int} (h : (rrF m at_).1 = k) (hk : k ≠ 0) : rrF m at_ = (k, [], 0, 0) := by
  unfold rrF at h ⊢
  by_cases h0 : (rdN m at_).1 = 0
  · rw [if_pos h0] at h ⊢
    split
    · rename_i h1; rw [if_pos h1] at h; exact absurd h.symm hk
    · rename_i h1; rw [if_neg h1] at h; rw [← h]
  · rw [if_neg h0] at h ⊢
    rw [← h]
theorem rrF_app {m : List UInt8} {at_ : Int} {l : List ByteArray} {p en : Nat} (h : rrF m at_ = (0, l, p, en)) (k : List UInt8) : rrF (m ++ k) at_ = (0, l, p, en) ∧ recOf (m ++ k) l p en = recOf m l p en := by
  obtain ⟨h1, h2, rfl, h3⟩ := rrF_ok.1 h
  have h8 := at2_left m k (p + 8) (by omega)
  refine ⟨rrF_ok.2 ⟨rdN_app h1 k, by rw [List.length_append]; omega, by rw [h8], by rw [List.length_append]; omega⟩, ?_⟩
  unfold recOf
  rw [at2_left m k p (by omega), at2_left m k (p + 2) (by omega), at2_left m k (p + 4) (by omega), at2_left m k (p + 6) (by omega), List.drop_append_of_le_length (by omega), List.take_append_of_le_length (by rw [List.length_drop]; omega)]
/-- what is sent -/
def recB (m : List UInt8) (ss : List Int) (r : RecT) : List UInt8 := m ++ packT m ss r.1 ++ recTail r.2.1 r.2.2.1 r.2.2.2.1 r.2.2.2.2.1
theorem recErr_zero {r : RecT} (h : recErr r = 0) : nameErr r.1 = 0 ∧ (0 ≤ r.2.1 ∧ r.2.1 ≤ 65535) ∧ (0 ≤ r.2.2.1 ∧ r.2.2.1 ≤ 65535) ∧ (0 ≤ r.2.2.2.1 ∧ r.2.2.2.1 ≤ 4294967295) ∧ r.2.2.2.2.1.length ≤ 65535 := by
  unfold recErr at h
  by_cases h0 : nameErr r.1 = 0
  · rw [if_pos h0] at h
    split at h
    · rename_i h1
      split at h
      · rename_i h2
        exact ⟨h0, ⟨h1.1, h1.2.1⟩, ⟨h1.2.2.1, h1.2.2.2.1⟩, ⟨h1.2.2.2.2.1, h1.2.2.2.2.2⟩, h2⟩
      · cases h
    · cases h
  · rw [if_neg h0] at h; exact absurd h h0
theorem rr_back (m : List UInt8) (ss : List Int) (r : RecT) (h : recErr r = 0) : rrF (recB m ss r) (m.length : Int) = (0, r.1, (m ++ packT m ss r.1).length, (recB m ss r).length) ∧ recOf (recB m ss r) r.1 (m ++ packT m ss r.1).length (recB m ss r).length = r := by
  obtain ⟨l, T, C, L, d, u⟩ := r
  obtain ⟨h0, h1, h2, h3, h4⟩ := recErr_zero h
  simp only at h0 h1 h2 h3 h4
  obtain ⟨t0, t2, t4, t8, t10⟩ := recTail_at T C L d h1 h2 h3 h4
  have hr := rdN_app (pack_back m ss l h0) (recTail T C L d)
  have hl : (recB m ss (l, T, C, L, d, u)).length = (m ++ packT m ss l).length + (10 + d.length) := by unfold recB; rw [List.length_append, recTail_len]
  have a0 := at2_app (m ++ packT m ss l) (recTail T C L d) 0
  have a2 := at2_app (m ++ packT m ss l) (recTail T C L d) 2
  have a4 := at2_app (m ++ packT m ss l) (recTail T C L d) 4
  have a6 := at2_app (m ++ packT m ss l) (recTail T C L d) 6
  have a8 := at2_app (m ++ packT m ss l) (recTail T C L d) 8
  have a10 : (m ++ packT m ss l ++ recTail T C L d).drop ((m ++ packT m ss l).length + 10) = d := by rw [← List.drop_drop, List.drop_left, t10]
  rw [Nat.add_zero] at a0
  refine ⟨rrF_ok.2 ⟨hr, by rw [hl]; show (m ++ packT m ss l).length + 10 ≤ _; omega, ?_, Nat.le_refl _⟩, ?_⟩
  · rw [hl]
    show _ = (m ++ packT m ss l).length + 10 + at2 (m ++ packT m ss l ++ recTail T C L d) _
    rw [a8, t8]; omega
  · rw [hl]
    unfold recOf recB
    simp only
    rw [a0, a2, a4, a6, a10, t0, t2, t4, show (m ++ packT m ss l).length + (10 + d.length) - ((m ++ packT m ss l).length + 10) = d.length by omega, List.take_length]
/-- another TTL in its place -/
theorem recB_ttl (P d : List UInt8) (T C L L' : Int) (k : Nat) (hk : k = P.length + 4) :
    ((((P ++ recTail T C L d).set k (UInt8.ofNat (L' / 65536 / 256 % 256).toNat)).set (k + 1) (UInt8.ofNat (L' / 65536 % 256).toNat)).set (k + 2) (UInt8.ofNat (L' % 65536 / 256 % 256).toNat)).set (k + 3) (UInt8.ofNat (L' % 65536 % 256).toNat) = P ++ recTail T C L' d := by
  subst hk
  rw [List.set_append_right _ _ (by omega), List.set_append_right _ _ (by omega), List.set_append_right _ _ (by omega), List.set_append_right _ _ (by omega)]
  congr 1
  simp only [Nat.add_sub_cancel_left, show P.length + 4 + 1 - P.length = 5 by omega, show P.length + 4 + 2 - P.length = 6 by omega, show P.length + 4 + 3 - P.length = 7 by omega]
  rfl
end Go.Proofs.YthccknobnpbdeaaDoor
/- Messages as they are sent, in plain Lean: questions, records, one behind the other. No function of the program. -/
namespace Go.Proofs.YthccknobnpbdeaaDoor
set_option linter.unusedVariables false
set_option linter.unusedSimpArgs false

abbrev QT := List ByteArray × Int × Int × Unit
def qErr (q : QT) : Int := if nameErr q.1 = 0 then (if 0 ≤ q.2.1 ∧ q.2.1 ≤ 65535 ∧ 0 ≤ q.2.2.1 ∧ q.2.2.1 ≤ 65535 then 0 else 6) else nameErr q.1
def qB (b : List UInt8) (ss : List Int) (q : QT) : List UInt8 := b ++ packT b ss q.1 ++ (two2 q.2.1 ++ two2 q.2.2.1)
def stS (b : List UInt8) (ss : List Int) (l : List ByteArray) : List Int := ss ++ packN b ss l b.length
theorem qErr_zero {q : QT} (h : qErr q = 0) : nameErr q.1 = 0 ∧ (0 ≤ q.2.1 ∧ q.2.1 ≤ 65535) ∧ (0 ≤ q.2.2.1 ∧ q.2.2.1 ≤ 65535) := by
  unfold qErr at h
  by_cases h0 : nameErr q.1 = 0
  · rw [if_pos h0] at h
    split at h
    · rename_i h1; exact ⟨h0, ⟨h1.1, h1.2.1⟩, h1.2.2.1, h1.2.2.2⟩
    · cases h
  · rw [if_neg h0] at h; exact absurd h h0
/-- questions written behind bytes: what is wrong, the bytes, the starts -/
def wrQ : List QT → List UInt8 → List Int → Int × List UInt8 × List Int
  | [], b, ss => (0, b, ss)
  | q :: qs, b, ss => if qErr q = 0 then wrQ qs (qB b ss q) (stS b ss q.1) else (qErr q, [], [])
def wrR : List RecT → List UInt8 → List Int → Int × List UInt8 × List Int
  | [], b, ss => (0, b, ss)
  | r :: rs, b, ss => if recErr r = 0 then wrR rs (recB b ss r) (stS b ss r.1) else (recErr r, [], [])
end Go.Proofs.YthccknobnpbdeaaDoor
/- Messages as they are read, in plain Lean: questions and records one behind the other; what was sent is read. No function of the program. -/
namespace Go.Proofs.YthccknobnpbdeaaDoor
set_option linter.unusedVariables false
set_option linter.unusedSimpArgs false

def rdQ (b : List UInt8) : Nat → Nat → List QT → Int × List QT × Nat
  | 0, p, acc => (0, acc, p)
  | k + 1, p, acc => if (rdN b p).1 = 0 then (if (rdN b p).2.2.toNat + 4 ≤ b.length then rdQ b k ((rdN b p).2.2.toNat + 4) (acc ++ [(((rdN b p).2.1, ((at2 b (rdN b p).2.2.toNat : Nat) : Int), ((at2 b ((rdN b p).2.2.toNat + 2) : Nat) : Int), ()) : QT)]) else (2, [], 0)) else ((rdN b p).1, [], 0)
def rdR (b : List UInt8) : Nat → Nat → List RecT → Int × List RecT × Nat
  | 0, p, acc => (0, acc, p)
  | k + 1, p, acc => if (rrF b p).1 = 0 then rdR b k (rrF b p).2.2.2 (acc ++ [recOf b (rrF b p).2.1 (rrF b p).2.2.1 (rrF b p).2.2.2]) else ((rrF b p).1, [], 0)
theorem rdQ_step {b : List UInt8} {k p q : Nat} {acc : List QT} {l : List ByteArray} (h : rdN b p = (0, l, (q : Int))) (hq : q + 4 ≤ b.length) : rdQ b (k + 1) p acc = rdQ b k (q + 4) (acc ++ [((l, ((at2 b q : Nat) : Int), ((at2 b (q + 2) : Nat) : Int), ()) : QT)]) := by
  rw [rdQ, h]
  simp only [Int.toNat_natCast, if_true]
  rw [if_pos hq]
theorem rdQ_short {b : List UInt8} {k p q : Nat} {acc : List QT} {l : List ByteArray} (h : rdN b p = (0, l, (q : Int))) (hq : ¬ q + 4 ≤ b.length) : rdQ b (k + 1) p acc = (2, [], 0) := by
  rw [rdQ, h]
  simp only [Int.toNat_natCast, if_true]
  rw [if_neg hq]
theorem rdQ_bad {b : List UInt8} {k p : Nat} {acc : List QT} {e : Int} (h : (rdN b p).1 = e) (he : e ≠ 0) : rdQ b (k + 1) p acc = (e, [], 0) := by
  rw [rdQ, h, if_neg he]
theorem rdR_step {b : List UInt8} {k p q en : Nat} {acc : List RecT} {l : List ByteArray} (h : rrF b p = (0, l, q, en)) : rdR b (k + 1) p acc = rdR b k en (acc ++ [recOf b l q en]) := by
  rw [rdR, h, if_pos rfl]
theorem rdR_bad {b : List UInt8} {k p : Nat} {acc : List RecT} {e : Int} (h : (rrF b p).1 = e) (he : e ≠ 0) : rdR b (k + 1) p acc = (e, [], 0) := by
  rw [rdR, h, if_neg he]
theorem rdN_nat {b : List UInt8} {p : Nat} (h : (rdN b p).1 = 0) : ∃ l q, rdN b p = (0, l, ((q : Nat) : Int)) ∧ nameErr l = 0 ∧ q ≤ b.length ∧ p < q := by
  obtain ⟨a, k, h1, h2, h3, h4⟩ := rdN_ok.1 (show rdN b p = (0, (rdN b p).2.1, (rdN b p).2.2) by rw [← h])
  have h5 := h3.lt
  exact ⟨_, k, by rw [← h2, ← h], h4, h5.2.1, by omega⟩
theorem rrF_nat {b : List UInt8} {p : Nat} (h : (rrF b p).1 = 0) : ∃ l q en, rrF b p = (0, l, q, en) ∧ nameErr l = 0 ∧ q + 10 ≤ en ∧ en ≤ b.length ∧ p < q := by
  have hh : rrF b p = (0, (rrF b p).2.1, (rrF b p).2.2.1, (rrF b p).2.2.2) := by rw [← h]
  obtain ⟨h1, h2, h3, h4⟩ := rrF_ok.1 hh
  obtain ⟨l, q, e1, e2, e3, e4⟩ := rdN_nat (b := b) (p := p) (by rw [h1])
  rw [e1] at h1
  simp only [Prod.mk.injEq, true_and] at h1
  have : q = (rrF b p).2.2.1 := by omega
  exact ⟨_, _, _, hh, by rw [← h1.1]; exact e2, by omega, h4, by omega⟩
/-- what was sent is read, whatever stands behind it -/
theorem rdQ_wr : ∀ (qs : List QT) (b : List UInt8) (ss : List Int) (b' : List UInt8) (ss' : List Int), wrQ qs b ss = (0, b', ss') → (∃ t, b' = b ++ t) ∧ ∀ k acc, rdQ (b' ++ k) qs.length b.length acc = (0, acc ++ qs, b'.length)
  | [], b, ss, b', ss', h => by
    simp only [wrQ, Prod.mk.injEq, true_and] at h
    obtain ⟨rfl, _⟩ := h
    exact ⟨⟨[], by simp⟩, fun k acc => by simp [rdQ]⟩
  | q :: qs, b, ss, b', ss', h => by
    rw [wrQ] at h
    by_cases hq : qErr q = 0
    · rw [if_pos hq] at h
      obtain ⟨⟨t, ht⟩, ih⟩ := rdQ_wr qs _ _ _ _ h
      obtain ⟨h0, ⟨t0, t1⟩, c0, c1⟩ := qErr_zero hq
      refine ⟨⟨packT b ss q.1 ++ (two2 q.2.1 ++ two2 q.2.2.1) ++ t, by rw [ht]; simp [qB]⟩, fun k acc => ?_⟩
      have hn := rdN_app (pack_back b ss q.1 h0) (two2 q.2.1 ++ (two2 q.2.2.1 ++ (t ++ k)))
      have e : b' ++ k = b ++ packT b ss q.1 ++ (two2 q.2.1 ++ (two2 q.2.2.1 ++ (t ++ k))) := by rw [ht]; simp [qB]
      rw [← e] at hn
      have a0 := at2_app (b ++ packT b ss q.1) (two2 q.2.1 ++ (two2 q.2.2.1 ++ (t ++ k))) 0
      have a2 := at2_app (b ++ packT b ss q.1) (two2 q.2.1 ++ (two2 q.2.2.1 ++ (t ++ k))) 2
      rw [← e] at a0 a2
      rw [Nat.add_zero] at a0
      have e2 := at2_two q.2.1 (two2 q.2.2.1 ++ (t ++ k)) 0
      have hl : (b' ++ k).length = (b ++ packT b ss q.1).length + 4 + (t ++ k).length := by rw [e]; simp only [List.length_append, two2_len]; omega
      rw [List.length_cons, rdQ_step hn (by omega), a0, a2, e2, two2_at _ _ t0 t1, two2_at _ _ c0 c1]
      have := ih k (acc ++ [(q.1, q.2.1, q.2.2.1, ())])
      rw [show (qB b ss q).length = (b ++ packT b ss q.1).length + 4 by simp [qB, two2_len]; omega] at this
      rw [this]
      obtain ⟨q1, q2, q3, u⟩ := q
      simp
    · rw [if_neg hq] at h
      simp only [Prod.mk.injEq] at h
      exact absurd h.1 hq
theorem rdR_wr : ∀ (rs : List RecT) (b : List UInt8) (ss : List Int) (b' : List UInt8) (ss' : List Int), wrR rs b ss = (0, b', ss') → (∃ t, b' = b ++ t) ∧ ∀ k acc, rdR (b' ++ k) rs.length b.length acc = (0, acc ++ rs, b'.length)
  | [], b, ss, b', ss', h => by
    simp only [wrR, Prod.mk.injEq, true_and] at h
    obtain ⟨rfl, _⟩ := h
    exact ⟨⟨[], by simp⟩, fun k acc => by simp [rdR]⟩
  | r :: rs, b, ss, b', ss', h => by
    rw [wrR] at h
    by_cases hr : recErr r = 0
    · rw [if_pos hr] at h
      obtain ⟨⟨t, ht⟩, ih⟩ := rdR_wr rs _ _ _ _ h
      obtain ⟨g1, g2⟩ := rr_back b ss r hr
      refine ⟨⟨packT b ss r.1 ++ recTail r.2.1 r.2.2.1 r.2.2.2.1 r.2.2.2.2.1 ++ t, by rw [ht]; simp [recB]⟩, fun k acc => ?_⟩
      obtain ⟨f1, f2⟩ := rrF_app g1 (t ++ k)
      rw [← List.append_assoc, ← ht] at f1 f2
      rw [List.length_cons, rdR_step f1, f2, g2, ih k (acc ++ [r])]
      simp
    · rw [if_neg hr] at h
      simp only [Prod.mk.injEq] at h
      exact absurd h.1 hr
/-- what is read could be sent -/
theorem rdQ_good : ∀ (k : Nat) (b : List UInt8) (p : Nat) (acc : List QT), (rdQ b k p acc).1 = 0 → (∀ q ∈ acc, qErr q = 0) → (∀ q ∈ (rdQ b k p acc).2.1, qErr q = 0) ∧ (rdQ b k p acc).2.1.length = acc.length + k ∧ (p ≤ b.length → (rdQ b k p acc).2.2 ≤ b.length)
  | 0, b, p, acc, h, ha => ⟨ha, rfl, fun h => h⟩
  | k + 1, b, p, acc, h, ha => by
    by_cases h0 : (rdN b p).1 = 0
    · obtain ⟨l, q, e1, e2, e3, e4⟩ := rdN_nat h0
      by_cases hq : q + 4 ≤ b.length
      · rw [rdQ_step e1 hq] at h ⊢
        obtain ⟨i1, i2, i3⟩ := rdQ_good k b (q + 4) _ h (by
          intro x hx
          rcases List.mem_append.1 hx with hx | hx
          · exact ha x hx
          · rw [List.mem_singleton] at hx
            subst hx
            have z1 := at2_le b q
            have z2 := at2_le b (q + 2)
            unfold qErr
            rw [if_pos e2, if_pos ⟨by simp, by simp only; omega, by simp, by simp only; omega⟩])
        exact ⟨i1, by rw [i2]; simp; omega, fun _ => i3 hq⟩
      · rw [rdQ_short e1 hq] at h; exact absurd h (by decide)
    · rw [rdQ_bad rfl h0] at h; exact absurd h h0
theorem rdR_good : ∀ (k : Nat) (b : List UInt8) (p : Nat) (acc : List RecT), (rdR b k p acc).1 = 0 → (∀ r ∈ acc, recErr r = 0) → (∀ r ∈ (rdR b k p acc).2.1, recErr r = 0) ∧ (rdR b k p acc).2.1.length = acc.length + k ∧ (p ≤ b.length → (rdR b k p acc).2.2 ≤ b.length)
  | 0, b, p, acc, h, ha => ⟨ha, rfl, fun h => h⟩
  | k + 1, b, p, acc, h, ha => by
    by_cases h0 : (rrF b p).1 = 0
    · obtain ⟨l, q, en, e1, e2, e3, e4, e5⟩ := rrF_nat h0
      rw [rdR_step e1] at h ⊢
      obtain ⟨_, _, e6, _⟩ := rrF_ok.1 e1
      obtain ⟨i1, i2, i3⟩ := rdR_good k b en _ h (by
        intro x hx
        rcases List.mem_append.1 hx with hx | hx
        · exact ha x hx
        · rw [List.mem_singleton] at hx
          subst hx
          have z1 := at2_le b q
          have z2 := at2_le b (q + 2)
          have z3 := at2_le b (q + 4)
          have z4 := at2_le b (q + 6)
          have z5 := at2_le b (q + 8)
          unfold recErr recOf
          simp only
          rw [if_pos e2, if_pos (by omega), if_pos (by rw [List.length_take]; omega)])
      exact ⟨i1, by rw [i2]; simp; omega, fun _ => i3 e4⟩
    · rw [rdR_bad rfl h0] at h; exact absurd h h0
theorem wrQ_good : ∀ (qs : List QT) (b : List UInt8) (ss : List Int), (∀ q ∈ qs, qErr q = 0) → (wrQ qs b ss).1 = 0
  | [], b, ss, _ => rfl
  | q :: qs, b, ss, h => by
    rw [wrQ, if_pos (h q (by simp))]
    exact wrQ_good qs _ _ fun x hx => h x (by simp [hx])
theorem wrR_good : ∀ (rs : List RecT) (b : List UInt8) (ss : List Int), (∀ r ∈ rs, recErr r = 0) → (wrR rs b ss).1 = 0
  | [], b, ss, _ => rfl
  | r :: rs, b, ss, h => by
    rw [wrR, if_pos (h r (by simp))]
    exact wrR_good rs _ _ fun x hx => h x (by simp [hx])

/-- a message's parts that are read: what is wrong, the questions, the three rows of records -/
def rdM (b : List UInt8) : Int × List QT × List RecT × List RecT × List RecT :=
  if b.length < 12 then (2, [], [], [], [])
  else if (rdQ b (at2 b 4) 12 []).1 = 0 then
    if (rdR b (at2 b 6) (rdQ b (at2 b 4) 12 []).2.2 []).1 = 0 then
      if (rdR b (at2 b 8) (rdR b (at2 b 6) (rdQ b (at2 b 4) 12 []).2.2 []).2.2 []).1 = 0 then
        if (rdR b (at2 b 10) (rdR b (at2 b 8) (rdR b (at2 b 6) (rdQ b (at2 b 4) 12 []).2.2 []).2.2 []).2.2 []).1 = 0 then
          if (rdR b (at2 b 10) (rdR b (at2 b 8) (rdR b (at2 b 6) (rdQ b (at2 b 4) 12 []).2.2 []).2.2 []).2.2 []).2.2 < b.length then (8, [], [], [], [])
          else (0, (rdQ b (at2 b 4) 12 []).2.1, (rdR b (at2 b 6) (rdQ b (at2 b 4) 12 []).2.2 []).2.1, (rdR b (at2 b 8) (rdR b (at2 b 6) (rdQ b (at2 b 4) 12 []).2.2 []).2.2 []).2.1, (rdR b (at2 b 10) (rdR b (at2 b 8) (rdR b (at2 b 6) (rdQ b (at2 b 4) 12 []).2.2 []).2.2 []).2.2 []).2.1)
        else ((rdR b (at2 b 10) (rdR b (at2 b 8) (rdR b (at2 b 6) (rdQ b (at2 b 4) 12 []).2.2 []).2.2 []).2.2 []).1, [], [], [], [])
      else ((rdR b (at2 b 8) (rdR b (at2 b 6) (rdQ b (at2 b 4) 12 []).2.2 []).2.2 []).1, [], [], [], [])
    else ((rdR b (at2 b 6) (rdQ b (at2 b 4) 12 []).2.2 []).1, [], [], [], [])
  else ((rdQ b (at2 b 4) 12 []).1, [], [], [], [])
end Go.Proofs.YthccknobnpbdeaaDoor
/- Messages in plain Lean: what was sent is read; no beginning alone of a message is one, and none with more behind it. No function of the program. -/
namespace Go.Proofs.YthccknobnpbdeaaDoor
set_option linter.unusedVariables false
set_option linter.unusedSimpArgs false

theorem rdM_short {b : List UInt8} (h : b.length < 12) : rdM b = (2, [], [], [], []) := by unfold rdM; rw [if_pos h]
theorem rdM_q {b : List UInt8} {e : Int} (h0 : ¬ b.length < 12) (h : (rdQ b (at2 b 4) 12 []).1 = e) (he : e ≠ 0) : rdM b = (e, [], [], [], []) := by
  unfold rdM; rw [if_neg h0, h, if_neg he]
theorem rdM_x {b : List UInt8} {e : Int} {qs : List QT} {p1 : Nat} (h0 : ¬ b.length < 12) (h1 : rdQ b (at2 b 4) 12 [] = (0, qs, p1)) (h : (rdR b (at2 b 6) p1 []).1 = e) (he : e ≠ 0) : rdM b = (e, [], [], [], []) := by
  unfold rdM; rw [if_neg h0, h1]; simp only [if_true]; rw [h, if_neg he]
theorem rdM_y {b : List UInt8} {e : Int} {qs : List QT} {xs : List RecT} {p1 p2 : Nat} (h0 : ¬ b.length < 12) (h1 : rdQ b (at2 b 4) 12 [] = (0, qs, p1)) (h2 : rdR b (at2 b 6) p1 [] = (0, xs, p2)) (h : (rdR b (at2 b 8) p2 []).1 = e) (he : e ≠ 0) : rdM b = (e, [], [], [], []) := by
  unfold rdM; rw [if_neg h0, h1]; simp only [if_true]; rw [h2]; simp only [if_true]; rw [h, if_neg he]
theorem rdM_z {b : List UInt8} {e : Int} {qs : List QT} {xs ys : List RecT} {p1 p2 p3 : Nat} (h0 : ¬ b.length < 12) (h1 : rdQ b (at2 b 4) 12 [] = (0, qs, p1)) (h2 : rdR b (at2 b 6) p1 [] = (0, xs, p2)) (h3 : rdR b (at2 b 8) p2 [] = (0, ys, p3)) (h : (rdR b (at2 b 10) p3 []).1 = e) (he : e ≠ 0) : rdM b = (e, [], [], [], []) := by
  unfold rdM; rw [if_neg h0, h1]; simp only [if_true]; rw [h2]; simp only [if_true]; rw [h3]; simp only [if_true]; rw [h, if_neg he]
theorem rdM_end {b : List UInt8} {qs : List QT} {xs ys zs : List RecT} {p1 p2 p3 p4 : Nat} (h0 : ¬ b.length < 12) (h1 : rdQ b (at2 b 4) 12 [] = (0, qs, p1)) (h2 : rdR b (at2 b 6) p1 [] = (0, xs, p2)) (h3 : rdR b (at2 b 8) p2 [] = (0, ys, p3)) (h4 : rdR b (at2 b 10) p3 [] = (0, zs, p4)) : rdM b = if p4 < b.length then (8, [], [], [], []) else (0, qs, xs, ys, zs) := by
  unfold rdM; rw [if_neg h0, h1]; simp only [if_true]; rw [h2]; simp only [if_true]; rw [h3]; simp only [if_true]; rw [h4]; simp only [if_true]
theorem rdQ_zero {b : List UInt8} {k p : Nat} {acc : List QT} (h : (rdQ b k p acc).1 = 0) : rdQ b k p acc = (0, (rdQ b k p acc).2.1, (rdQ b k p acc).2.2) := by rw [← h]
theorem rdR_zero {b : List UInt8} {k p : Nat} {acc : List RecT} (h : (rdR b k p acc).1 = 0) : rdR b k p acc = (0, (rdR b k p acc).2.1, (rdR b k p acc).2.2) := by rw [← h]
/-- how a message is read whole -/
theorem rdM_ok {b : List UInt8} (h : (rdM b).1 = 0) : ∃ qs xs ys zs p1 p2 p3 p4, ¬ b.length < 12 ∧ rdQ b (at2 b 4) 12 [] = (0, qs, p1) ∧ rdR b (at2 b 6) p1 [] = (0, xs, p2) ∧ rdR b (at2 b 8) p2 [] = (0, ys, p3) ∧ rdR b (at2 b 10) p3 [] = (0, zs, p4) ∧ ¬ p4 < b.length ∧ rdM b = (0, qs, xs, ys, zs) := by
  by_cases h0 : b.length < 12
  · rw [rdM_short h0] at h; exact absurd h (by decide)
  by_cases h1 : (rdQ b (at2 b 4) 12 []).1 = 0
  · have e1 := rdQ_zero h1
    by_cases h2 : (rdR b (at2 b 6) (rdQ b (at2 b 4) 12 []).2.2 []).1 = 0
    · have e2 := rdR_zero h2
      by_cases h3 : (rdR b (at2 b 8) (rdR b (at2 b 6) (rdQ b (at2 b 4) 12 []).2.2 []).2.2 []).1 = 0
      · have e3 := rdR_zero h3
        by_cases h4 : (rdR b (at2 b 10) (rdR b (at2 b 8) (rdR b (at2 b 6) (rdQ b (at2 b 4) 12 []).2.2 []).2.2 []).2.2 []).1 = 0
        · have e4 := rdR_zero h4
          have e := rdM_end h0 e1 e2 e3 e4
          by_cases hp : (rdR b (at2 b 10) (rdR b (at2 b 8) (rdR b (at2 b 6) (rdQ b (at2 b 4) 12 []).2.2 []).2.2 []).2.2 []).2.2 < b.length
          · rw [e, if_pos hp] at h; exact absurd h (by decide)
          · rw [if_neg hp] at e
            exact ⟨_, _, _, _, _, _, _, _, h0, e1, e2, e3, e4, hp, e⟩
        · rw [rdM_z h0 e1 e2 e3 rfl h4] at h; exact absurd h h4
      · rw [rdM_y h0 e1 e2 rfl h3] at h; exact absurd h h3
    · rw [rdM_x h0 e1 rfl h2] at h; exact absurd h h2
  · rw [rdM_q h0 rfl h1] at h; exact absurd h h1
theorem rdM_bad {b : List UInt8} {e : Int} (h : (rdM b).1 = e) (he : e ≠ 0) : rdM b = (e, [], [], [], []) := by
  subst h
  by_cases h0 : b.length < 12
  · rw [rdM_short h0]
  by_cases h1 : (rdQ b (at2 b 4) 12 []).1 = 0
  · have e1 := rdQ_zero h1
    by_cases h2 : (rdR b (at2 b 6) (rdQ b (at2 b 4) 12 []).2.2 []).1 = 0
    · have e2 := rdR_zero h2
      by_cases h3 : (rdR b (at2 b 8) (rdR b (at2 b 6) (rdQ b (at2 b 4) 12 []).2.2 []).2.2 []).1 = 0
      · have e3 := rdR_zero h3
        by_cases h4 : (rdR b (at2 b 10) (rdR b (at2 b 8) (rdR b (at2 b 6) (rdQ b (at2 b 4) 12 []).2.2 []).2.2 []).2.2 []).1 = 0
        · have e4 := rdR_zero h4
          have e := rdM_end h0 e1 e2 e3 e4
          by_cases hp : (rdR b (at2 b 10) (rdR b (at2 b 8) (rdR b (at2 b 6) (rdQ b (at2 b 4) 12 []).2.2 []).2.2 []).2.2 []).2.2 < b.length
          · rw [e, if_pos hp]
          · rw [if_neg hp] at e
            rw [e] at he; exact absurd rfl he
        · rw [rdM_z h0 e1 e2 e3 rfl h4]
      · rw [rdM_y h0 e1 e2 rfl h3]
    · rw [rdM_x h0 e1 rfl h2]
  · rw [rdM_q h0 rfl h1]

/-! more behind -/
theorem rdQ_app : ∀ (n : Nat) (b k : List UInt8) (p : Nat) (acc : List QT), (rdQ b n p acc).1 = 0 → rdQ (b ++ k) n p acc = rdQ b n p acc
  | 0, b, k, p, acc, h => rfl
  | n + 1, b, k, p, acc, h => by
    by_cases h0 : (rdN b p).1 = 0
    · obtain ⟨l, q, e1, e2, e3, e4⟩ := rdN_nat h0
      by_cases hq : q + 4 ≤ b.length
      · rw [rdQ_step e1 hq] at h ⊢
        rw [rdQ_step (rdN_app e1 k) (by rw [List.length_append]; omega), at2_left b k q (by omega), at2_left b k (q + 2) (by omega)]
        exact rdQ_app n b k _ _ h
      · rw [rdQ_short e1 hq] at h; exact absurd h (by decide)
    · rw [rdQ_bad rfl h0] at h; exact absurd h h0
theorem rdR_app : ∀ (n : Nat) (b k : List UInt8) (p : Nat) (acc : List RecT), (rdR b n p acc).1 = 0 → rdR (b ++ k) n p acc = rdR b n p acc
  | 0, b, k, p, acc, h => rfl
  | n + 1, b, k, p, acc, h => by
    by_cases h0 : (rrF b p).1 = 0
    · obtain ⟨l, q, en, e1, e2, e3, e4, e5⟩ := rrF_nat h0
      rw [rdR_step e1] at h ⊢
      obtain ⟨f1, f2⟩ := rrF_app e1 k
      rw [rdR_step f1, f2]
      exact rdR_app n b k _ _ h
    · rw [rdR_bad rfl h0] at h; exact absurd h h0
theorem rdM_more {b : List UInt8} (h : (rdM b).1 = 0) (k : List UInt8) (hk : k ≠ []) : rdM (b ++ k) = (8, [], [], [], []) := by
  obtain ⟨qs, xs, ys, zs, p1, p2, p3, p4, h0, h1, h2, h3, h4, h5, h6⟩ := rdM_ok h
  have hl : 0 < k.length := List.length_pos_iff.2 hk
  have g1 := rdQ_app _ b k _ _ (by rw [h1]); rw [h1] at g1
  have g2 := rdR_app _ b k _ _ (by rw [h2]); rw [h2] at g2
  have g3 := rdR_app _ b k _ _ (by rw [h3]); rw [h3] at g3
  have g4 := rdR_app _ b k _ _ (by rw [h4]); rw [h4] at g4
  have u1 := (rdQ_good _ b 12 [] (by rw [h1]) (by simp)).2.2 (by omega); rw [h1] at u1
  have u2 := (rdR_good _ b p1 [] (by rw [h2]) (by simp)).2.2 u1; rw [h2] at u2
  have u3 := (rdR_good _ b p2 [] (by rw [h3]) (by simp)).2.2 u2; rw [h3] at u3
  have u4 := (rdR_good _ b p3 [] (by rw [h4]) (by simp)).2.2 u3; rw [h4] at u4
  simp only at u4
  rw [rdM_end (b := b ++ k) (by rw [List.length_append]; omega) (by rw [at2_left b k 4 (by omega)]; exact g1) (by rw [at2_left b k 6 (by omega)]; exact g2) (by rw [at2_left b k 8 (by omega)]; exact g3) (by rw [at2_left b k 10 (by omega)]; exact g4), if_pos (by rw [List.length_append]; omega)]

/-! a beginning alone -/
theorem nm_torn (m k : List UInt8) (low at_ size : Nat) : (nm (m ++ k) low at_ size).1 = 0 → (nm m low at_ size).1 = 0 ∨ (nm m low at_ size).1 = 2 := by
  induction low, at_, size using nm.induct (m := m) with
  | case1 low at_ size h h0 => intro _; left; rw [nm, dif_pos h, if_pos h0]
  | case2 low at_ size h h0 h1 h2 h3 ih =>
    rw [nm, nm.eq_def m low at_ size, dif_pos h, if_neg h0, if_pos h1, dif_pos h2, if_pos h3, dif_pos (by simp; omega)]
    simp only [List.getElem_append_left h, List.getElem_append_left h2]
    rw [if_neg h0, if_pos h1, dif_pos (by simp; omega), if_pos h3]
    exact ih
  | case3 low at_ size h h0 h1 h2 h3 =>
    rw [nm, dif_pos (by simp; omega)]
    simp only [List.getElem_append_left h, List.getElem_append_left h2]
    rw [if_neg h0, if_pos h1, dif_pos (by simp; omega), if_neg h3]
    intro e; cases e
  | case4 low at_ size h h0 h1 h2 => intro _; right; rw [nm, dif_pos h, if_neg h0, if_pos h1, dif_neg h2]
  | case5 low at_ size h h0 h1 h2 =>
    rw [nm, dif_pos (by simp; omega)]
    simp only [List.getElem_append_left h]
    rw [if_neg h0, if_neg h1, if_pos h2]
    intro e; cases e
  | case6 low at_ size h h0 h1 h2 h3 h4 ih =>
    rw [nm, nm.eq_def m low at_ size, dif_pos h, if_neg h0, if_neg h1, if_neg h2, if_pos h3, if_pos h4, dif_pos (by simp; omega)]
    simp only [List.getElem_append_left h]
    rw [if_neg h0, if_neg h1, if_neg h2, if_pos (by simp; omega), if_pos h4]
    exact ih
  | case7 low at_ size h h0 h1 h2 h3 h4 =>
    rw [nm, dif_pos (by simp; omega)]
    simp only [List.getElem_append_left h]
    rw [if_neg h0, if_neg h1, if_neg h2, if_pos (by simp; omega), if_neg h4]
    intro e; cases e
  | case8 low at_ size h h0 h1 h2 h3 => intro _; right; rw [nm, dif_pos h, if_neg h0, if_neg h1, if_neg h2, if_neg h3]
  | case9 low at_ size h => intro _; right; rw [nm, dif_neg h]
theorem rdN_torn {m k : List UInt8} {p : Nat} (h : (rdN (m ++ k) p).1 = 0) : (rdN m p).1 = 0 ∨ (rdN m p).1 = 2 := by
  unfold rdN at h ⊢
  rw [if_neg (by omega)] at h ⊢
  have := nm_torn m k (p : Int).toNat (p : Int).toNat 1
  by_cases h0 : (nm (m ++ k) (p : Int).toNat (p : Int).toNat 1).1 = 0
  · rcases this h0 with h1 | h1
    · left; rw [if_pos h1]
    · right; rw [if_neg (by omega), h1]
  · rw [if_neg h0] at h; exact absurd h h0
theorem rrF_torn {m k : List UInt8} {p : Nat} (h : (rrF (m ++ k) p).1 = 0) : (rrF m p).1 = 0 ∨ (rrF m p).1 = 2 := by
  have h0 : (rdN (m ++ k) p).1 = 0 := by
    unfold rrF at h
    by_cases h0 : (rdN (m ++ k) p).1 = 0
    · exact h0
    · rw [if_neg h0] at h; exact absurd h h0
  unfold rrF
  rcases rdN_torn h0 with h1 | h1
  · rw [if_pos h1]
    split
    · exact .inl rfl
    · exact .inr rfl
  · right; rw [if_neg (by omega), h1]
theorem rdQ_torn : ∀ (n : Nat) (b k : List UInt8) (p : Nat) (acc : List QT), (rdQ (b ++ k) n p acc).1 = 0 → (rdQ b n p acc).1 = 0 ∨ (rdQ b n p acc).1 = 2
  | 0, b, k, p, acc, h => .inl rfl
  | n + 1, b, k, p, acc, h => by
    have h0 : (rdN (b ++ k) p).1 = 0 := by
      by_cases h0 : (rdN (b ++ k) p).1 = 0
      · exact h0
      · rw [rdQ_bad rfl h0] at h; exact absurd h h0
    rcases rdN_torn h0 with h1 | h1
    · obtain ⟨l, q, e1, e2, e3, e4⟩ := rdN_nat h1
      by_cases hq : q + 4 ≤ b.length
      · rw [rdQ_step e1 hq]
        rw [rdQ_step (rdN_app e1 k) (by rw [List.length_append]; omega), at2_left b k q (by omega), at2_left b k (q + 2) (by omega)] at h
        exact rdQ_torn n b k _ _ h
      · right; rw [rdQ_short e1 hq]
    · right; rw [rdQ_bad h1 (by decide)]
theorem rdR_torn : ∀ (n : Nat) (b k : List UInt8) (p : Nat) (acc : List RecT), (rdR (b ++ k) n p acc).1 = 0 → (rdR b n p acc).1 = 0 ∨ (rdR b n p acc).1 = 2
  | 0, b, k, p, acc, h => .inl rfl
  | n + 1, b, k, p, acc, h => by
    have h0 : (rrF (b ++ k) p).1 = 0 := by
      by_cases h0 : (rrF (b ++ k) p).1 = 0
      · exact h0
      · rw [rdR_bad rfl h0] at h; exact absurd h h0
    rcases rrF_torn h0 with h1 | h1
    · obtain ⟨l, q, en, e1, e2, e3, e4, e5⟩ := rrF_nat h1
      rw [rdR_step e1]
      obtain ⟨f1, f2⟩ := rrF_app e1 k
      rw [rdR_step f1, f2] at h
      exact rdR_torn n b k _ _ h
    · right; rw [rdR_bad h1 (by decide)]
theorem rdM_torn {b k : List UInt8} (hk : k ≠ []) (h : (rdM (b ++ k)).1 = 0) : rdM b = (2, [], [], [], []) := by
  obtain ⟨qs, xs, ys, zs, p1, p2, p3, p4, h0, h1, h2, h3, h4, h5, h6⟩ := rdM_ok h
  have hl : 0 < k.length := List.length_pos_iff.2 hk
  by_cases b0 : b.length < 12
  · exact rdM_short b0
  rw [at2_left b k 4 (by omega)] at h1
  rw [at2_left b k 6 (by omega)] at h2
  rw [at2_left b k 8 (by omega)] at h3
  rw [at2_left b k 10 (by omega)] at h4
  rcases rdQ_torn _ b k _ _ (by rw [h1]) with t1 | t1
  · have g1 := rdQ_app _ b k _ _ t1; rw [h1] at g1
    have u1 := (rdQ_good _ b 12 [] t1 (by simp)).2.2 (by omega); rw [← g1] at u1
    rcases rdR_torn _ b k _ _ (by rw [h2]) with t2 | t2
    · have g2 := rdR_app _ b k _ _ t2; rw [h2] at g2
      have u2 := (rdR_good _ b p1 [] t2 (by simp)).2.2 u1; rw [← g2] at u2
      rcases rdR_torn _ b k _ _ (by rw [h3]) with t3 | t3
      · have g3 := rdR_app _ b k _ _ t3; rw [h3] at g3
        have u3 := (rdR_good _ b p2 [] t3 (by simp)).2.2 u2; rw [← g3] at u3
        rcases rdR_torn _ b k _ _ (by rw [h4]) with t4 | t4
        · have g4 := rdR_app _ b k _ _ t4; rw [h4] at g4
          have u4 := (rdR_good _ b p3 [] t4 (by simp)).2.2 u3; rw [← g4] at u4
          simp only at u4
          rw [List.length_append] at h5
          omega
        · exact rdM_z b0 g1.symm g2.symm g3.symm t4 (by decide)
      · exact rdM_y b0 g1.symm g2.symm t3 (by decide)
    · exact rdM_x b0 g1.symm t2 (by decide)
  · exact rdM_q b0 t1 (by decide)

/-! what was sent is read -/
theorem wrR_split (a b : List RecT) : ∀ (m : List UInt8) (s : List Int) (m' : List UInt8) (s' : List Int), wrR (a ++ b) m s = (0, m', s') → ∃ m1 s1, wrR a m s = (0, m1, s1) ∧ wrR b m1 s1 = (0, m', s') := by
  induction a with
  | nil => intro m s m' s' h; exact ⟨m, s, rfl, h⟩
  | cons r a ih =>
    intro m s m' s' h
    rw [List.cons_append, wrR] at h
    rw [wrR]
    by_cases h0 : recErr r = 0
    · rw [if_pos h0] at h ⊢; exact ih _ _ _ _ h
    · rw [if_neg h0] at h
      simp only [Prod.mk.injEq] at h
      exact absurd h.1 h0
theorem rdM_sent {H : List UInt8} (hH : H.length = 12) {qs : List QT} {xs ys zs : List RecT} (a4 : at2 H 4 = qs.length) (a6 : at2 H 6 = xs.length) (a8 : at2 H 8 = ys.length) (a10 : at2 H 10 = zs.length) {b1 b2 : List UInt8} {s1 s2 : List Int} (h1 : wrQ qs H [] = (0, b1, s1)) (h2 : wrR (xs ++ (ys ++ zs)) b1 s1 = (0, b2, s2)) : rdM b2 = (0, qs, xs, ys, zs) ∧ ∃ t, b2 = H ++ t := by
  obtain ⟨⟨t0, e0⟩, r0⟩ := rdQ_wr _ _ _ _ _ h1
  obtain ⟨m1, u1, k1, k1'⟩ := wrR_split _ _ _ _ _ _ h2
  obtain ⟨m2, u2, k2, k3⟩ := wrR_split _ _ _ _ _ _ k1'
  obtain ⟨⟨t1, e1⟩, r1⟩ := rdR_wr _ _ _ _ _ k1
  obtain ⟨⟨t2, e2⟩, r2⟩ := rdR_wr _ _ _ _ _ k2
  obtain ⟨⟨t3, e3⟩, r3⟩ := rdR_wr _ _ _ _ _ k3
  have q0 := r0 (t1 ++ (t2 ++ t3)) []
  have q1 := r1 (t2 ++ t3) []
  have q2 := r2 t3 []
  have q3 := r3 [] []
  have E1 : m1 ++ (t2 ++ t3) = b2 := by rw [e3, e2]; simp
  have E0 : b1 ++ (t1 ++ (t2 ++ t3)) = b2 := by rw [← E1, e1]; simp
  rw [E0, hH] at q0
  rw [E1] at q1
  rw [← e3] at q2
  rw [List.append_nil] at q3
  rw [List.nil_append] at q0 q1 q2 q3
  have hb : b2 = H ++ (t0 ++ (t1 ++ (t2 ++ t3))) := by rw [← E0, e0]; simp
  have hl : b2.length = 12 + (t0 ++ (t1 ++ (t2 ++ t3))).length := by rw [hb, List.length_append, hH]
  have f : ∀ k, k + 1 < 12 → at2 b2 k = at2 H k := fun k hk => by rw [hb]; exact at2_left H _ k (by omega)
  refine ⟨?_, _, hb⟩
  rw [rdM_end (by omega) (by rw [f 4 (by omega), a4]; exact q0) (by rw [f 6 (by omega), a6]; exact q1) (by rw [f 8 (by omega), a8]; exact q2) (by rw [f 10 (by omega), a10]; exact q3), if_neg (by omega)]
end Go.Proofs.YthccknobnpbdeaaDoor
/- append of a text's bytes onto a row of the call's own, and where the new row lies; several appends one behind the other. No function of the program. -/
namespace Go.Proofs.YthccknobnpbdeaaDoor
open Go.RowKit
set_option linter.unusedVariables false
set_option linter.unusedSimpArgs false

/-- from v to v': only v's own row and new blocks are others, and v' lies in one of these -/
structure AppTo (w w' : World) (v v' : Value) : Prop where
  grown : w.grownBy w' v.ownBlock
  blk : v'.ownBlock = v.ownBlock ∨ ∃ g, v'.ownBlock = some g ∧ w.heap.size ≤ g
section
variable {w w1 w2 : World} {v v1 v2 : Value}
theorem AppTo.refl (w : World) (v : Value) : AppTo w w v v := ⟨⟨rfl, rfl, rfl, Nat.le_refl _, fun _ _ _ => rfl⟩, .inl rfl⟩
theorem AppTo.trans (h : AppTo w w1 v v1) (k : AppTo w1 w2 v1 v2) : AppTo w w2 v v2 := by
  refine ⟨⟨k.grown.os.trans h.grown.os, k.grown.tape.trans h.grown.tape, k.grown.output.trans h.grown.output, Nat.le_trans h.grown.size k.grown.size, fun i hi hne => ?_⟩, ?_⟩
  · have h1 := h.grown.block i hi hne
    rw [← h1]
    refine k.grown.block i (Nat.lt_of_lt_of_le hi h.grown.size) ?_
    rcases h.blk with e | ⟨g, e, hg⟩
    · rw [e]; exact hne
    · rw [e]; intro h; cases h; omega
  · rcases k.blk with e | ⟨g, e, hg⟩
    · rw [e]; exact h.blk
    · exact .inr ⟨g, e, Nat.le_trans h.grown.size hg⟩
theorem AppTo.alloc {o : Obj} (h : AppTo (w.alloc o) w1 v v1) : AppTo w w1 v v1 := by
  refine ⟨⟨h.grown.os, h.grown.tape, h.grown.output, by have := h.grown.size; simp at this; omega, fun i hi hne => (h.grown.block i (by simp; omega) hne).trans (Below.heap_alloc w o i hi)⟩, ?_⟩
  rcases h.blk with e | ⟨g, e, hg⟩
  · exact .inl e
  · exact .inr ⟨g, e, by simp at hg; omega⟩
theorem AppTo.ext {os : Array Obj} {d : Nat} (h : AppTo (ext w os d) w1 v v1) : AppTo w w1 v v1 := by
  refine ⟨⟨h.grown.os, h.grown.tape, h.grown.output, by have := h.grown.size; simp [size_ext] at this; omega, fun i hi hne => (h.grown.block i (by simp [size_ext]; omega) hne).trans (heap_ext w os d hi)⟩, ?_⟩
  rcases h.blk with e | ⟨g, e, hg⟩
  · exact .inl e
  · exact .inr ⟨g, e, by simp [size_ext] at hg; omega⟩
/-- another row of the call's own, that lies in another block -/
theorem AppTo.other {base : Nat} {e : TypeId} {size n : Nat} {u : Value} {xs : List Value} (h : AppTo w w1 v v1) (ho : w.ownsRow base e size u n xs) (hne : u.ownBlock = none ∨ u.ownBlock ≠ v.ownBlock) :
    w1.ownsRow base e size u n xs ∧ (u.ownBlock = none ∨ u.ownBlock ≠ v1.ownBlock) := by
  refine ⟨ho.kept h.grown hne, ?_⟩
  rcases h.blk with e | ⟨g, e, hg⟩
  · rw [e]; exact hne
  · cases eu : u.ownBlock with
    | none => exact .inl rfl
    | some k =>
      right
      rw [e]
      have := (ho.lt k eu).2
      intro h
      cases h
      omega
theorem AppTo.below {base : Nat} {e : TypeId} {size n : Nat} {xs : List Value} (h : AppTo w w1 v v1) (ho : w.ownsRow base e size v n xs) (hb : base ≤ w.heap.size) : Below base w w1 := grown_below ho h.grown hb
end

section
variable {P : Program} {w : World}
theorem str_block (base : Nat) (t u ty e : TypeId) (i : TypeInfo) (ht : P.underlying t = some (.slice e)) (hu : P.underlying u = some .string) (hi : P.info? e = some i) (hz : i.zero = some (.int .u8 0)) (hsize : i.size = 1) (hby : i.bytes = 1)
    (v : Value) (n : Nat) (xs : List Value) (hown : w.ownsRow base e 1 v n xs) (s : ByteArray) (hbytes : n + s.size ≤ 140737488355328) {v' : Value} {w' : World}
    (hr : (Builtin.append_ #[t, u] ty #[v, .string s]).run P w = .ok v' w') : v'.ownBlock = v.ownBlock ∨ v'.ownBlock = some w.heap.size := by
  rcases hown.2 with ⟨rfl, rfl⟩ | ⟨g, cap, cur, rfl, hbg, hg, hnc, hcm, hcs, htake⟩
  · by_cases hm : s.size = 0
    · left
      have hn : Lib.strCells s = [] := List.eq_nil_of_length_eq_zero (by rw [Lib.strCells_length]; exact hm)
      have hf := Lib.run_firstCells_string (P := P) w 1 s
      rw [hm] at hf
      have hr' := hr
      simp [Builtin.append_, run_underlying ht, run_underlying hu, sizeOf, typeInfo, hi, hsize, Builtin.lenOf, hm, hf] at hr'
      rw [← hr'.1]
    · right
      have h2 := run_append_nil_string (P := P) w t u ty e i (.int .u8 0) ht hu hi hz s (by omega) (by omega) (by rw [hby]; omega)
      have h3 := hr.symm.trans h2
      injection h3 with h3
      rw [h3]; rfl
  · by_cases hroom : n + s.size ≤ cap
    · left
      have hcs' : cur.size = cap := by simpa using hcs
      have h2 := Lib.run_append_room_string (P := P) w t u ty e i ht hu hi hsize g n cap cur hg s hroom (by omega)
      have h3 := hr.symm.trans h2
      injection h3 with h3
      rw [h3]; rfl
    · right
      have hxl : xs.length = n := by simpa using hown.1
      have h2 := Lib.run_append_grow_string (P := P) w t u ty e i (.int .u8 0) ht hu hi hz ⟨g, 0, none⟩ n cap xs (by rw [hsize]; simpa using hxl) (hown.cells (g := g) rfl) s (by omega) (by omega) (by rw [hby]; exact growslice_fits (by omega) (by omega))
      have h3 := hr.symm.trans h2
      injection h3 with h3
      rw [h3]; rfl
theorem wpList_app_str {ops : Array Oper} {rest : List Oper} {o : Oper} {a : Act} {Q : Exit → Act → World → Prop} (hgd : o.guard = none) (sl x : Operand) (t u : TypeId)
    (ho : o.op = .call { callee := .builtin .append, args := #[sl, x], argTypes := #[t, u] }) (base : Nat) (e : TypeId) (E : El P t e 1 1) (hu : P.underlying u = some .string) (hze : (P.info? e).bind (·.zero) = some (.int .u8 0))
    (v : Value) (n : Nat) (xs : List Value) (hs : a.eval sl = v) (hown : w.ownsRow base e 1 v n xs) (s : ByteArray) (hx : a.eval x = .string s)
    (hbytes : n + s.size ≤ 140737488355328) (hbase : base ≤ w.heap.size)
    (h : ∀ v' w', w'.ownsRow base e 1 v' (n + s.size) (xs ++ Lib.strCells s) → AppTo w w' v v' → wpList P ops Q rest (a.put o.dst v') w') : wpList P ops Q (o :: rest) a w := by
  obtain ⟨ht, ⟨i, z, hi, hz, hsz, hby, hzs⟩, hp⟩ := E
  rw [hi] at hze
  have hz0 : i.zero = some (.int .u8 0) := hze
  refine wpList_plain hgd fun K hK => ?_
  obtain ⟨v', w', hr, h2, h3, h4⟩ := Lib.run_append_own_string (P := P) w base t u o.type e i ht hu hi hz0 hsz hby v n xs hown s (by unfold maxLen; omega) hbytes hbase
  have hb := str_block base t u o.type e i ht hu hi hz0 hsz hby v n xs hown s hbytes hr
  unfold Oper.wp execOp
  simp only [ho, resolve, invoke, builtin, Sem.run_bind, Sem.run_pure, Result.andThen_ok, List.map_toArray, List.map_cons, List.map_nil, hs, hx, hr]
  exact hK _ _ (h v' w' h2 ⟨h3, hb.imp id fun e => ⟨_, e, Nat.le_refl _⟩⟩)
/-- append of a slice, and where the new row lies -/
theorem wpList_appT {ops : Array Oper} {rest : List Oper} {o : Oper} {a : Act} {Q : Exit → Act → World → Prop} (hgd : o.guard = none) (s x : Operand) (t : TypeId)
    (ho : o.op = .call { callee := .builtin .append, args := #[s, x], argTypes := #[t, t] }) (base : Nat) (e : TypeId) (size bytes : Nat) (E : El P t e size bytes)
    (v : Value) (n : Nat) (xs : List Value) (hs : a.eval s = v) (hown : w.ownsRow base e size v n xs) (A : Option Addr) (m c : Nat) (ys : List Value) (hx : a.eval x = .slice A m c) (hsrc : Src w A m c size ys)
    (hbytes : (n + m) * bytes ≤ 140737488355328) (h63 : n + m ≤ maxLen) (hbase : base ≤ w.heap.size)
    (h : ∀ v' w', w'.ownsRow base e size v' (n + m) (xs ++ ys) → AppTo w w' v v' → wpList P ops Q rest (a.put o.dst v') w') :
    wpList P ops Q (o :: rest) a w :=
  wpList_app hgd s x t ho base e size bytes E v n xs hs hown A m c ys hx hsrc hbytes h63 hbase fun v' w' h1 h2 h3 => h v' w' h1 ⟨h2, h3.imp id fun e => ⟨_, e, Nat.le_refl _⟩⟩
end
theorem zero_u8 : (Tryd.prog.info? 5).bind (·.zero) = some (.int .u8 0) := by kernel_rfl
end Go.Proofs.YthccknobnpbdeaaDoor
/- A store into a block of the call's own keeps every reading of bytes and of texts that lie elsewhere. No function of the program. -/
namespace Go.Proofs.YthccknobnpbdeaaDoor
open Go.RowKit
set_option linter.unusedVariables false
set_option linter.unusedSimpArgs false

/-- block k holds no value of a kind -/
def FreeB (P : Value → Prop) (w : World) (k : Nat) : Prop := ∀ i u, w.cell? ⟨k, i, none⟩ = some u → ¬ P u
theorem FreeB.below {P : Value → Prop} {w w' : World} {k : Nat} (h : FreeB P w k) (hb : Below w.heap.size w w') (hk : k < w.heap.size) : FreeB P w' k := fun i u hu => h i u ((hb.cell (p := ⟨k, i, none⟩) hk).symm.trans hu)
theorem FreeB.of_blk {P : Value → Prop} {w : World} {g : Nat} {t : TypeId} {cs : Array Value} (hb : Blk w g t cs) (hc : ∀ v ∈ cs.toList, ¬ P v) : FreeB P w g := by
  intro i u hu
  rw [hb.cell] at hu
  exact hc u (by rw [Array.mem_toList_iff]; exact Array.mem_of_getElem? hu)
/-- of one size, and alike but for blocks that hold nothing of the kind -/
def SimP (P : Value → Prop) (w w' : World) : Prop := w'.heap.size = w.heap.size ∧ ∀ k, k < w.heap.size → w'.heap[k]? = w.heap[k]? ∨ FreeB P w k
section
variable {P : Value → Prop} {w w' : World}
theorem SimP.refl (P : Value → Prop) (w : World) : SimP P w w := ⟨rfl, fun _ _ => .inl rfl⟩
theorem SimP.ext (h : SimP P w w') (os : Array Obj) (d d' : Nat) : SimP P (Go.Proofs.YthccknobnpbdeaaDoor.ext w os d) (Go.Proofs.YthccknobnpbdeaaDoor.ext w' os d') := by
  refine ⟨by simp [size_ext, h.1], fun k hk => ?_⟩
  by_cases hlt : k < w.heap.size
  · rcases h.2 k hlt with e | e
    · left
      rw [heap_ext w os d hlt, heap_ext w' os d' (by rw [h.1]; exact hlt), e]
    · right
      exact e.below (below_ext w os d) hlt
  · left
    simp only [Go.Proofs.YthccknobnpbdeaaDoor.ext, Array.getElem?_append, h.1, if_neg hlt]
theorem SimP.alloc (h : SimP P w w') (o : Obj) : SimP P (w.alloc o) (w'.alloc o) := by
  refine ⟨by simp [h.1], fun k hk => ?_⟩
  by_cases hlt : k < w.heap.size
  · rcases h.2 k hlt with e | e
    · left
      rw [Below.heap_alloc w o k hlt, Below.heap_alloc w' o k (by rw [h.1]; exact hlt), e]
    · right
      exact e.below ((Below.refl _ _).alloc (Nat.le_refl _) o) hlt
  · left
    obtain rfl : k = w.heap.size := by simp at hk; omega
    have e1 := heap_alloc_new w o
    have e2 := heap_alloc_new w' o
    rw [h.1] at e2
    rw [e1, e2]
theorem SimP.allocs (h : SimP P w w') (cs : Array Value) (t : TypeId) (o : Obj) (hc : ∀ v ∈ cs.toList, ¬ P v) : SimP P (w.alloc (.cells cs t)) (w'.alloc o) := by
  refine ⟨by simp [h.1], fun k hk => ?_⟩
  by_cases hlt : k < w.heap.size
  · rcases h.2 k hlt with e | e
    · left
      rw [Below.heap_alloc w _ k hlt, Below.heap_alloc w' o k (by rw [h.1]; exact hlt), e]
    · right
      exact e.below ((Below.refl _ _).alloc (Nat.le_refl _) _) hlt
  · right
    obtain rfl : k = w.heap.size := by simp at hk; omega
    exact FreeB.of_blk (Blk.new _ _ _) hc
theorem SimP.drew (h : SimP P w w') : SimP P w.drew w' := h
theorem SimP.drew' (h : SimP P w w') : SimP P w w'.drew := h
theorem FreeB.far {k : Nat} (h : FreeB P w k) {p : Addr} (hp : k ≠ p.block) (u : Value) : FreeB P (w.setCell p u) k := by
  intro i v hv
  refine h i v (Eq.trans ?_ hv)
  exact (World.cell?_of_block (Below.heap_setCell w p u k hp)).symm
theorem SimP.set {k : Nat} (h : FreeB P w k) (i : Nat) (s : Option Nat) (u : Value) : SimP P w (w.setCell ⟨k, i, s⟩ u) := by
  refine ⟨by simp, fun j hj => ?_⟩
  by_cases e : j = k
  · exact .inr (by rw [e]; exact h)
  · exact .inl (Below.heap_setCell w ⟨k, i, s⟩ u j e)
/-- what was there is alike but for blocks that held nothing of the kind -/
def NearP (P : Value → Prop) (w w' : World) : Prop := w.heap.size ≤ w'.heap.size ∧ ∀ k, k < w.heap.size → w'.heap[k]? = w.heap[k]? ∨ FreeB P w k
theorem NearP.of_sim (h : SimP P w w') : NearP P w w' := ⟨by rw [h.1]; exact Nat.le_refl _, h.2⟩
theorem NearP.below (h : NearP P w w') {w2 : World} (hb : Below w'.heap.size w' w2) : NearP P w w2 :=
  ⟨Nat.le_trans h.1 hb.size, fun k hk => (h.2 k hk).imp (fun e => (hb.block k (Nat.lt_of_lt_of_le hk h.1)).trans e) id⟩
theorem NearP.ext (h : NearP P w w') (os : Array Obj) (d : Nat) : NearP P w (Go.Proofs.YthccknobnpbdeaaDoor.ext w' os d) := h.below (below_ext w' os d)
theorem NearP.alloc (h : NearP P w w') (o : Obj) : NearP P w (w'.alloc o) := h.below ((Below.refl _ _).alloc (Nat.le_refl _) o)
theorem NearP.drew (h : NearP P w w') : NearP P w w'.drew := h
/-- a store into a block that held nothing of the kind -/
theorem NearP.set {g i : Nat} {s : Option Nat} (h : NearP P w w') (hg : FreeB P w g) (u : Value) : NearP P w (w'.setCell ⟨g, i, s⟩ u) := by
  refine ⟨by simp; exact h.1, fun k hk => ?_⟩
  by_cases e : k = g
  · exact .inr (by rw [e]; exact hg)
  · exact (h.2 k hk).imp (fun h => (Below.heap_setCell w' ⟨g, i, s⟩ u k e).trans h) id
/-- a store into a new block -/
theorem NearP.set_new {g i : Nat} {s : Option Nat} (h : NearP P w w') (hg : w.heap.size ≤ g) (u : Value) : NearP P w (w'.setCell ⟨g, i, s⟩ u) :=
  ⟨by simp; exact h.1, fun k hk => (h.2 k hk).imp (fun h => (Below.heap_setCell w' ⟨g, i, s⟩ u k (show k ≠ g by omega)).trans h) id⟩
theorem Rd.near {α : Type} {R : Rep α} {n c : Nat} {A : Option Addr} {l : List α} (P : Value → Prop) (hP : ∀ {w : World} {B : Nat} {a : α} {vs : List Value}, R.rel w B a vs → ∀ u ∈ vs, P u) (hw : ∀ {w w' : World} {B B' : Nat} {a : α} {vs : List Value}, R.rel w B a vs → R.rel w' B' a vs)
    (h : Rd R w w.heap.size A n c l) (hn : NearP P w w') : Rd R w' w'.heap.size A n c l :=
  ⟨h.len, h.cap, h.max, h.lim, h.nil, fun i hi => by
    obtain ⟨b, off, vs, e, hlt, hr, hcell⟩ := h.at_ i hi
    refine ⟨b, off, vs, e, Nat.lt_of_lt_of_le hlt hn.1, hw hr, fun j u hu => ?_⟩
    have h1 := hcell j u hu
    rw [← h1]
    refine World.cell?_of_block ((hn.2 b hlt).resolve_right fun hf => ?_)
    exact hf _ _ h1 (hP hr u (List.mem_of_getElem? hu))⟩
def IsStr (v : Value) : Prop := ∃ s, v = .string s
def IsU8 (v : Value) : Prop := ∃ x, v = .int .u8 x
theorem Rd.near_str {n c : Nat} {A : Option Addr} {l : List ByteArray} (h : Rd strR w w.heap.size A n c l) (hn : NearP IsStr w w') : Rd strR w' w'.heap.size A n c l :=
  Rd.near (R := strR) IsStr (fun hr u hu => by rw [hr.1] at hu; exact ⟨_, List.mem_singleton.1 hu⟩) (fun hr => hr) h hn
def IsI64 (v : Value) : Prop := ∃ x, v = .int .i64 x
theorem Rd.near_int {n c : Nat} {A : Option Addr} {l : List Int} (h : Rd intR w w.heap.size A n c l) (hn : NearP IsI64 w w') : Rd intR w' w'.heap.size A n c l :=
  Rd.near (R := intR) IsI64 (fun hr u hu => by rw [hr.1] at hu; exact ⟨_, List.mem_singleton.1 hu⟩) (fun hr => hr) h hn
theorem Rd.near_u8 {n c : Nat} {A : Option Addr} {l : List UInt8} (h : Rd u8R w w.heap.size A n c l) (hn : NearP IsU8 w w') : Rd u8R w' w'.heap.size A n c l :=
  Rd.near (R := u8R) IsU8 (fun hr u hu => by rw [show _ = [_] from hr] at hu; exact ⟨_, List.mem_singleton.1 hu⟩) (fun hr => hr) h hn
end
end Go.Proofs.YthccknobnpbdeaaDoor
/- append onto a row of the call's own, whose block holds nothing of a kind: neither does the new row's block. No function of the program. -/
namespace Go.Proofs.YthccknobnpbdeaaDoor
open Go.RowKit
set_option linter.unusedVariables false
set_option linter.unusedSimpArgs false

/-- a slice's own block holds nothing of a kind -/
def FreeV (K : Value → Prop) (w : World) (v : Value) : Prop := ∀ k, v.ownBlock = some k → FreeB K w k
section
variable {K : Value → Prop} {w w' : World} {v : Value}
theorem FreeV.nil : FreeV K w (.slice none 0 0) := fun k h => (by cases h)
theorem FreeV.lit {g n c : Nat} (h : FreeB K w g) : FreeV K w (.slice (some ⟨g, 0, none⟩) n c) := fun k e => (by cases e; exact h)
theorem FreeV.below {base : Nat} {e : TypeId} {size n : Nat} {xs : List Value} (h : FreeV K w v) (ho : w.ownsRow base e size v n xs) (hb : Below w.heap.size w w') : FreeV K w' v := fun k hk => (h k hk).below hb (ho.lt k hk).2
theorem FreeV.grown {base : Nat} {e : TypeId} {size n : Nat} {xs : List Value} {r : Option Nat} (h : FreeV K w v) (ho : w.ownsRow base e size v n xs) (hg : w.grownBy w' r) (hr : v.ownBlock = none ∨ v.ownBlock ≠ r) : FreeV K w' v := by
  intro k hk i u hu
  refine h k hk i u ?_
  rw [← hu]
  exact (World.cell?_of_block (hg.block k (ho.lt k hk).2 (by rw [← hk]; exact hr.resolve_left (by rw [hk]; simp)))).symm
theorem FreeV.set {g i : Nat} {s : Option Nat} {u : Value} (h : FreeV K w v) (hne : v.ownBlock = none ∨ v.ownBlock ≠ some g) : FreeV K (w.setCell ⟨g, i, s⟩ u) v := fun k hk =>
  (h k hk).far (fun e => (hne.elim (fun h0 => by rw [hk] at h0; cases h0) fun h1 => h1 (by rw [hk, show k = g from e]))) u
theorem FreeV.drew (h : FreeV K w v) : FreeV K w.drew v := h
theorem mem_zero {z : Array Value} {n : Nat} {u : Value} (h : u ∈ (Builtin.zeroCells z n).toList) : u ∈ z.toList := by
  unfold Builtin.zeroCells at h
  simp only [Array.toList_map, List.mem_map, Array.mem_toList_iff] at h
  obtain ⟨i, hi, rfl⟩ := h
  rw [Array.mem_range] at hi
  have hz : 0 < z.size := by
    rcases Nat.eq_zero_or_pos z.size with h | h
    · rw [h] at hi; omega
    · exact h
  have := Nat.mod_lt i hz
  rw [getElem!_pos z _ this]
  exact Array.mem_toList_iff.2 (Array.getElem_mem this)
/-- what a row of the call's own holds is of no kind, if its block holds nothing of it -/
theorem own_free {base : Nat} {e : TypeId} {size n : Nat} {xs : List Value} (ho : w.ownsRow base e size v n xs) (hf : FreeV K w v) (hn : 0 < n ∨ xs = []) : ∀ u ∈ xs, ¬ K u := by
  rcases ho.2 with ⟨rfl, rfl⟩ | ⟨g, cap, cur, rfl, hbg, hg, hnc, hcm, hcs, htake⟩
  · have hx : xs = [] := List.eq_nil_of_length_eq_zero (by simpa using ho.1)
    subst hx
    simp
  · intro u hu
    obtain ⟨j, hj, rfl⟩ := List.getElem_of_mem hu
    have := ho.cells (g := g) rfl j _ (List.getElem?_eq_getElem hj)
    rw [add_none] at this
    exact hf g rfl _ _ this
end
section
variable {P : Program} {w : World} {K : Value → Prop}
theorem free_app (base : Nat) (t ty e : TypeId) (size bytes : Nat) (E : El P t e size bytes) (hz : ∀ z, (P.info? e).bind (·.zero) = some z → ∀ u ∈ z.cells.toList, ¬ K u) {v : Value} {n : Nat} {xs : List Value} (hown : w.ownsRow base e size v n xs) (hf : FreeV K w v)
    {A : Option Addr} {m c : Nat} {ys : List Value} (hs : Src w A m c size ys) (hy : ∀ u ∈ ys, ¬ K u) (hbytes : (n + m) * bytes ≤ 140737488355328) (h63 : n + m ≤ maxLen) {v' : Value} {w' : World}
    (hr : (Builtin.append_ #[t, t] ty #[v, .slice A m c]).run P w = .ok v' w') : FreeV K w' v' := by
  obtain ⟨ht, ⟨i, z, hi, hz0, hsz, hby, hzs⟩, hp⟩ := E
  have hzz := hz z (by rw [hi]; exact hz0)
  have hsmall : n + m ≤ 9223372036854775807 := by simp only [maxLen] at h63; omega
  rcases A with _ | ad
  · obtain ⟨rfl, rfl⟩ := hs.nil rfl
    have h2 := run_append_owned_none (P := P) (w := w) base t ty e i size ht hi v n xs hown
    have h3 := hr.symm.trans h2
    injection h3 with h3 h4
    subst h3; subst h4
    exact hf
  · have hl := hs.len
    have hnews := hs.at_ ad rfl
    subst hsz
    subst hby
    rcases hown.2 with ⟨rfl, rfl⟩ | ⟨g, cap, cur, rfl, hbg, hg, hnc, hcm, hcs, htake⟩
    · by_cases hm : m = 0
      · subst hm
        have hn : ys = [] := List.eq_nil_of_length_eq_zero (by simpa using hl)
        subst hn
        have h2 : (Builtin.append_ #[t, t] ty #[.slice none 0 0, .slice (some ad) 0 c]).run P w = .ok (.slice none 0 0) w := by
          simp [Builtin.append_, run_underlying ht, sizeOf, typeInfo, hi, Builtin.lenOf, Builtin.firstCells, loadCells, loadCellsFrom]
        have h3 := hr.symm.trans h2
        injection h3 with h3 h4
        subst h3; subst h4
        exact hf
      · have h2 := run_append_nil (P := P) w t ty e i z ht hi hz0 ad m c ys hl hnews (by omega) (by omega) (by simp only [Nat.zero_add] at hbytes; omega)
        have h3 := hr.symm.trans h2
        injection h3 with h3 h4
        subst h3; subst h4
        refine FreeV.lit (FreeB.of_blk (t := e) (cs := ys.toArray ++ Builtin.zeroCells z.cells (grownCap w m 0 e - m)) (Blk.new w.drew _ _) ?_)
        intro u hu
        rw [Array.toList_append, List.mem_append] at hu
        rcases hu with hu | hu
        · exact hy u hu
        · exact hzz u (mem_zero hu)
    · by_cases hroom : n + m ≤ cap
      · have hfit : n * i.size + ys.length ≤ cur.size := by rw [hl, hcs, ← Nat.add_mul]; exact Nat.mul_le_mul_right _ hroom
        have h2 := run_append_room (P := P) w t ty e i ht hi g n cap cur hg ad m c ys hl hnews hs.one hroom hfit
        have h3 := hr.symm.trans h2
        injection h3 with h3 h4
        subst h3; subst h4
        have hb : Blk w g e cur := hg
        have hcur : ∀ u ∈ cur.toList, ¬ K u := by
          intro u hu
          obtain ⟨j, hj, rfl⟩ := List.getElem_of_mem hu
          refine hf g rfl j _ ?_
          rw [hb.cell j]
          simp only [Array.length_toList] at hj
          rw [Array.getElem?_eq_getElem hj]
          simp
        refine FreeV.lit (FreeB.of_blk (t := e) (setRow_heap w g cur _ e _ hg) ?_)
        intro u hu
        simp only [List.mem_append] at hu
        rcases hu with (hu | hu) | hu
        · exact hcur u (List.mem_of_mem_take hu)
        · exact hy u hu
        · exact hcur u (List.mem_of_mem_drop hu)
      · have h2 := run_append_grow (P := P) w t ty e i z ht hi hz0 ⟨g, 0, none⟩ n cap xs hown.1 (hown.cells (g := g) rfl) ad m c ys hl hnews (by omega) (by omega) (growslice_fits (by omega) hbytes)
        have h3 := hr.symm.trans h2
        injection h3 with h3 h4
        subst h3; subst h4
        refine FreeV.lit (FreeB.of_blk (t := e) (cs := xs.toArray ++ ys.toArray ++ Builtin.zeroCells z.cells (grownCap w (n + m) cap e - (n + m))) (Blk.new w.drew _ _) ?_)
        have hxs : ∀ u ∈ xs, ¬ K u := by
          intro u hu
          obtain ⟨j, hj, rfl⟩ := List.getElem_of_mem hu
          have := hown.cells (g := g) rfl j _ (List.getElem?_eq_getElem hj)
          rw [add_none] at this
          exact hf g rfl _ _ this
        intro u hu
        rw [Array.toList_append, Array.toList_append, List.mem_append, List.mem_append] at hu
        rcases hu with (hu | hu) | hu
        · exact hxs u hu
        · exact hy u hu
        · exact hzz u (mem_zero hu)
/-- append, in a region that draws: where the new row lies, and that it holds nothing of a kind -/
theorem step_appF {ops : Array Oper} {o : Oper} {a : Act} {Q : Exit → Act → World → Prop} {KK : Act → World → Prop} {F : Prop} (hgd : o.guard = none) (s x : Operand) (t : TypeId)
    (ho : o.op = .call { callee := .builtin .append, args := #[s, x], argTypes := #[t, t] }) (base : Nat) (e : TypeId) (size bytes : Nat) (E : El P t e size bytes) (hz : ∀ z, (P.info? e).bind (·.zero) = some z → ∀ u ∈ z.cells.toList, ¬ K u)
    (v : Value) (n : Nat) (xs : List Value) (hs : a.eval s = v) (hown : w.ownsRow base e size v n xs) (hf : FreeV K w v) (A : Option Addr) (m c : Nat) (ys : List Value) (hx : a.eval x = .slice A m c) (hsrc : Src w A m c size ys) (hy : ∀ u ∈ ys, ¬ K u)
    (hbytes : (n + m) * bytes ≤ 140737488355328) (h63 : n + m ≤ maxLen) (hbase : base ≤ w.heap.size)
    (h : ∀ v' w', w'.ownsRow base e size v' (n + m) (xs ++ ys) → AppTo w w' v v' → FreeV K w' v' → KK (a.put o.dst v') w') :
    if Region.wanted o (yielded ops a.tmps) = true then Oper.wp P o a w KK Q else F := by
  have hw : Region.wanted o (yielded ops a.tmps) = true := by simp [Region.wanted, hgd]
  rw [if_pos hw]
  obtain ⟨v', w', hr, h2, h3, h5⟩ := run_app (P := P) (w := w) base t o.type e size bytes E v n xs hown A m c ys hsrc hbytes h63 hbase
  have h6 := free_app (K := K) base t o.type e size bytes E hz hown hf hsrc hy hbytes h63 hr
  unfold Oper.wp execOp
  simp only [ho, resolve, invoke, builtin, Sem.run_bind, Sem.run_pure, Result.andThen_ok, List.map_toArray, List.map_cons, List.map_nil, hs, hx, hr]
  exact h v' w' h2 ⟨h3, h5.imp id fun e => ⟨_, e, Nat.le_refl _⟩⟩ h6
theorem wpList_appF {ops : Array Oper} {rest : List Oper} {o : Oper} {a : Act} {Q : Exit → Act → World → Prop} (hgd : o.guard = none) (s x : Operand) (t : TypeId)
    (ho : o.op = .call { callee := .builtin .append, args := #[s, x], argTypes := #[t, t] }) (base : Nat) (e : TypeId) (size bytes : Nat) (E : El P t e size bytes) (hz : ∀ z, (P.info? e).bind (·.zero) = some z → ∀ u ∈ z.cells.toList, ¬ K u)
    (v : Value) (n : Nat) (xs : List Value) (hs : a.eval s = v) (hown : w.ownsRow base e size v n xs) (hf : FreeV K w v) (A : Option Addr) (m c : Nat) (ys : List Value) (hx : a.eval x = .slice A m c) (hsrc : Src w A m c size ys) (hy : ∀ u ∈ ys, ¬ K u)
    (hbytes : (n + m) * bytes ≤ 140737488355328) (h63 : n + m ≤ maxLen) (hbase : base ≤ w.heap.size)
    (h : ∀ v' w', w'.ownsRow base e size v' (n + m) (xs ++ ys) → AppTo w w' v v' → FreeV K w' v' → wpList P ops Q rest (a.put o.dst v') w') :
    wpList P ops Q (o :: rest) a w := by
  refine wpList_plain hgd fun KK hK => ?_
  obtain ⟨v', w', hr, h2, h3, h5⟩ := run_app (P := P) (w := w) base t o.type e size bytes E v n xs hown A m c ys hsrc hbytes h63 hbase
  have h6 := free_app (K := K) base t o.type e size bytes E hz hown hf hsrc hy hbytes h63 hr
  unfold Oper.wp execOp
  simp only [ho, resolve, invoke, builtin, Sem.run_bind, Sem.run_pure, Result.andThen_ok, List.map_toArray, List.map_cons, List.map_nil, hs, hx, hr]
  exact hK _ _ (h v' w' h2 ⟨h3, h5.imp id fun e => ⟨_, e, Nat.le_refl _⟩⟩ h6)
end
section
variable {K : Value → Prop} {w w' : World} {v v' : Value}
/-- readings of a kind are kept where one row grew that holds nothing of the kind -/
theorem AppTo.near (h : AppTo w w' v v') (hf : FreeV K w v) : NearP K w w' :=
  ⟨h.grown.size, fun k hk => by
    by_cases e : v.ownBlock = some k
    · exact .inr (hf k e)
    · exact .inl (h.grown.block k hk (fun h => e h.symm))⟩
end
end Go.Proofs.YthccknobnpbdeaaDoor
