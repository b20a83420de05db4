/- Records as they are sent, in plain Lean: what is read at a place, what is sent. No function of the program. -/
import Derived.Test.YtkdfiedemhjjjaaWireP
namespace Go.Proofs.Ytkdfiedemhjjjaa
set_option linter.unusedVariables false

/-- two bytes at a place -/
def at2 (m : List UInt8) (p : Nat) : Nat := (m.getD p 0).toNat * 256 + (m.getD (p + 1) 0).toNat
theorem at2_le (m : List UInt8) (p : Nat) : at2 m p ≤ 65535 := by
  unfold at2
  have h1 := (m.getD p 0).toNat_lt
  have h2 := (m.getD (p + 1) 0).toNat_lt
  omega
theorem at2_cons (a b : UInt8) (l : List UInt8) : at2 (a :: b :: l) 0 = a.toNat * 256 + b.toNat := rfl
theorem at2_tail (a : UInt8) (l : List UInt8) (k : Nat) : at2 (a :: l) (k + 1) = at2 l k := rfl
theorem at2_app (P t : List UInt8) (k : Nat) : at2 (P ++ t) (P.length + k) = at2 t k := by
  unfold at2
  simp only [List.getD_eq_getElem?_getD]
  rw [List.getElem?_append_right (by omega), List.getElem?_append_right (by omega), Nat.add_sub_cancel_left, show P.length + k + 1 - P.length = k + 1 by omega]
theorem at2_left (P t : List UInt8) (k : Nat) (h : k + 1 < P.length) : at2 (P ++ t) k = at2 P k := by
  unfold at2
  simp only [List.getD_eq_getElem?_getD]
  rw [List.getElem?_append_left (by omega), List.getElem?_append_left (by omega)]
theorem at2_drop (m : List UInt8) (p k : Nat) : at2 (m.drop p) k = at2 m (p + k) := by
  unfold at2
  simp only [List.getD_eq_getElem?_getD, List.getElem?_drop, Nat.add_assoc]
/-- a number in two bytes -/
def two2 (n : Int) : List UInt8 := [UInt8.ofNat (n / 256 % 256).toNat, UInt8.ofNat (n % 256).toNat]
theorem two2_at (n : Int) (l : List UInt8) (h0 : 0 ≤ n) (h1 : n ≤ 65535) : ((at2 (two2 n ++ l) 0 : Nat) : Int) = n := by
  show ((at2 (_ :: _ :: l) 0 : Nat) : Int) = n
  rw [at2_cons, UInt8.toNat_ofNat', UInt8.toNat_ofNat']
  omega
theorem two2_len (n : Int) : (two2 n).length = 2 := rfl

abbrev RecT := List ByteArray × Int × Int × Int × List UInt8 × Unit
def recErr (r : RecT) : Int :=
  if nameErr r.1 = 0 then
    if 0 ≤ r.2.1 ∧ r.2.1 ≤ 65535 ∧ 0 ≤ r.2.2.1 ∧ r.2.2.1 ≤ 65535 ∧ 0 ≤ r.2.2.2.1 ∧ r.2.2.2.1 ≤ 4294967295 then
      if r.2.2.2.2.1.length ≤ 65535 then 0 else 7
    else 6
  else nameErr r.1
/-- behind the name -/
def recTail (T C L : Int) (d : List UInt8) : List UInt8 := two2 T ++ (two2 C ++ (two2 (L / 65536) ++ (two2 (L % 65536) ++ (two2 (d.length : Int) ++ d))))
theorem recTail_len (T C L : Int) (d : List UInt8) : (recTail T C L d).length = 10 + d.length := by simp [recTail, two2]; omega
theorem at2_two (n : Int) (l : List UInt8) (k : Nat) : at2 (two2 n ++ l) (k + 2) = at2 l k := at2_app (two2 n) l k ▸ (by rw [two2_len, Nat.add_comm])
theorem recTail_at (T C L : Int) (d : List UInt8) (hT : 0 ≤ T ∧ T ≤ 65535) (hC : 0 ≤ C ∧ C ≤ 65535) (hL : 0 ≤ L ∧ L ≤ 4294967295) (hd : d.length ≤ 65535) :
    ((at2 (recTail T C L d) 0 : Nat) : Int) = T ∧ ((at2 (recTail T C L d) 2 : Nat) : Int) = C ∧ ((at2 (recTail T C L d) 4 : Nat) : Int) * 65536 + ((at2 (recTail T C L d) 6 : Nat) : Int) = L ∧ at2 (recTail T C L d) 8 = d.length ∧ (recTail T C L d).drop 10 = d := by
  have e2 : at2 (recTail T C L d) 2 = at2 (two2 C ++ (two2 (L / 65536) ++ (two2 (L % 65536) ++ (two2 (d.length : Int) ++ d)))) 0 := at2_two T _ 0
  have e4 : at2 (recTail T C L d) 4 = at2 (two2 (L / 65536) ++ (two2 (L % 65536) ++ (two2 (d.length : Int) ++ d))) 0 := (at2_two T _ 2).trans (at2_two C _ 0)
  have e6 : at2 (recTail T C L d) 6 = at2 (two2 (L % 65536) ++ (two2 (d.length : Int) ++ d)) 0 := (at2_two T _ 4).trans ((at2_two C _ 2).trans (at2_two _ _ 0))
  have e8 : at2 (recTail T C L d) 8 = at2 (two2 (d.length : Int) ++ d) 0 := (at2_two T _ 6).trans ((at2_two C _ 4).trans ((at2_two _ _ 2).trans (at2_two _ _ 0)))
  have h8 := two2_at (d.length : Int) d (by omega) (by omega)
  refine ⟨two2_at T _ hT.1 hT.2, ?_, ?_, ?_, rfl⟩
  · rw [e2]; exact two2_at C _ hC.1 hC.2
  · rw [e4, e6, two2_at _ _ (by omega) (by omega), two2_at _ _ (by omega) (by omega)]; omega
  · rw [e8]; omega

/-- the fixed part: what is wrong, the name, the place behind it, the place behind all -/
def rrF (m : List UInt8) (at_ : Int) : Int × List ByteArray × Nat × Nat :=
  if (rdN m at_).1 = 0 then
    if (rdN m at_).2.2.toNat + 10 ≤ m.length ∧ (rdN m at_).2.2.toNat + 10 + at2 m ((rdN m at_).2.2.toNat + 8) ≤ m.length then (0, (rdN m at_).2.1, (rdN m at_).2.2.toNat, (rdN m at_).2.2.toNat + 10 + at2 m ((rdN m at_).2.2.toNat + 8))
    else (2, [], 0, 0)
  else ((rdN m at_).1, [], 0, 0)
def recOf (m : List UInt8) (l : List ByteArray) (p en : Nat) : RecT := (l, (at2 m p : Nat), (at2 m (p + 2) : Nat), (at2 m (p + 4) : Nat) * 65536 + (at2 m (p + 6) : Nat), (m.drop (p + 10)).take (en - (p + 10)), ())
theorem rrF_ok {m : List UInt8} {at_ : Int} {l : List ByteArray} {p en : Nat} : rrF m at_ = (0, l, p, en) ↔ rdN m at_ = (0, l, (p : Int)) ∧ p + 10 ≤ m.length ∧ en = p + 10 + at2 m (p + 8) ∧ en ≤ m.length := by
  unfold rrF
  constructor
  · intro h
    by_cases h0 : (rdN m at_).1 = 0
    · rw [if_pos h0] at h
      split at h
      · rename_i h1
        simp only [Prod.mk.injEq, true_and] at h
        obtain ⟨h2, h3, h4⟩ := h
        have hr : rdN m at_ = (0, (rdN m at_).2.1, (rdN m at_).2.2) := by rw [← h0]
        obtain ⟨a, k, rfl, hk, _⟩ := rdN_ok.1 hr
        rw [hk, Int.toNat_natCast] at h3 h4 h1
        subst h3
        refine ⟨by rw [hr, h2, hk], h1.1, h4.symm, by omega⟩
      · cases h
    · rw [if_neg h0] at h
      simp only [Prod.mk.injEq] at h
      exact absurd h.1 h0
  · rintro ⟨h, h1, rfl, h2⟩
    rw [h]
    simp only [Int.toNat_natCast, if_true]
    rw [if_pos ⟨h1, h2⟩]
theorem rrF_bad {m : List UInt8} {at_ : Int} {k : Int} (h : (rrF m at_).1 = k) (hk : k ≠ 0) : rrF m at_ = (k, [], 0, 0) := by
  unfold rrF at h ⊢
  by_cases h0 : (rdN m at_).1 = 0
  · rw [if_pos h0] at h ⊢
    split
    · rename_i h1; rw [if_pos h1] at h; exact absurd h.symm hk
    · rename_i h1; rw [if_neg h1] at h; rw [← h]
  · rw [if_neg h0] at h ⊢
    rw [← h]
theorem rrF_app {m : List UInt8} {at_ : Int} {l : List ByteArray} {p en : Nat} (h : rrF m at_ = (0, l, p, en)) (k : List UInt8) : rrF (m ++ k) at_ = (0, l, p, en) ∧ recOf (m ++ k) l p en = recOf m l p en := by
  obtain ⟨h1, h2, rfl, h3⟩ := rrF_ok.1 h
  have h8 := at2_left m k (p + 8) (by omega)
  refine ⟨rrF_ok.2 ⟨rdN_app h1 k, by rw [List.length_append]; omega, by rw [h8], by rw [List.length_append]; omega⟩, ?_⟩
  unfold recOf
  rw [at2_left m k p (by omega), at2_left m k (p + 2) (by omega), at2_left m k (p + 4) (by omega), at2_left m k (p + 6) (by omega), List.drop_append_of_le_length (by omega), List.take_append_of_le_length (by rw [List.length_drop]; omega)]
/-- what is sent -/
def recB (m : List UInt8) (ss : List Int) (r : RecT) : List UInt8 := m ++ packT m ss r.1 ++ recTail r.2.1 r.2.2.1 r.2.2.2.1 r.2.2.2.2.1
theorem recErr_zero {r : RecT} (h : recErr r = 0) : nameErr r.1 = 0 ∧ (0 ≤ r.2.1 ∧ r.2.1 ≤ 65535) ∧ (0 ≤ r.2.2.1 ∧ r.2.2.1 ≤ 65535) ∧ (0 ≤ r.2.2.2.1 ∧ r.2.2.2.1 ≤ 4294967295) ∧ r.2.2.2.2.1.length ≤ 65535 := by
  unfold recErr at h
  by_cases h0 : nameErr r.1 = 0
  · rw [if_pos h0] at h
    split at h
    · rename_i h1
      split at h
      · rename_i h2
        exact ⟨h0, ⟨h1.1, h1.2.1⟩, ⟨h1.2.2.1, h1.2.2.2.1⟩, ⟨h1.2.2.2.2.1, h1.2.2.2.2.2⟩, h2⟩
      · cases h
    · cases h
  · rw [if_neg h0] at h; exact absurd h h0
theorem rr_back (m : List UInt8) (ss : List Int) (r : RecT) (h : recErr r = 0) : rrF (recB m ss r) (m.length : Int) = (0, r.1, (m ++ packT m ss r.1).length, (recB m ss r).length) ∧ recOf (recB m ss r) r.1 (m ++ packT m ss r.1).length (recB m ss r).length = r := by
  obtain ⟨l, T, C, L, d, u⟩ := r
  obtain ⟨h0, h1, h2, h3, h4⟩ := recErr_zero h
  simp only at h0 h1 h2 h3 h4
  obtain ⟨t0, t2, t4, t8, t10⟩ := recTail_at T C L d h1 h2 h3 h4
  have hr := rdN_app (pack_back m ss l h0) (recTail T C L d)
  have hl : (recB m ss (l, T, C, L, d, u)).length = (m ++ packT m ss l).length + (10 + d.length) := by unfold recB; rw [List.length_append, recTail_len]
  have a0 := at2_app (m ++ packT m ss l) (recTail T C L d) 0
  have a2 := at2_app (m ++ packT m ss l) (recTail T C L d) 2
  have a4 := at2_app (m ++ packT m ss l) (recTail T C L d) 4
  have a6 := at2_app (m ++ packT m ss l) (recTail T C L d) 6
  have a8 := at2_app (m ++ packT m ss l) (recTail T C L d) 8
  have a10 : (m ++ packT m ss l ++ recTail T C L d).drop ((m ++ packT m ss l).length + 10) = d := by rw [← List.drop_drop, List.drop_left, t10]
  rw [Nat.add_zero] at a0
  refine ⟨rrF_ok.2 ⟨hr, by rw [hl]; show (m ++ packT m ss l).length + 10 ≤ _; omega, ?_, Nat.le_refl _⟩, ?_⟩
  · rw [hl]
    show _ = (m ++ packT m ss l).length + 10 + at2 (m ++ packT m ss l ++ recTail T C L d) _
    rw [a8, t8]; omega
  · rw [hl]
    unfold recOf recB
    simp only
    rw [a0, a2, a4, a6, a10, t0, t2, t4, show (m ++ packT m ss l).length + (10 + d.length) - ((m ++ packT m ss l).length + 10) = d.length by omega, List.take_length]
/-- another TTL in its place -/
theorem recB_ttl (P d : List UInt8) (T C L L' : Int) (k : Nat) (hk : k = P.length + 4) :
    ((((P ++ recTail T C L d).set k (UInt8.ofNat (L' / 65536 / 256 % 256).toNat)).set (k + 1) (UInt8.ofNat (L' / 65536 % 256).toNat)).set (k + 2) (UInt8.ofNat (L' % 65536 / 256 % 256).toNat)).set (k + 3) (UInt8.ofNat (L' % 65536 % 256).toNat) = P ++ recTail T C L' d := by
  subst hk
  rw [List.set_append_right _ _ (by omega), List.set_append_right _ _ (by omega), List.set_append_right _ _ (by omega), List.set_append_right _ _ (by omega)]
  congr 1
  simp only [Nat.add_sub_cancel_left, show P.length + 4 + 1 - P.length = 5 by omega, show P.length + 4 + 2 - P.length = 6 by omega, show P.length + 4 + 3 - P.length = 7 by omega]
  rfl
end Go.Proofs.Ytkdfiedemhjjjaa
