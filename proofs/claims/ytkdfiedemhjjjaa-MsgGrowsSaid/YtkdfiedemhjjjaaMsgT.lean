/- Messages in plain Lean: what was sent is read; no beginning alone of a message is one, and none with more behind it. No function of the program. -/
import Derived.Test.YtkdfiedemhjjjaaMsgR
namespace Go.Proofs.Ytkdfiedemhjjjaa
set_option linter.unusedVariables false

theorem rdM_short {b : List UInt8} (h : b.length < 12) : rdM b = (2, [], [], [], []) := by unfold rdM; rw [if_pos h]
theorem rdM_q {b : List UInt8} {e : Int} (h0 : ¬ b.length < 12) (h : (rdQ b (at2 b 4) 12 []).1 = e) (he : e ≠ 0) : rdM b = (e, [], [], [], []) := by
  unfold rdM; rw [if_neg h0, h, if_neg he]
theorem rdM_x {b : List UInt8} {e : Int} {qs : List QT} {p1 : Nat} (h0 : ¬ b.length < 12) (h1 : rdQ b (at2 b 4) 12 [] = (0, qs, p1)) (h : (rdR b (at2 b 6) p1 []).1 = e) (he : e ≠ 0) : rdM b = (e, [], [], [], []) := by
  unfold rdM; rw [if_neg h0, h1]; simp only [if_true]; rw [h, if_neg he]
theorem rdM_y {b : List UInt8} {e : Int} {qs : List QT} {xs : List RecT} {p1 p2 : Nat} (h0 : ¬ b.length < 12) (h1 : rdQ b (at2 b 4) 12 [] = (0, qs, p1)) (h2 : rdR b (at2 b 6) p1 [] = (0, xs, p2)) (h : (rdR b (at2 b 8) p2 []).1 = e) (he : e ≠ 0) : rdM b = (e, [], [], [], []) := by
  unfold rdM; rw [if_neg h0, h1]; simp only [if_true]; rw [h2]; simp only [if_true]; rw [h, if_neg he]
theorem rdM_z {b : List UInt8} {e : Int} {qs : List QT} {xs ys : List RecT} {p1 p2 p3 : Nat} (h0 : ¬ b.length < 12) (h1 : rdQ b (at2 b 4) 12 [] = (0, qs, p1)) (h2 : rdR b (at2 b 6) p1 [] = (0, xs, p2)) (h3 : rdR b (at2 b 8) p2 [] = (0, ys, p3)) (h : (rdR b (at2 b 10) p3 []).1 = e) (he : e ≠ 0) : rdM b = (e, [], [], [], []) := by
  unfold rdM; rw [if_neg h0, h1]; simp only [if_true]; rw [h2]; simp only [if_true]; rw [h3]; simp only [if_true]; rw [h, if_neg he]
theorem rdM_end {b : List UInt8} {qs : List QT} {xs ys zs : List RecT} {p1 p2 p3 p4 : Nat} (h0 : ¬ b.length < 12) (h1 : rdQ b (at2 b 4) 12 [] = (0, qs, p1)) (h2 : rdR b (at2 b 6) p1 [] = (0, xs, p2)) (h3 : rdR b (at2 b 8) p2 [] = (0, ys, p3)) (h4 : rdR b (at2 b 10) p3 [] = (0, zs, p4)) : rdM b = if p4 < b.length then (8, [], [], [], []) else (0, qs, xs, ys, zs) := by
  unfold rdM; rw [if_neg h0, h1]; simp only [if_true]; rw [h2]; simp only [if_true]; rw [h3]; simp only [if_true]; rw [h4]; simp only [if_true]
theorem rdQ_zero {b : List UInt8} {k p : Nat} {acc : List QT} (h : (rdQ b k p acc).1 = 0) : rdQ b k p acc = (0, (rdQ b k p acc).2.1, (rdQ b k p acc).2.2) := by rw [← h]
theorem rdR_zero {b : List UInt8} {k p : Nat} {acc : List RecT} (h : (rdR b k p acc).1 = 0) : rdR b k p acc = (0, (rdR b k p acc).2.1, (rdR b k p acc).2.2) := by rw [← h]
/-- how a message is read whole -/
theorem rdM_ok {b : List UInt8} (h : (rdM b).1 = 0) : ∃ qs xs ys zs p1 p2 p3 p4, ¬ b.length < 12 ∧ rdQ b (at2 b 4) 12 [] = (0, qs, p1) ∧ rdR b (at2 b 6) p1 [] = (0, xs, p2) ∧ rdR b (at2 b 8) p2 [] = (0, ys, p3) ∧ rdR b (at2 b 10) p3 [] = (0, zs, p4) ∧ ¬ p4 < b.length ∧ rdM b = (0, qs, xs, ys, zs) := by
  by_cases h0 : b.length < 12
  · rw [rdM_short h0] at h; exact absurd h (by decide)
  by_cases h1 : (rdQ b (at2 b 4) 12 []).1 = 0
  · have e1 := rdQ_zero h1
    by_cases h2 : (rdR b (at2 b 6) (rdQ b (at2 b 4) 12 []).2.2 []).1 = 0
    · have e2 := rdR_zero h2
      by_cases h3 : (rdR b (at2 b 8) (rdR b (at2 b 6) (rdQ b (at2 b 4) 12 []).2.2 []).2.2 []).1 = 0
      · have e3 := rdR_zero h3
        by_cases h4 : (rdR b (at2 b 10) (rdR b (at2 b 8) (rdR b (at2 b 6) (rdQ b (at2 b 4) 12 []).2.2 []).2.2 []).2.2 []).1 = 0
        · have e4 := rdR_zero h4
          have e := rdM_end h0 e1 e2 e3 e4
          by_cases hp : (rdR b (at2 b 10) (rdR b (at2 b 8) (rdR b (at2 b 6) (rdQ b (at2 b 4) 12 []).2.2 []).2.2 []).2.2 []).2.2 < b.length
          · rw [e, if_pos hp] at h; exact absurd h (by decide)
          · rw [if_neg hp] at e
            exact ⟨_, _, _, _, _, _, _, _, h0, e1, e2, e3, e4, hp, e⟩
        · rw [rdM_z h0 e1 e2 e3 rfl h4] at h; exact absurd h h4
      · rw [rdM_y h0 e1 e2 rfl h3] at h; exact absurd h h3
    · rw [rdM_x h0 e1 rfl h2] at h; exact absurd h h2
  · rw [rdM_q h0 rfl h1] at h; exact absurd h h1
theorem rdM_bad {b : List UInt8} {e : Int} (h : (rdM b).1 = e) (he : e ≠ 0) : rdM b = (e, [], [], [], []) := by
  subst h
  by_cases h0 : b.length < 12
  · rw [rdM_short h0]
  by_cases h1 : (rdQ b (at2 b 4) 12 []).1 = 0
  · have e1 := rdQ_zero h1
    by_cases h2 : (rdR b (at2 b 6) (rdQ b (at2 b 4) 12 []).2.2 []).1 = 0
    · have e2 := rdR_zero h2
      by_cases h3 : (rdR b (at2 b 8) (rdR b (at2 b 6) (rdQ b (at2 b 4) 12 []).2.2 []).2.2 []).1 = 0
      · have e3 := rdR_zero h3
        by_cases h4 : (rdR b (at2 b 10) (rdR b (at2 b 8) (rdR b (at2 b 6) (rdQ b (at2 b 4) 12 []).2.2 []).2.2 []).2.2 []).1 = 0
        · have e4 := rdR_zero h4
          have e := rdM_end h0 e1 e2 e3 e4
          by_cases hp : (rdR b (at2 b 10) (rdR b (at2 b 8) (rdR b (at2 b 6) (rdQ b (at2 b 4) 12 []).2.2 []).2.2 []).2.2 []).2.2 < b.length
          · rw [e, if_pos hp]
          · rw [if_neg hp] at e
            rw [e] at he; exact absurd rfl he
        · rw [rdM_z h0 e1 e2 e3 rfl h4]
      · rw [rdM_y h0 e1 e2 rfl h3]
    · rw [rdM_x h0 e1 rfl h2]
  · rw [rdM_q h0 rfl h1]

/-! more behind -/
theorem rdQ_app : ∀ (n : Nat) (b k : List UInt8) (p : Nat) (acc : List QT), (rdQ b n p acc).1 = 0 → rdQ (b ++ k) n p acc = rdQ b n p acc
  | 0, b, k, p, acc, h => rfl
  | n + 1, b, k, p, acc, h => by
    by_cases h0 : (rdN b p).1 = 0
    · obtain ⟨l, q, e1, e2, e3, e4⟩ := rdN_nat h0
      by_cases hq : q + 4 ≤ b.length
      · rw [rdQ_step e1 hq] at h ⊢
        rw [rdQ_step (rdN_app e1 k) (by rw [List.length_append]; omega), at2_left b k q (by omega), at2_left b k (q + 2) (by omega)]
        exact rdQ_app n b k _ _ h
      · rw [rdQ_short e1 hq] at h; exact absurd h (by decide)
    · rw [rdQ_bad rfl h0] at h; exact absurd h h0
theorem rdR_app : ∀ (n : Nat) (b k : List UInt8) (p : Nat) (acc : List RecT), (rdR b n p acc).1 = 0 → rdR (b ++ k) n p acc = rdR b n p acc
  | 0, b, k, p, acc, h => rfl
  | n + 1, b, k, p, acc, h => by
    by_cases h0 : (rrF b p).1 = 0
    · obtain ⟨l, q, en, e1, e2, e3, e4, e5⟩ := rrF_nat h0
      rw [rdR_step e1] at h ⊢
      obtain ⟨f1, f2⟩ := rrF_app e1 k
      rw [rdR_step f1, f2]
      exact rdR_app n b k _ _ h
    · rw [rdR_bad rfl h0] at h; exact absurd h h0
theorem rdM_more {b : List UInt8} (h : (rdM b).1 = 0) (k : List UInt8) (hk : k ≠ []) : rdM (b ++ k) = (8, [], [], [], []) := by
  obtain ⟨qs, xs, ys, zs, p1, p2, p3, p4, h0, h1, h2, h3, h4, h5, h6⟩ := rdM_ok h
  have hl : 0 < k.length := List.length_pos_iff.2 hk
  have g1 := rdQ_app _ b k _ _ (by rw [h1]); rw [h1] at g1
  have g2 := rdR_app _ b k _ _ (by rw [h2]); rw [h2] at g2
  have g3 := rdR_app _ b k _ _ (by rw [h3]); rw [h3] at g3
  have g4 := rdR_app _ b k _ _ (by rw [h4]); rw [h4] at g4
  have u1 := (rdQ_good _ b 12 [] (by rw [h1]) (by simp)).2.2 (by omega); rw [h1] at u1
  have u2 := (rdR_good _ b p1 [] (by rw [h2]) (by simp)).2.2 u1; rw [h2] at u2
  have u3 := (rdR_good _ b p2 [] (by rw [h3]) (by simp)).2.2 u2; rw [h3] at u3
  have u4 := (rdR_good _ b p3 [] (by rw [h4]) (by simp)).2.2 u3; rw [h4] at u4
  simp only at u4
  rw [rdM_end (b := b ++ k) (by rw [List.length_append]; omega) (by rw [at2_left b k 4 (by omega)]; exact g1) (by rw [at2_left b k 6 (by omega)]; exact g2) (by rw [at2_left b k 8 (by omega)]; exact g3) (by rw [at2_left b k 10 (by omega)]; exact g4), if_pos (by rw [List.length_append]; omega)]

/-! a beginning alone -/
theorem nm_torn (m k : List UInt8) (low at_ size : Nat) : (nm (m ++ k) low at_ size).1 = 0 → (nm m low at_ size).1 = 0 ∨ (nm m low at_ size).1 = 2 := by
  induction low, at_, size using nm.induct (m := m) with
  | case1 low at_ size h h0 => intro _; left; rw [nm, dif_pos h, if_pos h0]
  | case2 low at_ size h h0 h1 h2 h3 ih =>
    rw [nm, nm.eq_def m low at_ size, dif_pos h, if_neg h0, if_pos h1, dif_pos h2, if_pos h3, dif_pos (by simp; omega)]
    simp only [List.getElem_append_left h, List.getElem_append_left h2]
    rw [if_neg h0, if_pos h1, dif_pos (by simp; omega), if_pos h3]
    exact ih
  | case3 low at_ size h h0 h1 h2 h3 =>
    rw [nm, dif_pos (by simp; omega)]
    simp only [List.getElem_append_left h, List.getElem_append_left h2]
    rw [if_neg h0, if_pos h1, dif_pos (by simp; omega), if_neg h3]
    intro e; cases e
  | case4 low at_ size h h0 h1 h2 => intro _; right; rw [nm, dif_pos h, if_neg h0, if_pos h1, dif_neg h2]
  | case5 low at_ size h h0 h1 h2 =>
    rw [nm, dif_pos (by simp; omega)]
    simp only [List.getElem_append_left h]
    rw [if_neg h0, if_neg h1, if_pos h2]
    intro e; cases e
  | case6 low at_ size h h0 h1 h2 h3 h4 ih =>
    rw [nm, nm.eq_def m low at_ size, dif_pos h, if_neg h0, if_neg h1, if_neg h2, if_pos h3, if_pos h4, dif_pos (by simp; omega)]
    simp only [List.getElem_append_left h]
    rw [if_neg h0, if_neg h1, if_neg h2, if_pos (by simp; omega), if_pos h4]
    exact ih
  | case7 low at_ size h h0 h1 h2 h3 h4 =>
    rw [nm, dif_pos (by simp; omega)]
    simp only [List.getElem_append_left h]
    rw [if_neg h0, if_neg h1, if_neg h2, if_pos (by simp; omega), if_neg h4]
    intro e; cases e
  | case8 low at_ size h h0 h1 h2 h3 => intro _; right; rw [nm, dif_pos h, if_neg h0, if_neg h1, if_neg h2, if_neg h3]
  | case9 low at_ size h => intro _; right; rw [nm, dif_neg h]
theorem rdN_torn {m k : List UInt8} {p : Nat} (h : (rdN (m ++ k) p).1 = 0) : (rdN m p).1 = 0 ∨ (rdN m p).1 = 2 := by
  unfold rdN at h ⊢
  rw [if_neg (by omega)] at h ⊢
  have := nm_torn m k (p : Int).toNat (p : Int).toNat 1
  by_cases h0 : (nm (m ++ k) (p : Int).toNat (p : Int).toNat 1).1 = 0
  · rcases this h0 with h1 | h1
    · left; rw [if_pos h1]
    · right; rw [if_neg (by omega), h1]
  · rw [if_neg h0] at h; exact absurd h h0
theorem rrF_torn {m k : List UInt8} {p : Nat} (h : (rrF (m ++ k) p).1 = 0) : (rrF m p).1 = 0 ∨ (rrF m p).1 = 2 := by
  have h0 : (rdN (m ++ k) p).1 = 0 := by
    unfold rrF at h
    by_cases h0 : (rdN (m ++ k) p).1 = 0
    · exact h0
    · rw [if_neg h0] at h; exact absurd h h0
  unfold rrF
  rcases rdN_torn h0 with h1 | h1
  · rw [if_pos h1]
    split
    · exact .inl rfl
    · exact .inr rfl
  · right; rw [if_neg (by omega), h1]
theorem rdQ_torn : ∀ (n : Nat) (b k : List UInt8) (p : Nat) (acc : List QT), (rdQ (b ++ k) n p acc).1 = 0 → (rdQ b n p acc).1 = 0 ∨ (rdQ b n p acc).1 = 2
  | 0, b, k, p, acc, h => .inl rfl
  | n + 1, b, k, p, acc, h => by
    have h0 : (rdN (b ++ k) p).1 = 0 := by
      by_cases h0 : (rdN (b ++ k) p).1 = 0
      · exact h0
      · rw [rdQ_bad rfl h0] at h; exact absurd h h0
    rcases rdN_torn h0 with h1 | h1
    · obtain ⟨l, q, e1, e2, e3, e4⟩ := rdN_nat h1
      by_cases hq : q + 4 ≤ b.length
      · rw [rdQ_step e1 hq]
        rw [rdQ_step (rdN_app e1 k) (by rw [List.length_append]; omega), at2_left b k q (by omega), at2_left b k (q + 2) (by omega)] at h
        exact rdQ_torn n b k _ _ h
      · right; rw [rdQ_short e1 hq]
    · right; rw [rdQ_bad h1 (by decide)]
theorem rdR_torn : ∀ (n : Nat) (b k : List UInt8) (p : Nat) (acc : List RecT), (rdR (b ++ k) n p acc).1 = 0 → (rdR b n p acc).1 = 0 ∨ (rdR b n p acc).1 = 2
  | 0, b, k, p, acc, h => .inl rfl
  | n + 1, b, k, p, acc, h => by
    have h0 : (rrF (b ++ k) p).1 = 0 := by
      by_cases h0 : (rrF (b ++ k) p).1 = 0
      · exact h0
      · rw [rdR_bad rfl h0] at h; exact absurd h h0
    rcases rrF_torn h0 with h1 | h1
    · obtain ⟨l, q, en, e1, e2, e3, e4, e5⟩ := rrF_nat h1
      rw [rdR_step e1]
      obtain ⟨f1, f2⟩ := rrF_app e1 k
      rw [rdR_step f1, f2] at h
      exact rdR_torn n b k _ _ h
    · right; rw [rdR_bad h1 (by decide)]
theorem rdM_torn {b k : List UInt8} (hk : k ≠ []) (h : (rdM (b ++ k)).1 = 0) : rdM b = (2, [], [], [], []) := by
  obtain ⟨qs, xs, ys, zs, p1, p2, p3, p4, h0, h1, h2, h3, h4, h5, h6⟩ := rdM_ok h
  have hl : 0 < k.length := List.length_pos_iff.2 hk
  by_cases b0 : b.length < 12
  · exact rdM_short b0
  rw [at2_left b k 4 (by omega)] at h1
  rw [at2_left b k 6 (by omega)] at h2
  rw [at2_left b k 8 (by omega)] at h3
  rw [at2_left b k 10 (by omega)] at h4
  rcases rdQ_torn _ b k _ _ (by rw [h1]) with t1 | t1
  · have g1 := rdQ_app _ b k _ _ t1; rw [h1] at g1
    have u1 := (rdQ_good _ b 12 [] t1 (by simp)).2.2 (by omega); rw [← g1] at u1
    rcases rdR_torn _ b k _ _ (by rw [h2]) with t2 | t2
    · have g2 := rdR_app _ b k _ _ t2; rw [h2] at g2
      have u2 := (rdR_good _ b p1 [] t2 (by simp)).2.2 u1; rw [← g2] at u2
      rcases rdR_torn _ b k _ _ (by rw [h3]) with t3 | t3
      · have g3 := rdR_app _ b k _ _ t3; rw [h3] at g3
        have u3 := (rdR_good _ b p2 [] t3 (by simp)).2.2 u2; rw [← g3] at u3
        rcases rdR_torn _ b k _ _ (by rw [h4]) with t4 | t4
        · have g4 := rdR_app _ b k _ _ t4; rw [h4] at g4
          have u4 := (rdR_good _ b p3 [] t4 (by simp)).2.2 u3; rw [← g4] at u4
          simp only at u4
          rw [List.length_append] at h5
          omega
        · exact rdM_z b0 g1.symm g2.symm g3.symm t4 (by decide)
      · exact rdM_y b0 g1.symm g2.symm t3 (by decide)
    · exact rdM_x b0 g1.symm t2 (by decide)
  · exact rdM_q b0 t1 (by decide)

/-! what was sent is read -/
theorem wrR_split (a b : List RecT) : ∀ (m : List UInt8) (s : List Int) (m' : List UInt8) (s' : List Int), wrR (a ++ b) m s = (0, m', s') → ∃ m1 s1, wrR a m s = (0, m1, s1) ∧ wrR b m1 s1 = (0, m', s') := by
  induction a with
  | nil => intro m s m' s' h; exact ⟨m, s, rfl, h⟩
  | cons r a ih =>
    intro m s m' s' h
    rw [List.cons_append, wrR] at h
    rw [wrR]
    by_cases h0 : recErr r = 0
    · rw [if_pos h0] at h ⊢; exact ih _ _ _ _ h
    · rw [if_neg h0] at h
      simp only [Prod.mk.injEq] at h
      exact absurd h.1 h0
theorem rdM_sent {H : List UInt8} (hH : H.length = 12) {qs : List QT} {xs ys zs : List RecT} (a4 : at2 H 4 = qs.length) (a6 : at2 H 6 = xs.length) (a8 : at2 H 8 = ys.length) (a10 : at2 H 10 = zs.length) {b1 b2 : List UInt8} {s1 s2 : List Int} (h1 : wrQ qs H [] = (0, b1, s1)) (h2 : wrR (xs ++ (ys ++ zs)) b1 s1 = (0, b2, s2)) : rdM b2 = (0, qs, xs, ys, zs) ∧ ∃ t, b2 = H ++ t := by
  obtain ⟨⟨t0, e0⟩, r0⟩ := rdQ_wr _ _ _ _ _ h1
  obtain ⟨m1, u1, k1, k1'⟩ := wrR_split _ _ _ _ _ _ h2
  obtain ⟨m2, u2, k2, k3⟩ := wrR_split _ _ _ _ _ _ k1'
  obtain ⟨⟨t1, e1⟩, r1⟩ := rdR_wr _ _ _ _ _ k1
  obtain ⟨⟨t2, e2⟩, r2⟩ := rdR_wr _ _ _ _ _ k2
  obtain ⟨⟨t3, e3⟩, r3⟩ := rdR_wr _ _ _ _ _ k3
  have q0 := r0 (t1 ++ (t2 ++ t3)) []
  have q1 := r1 (t2 ++ t3) []
  have q2 := r2 t3 []
  have q3 := r3 [] []
  have E1 : m1 ++ (t2 ++ t3) = b2 := by rw [e3, e2]; simp
  have E0 : b1 ++ (t1 ++ (t2 ++ t3)) = b2 := by rw [← E1, e1]; simp
  rw [E0, hH] at q0
  rw [E1] at q1
  rw [← e3] at q2
  rw [List.append_nil] at q3
  rw [List.nil_append] at q0 q1 q2 q3
  have hb : b2 = H ++ (t0 ++ (t1 ++ (t2 ++ t3))) := by rw [← E0, e0]; simp
  have hl : b2.length = 12 + (t0 ++ (t1 ++ (t2 ++ t3))).length := by rw [hb, List.length_append, hH]
  have f : ∀ k, k + 1 < 12 → at2 b2 k = at2 H k := fun k hk => by rw [hb]; exact at2_left H _ k (by omega)
  refine ⟨?_, _, hb⟩
  rw [rdM_end (by omega) (by rw [f 4 (by omega), a4]; exact q0) (by rw [f 6 (by omega), a6]; exact q1) (by rw [f 8 (by omega), a8]; exact q2) (by rw [f 10 (by omega), a10]; exact q3), if_neg (by omega)]
end Go.Proofs.Ytkdfiedemhjjjaa
