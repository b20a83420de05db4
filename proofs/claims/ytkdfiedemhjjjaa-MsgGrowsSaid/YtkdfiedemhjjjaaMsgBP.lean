/- Messages: what was sent is read as it was, what was read can be sent, or is too long; plain laws of what Write and Read tell. -/
import Derived.Test.YtkdfiedemhjjjaaMsgW
import Derived.Test.YtkdfiedemhjjjaaMsgD
namespace Go.Proofs.Ytkdfiedemhjjjaa
open Go.RowKit
set_option linter.unusedVariables false

def cntH (h : Hd) (q x y z : Nat) : List UInt8 := hdB h ++ cntB q x y z 4
theorem cntH_len (h : Hd) (q x y z : Nat) : (cntH h q x y z).length = 12 := rfl
theorem two2_byte (n : Int) (h0 : 0 ≤ n) (h1 : n ≤ 65535) : (UInt8.ofNat (n / 256 % 256).toNat).toNat * 256 + (UInt8.ofNat (n % 256).toNat).toNat = n.toNat := by
  simp only [UInt8.toNat_ofNat']; omega
theorem cntH_at (h : Hd) (q x y z : Nat) (hq : q ≤ 65535) (hx : x ≤ 65535) (hy : y ≤ 65535) (hz : z ≤ 65535) : at2 (cntH h q x y z) 4 = q ∧ at2 (cntH h q x y z) 6 = x ∧ at2 (cntH h q x y z) 8 = y ∧ at2 (cntH h q x y z) 10 = z :=
  ⟨two2_byte (q : Int) (by omega) (by omega), two2_byte (x : Int) (by omega) (by omega), two2_byte (y : Int) (by omega) (by omega), two2_byte (z : Int) (by omega) (by omega)⟩
theorem hok_iff {h : Hd} : HOk h ↔ 0 ≤ h.id ∧ h.id ≤ 65535 ∧ 0 ≤ h.op ∧ h.op ≤ 15 ∧ 0 ≤ h.code ∧ h.code ≤ 15 := ⟨fun k => ⟨k.i0, k.i1, k.o0, k.o1, k.c0, k.c1⟩, fun k => ⟨k.1, k.2.1, k.2.2.1, k.2.2.2.1, k.2.2.2.2.1, k.2.2.2.2.2⟩⟩
/-- a message that can be sent -/
theorem msgT_ok {h : Hd} {qs : List QT} {xs ys zs : List RecT} (e : (msgT h qs xs ys zs).1 = 0) : HOk h ∧ (qs.length ≤ 65535 ∧ xs.length ≤ 65535 ∧ ys.length ≤ 65535 ∧ zs.length ≤ 65535) ∧
    ∃ b1 s1 b2 s2, wrQ qs (cntH h qs.length xs.length ys.length zs.length) [] = (0, b1, s1) ∧ wrR (xs ++ (ys ++ zs)) b1 s1 = (0, b2, s2) ∧ b2.length ≤ 65535 ∧ msgT h qs xs ys zs = (0, b2) := by
  unfold msgT at e ⊢
  by_cases hh : 0 ≤ h.id ∧ h.id ≤ 65535 ∧ 0 ≤ h.op ∧ h.op ≤ 15 ∧ 0 ≤ h.code ∧ h.code ≤ 15
  · rw [if_pos hh] at e ⊢
    refine ⟨hok_iff.2 hh, ?_⟩
    by_cases hc : qs.length ≤ 65535 ∧ xs.length ≤ 65535 ∧ ys.length ≤ 65535 ∧ zs.length ≤ 65535
    · rw [if_pos hc] at e ⊢
      refine ⟨hc, ?_⟩
      show ∃ b1 s1 b2 s2, wrQ qs (hdB h ++ cntB qs.length xs.length ys.length zs.length 4) [] = (0, b1, s1) ∧ _
      generalize hdB h ++ cntB qs.length xs.length ys.length zs.length 4 = H at *
      unfold mwR at e ⊢
      by_cases h1 : (wrQ qs H []).1 = 0
      · rw [if_pos h1] at e ⊢
        by_cases h2 : (wrR (xs ++ (ys ++ zs)) (wrQ qs H []).2.1 (wrQ qs H []).2.2).1 = 0
        · rw [if_pos h2] at e ⊢
          by_cases h3 : (wrR (xs ++ (ys ++ zs)) (wrQ qs H []).2.1 (wrQ qs H []).2.2).2.1.length ≤ 65535
          · rw [if_pos h3]
            exact ⟨(wrQ qs H []).2.1, (wrQ qs H []).2.2, (wrR (xs ++ (ys ++ zs)) (wrQ qs H []).2.1 (wrQ qs H []).2.2).2.1, (wrR (xs ++ (ys ++ zs)) (wrQ qs H []).2.1 (wrQ qs H []).2.2).2.2, by rw [← h1], by rw [← h2], h3, rfl⟩
          · rw [if_neg h3] at e; cases e
        · rw [if_neg h2] at e; exact absurd e h2
      · rw [if_neg h1] at e; exact absurd e h1
    · rw [if_neg hc] at e; cases e
  · rw [if_neg hh] at e; cases e
theorem hdOf_sent (h : Hd) (k : HOk h) (q x y z : Nat) (t : List UInt8) : hdOf (cntH h q x y z ++ t) = h := by
  obtain ⟨hb, w0, w1⟩ := back_head h k
  have c : ∀ x : Int, 0 ≤ x → x ≤ 255 → (((UInt8.ofNat x.toNat).toNat : Nat) : Int) = x := fun x h0 h1 => by rw [UInt8.toNat_ofNat']; omega
  have i0 := k.i0
  have i1 := k.i1
  show hdK (bits .or .i64 (((UInt8.ofNat (h.id / 256).toNat).toNat : Int) * 256) ((UInt8.ofNat (h.id % 256).toNat).toNat : Int)) (bits .or .i64 (((UInt8.ofNat (word h / 256 % 256).toNat).toNat : Int) * 256) ((UInt8.ofNat (word h % 256).toNat).toNat : Int)) 7 = h
  rw [c (h.id / 256) (by omega) (by omega), c (h.id % 256) (by omega) (by omega), c (word h / 256 % 256) (by omega) (by omega), c (word h % 256) (by omega) (by omega)]
  exact hb
theorem hdOf_ok (m : List UInt8) : HOk (hdOf m) := by
  obtain ⟨h, e, k, _⟩ := back_bytes (m.getD 0 0).toNat (m.getD 1 0).toNat (m.getD 2 0).toNat (m.getD 3 0).toNat (UInt8.toNat_lt _) (UInt8.toNat_lt _) (UInt8.toNat_lt _) (UInt8.toNat_lt _)
  unfold hdOf
  rw [e]; exact k
/-- WHAT IS SENT IS READ -/
theorem msg_back {h : Hd} {qs : List QT} {xs ys zs : List RecT} {b : List UInt8} (e : msgT h qs xs ys zs = (0, b)) : rdM b = (0, qs, xs, ys, zs) ∧ hdOf b = h ∧ b.length ≤ 65535 ∧ 12 ≤ b.length := by
  obtain ⟨hh, hc, b1, s1, b2, s2, h1, h2, h3, h4⟩ := msgT_ok (by rw [e])
  rw [e] at h4
  obtain rfl : b = b2 := by cases h4; rfl
  obtain ⟨a1, a2, a3, a4⟩ := cntH_at h qs.length xs.length ys.length zs.length hc.1 hc.2.1 hc.2.2.1 hc.2.2.2
  obtain ⟨r1, t, rfl⟩ := rdM_sent (cntH_len _ _ _ _ _) a1 a2 a3 a4 h1 h2
  exact ⟨r1, hdOf_sent h hh _ _ _ _ t, h3, by rw [List.length_append, cntH_len]; omega⟩
/-- what is read can be sent, if it is not too long -/
theorem msg_again {m : List UInt8} {qs : List QT} {xs ys zs : List RecT} (e : rdM m = (0, qs, xs, ys, zs)) : (msgT (hdOf m) qs xs ys zs).1 = 0 ∨ msgT (hdOf m) qs xs ys zs = (7, []) := by
  obtain ⟨qs', xs', ys', zs', p1, p2, p3, p4, h0, h1, h2, h3, h4, h5, h6⟩ := rdM_ok (b := m) (by rw [e])
  rw [e] at h6
  cases h6
  have g1 := rdQ_good _ m 12 [] (by rw [h1]) (by simp)
  have g2 := rdR_good _ m p1 [] (by rw [h2]) (by simp)
  have g3 := rdR_good _ m p2 [] (by rw [h3]) (by simp)
  have g4 := rdR_good _ m p3 [] (by rw [h4]) (by simp)
  rw [h1] at g1
  rw [h2] at g2
  rw [h3] at g3
  rw [h4] at g4
  simp only [List.length_nil, Nat.zero_add] at g1 g2 g3 g4
  have z1 := at2_le m 4
  have z2 := at2_le m 6
  have z3 := at2_le m 8
  have z4 := at2_le m 10
  unfold msgT
  rw [if_pos (hok_iff.1 (hdOf_ok m)), if_pos (by omega)]
  generalize hdB (hdOf m) ++ cntB qs.length xs.length ys.length zs.length 4 = H
  have k1 := wrQ_good qs H [] g1.1
  have k2 := wrR_good (xs ++ (ys ++ zs)) (wrQ qs H []).2.1 (wrQ qs H []).2.2 (by
    intro r hr
    rcases List.mem_append.1 hr with hr | hr
    · exact g2.1 r hr
    · rcases List.mem_append.1 hr with hr | hr
      · exact g3.1 r hr
      · exact g4.1 r hr)
  unfold mwR
  rw [if_pos k1, if_pos k2]
  split
  · exact .inl rfl
  · exact .inr rfl
end Go.Proofs.Ytkdfiedemhjjjaa
