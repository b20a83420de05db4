/- Other TTLs laid over those of a message that was sent, plain. No function of the program. -/
import Derived.Test.YtkdfiedemhjjjaaK9
import Derived.Test.YtkdfiedemhjjjaaK5
import Derived.Test.YtkdfiedemhjjjaaK3
import Derived.BigRegion
import Derived.Test.YtkdfiedemhjjjaaK4
import Derived.Deep.RegionLaw
namespace Go.Proofs.Ytkdfiedemhjjjaa
set_option linter.unusedVariables false
set_option linter.unusedSimpArgs false

def setL (L : Int) (r : RecT) : RecT := (r.1, r.2.1, r.2.2.1, L, r.2.2.2.2.1, ())
def fourB (L : Int) : List UInt8 := two2 (L / 65536) ++ two2 (L % 65536)
theorem fourB_len (L : Int) : (fourB L).length = 4 := rfl
/-- a TTL at a place -/
def putL (L : Int) (m : List UInt8) (p : Nat) : List UInt8 := m.take p ++ (fourB L ++ m.drop (p + 4))
theorem putL_len {L : Int} {m : List UInt8} {p : Nat} (h : p + 4 ≤ m.length) : (putL L m p).length = m.length := by
  unfold putL
  simp only [List.length_append, fourB_len, List.length_take, List.length_drop]
  omega
theorem putL_tail (P q d : List UInt8) (T C L L' : Int) : putL L' (P ++ recTail T C L d ++ q) (P.length + 4) = P ++ recTail T C L' d ++ q := by
  unfold putL recTail fourB
  have e1 : (P ++ (two2 T ++ (two2 C ++ (two2 (L / 65536) ++ (two2 (L % 65536) ++ (two2 (d.length : Int) ++ d))))) ++ q) = (P ++ (two2 T ++ two2 C)) ++ ((two2 (L / 65536) ++ two2 (L % 65536)) ++ (two2 (d.length : Int) ++ d ++ q)) := by simp only [List.append_assoc]
  have l1 : (P ++ (two2 T ++ two2 C)).length = P.length + 4 := by simp only [List.length_append, two2_len]
  have l2 : (two2 (L / 65536) ++ two2 (L % 65536)).length = 4 := rfl
  rw [e1, ← l1, List.take_left, ← List.drop_drop, List.drop_left, ← l2, List.drop_left]
  simp only [List.append_assoc]
/-- the places -/
def plsR : List RecT → List UInt8 → List Int → List Nat
  | [], _, _ => []
  | r :: rs, b, ss => ((b ++ packT b ss r.1).length + 4) :: plsR rs (recB b ss r) (stS b ss r.1)
theorem recErr_setL {L : Int} {r : RecT} (h : recErr r = 0) (h0 : 0 ≤ L) (h1 : L ≤ 4294967295) : recErr (setL L r) = 0 := by
  obtain ⟨a, b, c, d, e⟩ := recErr_zero h
  unfold recErr setL
  simp only
  rw [if_pos a]
  split
  · simp only
    first | rfl | (rw [if_pos e]; done) | (rw [if_neg (by omega)]; done) | skip
  · rename_i hh
    exact absurd ⟨b.1, b.2, c.1, c.2, h0, h1⟩ hh
theorem wrR_pre : ∀ {rs : List RecT} {b : List UInt8} {ss : List Int} {c : List UInt8} {s' : List Int}, wrR rs b ss = (0, c, s') → ∃ t, c = b ++ t
  | [], b, ss, c, s', h => by
    simp only [wrR, Prod.mk.injEq, true_and] at h
    exact ⟨[], by rw [List.append_nil, h.1]⟩
  | r :: rs, b, ss, c, s', h => by
    rw [wrR] at h
    by_cases hq : recErr r = 0
    · rw [if_pos hq] at h
      obtain ⟨t, rfl⟩ := wrR_pre h
      exact ⟨packT b ss r.1 ++ recTail r.2.1 r.2.2.1 r.2.2.2.1 r.2.2.2.2.1 ++ t, by simp [recB]⟩
    · rw [if_neg hq] at h
      simp only [Prod.mk.injEq] at h
      exact absurd h.1 hq
theorem wrQ_pre : ∀ {qs : List QT} {b : List UInt8} {ss : List Int} {c : List UInt8} {s' : List Int}, wrQ qs b ss = (0, c, s') → ∃ t, c = b ++ t
  | [], b, ss, c, s', h => by
    simp only [wrQ, Prod.mk.injEq, true_and] at h
    exact ⟨[], by rw [List.append_nil, h.1]⟩
  | q :: qs, b, ss, c, s', h => by
    rw [wrQ] at h
    by_cases hq : qErr q = 0
    · rw [if_pos hq] at h
      obtain ⟨t, rfl⟩ := wrQ_pre h
      exact ⟨packT b ss q.1 ++ (two2 q.2.1 ++ two2 q.2.2.1) ++ t, by simp [qB]⟩
    · rw [if_neg hq] at h
      simp only [Prod.mk.injEq] at h
      exact absurd h.1 hq
/-- other TTLs, sent -/
theorem wrR_ttl {L : Int} (h0 : 0 ≤ L) (h1 : L ≤ 4294967295) : ∀ (rs : List RecT) (b b' : List UInt8) (ss : List Int) (c : List UInt8) (s' : List Int), Al b b' ss → wrR rs b ss = (0, c, s') →
    ∃ t t', c = b ++ t ∧ wrR (rs.map (setL L)) b' ss = (0, b' ++ t', s') ∧ Al c (b' ++ t') s' ∧ (plsR rs b ss).foldl (putL L) (b' ++ t) = b' ++ t'
  | [], b, b', ss, c, s', ha, h => by
    simp only [wrR, Prod.mk.injEq, true_and] at h
    obtain ⟨rfl, rfl⟩ := h
    exact ⟨[], [], by simp, by simp [wrR], by simpa using ha, by simp [plsR]⟩
  | r :: rs, b, b', ss, c, s', ha, h => by
    rw [wrR] at h
    by_cases hq : recErr r = 0
    · rw [if_pos hq] at h
      obtain ⟨nm, T, C, LL, d, _⟩ := r
      have hn := (recErr_zero hq).1
      have hl : ∀ x y : Int, (recTail T C x d).length = (recTail T C y d).length := fun x y => by rw [recTail_len, recTail_len]
      have ha1 := ha.pack hn []
      rw [List.append_nil, List.append_nil] at ha1
      -- the record's bytes, in both
      have h2 : Al (recB b ss (nm, T, C, LL, d, ())) (recB b' ss (nm, T, C, L, d, ())) (stS b ss nm) := by
        refine ⟨?_, fun s hs => ?_⟩
        · have e0 := ha1.1
          simp only [List.length_append] at e0
          show (b ++ packT b ss nm ++ recTail T C LL d).length = (b' ++ packT b' ss nm ++ recTail T C L d).length
          simp only [List.length_append, recTail_len]
          omega
        · obtain ⟨n, x, y, g1, g2⟩ := ha1.2 s hs
          exact ⟨n, x, y, rdN_app g1 _, rdN_app g2 _⟩
      obtain ⟨t, t', rfl, g1, g2, g3⟩ := wrR_ttl h0 h1 rs (recB b ss (nm, T, C, LL, d, ())) (recB b' ss (nm, T, C, L, d, ())) (stS b ss nm) c s' h2 h
      refine ⟨packT b ss nm ++ recTail T C LL d ++ t, packT b ss nm ++ recTail T C L d ++ t', by simp [recB], ?_, ?_, ?_⟩
      · rw [List.map_cons, wrR, if_pos (recErr_setL hq h0 h1)]
        have e : stS b' ss nm = stS b ss nm := by unfold stS; rw [← ha.packN, ← ha.1]
        show wrR (rs.map (setL L)) (recB b' ss (nm, T, C, L, d, ())) (stS b' ss nm) = _
        rw [e, g1]
        simp [recB, ha.packT]
      · have e : b' ++ (packT b ss nm ++ recTail T C L d ++ t') = recB b' ss (nm, T, C, L, d, ()) ++ t' := by simp [recB, ha.packT]
        rw [e]; exact g2
      · rw [plsR, List.foldl_cons]
        have e1 : b' ++ (packT b ss nm ++ recTail T C LL d ++ t) = (b' ++ packT b ss nm) ++ recTail T C LL d ++ t := by simp
        have e2 : (b ++ packT b ss nm).length = (b' ++ packT b ss nm).length := by rw [List.length_append, List.length_append, ha.1]
        rw [e1, e2, putL_tail]
        have e3 : (b' ++ packT b ss nm) ++ recTail T C L d ++ t = recB b' ss (nm, T, C, L, d, ()) ++ t := by simp [recB, ha.packT]
        rw [e3, g3]
        simp [recB, ha.packT]
    · rw [if_neg hq] at h
      simp only [Prod.mk.injEq] at h
      exact absurd h.1 hq
theorem al_refl (b : List UInt8) : Al b b [] := ⟨rfl, fun s hs => by cases hs⟩
theorem plsR_le : ∀ (rs : List RecT) (b : List UInt8) (ss : List Int) (c : List UInt8) (s' : List Int), wrR rs b ss = (0, c, s') → ∀ p ∈ plsR rs b ss, p + 4 ≤ c.length
  | [], b, ss, c, s', h, p, hp => by cases hp
  | r :: rs, b, ss, c, s', h, p, hp => by
    rw [wrR] at h
    by_cases hq : recErr r = 0
    · rw [if_pos hq] at h
      rw [plsR] at hp
      rcases List.mem_cons.1 hp with rfl | hp
      · obtain ⟨t, rfl⟩ := wrR_pre h
        unfold recB
        simp only [List.length_append, recTail_len]
        omega
      · exact plsR_le rs _ _ c s' h p hp
    · rw [if_neg hq] at h
      simp only [Prod.mk.injEq] at h
      exact absurd h.1 hq
/-- one more record of those that were sent is found -/
theorem skip_step {r : RecT} {rs : List RecT} {b : List UInt8} {ss : List Int} {c : List UInt8} {s' : List Int} (h : wrR (r :: rs) b ss = (0, c, s')) :
    wrR rs (recB b ss r) (stS b ss r.1) = (0, c, s') ∧ rrF c (b.length : Int) = (0, r.1, (b ++ packT b ss r.1).length, (recB b ss r).length) := by
  rw [wrR] at h
  by_cases hq : recErr r = 0
  · rw [if_pos hq] at h
    refine ⟨h, ?_⟩
    obtain ⟨t, rfl⟩ := wrR_pre h
    exact (rrF_app (rr_back b ss r hq).1 t).1
  · rw [if_neg hq] at h
    simp only [Prod.mk.injEq] at h
    exact absurd h.1 hq
/-- one more question -/
theorem quest_step {q : QT} {qs : List QT} {b : List UInt8} {ss : List Int} {c : List UInt8} {s' : List Int} (h : wrQ (q :: qs) b ss = (0, c, s')) :
    wrQ qs (qB b ss q) (stS b ss q.1) = (0, c, s') ∧ ∃ n : Nat, rdN c (b.length : Int) = (0, q.1, (n : Int)) ∧ n + 4 = (qB b ss q).length := by
  rw [wrQ] at h
  by_cases hq : qErr q = 0
  · rw [if_pos hq] at h
    refine ⟨h, (b ++ packT b ss q.1).length, ?_, ?_⟩
    · obtain ⟨t, rfl⟩ := wrQ_pre h
      have := rdN_app (pack_back b ss q.1 (qErr_zero hq).1) ((two2 q.2.1 ++ two2 q.2.2.1) ++ t)
      rw [← List.append_assoc] at this
      exact this
    · unfold qB
      simp only [List.length_append, two2_len]
  · rw [if_neg hq] at h
    simp only [Prod.mk.injEq] at h
    exact absurd h.1 hq
end Go.Proofs.Ytkdfiedemhjjjaa
/- A message that was sent, with other TTLs, plain. No function of the program. -/
namespace Go.Proofs.Ytkdfiedemhjjjaa
set_option linter.unusedVariables false
set_option linter.unusedSimpArgs false

theorem msgT_mk {h : Hd} {qs : List QT} {xs ys zs : List RecT} (hh : HOk h) (hc : qs.length ≤ 65535 ∧ xs.length ≤ 65535 ∧ ys.length ≤ 65535 ∧ zs.length ≤ 65535) {b1 b2 : List UInt8} {s1 s2 : List Int}
    (h1 : wrQ qs (cntH h qs.length xs.length ys.length zs.length) [] = (0, b1, s1)) (h2 : wrR (xs ++ (ys ++ zs)) b1 s1 = (0, b2, s2)) (h3 : b2.length ≤ 65535) : msgT h qs xs ys zs = (0, b2) := by
  unfold msgT
  rw [if_pos (hok_iff.1 hh), if_pos hc]
  show mwR qs (xs ++ (ys ++ zs)) (cntH h qs.length xs.length ys.length zs.length) = _
  unfold mwR
  simp only [h1, h2, if_true]
  rw [if_pos h3]
/-- other TTLs over those of all of its records make the message with these -/
theorem msgT_ttl {L : Int} (h0 : 0 ≤ L) (h1 : L ≤ 4294967295) {h : Hd} {qs : List QT} {xs ys zs : List RecT} {b : List UInt8} (e : msgT h qs xs ys zs = (0, b)) :
    ∃ b1 s1 s2, wrQ qs (cntH h qs.length xs.length ys.length zs.length) [] = (0, b1, s1) ∧ wrR (xs ++ (ys ++ zs)) b1 s1 = (0, b, s2) ∧ b.length ≤ 65535 ∧
      msgT h qs (xs.map (setL L)) (ys.map (setL L)) (zs.map (setL L)) = (0, (plsR (xs ++ (ys ++ zs)) b1 s1).foldl (putL L) b) := by
  obtain ⟨hh, hc, b1, s1, b2, s2, g1, g2, g3, g4⟩ := msgT_ok (by rw [e])
  rw [e] at g4
  obtain rfl : b = b2 := by cases g4; rfl
  obtain ⟨tq, hq1, _, hal⟩ := wrQ_al qs _ _ [] b1 s1 (al_refl (cntH h qs.length xs.length ys.length zs.length)) g1
  rw [← hq1] at hal
  obtain ⟨t, t', ht, w1, w2, w3⟩ := wrR_ttl h0 h1 (xs ++ (ys ++ zs)) b1 b1 s1 b s2 hal g2
  refine ⟨b1, s1, s2, g1, g2, g3, ?_⟩
  rw [ht, w3]
  refine msgT_mk hh (by simpa using hc) (by simpa using g1) (s2 := s2) (by rw [← List.map_append, ← List.map_append]; exact w1) ?_
  rw [← w2.1]
  exact g3
end Go.Proofs.Ytkdfiedemhjjjaa
/- What TopTTL leans on: the bytes of msg.Write as a row of the call's own, a TTL stored into it, all records as a row of the call's own. -/
namespace Go.Proofs.Ytkdfiedemhjjjaa
open Go.RowKit
set_option linter.unusedVariables false
set_option linter.unusedSimpArgs false

section
variable {w : World} {h : Hd} {Aq Ax Ay Az : Option Addr} {nq cq nx cx ny cy nz cz : Nat} {qs : List QT} {xs ys zs : List RecT}
theorem msgwrite_blk (hQ : Rd qR w w.heap.size Aq nq cq qs) (hX : Rd recR w w.heap.size Ax nx cx xs) (hY : Rd recR w w.heap.size Ay ny cy ys) (hZ : Rd recR w w.heap.size Az nz cz zs) {b : List UInt8} {k : Nat} (hT : msgT h qs xs ys zs = (0, b)) (hk : b.length = k) (hk0 : 0 < k) (hk1 : k ≤ 65535) :
    Calls Try.prog 12 #[.agg (msgC h (.slice Aq nq cq) (.slice Ax nx cx) (.slice Ay ny cy) (.slice Az nz cz))] w fun e w' => ∃ g c, e = .returned (.tuple #[.slice (some ⟨g, 0, none⟩) k c, .nilIface]) ∧ (w'.ownsRow w.heap.size 5 1 (.slice (some ⟨g, 0, none⟩) k c) k (bytesV b) ∧ Rd u8R w' w'.heap.size (some ⟨g, 0, none⟩) k c b ∧ w.heap.size ≤ g ∧ g < w'.heap.size) ∧ Below w.heap.size w w' := by
  refine (msgwrite_own hQ hX hY hZ hT hk).mono ?_
  rintro e w' ⟨A, c, rfl, ⟨hr, ho⟩, hb⟩
  rcases ho.2 with ⟨h1, h2⟩ | ⟨g, cap, cur, e1, g1, g2, g3, g4, _⟩
  · omega
  · cases e1
    exact ⟨g, _, rfl, ⟨ho, hr, g1, (Array.getElem?_eq_some_iff.1 g2).1⟩, hb⟩
end
/-- four stores -/
theorem own_ttl {w : World} {base g n cap : Nat} {m : List UInt8} {L : Int} (ho : w.ownsRow base 5 1 (.slice (some ⟨g, 0, none⟩) n cap) n (bytesV m)) {a : Nat} (ha : a + 4 ≤ m.length) (hL : 0 ≤ L ∧ L ≤ 4294967295) :
    (ttlW w g a L).ownsRow base 5 1 (.slice (some ⟨g, 0, none⟩) n cap) n (bytesV (putL L m a)) := by
  have h4 := own_set (own_set (own_set (own_set ho a (.int .u8 (L / 16777216))) (a + 1) (.int .u8 (L / 65536 % 256))) (a + 2) (.int .u8 (L / 256 % 256))) (a + 3) (.int .u8 (L % 256))
  have c : ∀ x : Int, 0 ≤ x → x ≤ 255 → ((UInt8.ofNat x.toNat).toNat : Int) = x := fun x h0 h1 => by rw [UInt8.toNat_ofNat']; omega
  have e : (((((bytesV m).set a (.int .u8 (L / 16777216))).set (a + 1) (.int .u8 (L / 65536 % 256))).set (a + 2) (.int .u8 (L / 256 % 256))).set (a + 3) (.int .u8 (L % 256))) = bytesV (putL L m a) := by
    have hf : bytesV (fourB L) = [Value.int .u8 (L / 16777216), .int .u8 (L / 65536 % 256), .int .u8 (L / 256 % 256), .int .u8 (L % 256)] := by
      simp only [fourB, two2, bytesV, List.map_append, List.map_cons, List.map_nil, List.cons_append, List.nil_append]
      rw [c (L / 65536 / 256 % 256) (by omega) (by omega), c (L / 65536 % 256) (by omega) (by omega), c (L % 65536 / 256 % 256) (by omega) (by omega), c (L % 65536 % 256) (by omega) (by omega)]
      rw [show L / 65536 / 256 % 256 = L / 16777216 by omega, show L % 65536 / 256 % 256 = L / 256 % 256 by omega, show L % 65536 % 256 = L % 256 by omega]
    have hb : bytesV (putL L m a) = (bytesV m).take a ++ (bytesV (fourB L) ++ (bytesV m).drop (a + 4)) := by
      unfold putL bytesV
      simp only [List.map_append, List.map_take, List.map_drop]
    rw [hb, hf]
    have hl : a + 4 ≤ (bytesV m).length := by unfold bytesV; rw [List.length_map]; exact ha
    generalize bytesV m = M at hl
    refine List.ext_getElem? fun i => ?_
    have ht : (M.take a).length = a := by rw [List.length_take]; omega
    by_cases h1 : i < a
    · rw [List.getElem?_append_left (by omega), List.getElem?_take_of_lt h1, List.getElem?_set_ne (by omega), List.getElem?_set_ne (by omega), List.getElem?_set_ne (by omega), List.getElem?_set_ne (by omega)]
    · rw [List.getElem?_append_right (by omega), ht]
      by_cases h2 : i < a + 4
      · rw [List.getElem?_append_left (by simp; omega)]
        have hc : i = a ∨ i = a + 1 ∨ i = a + 2 ∨ i = a + 3 := by omega
        rcases hc with rfl | rfl | rfl | rfl
        · rw [List.getElem?_set_ne (by omega), List.getElem?_set_ne (by omega), List.getElem?_set_ne (by omega), List.getElem?_set_self (by omega), Nat.sub_self]; rfl
        · rw [List.getElem?_set_ne (by omega), List.getElem?_set_ne (by omega), List.getElem?_set_self (by simp; omega), Nat.add_sub_cancel_left]; rfl
        · rw [List.getElem?_set_ne (by omega), List.getElem?_set_self (by simp; omega), Nat.add_sub_cancel_left]; rfl
        · rw [List.getElem?_set_self (by simp; omega), Nat.add_sub_cancel_left]; rfl
      · rw [List.getElem?_append_right (by simp; omega), List.getElem?_drop, List.getElem?_set_ne (by omega), List.getElem?_set_ne (by omega), List.getElem?_set_ne (by omega), List.getElem?_set_ne (by omega)]
        congr 1
        simp
        omega
  rw [e] at h4
  exact h4
/-- a row of numbers of the call's own, one of them -/
theorem ownR_int {e : TypeId} {B base : Nat} {w : World} {A : Option Addr} {n c : Nat} {l : List Int} (h : OwnR intR e B base w (.slice A n c) l) (i : Nat) (hi : i < l.length) :
    ∃ g, A = some ⟨g, 0, none⟩ ∧ base ≤ g ∧ g < w.heap.size ∧ n = l.length ∧ w.cell? ⟨g, i, none⟩ = some (.int .i64 (l[i]'hi)) := by
  obtain ⟨⟨xs, h1, h2⟩, h0, h3⟩ := h
  rcases h1.2 with ⟨hv, hx⟩ | ⟨g, cap, cur, hv, hb, hh, hnc, hcm, hcs, ht⟩
  · exfalso
    have := h1.1
    omega
  · obtain ⟨vss, hl, rfl, r⟩ := h2
    cases hv
    refine ⟨g, rfl, hb, (Array.getElem?_eq_some_iff.1 hh).1, rfl, ?_⟩
    have hk2 : ∀ vs ∈ vss, vs.length = 1 := by
      intro vs hvs
      obtain ⟨j, hj, rfl⟩ := List.getElem_of_mem hvs
      exact intR.len (r j (by omega) hj)
    have hr : vss[i]'(by omega) = [Value.int .i64 (l[i]'hi)] := (r i hi (by omega)).1
    have := h1.cells (g := g) rfl (i * 1 + 0) (.int .i64 (l[i]'hi)) (by rw [flat_get hk2 (by omega) (by omega), hr]; rfl)
    rw [add_none] at this
    simpa using this
set_option maxRecDepth 100000 in
set_option maxHeartbeats 4000000 in
theorem all_own {w : World} {B : Nat} (hB : B ≤ w.heap.size) {h : Hd} {Q : Value} (hQ : ∃ A n c, Q = .slice A n c) {Ax Ay Az : Option Addr} {nx cx ny cy nz cz : Nat} {xs ys zs : List RecT} (hX : Rd recR w B Ax nx cx xs) (hY : Rd recR w B Ay ny cy ys) (hZ : Rd recR w B Az nz cz zs) (hlim : (nx + ny + nz) * 72 ≤ 140737488355328) {k : Nat} (hk : nx + ny + nz = k) :
    Calls Try.prog 15 #[.agg (msgC h Q (.slice Ax nx cx) (.slice Ay ny cy) (.slice Az nz cz))] w fun e w' => ∃ A c, e = .returned (.slice A k c) ∧ OwnR recR 26 B (w.heap.size + 1) w' (.slice A k c) (xs ++ (ys ++ zs)) ∧ Below w.heap.size w w' := by
  obtain ⟨Aq, nq, cq, rfl⟩ := hQ
  have lx := hX.len
  have ly := hY.len
  have lz := hZ.len
  have SX := hid (SrcR.of hX rec_one)
  have SY := hid (SrcR.of hY rec_one)
  have SZ := hid (SrcR.of hZ rec_one)
  have ab1 : (([] : List RecT).length + nx) * 72 ≤ 140737488355328 := by simp; omega
  have ab2 : ([] : List RecT).length + nx ≤ maxLen := by simp [maxLen]; omega
  have ab3 : (([] ++ xs).length + ny) * 72 ≤ 140737488355328 := by simp [lx]; omega
  have ab4 : ([] ++ xs).length + ny ≤ maxLen := by simp [maxLen, lx]; omega
  have ab5 : (([] ++ xs ++ ys).length + nz) * 72 ≤ 140737488355328 := by simp [lx, ly]; omega
  have ab6 : ([] ++ xs ++ ys).length + nz ≤ maxLen := by simp [maxLen, lx, ly]; omega
  have LL := hid (And.intro lx (And.intro ly (And.intro lz hk)))
  clear hX hY hZ lx ly lz hk
  have tk0 : True := trivial; have tk1 : True := trivial; have tk2 : True := trivial; have tk3 : True := trivial; have tk4 : True := trivial; have tk5 : True := trivial; have tk6 : True := trivial; have tk7 : True := trivial; have tk8 : True := trivial; have tk9 : True := trivial; have tk10 : True := trivial; have tk11 : True := trivial; have tk12 : True := trivial
  go_enter Try.func15, Try.ntmps15
  go_wp2_with (first
    | (at_builtin; have _t := tk1; refine wpList_own (B := B) (base := w.heap.size + 1) el_r rfl _ _ rfl rfl (OwnR.nil (Nat.le_succ_of_le hB) (by first | omega | (simp [size_ext]; done) | (simp [size_ext]; omega))) rfl (SX.out.below (by (repeat' (first | (with_reducible exact Below.refl _ _) | (with_reducible assumption) | (with_reducible refine below_ext0 ?_ _ _) | (with_reducible refine below_alloc0 ?_ _) | (with_reducible refine Below.ext ?_ ?_ _ _) | (with_reducible refine Below.alloc ?_ ?_ _) | (with_reducible refine Below.setCell ?_ ?_ _) | (with_reducible refine Below.drew ?_) | (with_reducible refine below_draws ?_ _) | go_size | (simp [size_ext]; done) | (simp [size_ext]; omega)))) hB) ab1 ab2 ?_; intro v1 w1 ho hb; have kx := (Blk.new w _ _).below hb (Nat.lt_succ_self _); have c13 : w1.cell? ⟨w.heap.size, 13, none⟩ = some (.slice Ay ny cy) := kx.cell 13; have HO1 := hid ho; have HB1 := hid (Below.trans ((Below.refl _ w).alloc (Nat.le_refl _) _) (hb.mono (Nat.le_succ _))); have KX := hid kx; clear ho hb kx tk1)
    | (at_builtin; have _t := tk2; refine wpList_own (B := B) (base := w.heap.size + 1) el_r rfl _ _ rfl rfl HO1.out rfl (SY.out.below HB1.out hB) ab3 ab4 ?_; intro v2 w2 ho hb; have kx := KX.out.below hb (Nat.lt_succ_self _); have c14 : w2.cell? ⟨w.heap.size, 14, none⟩ = some (.slice Az nz cz) := kx.cell 14; have HO2 := hid ho; have HB2 := hid (HB1.out.trans (hb.mono (Nat.le_succ _))); clear ho hb kx tk2)
    | (at_builtin; have _t := tk3; refine wpList_own (B := B) (base := w.heap.size + 1) el_r rfl _ _ rfl rfl HO2.out rfl (SZ.out.below HB2.out hB) ab5 ab6 ?_; intro v3 w3 ho hb; have hl : ([] ++ xs ++ ys ++ zs).length = k := (by have := LL.out; simp; omega); obtain ⟨A3, c3, rfl⟩ := ho.slice' hl; have HO3 := hid ho; have HB3 := hid (HB2.out.trans (hb.mono (Nat.le_succ _))); clear ho hb hl tk3))
  go_ret
  exact ⟨A3, c3, rfl, by have := HO3.out; simpa using this, HB3.out⟩
end Go.Proofs.Ytkdfiedemhjjjaa
/- A message that came in, with how many bytes its rows take at most. -/
namespace Go.Proofs.Ytkdfiedemhjjjaa
open Go.RowKit Go.ChangeShapes Go.WideShapes
set_option linter.unusedVariables false
set_option linter.unusedSimpArgs false

def tightR {α : Type} (R : Rep α) : Rep (List α) where
  k := (sliceR R).k
  bs := (sliceR R).bs
  rel w B l vs := (sliceR R).rel w B l vs ∧ l.length * R.bs ≤ 140737488351232
  sz := (sliceR R).sz
  len h := (sliceR R).len h.1
  keep h hB hk := ⟨(sliceR R).keep h.1 hB hk, h.2⟩
theorem opens_tight {α : Type} {P : Program} {t e : TypeId} {R : Rep α} (ht : P.underlying t = some (.slice e)) (ho : Opens P t (sliceR R)) (hbs : R.bs ≤ P.bytesOf e) : Opens P t (tightR R) := by
  intro H enc w sp held fuel cs x h hw
  obtain ⟨l, hl, hs⟩ := ho H enc w sp held fuel cs x h hw
  refine ⟨l, ⟨hl, ?_⟩, hs⟩
  obtain ⟨A, n, c, e1, hr⟩ := hl
  rw [hr.len]
  rcases DataW.trod_slice ht h with ⟨h1, _⟩ | ⟨a, len, cap, elems, rest, n', _, h1, h0, _, _, _, hlen, _⟩
  · rw [e1] at h1
    simp only [List.cons.injEq, Value.slice.injEq, and_true] at h1
    obtain ⟨_, rfl, _⟩ := h1
    simp
  · rw [e1] at h1
    simp only [List.cons.injEq, Value.slice.injEq, and_true] at h1
    obtain ⟨_, rfl, _⟩ := h1
    subst h0
    simp only [DataW.weights, ht] at hw
    have h1 := hw _ (List.mem_cons_self ..)
    rw [List.length_map, List.length_map, hlen] at h1
    have h2 : n * R.bs ≤ (n + rest.length) * P.bytesOf e := Nat.mul_le_mul (Nat.le_add_right _ _) hbs
    unfold reachBytes at h1
    omega
abbrev messageT : Rep MsgX := pairR headerR (pairR (tightR qR) (pairR (tightR recR) (pairR (tightR recR) (pairR (tightR recR) unitR))))
theorem opens_tq : Opens Try.prog 40 (tightR qR) := opens_tight Try.underlying40 (opens_slice Try.underlying40 opens_question (by kernel_rfl) (by decide) (of_decide_eq_true (by kernel_rfl))) (of_decide_eq_true (by kernel_rfl))
theorem opens_tr : Opens Try.prog 41 (tightR recR) := opens_tight Try.underlying41 opens_records (of_decide_eq_true (by kernel_rfl))
theorem opens_messageT : Opens Try.prog 43 messageT := opens_struct Try.underlying43 rfl (by kernel_rfl)
  (fields_cons rfl (by kernel_rfl) opens_header (fields_cons rfl (by kernel_rfl) opens_tq (fields_cons rfl (by kernel_rfl) opens_tr (fields_cons rfl (by kernel_rfl) opens_tr (fields_cons rfl (by kernel_rfl) opens_tr (fields_nil _))))))
theorem message_ofT {w : World} {B : Nat} {x : MsgX} {cs : Array Value} (h : messageT.rel w B x cs.toList) :
    ∃ (g : Hd) (Aq Ax Ay Az : Option Addr) (nq cq nx cx ny cy nz cz : Nat) (u : Int × Bool × Int × Bool × Bool × Bool × Bool × Bool × Bool × Bool × Int × Unit) (qs : List QT) (xs ys zs : List RecT), x = (u, qs, xs, ys, zs, ()) ∧ cs = msgC g (.slice Aq nq cq) (.slice Ax nx cx) (.slice Ay ny cy) (.slice Az nz cz) ∧
      (Rd qR w B Aq nq cq qs ∧ Rd recR w B Ax nx cx xs ∧ Rd recR w B Ay ny cy ys ∧ Rd recR w B Az nz cz zs) ∧ nq * 40 ≤ 140737488351232 ∧ nx * 72 ≤ 140737488351232 ∧ ny * 72 ≤ 140737488351232 ∧ nz * 72 ≤ 140737488351232 := by
  obtain ⟨u, qs, xs, ys, zs, _⟩ := x
  obtain ⟨vs, _, e0, h0, _, _, rfl, ⟨⟨Aq, nq, cq, rfl, h1⟩, t1⟩, _, _, rfl, ⟨⟨Ax, nx, cx, rfl, h2⟩, t2⟩, _, _, rfl, ⟨⟨Ay, ny, cy, rfl, h3⟩, t3⟩, _, _, rfl, ⟨⟨Az, nz, cz, rfl, h4⟩, t4⟩, rfl⟩ := h
  obtain ⟨g, hg⟩ := header_of (cs := vs.toArray) (by simpa using h0)
  obtain rfl : vs = (hdCells g).toList := by rw [← hg]
  rw [h1.len] at t1
  rw [h2.len] at t2
  rw [h3.len] at t3
  rw [h4.len] at t4
  exact ⟨g, Aq, Ax, Ay, Az, nq, cq, nx, cx, ny, cy, nz, cz, u, qs, xs, ys, zs, rfl, by cases cs; simpa [hdCells] using e0, ⟨h1, h2, h3, h4⟩, t1, t2, t3, t4⟩
end Go.Proofs.Ytkdfiedemhjjjaa
/- Names: slices.Reverse of a row of the call's own; Compare. -/
namespace Go.Proofs.Ytkdfiedemhjjjaa
open Go.RowKit
set_option linter.unusedVariables false
set_option linter.unusedSimpArgs false

/-- k of the first ones and of the last ones changed over -/
def revK (l : List ByteArray) (k : Nat) : List ByteArray := (List.range l.length).map fun i => if i < k ∨ l.length - k ≤ i then l.getD (l.length - 1 - i) .empty else l.getD i .empty
theorem revK_len (l : List ByteArray) (k : Nat) : (revK l k).length = l.length := by simp [revK]
theorem revK_get (l : List ByteArray) (k i : Nat) (h : i < l.length) : (revK l k)[i]? = some (if i < k ∨ l.length - k ≤ i then l.getD (l.length - 1 - i) .empty else l.getD i .empty) := by
  unfold revK
  rw [List.getElem?_map, List.getElem?_range h]; rfl
theorem revK_zero (l : List ByteArray) : revK l 0 = l := by
  apply List.ext_getElem?
  intro i
  by_cases h : i < l.length
  · rw [revK_get l 0 i h, if_neg (by omega), List.getD_eq_getElem?_getD, List.getElem?_eq_getElem h]; rfl
  · rw [List.getElem?_eq_none (by rw [revK_len]; omega), List.getElem?_eq_none (by omega)]
theorem revK_all (l : List ByteArray) (k : Nat) (h : l.length ≤ 2 * k + 1) : revK l k = l.reverse := by
  apply List.ext_getElem?
  intro i
  by_cases hi : i < l.length
  · rw [revK_get l k i hi, List.getElem?_reverse hi]
    by_cases c : i < k ∨ l.length - k ≤ i
    · rw [if_pos c, List.getD_eq_getElem?_getD, List.getElem?_eq_getElem (by omega)]; rfl
    · rw [if_neg c, show l.length - 1 - i = i by omega, List.getD_eq_getElem?_getD, List.getElem?_eq_getElem hi]; rfl
  · rw [List.getElem?_eq_none (by rw [revK_len]; omega), List.getElem?_eq_none (by simp; omega)]
theorem revK_succ (l : List ByteArray) (k : Nat) (h : 2 * k + 1 < l.length) : revK l (k + 1) = ((revK l k).set k (l.getD (l.length - 1 - k) .empty)).set (l.length - 1 - k) (l.getD k .empty) := by
  apply List.ext_getElem?
  intro i
  by_cases hi : i < l.length
  · rw [revK_get l (k + 1) i hi, List.getElem?_set, List.getElem?_set, List.length_set, revK_len, revK_get l k i hi]
    by_cases c1 : l.length - 1 - k = i
    · subst c1
      rw [if_pos (by omega), if_pos rfl, if_pos (by omega), show l.length - 1 - (l.length - 1 - k) = k by omega]
    · rw [if_neg c1]
      by_cases c2 : k = i
      · subst c2
        rw [if_pos (by omega), if_pos rfl, if_pos (by omega)]
      · rw [if_neg c2]
        congr 1
        by_cases c3 : i < k ∨ l.length - k ≤ i
        · rw [if_pos c3, if_pos (by omega)]
        · rw [if_neg c3, if_neg (by omega)]
  · rw [List.getElem?_eq_none (by rw [revK_len]; omega), List.getElem?_eq_none (by simp [revK_len]; omega)]
theorem strsV_set (l : List ByteArray) (k : Nat) (b : ByteArray) : strsV (l.set k b) = (strsV l).set k (.string b) := by simp [strsV, List.map_set]

/-! Compare -/
theorem ne_blocks {v1 v2 : Value} {m : Nat} (h1 : ∀ g, v1.ownBlock = some g → g < m) (h2 : ∀ g, v2.ownBlock = some g → m ≤ g) : (v2.ownBlock = none ∨ v2.ownBlock ≠ v1.ownBlock) ∧ (v1.ownBlock = none ∨ v1.ownBlock ≠ v2.ownBlock) := by
  cases e1 : v1.ownBlock with
  | none => exact ⟨by cases e2 : v2.ownBlock <;> simp, .inl rfl⟩
  | some g1 =>
    cases e2 : v2.ownBlock with
    | none => exact ⟨.inl rfl, .inr (by simp)⟩
    | some g2 =>
      have a := h1 g1 e1
      have b := h2 g2 e2
      exact ⟨.inr (by simp; omega), .inr (by simp; omega)⟩
theorem own_rd_str {w : World} {base n : Nat} {v : Value} {l : List ByteArray} (h : w.ownsRow base 9 1 v n (strsV l)) (hs : ∀ s ∈ l, s.size ≤ 140737488355328) (hb : base ≤ w.heap.size) (hn : n * 16 ≤ 140737488355328) : ∃ A c, v = .slice A n c ∧ Rd strR w w.heap.size A n c l :=
  rd_of_own (R := strR) h (rels_str hs) (by have := h.1; simpa [strsV] using this) hb (by simpa [strR] using hn) (by decide)

end Go.Proofs.Ytkdfiedemhjjjaa
/- The document's answers of names as they are sent: nameFrom, NameAt. -/
namespace Go.Proofs.Ytkdfiedemhjjjaa
open Go.RowKit
set_option linter.unusedVariables false
set_option linter.unusedSimpArgs false

theorem nm_len (m : List UInt8) (low at_ size : Nat) (hs : size ≤ 255) : size + (nm m low at_ size).2.1.length ≤ 255 := by
  induction low, at_, size using nm.induct (m := m) with
  | case1 low at_ size h h0 => rw [nm, dif_pos h, if_pos h0]; exact hs
  | case2 low at_ size h h0 h1 h2 h3 ih => rw [nm, dif_pos h, if_neg h0, if_pos h1, dif_pos h2, if_pos h3]; exact ih hs
  | case3 low at_ size h h0 h1 h2 h3 => rw [nm, dif_pos h, if_neg h0, if_pos h1, dif_pos h2, if_neg h3]; exact hs
  | case4 low at_ size h h0 h1 h2 => rw [nm, dif_pos h, if_neg h0, if_pos h1, dif_neg h2]; exact hs
  | case5 low at_ size h h0 h1 h2 => rw [nm, dif_pos h, if_neg h0, if_neg h1, if_pos h2]; exact hs
  | case6 low at_ size h h0 h1 h2 h3 h4 ih =>
    rw [nm, dif_pos h, if_neg h0, if_neg h1, if_neg h2, if_pos h3, if_pos h4]
    have := ih h4
    simp only [List.length_cons]
    omega
  | case7 low at_ size h h0 h1 h2 h3 h4 => rw [nm, dif_pos h, if_neg h0, if_neg h1, if_neg h2, if_pos h3, if_neg h4]; exact hs
  | case8 low at_ size h h0 h1 h2 h3 => rw [nm, dif_pos h, if_neg h0, if_neg h1, if_neg h2, if_neg h3]; exact hs
  | case9 low at_ size h => rw [nm, dif_neg h]; exact hs
/-- what a Told holds -/
@[reducible] def toldC (v : Value) (next e : Int) : Array Value := #[v, .int .i64 next, .int .i64 e]
def NfE (w : World) (t : Int × List ByteArray × Nat) (e : Ending) (w' : World) : Prop :=
  Below w.heap.size w w' ∧ ∃ v, e = .returned (.agg (toldC v (t.2.2 : Int) t.1)) ∧ w'.ownsRow w.heap.size 9 1 v t.2.1.length (strsV t.2.1)
theorem nfE_nil {w w' : World} {t : Int × List ByteArray × Nat} {k : Int} {nx : Nat} (h : t = (k, [], nx)) (hb : Below w.heap.size w w') : NfE w t (.returned (.agg (toldC (.slice none 0 0) (nx : Int) k))) w' := by
  subst h
  exact ⟨hb, _, rfl, World.ownsRow_nil _ _ _ _⟩
section
variable {w w0 : World} {base : Nat} {e : TypeId} {size : Nat} {v : Value} {n : Nat} {xs : List Value}
theorem own_swap {o1 o2 : Obj} {os : Array Obj} {d : Nat} (h : (ext (w.alloc o1) os d).ownsRow base e size v n xs) (hb : w.heap.size < base) : (ext (w.alloc o2) os d).ownsRow base e size v n xs := by
  refine h.kept (row := some w.heap.size) ⟨rfl, rfl, rfl, by simp [size_ext], fun k hk hne => ?_⟩ ?_
  · have hne' : k ≠ w.heap.size := fun e => hne (by rw [e])
    simp only [ext, World.alloc, Array.getElem?_append, Array.size_push, Array.getElem?_push]
    by_cases c : k < w.heap.size + 1
    · rw [if_pos c, if_pos c, if_neg hne', if_neg hne']
    · rw [if_neg c, if_neg c]
  · cases ev : v.ownBlock with
    | none => exact .inl rfl
    | some g =>
      right
      have := (h.lt g ev).1
      intro e
      cases e
      omega
theorem own_src {A : Option Addr} {c : Nat} (h : w.ownsRow base e size (.slice A n c) n xs) (h1 : ∀ u ∈ xs, u.oneCell' = true) : Src w A n c size xs := by
  refine ⟨h.1, fun ad ha j u hu => ?_, fun ha => ?_, h1⟩
  · subst ha
    rcases h.2 with ⟨e, _⟩ | ⟨g, cap, cur, e, hb, hh, hr⟩
    · cases e
    · cases e
      exact h.cells (g := g) rfl j u hu
  · subst ha
    rcases h.2 with ⟨e, h0⟩ | ⟨g, cap, cur, e, hb, hh, hr⟩
    · cases e; exact ⟨rfl, rfl⟩
    · cases e
theorem one_strs (l : List ByteArray) : ∀ u ∈ strsV l, u.oneCell' = true := by
  intro u hu
  obtain ⟨b, _, rfl⟩ := List.mem_map.1 hu
  rfl
end

theorem step_appB {P : Program} {w : World} {ops : Array Oper} {o : Oper} {a : Act} {Q : Exit → Act → World → Prop} {K : Act → World → Prop} {F : Prop} (hgd : o.guard = none) (s x : Operand) (t : TypeId)
    (ho : o.op = .call { callee := .builtin .append, args := #[s, x], argTypes := #[t, t] }) (base : Nat) (e : TypeId) (size bytes : Nat) (E : El P t e size bytes)
    (v : Value) (n : Nat) (xs : List Value) (hs : a.eval s = v) (hown : w.ownsRow base e size v n xs) (A : Option Addr) (m c : Nat) (ys : List Value) (hx : a.eval x = .slice A m c) (hsrc : Src w A m c size ys)
    (hbytes : (n + m) * bytes ≤ 140737488355328) (h63 : n + m ≤ maxLen) (hbase : base ≤ w.heap.size)
    (h : ∀ v' w', w'.ownsRow base e size v' (n + m) (xs ++ ys) → Below base w w' → K (a.put o.dst v') w') :
    if Region.wanted o (yielded ops a.tmps) = true then Oper.wp P o a w K Q else F :=
  step_app hgd s x t ho base e size bytes E v n xs hs hown A m c ys hx hsrc hbytes h63 hbase fun v' w' h1 h2 _ => h v' w' h1 (grown_below hown h2 hbase)
/-- behind the append: what both Tolds hold -/
theorem told9 {w W w9 : World} {os : Array Obj} {d : Nat} {T : TypeId} {c1 c2 : Array Value} {o : Obj} (hb : Below (w.heap.size + 1 + os.size + 1) W w9) (hW : W.heap = (((ext (w.alloc (.cells c1 T)) os d).alloc (.cells c2 T)).alloc o).heap) :
    Blk w9 w.heap.size T c1 ∧ Blk w9 (w.heap.size + 1 + os.size) T c2 ∧ w.heap.size + 1 + os.size < w9.heap.size := by
  have h1 : Blk (((ext (w.alloc (.cells c1 T)) os d).alloc (.cells c2 T)).alloc o) w.heap.size T c1 := (((Blk.new _ _ _).ext os d).alloc _).alloc _
  have h2 : Blk (((ext (w.alloc (.cells c1 T)) os d).alloc (.cells c2 T)).alloc o) (w.heap.size + 1 + os.size) T c2 := (Blk.new' _ _ (by simp [size_ext])).alloc _
  have hs : W.heap.size = w.heap.size + 1 + os.size + 1 + 1 := by rw [hW]; simp [size_ext]
  have := hb.size
  refine ⟨(hb.block _ (by omega)).trans ?_, (hb.block _ (by omega)).trans ?_, by omega⟩
  · rw [hW]; exact h1
  · rw [hW]; exact h2

set_option maxRecDepth 100000 in
set_option maxHeartbeats 8000000 in
theorem nameFrom_any (A : Option Addr) (n c : Nat) (m : List UInt8) (K : Nat) : ∀ (low at_ size : Nat) (w : World) (hM : Rd u8R w w.heap.size A n c m) (hk : low * (n + 1) + (n - at_) < K) (hlow : at_ < n → low ≤ n) (hat : (at_ : Int) ≤ 9223372036854775807) (hsz : size ≤ 255),
    Calls Try.prog 50 #[.slice A n c, .int .i64 at_, .int .i64 low, .int .i64 size] w (NfE w (nm m low at_ size)) := by
  induction K with
  | zero => intro low at_ size w hM hk; omega
  | succ K ih =>
    intro low at_ size w hM hk hlow hat hsz
    have hcap := hM.cap
    have hm := hM.max
    unfold maxLen at hm
    have hln := hid hM.len
    have hnl := hM.lim
    simp only [u8R, Nat.mul_one] at hnl
    by_cases hend : n ≤ at_
    · have hr : nm m low at_ size = (2, [], 0) := nm_end (by rw [hln.out]; exact hend)
      have HR := hid hr
      have h1 : (n : Int) ≤ (at_ : Int) := by omega
      clear hr hM hlow hk
      go_enter Try.func50, Try.ntmps50
      go_wp2_with fail
      refine bodyPost_ret (v := .agg (toldC (.slice none 0 0) ((0 : Nat) : Int) 2)) (by simp [results, Try.results50, go_sem]) rfl ?_
      exact nfE_nil HR.out (by (repeat' (first | (with_reducible exact Below.refl _ _) | (with_reducible assumption) | (with_reducible refine below_ext0 ?_ _ _) | (with_reducible refine below_alloc0 ?_ _) | (with_reducible refine Below.ext ?_ ?_ _ _) | (with_reducible refine Below.alloc ?_ ?_ _) | (with_reducible refine Below.setCell ?_ ?_ _) | (with_reducible refine Below.drew ?_) | (with_reducible refine below_draws ?_ _) | go_size | (simp [size_ext]; done) | (simp [size_ext]; omega))))
    · have hat' : at_ < n := by omega
      replace hlow := hlow hat'
      obtain ⟨b, o, rfl, hb0⟩ := hM.addr (by omega)
      obtain ⟨x, hx, cx, _⟩ := hM.get at_ hat'
      have hx1 := x.toNat_lt
      have hx2 : (x.toNat : Int) ≤ 255 := by omega
      have q1 : (at_ : Int) < (n : Int) := by omega
      have HX := hid hx
      have HM := hid hM
      clear hx hM hat
      have ways : x.toNat = 0 ∨ (192 ≤ x.toNat ∧ n ≤ at_ + 1) ∨ (192 ≤ x.toNat ∧ at_ + 1 < n) ∨ (63 < x.toNat ∧ x.toNat < 192) ∨ (1 ≤ x.toNat ∧ x.toNat ≤ 63) := by omega
      rcases ways with h0 | ⟨h1, h2⟩ | ⟨h1, h2⟩ | ⟨h1, h2⟩ | ⟨h1, h2⟩
      · have hr : nm m low at_ size = (0, [], at_ + 1) := nm_zero HX.out h0
        have HR := hid hr
        have e0 : ((x.toNat : Int) == 0) = true := by rw [beq_iff_eq]; omega
        clear hr
        go_enter Try.func50, Try.ntmps50
        go_wp2_with fail
        refine bodyPost_ret (v := .agg (toldC (.slice none 0 0) ((at_ + 1 : Nat) : Int) 0)) (by simp [results, Try.results50, go_sem]) rfl ?_
        exact nfE_nil HR.out (by (repeat' (first | (with_reducible exact Below.refl _ _) | (with_reducible assumption) | (with_reducible refine below_ext0 ?_ _ _) | (with_reducible refine below_alloc0 ?_ _) | (with_reducible refine Below.ext ?_ ?_ _ _) | (with_reducible refine Below.alloc ?_ ?_ _) | (with_reducible refine Below.setCell ?_ ?_ _) | (with_reducible refine Below.drew ?_) | (with_reducible refine below_draws ?_ _) | go_size | (simp [size_ext]; done) | (simp [size_ext]; omega))))
      · have hr : nm m low at_ size = (2, [], 0) := nm_ptr_short HX.out h1 (by rw [hln.out]; exact h2)
        have HR := hid hr
        have e0 : ((x.toNat : Int) == 0) = false := by rw [beq_eq_false_iff_ne]; omega
        have e1 : (192 : Int) ≤ (x.toNat : Int) := by omega
        have e2 : (n : Int) ≤ (at_ : Int) + 1 := by omega
        clear hr
        go_enter Try.func50, Try.ntmps50
        go_wp2_with fail
        refine bodyPost_ret (v := .agg (toldC (.slice none 0 0) ((0 : Nat) : Int) 2)) (by simp [results, Try.results50, go_sem]) rfl ?_
        exact nfE_nil HR.out (by (repeat' (first | (with_reducible exact Below.refl _ _) | (with_reducible assumption) | (with_reducible refine below_ext0 ?_ _ _) | (with_reducible refine below_alloc0 ?_ _) | (with_reducible refine Below.ext ?_ ?_ _ _) | (with_reducible refine Below.alloc ?_ ?_ _) | (with_reducible refine Below.setCell ?_ ?_ _) | (with_reducible refine Below.drew ?_) | (with_reducible refine below_draws ?_ _) | go_size | (simp [size_ext]; done) | (simp [size_ext]; omega))))
      · obtain ⟨y, hy, cy, _⟩ := HM.out.get (at_ + 1) h2
        have hy1 := y.toNat_lt
        have hy2 : (y.toNat : Int) ≤ 255 := by omega
        obtain ⟨tgt, hto⟩ : ∃ tgt : Nat, (x.toNat - 192) * 256 + y.toNat = tgt := ⟨_, rfl⟩
        have t0 := nm_ptr (low := low) (size := size) HX.out h1 hy hto
        have hto' : ((x.toNat : Int) - 192) * 256 + (y.toNat : Int) = (tgt : Int) := by omega
        have HT := hid t0
        have e0 : ((x.toNat : Int) == 0) = false := by rw [beq_eq_false_iff_ne]; omega
        have e1 : (192 : Int) ≤ (x.toNat : Int) := by omega
        have e2 : (at_ : Int) + 1 < (n : Int) := by omega
        have hto16 : (tgt : Int) ≤ 16383 := by omega
        clear hy t0 hto
        by_cases hlt : tgt < low
        · have hlt' : (tgt : Int) < (low : Int) := by omega
          have CI := hid fun w' (hb : Below w.heap.size w w') => ih tgt tgt size w' (HM.out.later hb) (by
            have : (tgt + 1) * (n + 1) ≤ low * (n + 1) := Nat.mul_le_mul_right _ hlt
            rw [Nat.succ_mul] at this
            omega) (fun _ => by omega) (by omega) hsz
          go_enter Try.func50, Try.ntmps50
          go_wp2_with (go_at_call 50; (with_reducible refine (CI.out _ (by (repeat' (first | (with_reducible exact Below.refl _ _) | (with_reducible assumption) | (with_reducible refine below_ext0 ?_ _ _) | (with_reducible refine below_alloc0 ?_ _) | (with_reducible refine Below.ext ?_ ?_ _ _) | (with_reducible refine Below.alloc ?_ ?_ _) | (with_reducible refine Below.setCell ?_ ?_ _) | (with_reducible refine Below.drew ?_) | (with_reducible refine below_draws ?_ _) | go_size | (simp [size_ext]; done) | (simp [size_ext]; omega))))).mono ?_); rintro e w1 ⟨hb, v, rfl, ho⟩; obtain ⟨os, d, rfl⟩ := ext_of_below hb; obtain ⟨A', c', rfl, _, _, _⟩ := own_slice ho; have HO := hid ho; clear hb ho)
          have ht := HT.out
          rw [if_pos hlt] at ht
          refine bodyPost_ret (v := .agg (toldC (.slice A' (nm m tgt tgt size).2.1.length c') ((at_ + 2 : Nat) : Int) (nm m tgt tgt size).1)) (by simp [results, Try.results50, go_sem]) rfl ?_
          rw [ht]
          exact ⟨by (repeat' (first | (with_reducible exact Below.refl _ _) | (with_reducible assumption) | (with_reducible refine below_ext0 ?_ _ _) | (with_reducible refine below_alloc0 ?_ _) | (with_reducible refine Below.ext ?_ ?_ _ _) | (with_reducible refine Below.alloc ?_ ?_ _) | (with_reducible refine Below.setCell ?_ ?_ _) | (with_reducible refine Below.drew ?_) | (with_reducible refine below_draws ?_ _) | go_size | (simp [size_ext]; done) | (simp [size_ext]; omega))), _, rfl, own_less ((own_swap HO.out (by simp)).alloc _) (by simp)⟩
        · have hlt' : (low : Int) ≤ (tgt : Int) := by omega
          have hr : nm m low at_ size = (4, [], 0) := by rw [HT.out, if_neg hlt]
          have HR := hid hr
          clear hr
          go_enter Try.func50, Try.ntmps50
          go_wp2_with fail
          refine bodyPost_ret (v := .agg (toldC (.slice none 0 0) ((0 : Nat) : Int) 4)) (by simp [results, Try.results50, go_sem]) rfl ?_
          exact nfE_nil HR.out (by (repeat' (first | (with_reducible exact Below.refl _ _) | (with_reducible assumption) | (with_reducible refine below_ext0 ?_ _ _) | (with_reducible refine below_alloc0 ?_ _) | (with_reducible refine Below.ext ?_ ?_ _ _) | (with_reducible refine Below.alloc ?_ ?_ _) | (with_reducible refine Below.setCell ?_ ?_ _) | (with_reducible refine Below.drew ?_) | (with_reducible refine below_draws ?_ _) | go_size | (simp [size_ext]; done) | (simp [size_ext]; omega))))
      · have hr : nm m low at_ size = (3, [], 0) := nm_big HX.out h1 h2
        have HR := hid hr
        have e0 : ((x.toNat : Int) == 0) = false := by rw [beq_eq_false_iff_ne]; omega
        have e1 : (x.toNat : Int) < 192 := by omega
        have e2 : (63 : Int) < (x.toNat : Int) := by omega
        clear hr
        go_enter Try.func50, Try.ntmps50
        go_wp2_with fail
        refine bodyPost_ret (v := .agg (toldC (.slice none 0 0) ((0 : Nat) : Int) 3)) (by simp [results, Try.results50, go_sem]) rfl ?_
        exact nfE_nil HR.out (by (repeat' (first | (with_reducible exact Below.refl _ _) | (with_reducible assumption) | (with_reducible refine below_ext0 ?_ _ _) | (with_reducible refine below_alloc0 ?_ _) | (with_reducible refine Below.ext ?_ ?_ _ _) | (with_reducible refine Below.alloc ?_ ?_ _) | (with_reducible refine Below.setCell ?_ ?_ _) | (with_reducible refine Below.drew ?_) | (with_reducible refine below_draws ?_ _) | go_size | (simp [size_ext]; done) | (simp [size_ext]; omega))))
      · have e0 : ((x.toNat : Int) == 0) = false := by rw [beq_eq_false_iff_ne]; omega
        have e1 : (x.toNat : Int) < 192 := by omega
        have e2 : (x.toNat : Int) ≤ 63 := by omega
        have e3 : (1 : Int) ≤ (x.toNat : Int) := by omega
        by_cases hs1 : n < at_ + 1 + x.toNat
        · have hr : nm m low at_ size = (2, [], 0) := nm_lab_short HX.out h1 h2 (by rw [hln.out]; exact hs1)
          have HR := hid hr
          have e4 : (n : Int) < (at_ : Int) + 1 + (x.toNat : Int) := by omega
          clear hr
          go_enter Try.func50, Try.ntmps50
          go_wp2_with fail
          refine bodyPost_ret (v := .agg (toldC (.slice none 0 0) ((0 : Nat) : Int) 2)) (by simp [results, Try.results50, go_sem]) rfl ?_
          exact nfE_nil HR.out (by (repeat' (first | (with_reducible exact Below.refl _ _) | (with_reducible assumption) | (with_reducible refine below_ext0 ?_ _ _) | (with_reducible refine below_alloc0 ?_ _) | (with_reducible refine Below.ext ?_ ?_ _ _) | (with_reducible refine Below.alloc ?_ ?_ _) | (with_reducible refine Below.setCell ?_ ?_ _) | (with_reducible refine Below.drew ?_) | (with_reducible refine below_draws ?_ _) | go_size | (simp [size_ext]; done) | (simp [size_ext]; omega))))
        · have e4 : (at_ : Int) + 1 + (x.toNat : Int) ≤ (n : Int) := by omega
          by_cases hbig : 255 < size + x.toNat + 1
          · have hr : nm m low at_ size = (5, [], 0) := nm_lab_long HX.out h1 h2 (by rw [hln.out]; omega) hbig
            have HR := hid hr
            have e5 : (255 : Int) < (size : Int) + (x.toNat : Int) + 1 := by omega
            clear hr
            go_enter Try.func50, Try.ntmps50
            go_wp2_with fail
            refine bodyPost_ret (v := .agg (toldC (.slice none 0 0) ((0 : Nat) : Int) 5)) (by simp [results, Try.results50, go_sem]) rfl ?_
            exact nfE_nil HR.out (by (repeat' (first | (with_reducible exact Below.refl _ _) | (with_reducible assumption) | (with_reducible refine below_ext0 ?_ _ _) | (with_reducible refine below_alloc0 ?_ _) | (with_reducible refine Below.ext ?_ ?_ _ _) | (with_reducible refine Below.alloc ?_ ?_ _) | (with_reducible refine Below.setCell ?_ ?_ _) | (with_reducible refine Below.drew ?_) | (with_reducible refine below_draws ?_ _) | go_size | (simp [size_ext]; done) | (simp [size_ext]; omega))))
          · have e5 : (size : Int) + (x.toNat : Int) + 1 ≤ 255 := by omega
            have hr := nm_lab (low := low) (size := size) HX.out h1 h2 (by rw [hln.out]; omega) (by omega)
            have CI := fun w' (hb : Below w.heap.size w w') => ih low (at_ + 1 + x.toNat) (size + x.toNat + 1) w' (HM.out.later hb) (by omega) (fun _ => hlow) (by omega) (by omega)
            have HR := hid hr
            rw [show ((at_ + 1 + x.toNat : Nat) : Int) = (at_ : Int) + 1 + (x.toNat : Int) by omega, show ((size + x.toNat + 1 : Nat) : Int) = (size : Int) + (x.toNat : Int) + 1 by omega] at CI
            replace CI := hid CI
            clear hr
            go_enter Try.func50, Try.ntmps50
            go_wp2_with (go_at_call 50; (with_reducible refine (CI.out _ (by (repeat' (first | (with_reducible exact Below.refl _ _) | (with_reducible assumption) | (with_reducible refine below_ext0 ?_ _ _) | (with_reducible refine below_alloc0 ?_ _) | (with_reducible refine Below.ext ?_ ?_ _ _) | (with_reducible refine Below.alloc ?_ ?_ _) | (with_reducible refine Below.setCell ?_ ?_ _) | (with_reducible refine Below.drew ?_) | (with_reducible refine below_draws ?_ _) | go_size | (simp [size_ext]; done) | (simp [size_ext]; omega))))).mono ?_); rintro e w1 ⟨hb, v, rfl, ho⟩; obtain ⟨os, d, rfl⟩ := ext_of_below hb; obtain ⟨A', c', rfl, _, _, _⟩ := own_slice ho; have HO := hid ho; clear hb ho)
            have w1' : IntKind.i64.wrap ((at_ : Int) + 1) = (at_ : Int) + 1 := IntWalk.i64_in _ (by omega)
            have w2' : IntKind.i64.wrap ((at_ : Int) + 1 + (x.toNat : Int)) = (at_ : Int) + 1 + (x.toNat : Int) := IntWalk.i64_in _ (by omega)
            have p0 : (0 : Int) ≤ (at_ : Int) + 1 := by omega
            have p1 : (at_ : Int) + 1 ≤ (at_ : Int) + 1 + (x.toNat : Int) := by omega
            have p2 : (at_ : Int) + 1 + (x.toNat : Int) ≤ (c : Int) := by omega
            have p3 : ¬ c = at_ + 1 := by omega
            have t1 : ((at_ : Int) + 1).toNat = at_ + 1 := by omega
            have t2 : ((at_ : Int) + 1 + (x.toNat : Int)).toNat = at_ + 1 + x.toNat := by omega
            have hconv : ∀ W, Below w.heap.size w W → (convert 22 9 (.slice (some ⟨b, o + (at_ + 1), none⟩) x.toNat (c - (at_ + 1)))).run Try.prog W = .ok (.string (segB m (at_ + 1) x.toNat)) W := by
              intro W hW
              exact (((HM.out.below hW).dropB (k := at_ + 1) (by omega)).take (k := x.toNat) (by omega)).conv
            have CV := hid hconv
            obtain ⟨sg, hsg⟩ : ∃ sg, segB m (at_ + 1) x.toNat = sg := ⟨_, rfl⟩
            have HSG := hid hsg
            rw [hsg] at CV
            obtain ⟨t, ht⟩ : ∃ t, nm m low (at_ + 1 + x.toNat) (size + x.toNat + 1) = t := ⟨_, rfl⟩
            have HTT := hid ht
            have htl := nm_len m low (at_ + 1 + x.toNat) (size + x.toNat + 1) (by omega)
            rw [ht] at HO htl
            simp only [ht]
            clear hconv hsg ht
            have cvd := CV.out ((ext (w.alloc (.cells #[.slice none 0 0, .int .i64 0, .int .i64 0] 67)) os d).alloc (.cells #[.slice A' t.2.1.length c', .int .i64 (t.2.2 : Int), .int .i64 t.1] 67)).drew (by (repeat' (first | (with_reducible exact Below.refl _ _) | (with_reducible assumption) | (with_reducible refine below_ext0 ?_ _ _) | (with_reducible refine below_alloc0 ?_ _) | (with_reducible refine Below.ext ?_ ?_ _ _) | (with_reducible refine Below.alloc ?_ ?_ _) | (with_reducible refine Below.setCell ?_ ?_ _) | (with_reducible refine Below.drew ?_) | (with_reducible refine below_draws ?_ _) | go_size | (simp [size_ext]; done) | (simp [size_ext]; omega))))
            go_region_law ((refine step_appB rfl (.tmp 96) (.tmp 98) 24 rfl (w.heap.size + 1 + os.size + 1) 9 1 16 el_str _ 1 [.string sg] rfl (own_lit _ _ (by simp [size_ext]) (by simp [size_ext]) rfl (by decide) rfl) _ t.2.1.length _ _ rfl (own_src ((((HO.out).alloc _).alloc _)) (one_strs _)) (by omega) (by unfold maxLen; omega) (by simp [size_ext]) ?_; intro v9 w9 ho9 hb9; obtain ⟨A9, c9, rfl, _, _, _⟩ := own_slice ho9; have HO9 := hid ho9; obtain ⟨B1, B2, hs9⟩ := told9 (w := w) (os := os) (d := d) (T := 67) (c1 := #[.slice none 0 0, .int .i64 0, .int .i64 0]) (c2 := #[.slice A' t.2.1.length c', .int .i64 (t.2.2 : Int), .int .i64 t.1]) (o := .cells #[.string sg] 9) hb9 rfl; have z0 : w9.cell? ⟨w.heap.size + 1 + os.size, 0, none⟩ = _ := B2.cell 0; have z1 : w9.cell? ⟨w.heap.size + 1 + os.size, 1, none⟩ = _ := B2.cell 1; have z2 : w9.cell? ⟨w.heap.size + 1 + os.size, 2, none⟩ = _ := B2.cell 2; have y0 : w9.cell? ⟨w.heap.size, 0, none⟩ = _ := B1.cell 0; have y1 : w9.cell? ⟨w.heap.size, 1, none⟩ = _ := B1.cell 1; have y2 : w9.cell? ⟨w.heap.size, 2, none⟩ = _ := B1.cell 2; have zf0 : w9.frozen? ⟨w.heap.size + 1 + os.size, 0, none⟩ = false := B2.frozen 0; have yf0 : w9.frozen? ⟨w.heap.size, 0, none⟩ = false := B1.frozen 0; have yf1 : w9.frozen? ⟨w.heap.size, 1, none⟩ = false := B1.frozen 1; have yf2 : w9.frozen? ⟨w.heap.size, 2, none⟩ = false := B1.frozen 2; have HBB := hid (And.intro B1 B2); have hbw9 : Below w.heap.size w w9 := Below.trans (by (repeat' (first | (with_reducible exact Below.refl _ _) | (with_reducible assumption) | (with_reducible refine below_ext0 ?_ _ _) | (with_reducible refine below_alloc0 ?_ _) | (with_reducible refine Below.ext ?_ ?_ _ _) | (with_reducible refine Below.alloc ?_ ?_ _) | (with_reducible refine Below.setCell ?_ ?_ _) | (with_reducible refine Below.drew ?_) | (with_reducible refine below_draws ?_ _) | go_size | (simp [size_ext]; done) | (simp [size_ext]; omega)))) (hb9.mono (by omega)); have hs9' : w.heap.size < w9.heap.size := (by omega); have HB9 := hid hb9; clear ho9 hb9 B1 B2))
            all_goals
              go_wp2_with fail
              refine bodyPost_ret (v := .agg (toldC (.slice A9 (1 + t.2.1.length) c9) (t.2.2 : Int) t.1)) (by simp [results, Try.results50, go_sem, y0, y1, y2]) rfl ?_
              have ho := HO9.out
              have hr := HR.out
              rw [HTT.out, HSG.out] at hr
              rw [hr]
              refine ⟨by (repeat' (first | (with_reducible exact Below.refl _ _) | (with_reducible assumption) | (with_reducible refine below_ext0 ?_ _ _) | (with_reducible refine below_alloc0 ?_ _) | (with_reducible refine Below.ext ?_ ?_ _ _) | (with_reducible refine Below.alloc ?_ ?_ _) | (with_reducible refine Below.setCell ?_ ?_ _) | (with_reducible refine Below.drew ?_) | (with_reducible refine below_draws ?_ _) | go_size | (simp [size_ext]; done) | (simp [size_ext]; omega))), .slice A9 (1 + t.2.1.length) c9, rfl, ?_⟩
              · show World.ownsRow _ _ _ _ _ (sg :: t.2.1).length (strsV (sg :: t.2.1))
                rw [show (sg :: t.2.1).length = 1 + t.2.1.length from by simp [Nat.add_comm]]
                refine own_less (base := w.heap.size + 1 + os.size + 1) ?_ (by omega)
                repeat (first | exact ho | refine own_far ?_ (by first | (simp; done) | (simp; omega)) _)
end Go.Proofs.Ytkdfiedemhjjjaa
/- The document's answers of names as they are sent: NameAt. -/
namespace Go.Proofs.Ytkdfiedemhjjjaa
open Go.RowKit
set_option linter.unusedVariables false
set_option linter.unusedSimpArgs false

/-! NameAt -/
def toldV (t : Int × List ByteArray × Int) (A : Option Addr) (c : Nat) : Value := .agg #[.slice A t.2.1.length c, .int .i64 t.2.2, .int .i64 t.1]
def NaE (w : World) (t : Int × List ByteArray × Int) (e : Ending) (w' : World) : Prop :=
  Below w.heap.size w w' ∧ ∃ A' c', e = .returned (.agg #[.slice A' t.2.1.length c', .int .i64 t.2.2, .int .i64 t.1]) ∧ Rd strR w' w'.heap.size A' t.2.1.length c' t.2.1
set_option maxRecDepth 100000 in
set_option maxHeartbeats 4000000 in
theorem nameAt_any (w : World) (A : Option Addr) (n c : Nat) (m : List UInt8) (hM : Rd u8R w w.heap.size A n c m) (at_ : Int) (hat : at_ ≤ 9223372036854775807) :
    Calls Try.prog 24 #[.slice A n c, .int .i64 at_] w (NaE w (rdN m at_)) := by
  by_cases h0 : at_ < 0
  · have hr : rdN m at_ = (6, [], 0) := by unfold rdN; rw [if_pos h0]
    have HR := hid hr
    clear hr hM
    go_enter Try.func24, Try.ntmps24
    go_wp2_with fail
    refine bodyPost_ret (v := .agg #[.slice none 0 0, .int .i64 0, .int .i64 6]) (by simp [results, Try.results24, go_sem]) rfl ?_
    refine ⟨by (repeat' (first | (with_reducible exact Below.refl _ _) | (with_reducible assumption) | (with_reducible refine below_ext0 ?_ _ _) | (with_reducible refine below_alloc0 ?_ _) | (with_reducible refine Below.ext ?_ ?_ _ _) | (with_reducible refine Below.alloc ?_ ?_ _) | (with_reducible refine Below.setCell ?_ ?_ _) | (with_reducible refine Below.drew ?_) | (with_reducible refine below_draws ?_ _) | go_size | (simp [size_ext]; done) | (simp [size_ext]; omega))), ?_⟩
    rw [HR.out]
    exact ⟨none, 0, rfl, rd_nil _ _⟩
  · obtain ⟨a, rfl⟩ : ∃ a : Nat, at_ = (a : Int) := ⟨at_.toNat, by omega⟩
    have hr : rdN m (a : Int) = if (nm m a a 1).1 = 0 then (0, (nm m a a 1).2.1, ((nm m a a 1).2.2 : Int)) else ((nm m a a 1).1, [], 0) := by
      unfold rdN
      rw [if_neg h0, Int.toNat_natCast]
    have HR := hid hr
    have hok := of_nm m a a 1 (by omega)
    obtain ⟨t, ht⟩ : ∃ t, nm m a a 1 = t := ⟨_, rfl⟩
    have CF : ∀ w', Below w.heap.size w w' → Calls Try.prog 50 #[.slice A n c, .int .i64 (a : Int), .int .i64 (a : Int), .int .i64 1] w' (NfE w' t) := fun w' hb => by
      have := nameFrom_any A n c m _ a a 1 w' (hM.later hb) (Nat.lt_succ_self _) (fun h => by omega) hat (by omega)
      rw [ht] at this
      exact this
    replace CF := hid CF
    rw [ht] at hr hok
    replace HR := hid hr
    have HOK := hid hok
    clear hr hM ht hok
    by_cases hf : t.1 = 0
    · have e0 : (t.1 == 0) = true := by rw [hf]; rfl
      have e1 : (t.1 != 0) = false := by rw [hf]; rfl
      go_enter Try.func24, Try.ntmps24
      go_wp2_with (go_at_call 50; (with_reducible refine (CF.out _ (by (repeat' (first | (with_reducible exact Below.refl _ _) | (with_reducible assumption) | (with_reducible refine below_ext0 ?_ _ _) | (with_reducible refine below_alloc0 ?_ _) | (with_reducible refine Below.ext ?_ ?_ _ _) | (with_reducible refine Below.alloc ?_ ?_ _) | (with_reducible refine Below.setCell ?_ ?_ _) | (with_reducible refine Below.drew ?_) | (with_reducible refine below_draws ?_ _) | go_size | (simp [size_ext]; done) | (simp [size_ext]; omega))))).mono ?_); rintro e w1 ⟨hb, v, rfl, ho⟩; obtain ⟨os, d, rfl⟩ := ext_of_below hb; obtain ⟨A', c', rfl, _, _, _⟩ := own_slice ho; have HO := hid ho; clear hb ho)
      have hl := (HOK.out hf).2
      have hll := lsum_len t.2.1
      have r := HR.out
      rw [if_pos hf] at r
      refine bodyPost_ret (v := .agg #[.slice A' t.2.1.length c', .int .i64 (t.2.2 : Int), .int .i64 0]) (by simp [results, Try.results24, go_sem, hf]) rfl ?_
      have key : ∀ o2 o3, Rd strR ((ext (w.alloc o2) os d).alloc o3) ((ext (w.alloc o2) os d).alloc o3).heap.size A' t.2.1.length c' t.2.1 := by
        intro o2 o3
        have ho := (own_swap (o2 := o2) HO.out (by simp)).alloc o3
        obtain ⟨A3, c3, he, hrd⟩ := own_rd_str (own_less (base' := w.heap.size) ho (by simp)) (fun s hs => by have := lsum_mem hs; omega) (by simp [size_ext]; omega) (by omega)
        cases he
        exact hrd
      refine ⟨by (repeat' (first | (with_reducible exact Below.refl _ _) | (with_reducible assumption) | (with_reducible refine below_ext0 ?_ _ _) | (with_reducible refine below_alloc0 ?_ _) | (with_reducible refine Below.ext ?_ ?_ _ _) | (with_reducible refine Below.alloc ?_ ?_ _) | (with_reducible refine Below.setCell ?_ ?_ _) | (with_reducible refine Below.drew ?_) | (with_reducible refine below_draws ?_ _) | go_size | (simp [size_ext]; done) | (simp [size_ext]; omega))), ?_⟩
      rw [r]
      exact ⟨A', c', rfl, key _ _⟩
    · have e0 : (t.1 == 0) = false := by rw [beq_eq_false_iff_ne]; exact hf
      have e1 : (t.1 != 0) = true := by rw [bne_iff_ne]; exact hf
      go_enter Try.func24, Try.ntmps24
      go_wp2_with (go_at_call 50; (with_reducible refine (CF.out _ (by (repeat' (first | (with_reducible exact Below.refl _ _) | (with_reducible assumption) | (with_reducible refine below_ext0 ?_ _ _) | (with_reducible refine below_alloc0 ?_ _) | (with_reducible refine Below.ext ?_ ?_ _ _) | (with_reducible refine Below.alloc ?_ ?_ _) | (with_reducible refine Below.setCell ?_ ?_ _) | (with_reducible refine Below.drew ?_) | (with_reducible refine below_draws ?_ _) | go_size | (simp [size_ext]; done) | (simp [size_ext]; omega))))).mono ?_); rintro e w1 ⟨hb, v, rfl, ho⟩; obtain ⟨os, d, rfl⟩ := ext_of_below hb; obtain ⟨A', c', rfl, _, _, _⟩ := own_slice ho; have HO := hid ho; clear hb ho)
      have r := HR.out
      rw [if_neg hf] at r
      refine bodyPost_ret (v := .agg #[.slice none 0 0, .int .i64 0, .int .i64 t.1]) (by simp [results, Try.results24, go_sem]) rfl ?_
      refine ⟨by (repeat' (first | (with_reducible exact Below.refl _ _) | (with_reducible assumption) | (with_reducible refine below_ext0 ?_ _ _) | (with_reducible refine below_alloc0 ?_ _) | (with_reducible refine Below.ext ?_ ?_ _ _) | (with_reducible refine Below.alloc ?_ ?_ _) | (with_reducible refine Below.setCell ?_ ?_ _) | (with_reducible refine Below.drew ?_) | (with_reducible refine below_draws ?_ _) | go_size | (simp [size_ext]; done) | (simp [size_ext]; omega))), ?_⟩
      rw [r]
      exact ⟨none, 0, rfl, rd_nil _ _⟩
end Go.Proofs.Ytkdfiedemhjjjaa
