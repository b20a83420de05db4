/- edns: is a record the one that has options; where the first such one stands. -/
import Derived.Test.YtfihedcobopbcaaDoorK6
import Derived.Test.YtfihedcobopbcaaDoorK4
import Derived.Test.YtfihedcobopbcaaDoorK2
import Derived.Test.YtfihedcobopbcaaDoorK5
import Derived.BigRegion
namespace Go.Proofs.YtfihedcobopbcaaDoor
open Go.RowKit
set_option linter.unusedVariables false
set_option linter.unusedSimpArgs false

def isOpt (r : RecT) : Bool := decide (r.2.1 = 41)
theorem is_any (w : World) (A : Value) (T C L : Int) (D : Value) (hA : ∃ a n c, A = .slice a n c) (hD : ∃ a n c, D = .slice a n c) : Calls Tryd.prog 46 #[.agg #[A, .int .i64 T, .int .i64 C, .int .i64 L, D]] w fun e w' => e = .returned (.bool (decide (T = 41))) ∧ Below w.heap.size w w' := by
  obtain ⟨a, n, c, rfl⟩ := hA
  obtain ⟨a', n', c', rfl⟩ := hD
  by_cases h : T = 41
  · have hb : (T == 41) = true := by simpa using h
    have HB := hid h
    clear h
    go_enter Tryd.func46, Tryd.ntmps46
    go_wp2
    go_ret
    exact ⟨by rw [decide_eq_true HB.out]; rfl, (by (repeat' (first | (with_reducible exact Below.refl _ _) | (with_reducible assumption) | (with_reducible refine below_ext0 ?_ _ _) | (with_reducible refine below_alloc0 ?_ _) | (with_reducible refine Below.ext ?_ ?_ _ _) | (with_reducible refine Below.alloc ?_ ?_ _) | (with_reducible refine Below.setCell ?_ ?_ _) | (with_reducible refine Below.drew ?_) | (with_reducible refine below_draws ?_ _) | go_size | (simp [size_ext]; done) | (simp [size_ext]; omega))))⟩
  · have hb : (T == 41) = false := by simpa using h
    have HB := hid h
    clear h
    go_enter Tryd.func46, Tryd.ntmps46
    go_wp2
    go_ret
    exact ⟨by rw [decide_eq_false HB.out]; rfl, (by (repeat' (first | (with_reducible exact Below.refl _ _) | (with_reducible assumption) | (with_reducible refine below_ext0 ?_ _ _) | (with_reducible refine below_alloc0 ?_ _) | (with_reducible refine Below.ext ?_ ?_ _ _) | (with_reducible refine Below.alloc ?_ ?_ _) | (with_reducible refine Below.setCell ?_ ?_ _) | (with_reducible refine Below.drew ?_) | (with_reducible refine below_draws ?_ _) | go_size | (simp [size_ext]; done) | (simp [size_ext]; omega))))⟩

/-- the first one's place -/
def idxO : List RecT → Nat → Int
  | [], _ => -1
  | r :: rs, k => if isOpt r then (k : Int) else idxO rs (k + 1)
theorem idxO_or (l : List RecT) : ∀ k, (idxO l k = -1 ∧ ∀ r ∈ l, isOpt r = false) ∨ ∃ i, ∃ h : i < l.length, idxO l k = ((k + i : Nat) : Int) ∧ isOpt l[i] = true ∧ ∀ j, ∀ hj : j < i, isOpt (l[j]'(by omega)) = false := by
  induction l with
  | nil => intro k; exact .inl ⟨rfl, fun r hr => by cases hr⟩
  | cons r l ih =>
    intro k
    rw [idxO]
    by_cases h : isOpt r = true
    · rw [if_pos h]
      exact .inr ⟨0, by simp, by simp, by simpa using h, fun j hj => by omega⟩
    · rw [if_neg h]
      have h' : isOpt r = false := by simpa using h
      rcases ih (k + 1) with ⟨h1, h2⟩ | ⟨i, hi, h1, h2, h3⟩
      · refine .inl ⟨h1, fun x hx => ?_⟩
        rcases List.mem_cons.1 hx with hx | hx
        · rw [hx]; exact h'
        · exact h2 x hx
      · refine .inr ⟨i + 1, by simp; omega, by rw [h1]; congr 1; omega, by simpa using h2, fun j hj => ?_⟩
        cases j with
        | zero => simpa using h'
        | succ j => simpa using h3 j (by omega)
theorem idxO_drop (l : List RecT) (k : Nat) : k ≤ l.length → (∀ j, ∀ hj : j < k, ∀ h : j < l.length, isOpt l[j] = false) → idxO l 0 = idxO (l.drop k) k := by
  induction k with
  | zero => intro _ _; rfl
  | succ k ih =>
    intro hk h
    rw [ih (by omega) (fun j hj hl => h j (by omega) hl)]
    have hk' : k < l.length := by omega
    rw [List.drop_eq_getElem_cons hk', idxO, if_neg (by rw [h k (by omega) hk']; simp)]

set_option maxRecDepth 100000 in
set_option maxHeartbeats 4000000 in
theorem indexFunc_any (w : World) (A : Option Addr) (n c : Nat) (l : List RecT) (hR : Rd recR w w.heap.size A n c l) :
    Calls Tryd.prog 45 #[.slice A n c, .func (Fn.func 46) #[] #[]] w fun e w' => e = .returned (.int .i64 (idxO l 0)) ∧ Below w.heap.size w w' := by
  have m1 := hR.max
  have k1 := hR.cap
  unfold maxLen at m1
  have HR := hid hR
  clear hR
  go_enter Tryd.func45, Tryd.ntmps45
  go_wp2
  go_loopg [8] n (fun g v wi => ∃ k : Nat, k ≤ n ∧ g = n - k ∧ v = .int .i64 k ∧ Below w.heap.size w wi ∧ Hid (∀ j, ∀ hj : j < k, ∀ h : j < l.length, isOpt l[j] = false))
  case atStart => exact ⟨0, Nat.zero_le _, rfl, rfl, (by (repeat' (first | (with_reducible exact Below.refl _ _) | (with_reducible assumption) | (with_reducible refine below_ext0 ?_ _ _) | (with_reducible refine below_alloc0 ?_ _) | (with_reducible refine Below.ext ?_ ?_ _ _) | (with_reducible refine Below.alloc ?_ ?_ _) | (with_reducible refine Below.setCell ?_ ?_ _) | (with_reducible refine Below.drew ?_) | (with_reducible refine below_draws ?_ _) | go_size | (simp [size_ext]; done) | (simp [size_ext]; omega)))), hid fun j hj => by omega⟩
  case round =>
    obtain ⟨k, hk, rfl, rfl, hb, hno⟩ := hrel
    have HB := hid hb
    clear hb
    by_cases hlt : k < n
    · obtain ⟨b1, o1, A3, n3, c3, A4, n4, c4, l1, T, C, L, d, rfl, hb1, e1, x0, x1, x2, x3, x4, r1, _, s1⟩ := (HR.out.later HB.out).recd k hlt
      have hk' : k < l.length := by rw [HR.out.len]; exact hlt
      have CI := hid fun w' => is_any w' (.slice A3 n3 c3) T C L (.slice A4 n4 c4) ⟨_, _, _, rfl⟩ ⟨_, _, _, rfl⟩
      have hio : isOpt l[k] = decide (T = 41) := by unfold isOpt; rw [e1]
      have hdr := idxO_drop l k (by omega) hno.out
      rw [List.drop_eq_getElem_cons hk', idxO, hio] at hdr
      have t0 : (k : Int) < (n : Int) := by omega
      have t1 : decide ((k : Int) < (n : Int)) = true := decide_eq_true t0
      have t2 : (0 : Int) ≤ (k : Int) := by omega
      have v3 : IntKind.i64.wrap ((k : Int) + 1) = (k : Int) + 1 := IntWalk.i64_in _ (by omega)
      have HE := hid e1
      clear e1 r1 s1
      by_cases hT : T = 41
      · rw [decide_eq_true hT] at CI hdr
        rw [if_pos rfl] at hdr
        have HD := hid hdr
        clear hdr hio hT
        have tk0 : True := trivial; have tk1 : True := trivial; have tk2 : True := trivial; have tk3 : True := trivial; have tk4 : True := trivial; have tk5 : True := trivial; have tk6 : True := trivial; have tk7 : True := trivial; have tk8 : True := trivial; have tk9 : True := trivial; have tk10 : True := trivial; have tk11 : True := trivial; have tk12 : True := trivial
        go_wp2_with (go_at_call 46; have _t := tk1; (with_reducible refine (CI.out _).mono ?_); rintro e w1 ⟨rfl, hb⟩; obtain ⟨otk1, dtk1, rfl⟩ := ext_of_below hb; clear hb tk1)
        go_ret
        have hlw := HB.out
        exact ⟨by rw [HD.out]; rfl, (by (repeat' (first | (with_reducible exact Below.refl _ _) | (with_reducible assumption) | (with_reducible refine below_ext0 ?_ _ _) | (with_reducible refine below_alloc0 ?_ _) | (with_reducible refine Below.ext ?_ ?_ _ _) | (with_reducible refine Below.alloc ?_ ?_ _) | (with_reducible refine Below.setCell ?_ ?_ _) | (with_reducible refine Below.drew ?_) | (with_reducible refine below_draws ?_ _) | go_size | (simp [size_ext]; done) | (simp [size_ext]; omega))))⟩
      · rw [decide_eq_false hT] at CI hdr hio
        have HN := hid (show ∀ j, ∀ hj : j < k + 1, ∀ h : j < l.length, isOpt l[j] = false from fun j hj h => by
          rcases Nat.lt_succ_iff_lt_or_eq.1 hj with hj | rfl
          · exact hno.out j hj h
          · exact hio)
        clear hdr hio hT
        have tk0 : True := trivial; have tk1 : True := trivial; have tk2 : True := trivial; have tk3 : True := trivial; have tk4 : True := trivial; have tk5 : True := trivial; have tk6 : True := trivial; have tk7 : True := trivial; have tk8 : True := trivial; have tk9 : True := trivial; have tk10 : True := trivial; have tk11 : True := trivial; have tk12 : True := trivial
        go_wp2_with (go_at_call 46; have _t := tk1; (with_reducible refine (CI.out _).mono ?_); rintro e w1 ⟨rfl, hb⟩; obtain ⟨otk1, dtk1, rfl⟩ := ext_of_below hb; clear hb tk1)
        go_roundg (n - (k + 1))
        case measure => omega
        case rel =>
          have hlw := HB.out
          exact ⟨k + 1, by omega, rfl, by go_num, (by (repeat' (first | (with_reducible exact Below.refl _ _) | (with_reducible assumption) | (with_reducible refine below_ext0 ?_ _ _) | (with_reducible refine below_alloc0 ?_ _) | (with_reducible refine Below.ext ?_ ?_ _ _) | (with_reducible refine Below.alloc ?_ ?_ _) | (with_reducible refine Below.setCell ?_ ?_ _) | (with_reducible refine Below.drew ?_) | (with_reducible refine below_draws ?_ _) | go_size | (simp [size_ext]; done) | (simp [size_ext]; omega)))), HN⟩
    · have t0 : ¬ (k : Int) < (n : Int) := by omega
      have t1 : decide ((k : Int) < (n : Int)) = false := decide_eq_false t0
      have hdr := idxO_drop l k (by rw [HR.out.len]; omega) hno.out
      rw [List.drop_eq_nil_of_le (by rw [HR.out.len]; omega), idxO] at hdr
      have HD := hid hdr
      clear hdr
      go_wp2
      go_ret
      exact ⟨by rw [HD.out]; rfl, HB.out⟩
theorem containsFunc_any (w : World) (A : Option Addr) (n c : Nat) (l : List RecT) (hR : Rd recR w w.heap.size A n c l) :
    Calls Tryd.prog 47 #[.slice A n c, .func (Fn.func 46) #[] #[]] w fun e w' => e = .returned (.bool (l.any isOpt)) ∧ Below w.heap.size w w' := by
  have CI := hid (indexFunc_any w A n c l hR)
  rcases idxO_or l 0 with ⟨h1, h2⟩ | ⟨i, hi, h1, h2, h3⟩
  · rw [h1] at CI
    have ha : l.any isOpt = false := by rw [List.any_eq_false]; intro x hx; rw [h2 x hx]; simp
    have HA := hid ha
    clear h1 h2 ha hR
    have tk0 : True := trivial; have tk1 : True := trivial; have tk2 : True := trivial; have tk3 : True := trivial; have tk4 : True := trivial; have tk5 : True := trivial; have tk6 : True := trivial; have tk7 : True := trivial; have tk8 : True := trivial; have tk9 : True := trivial; have tk10 : True := trivial; have tk11 : True := trivial; have tk12 : True := trivial
    go_enter Tryd.func47, Tryd.ntmps47
    go_wp2_with (go_at_call 45; have _t := tk1; (with_reducible refine (CI.out).mono ?_); rintro e w1 ⟨rfl, hb⟩; obtain ⟨otk1, dtk1, rfl⟩ := ext_of_below hb; clear hb tk1)
    go_ret
    exact ⟨by rw [HA.out]; rfl, (by (repeat' (first | (with_reducible exact Below.refl _ _) | (with_reducible assumption) | (with_reducible refine below_ext0 ?_ _ _) | (with_reducible refine below_alloc0 ?_ _) | (with_reducible refine Below.ext ?_ ?_ _ _) | (with_reducible refine Below.alloc ?_ ?_ _) | (with_reducible refine Below.setCell ?_ ?_ _) | (with_reducible refine Below.drew ?_) | (with_reducible refine below_draws ?_ _) | go_size | (simp [size_ext]; done) | (simp [size_ext]; omega))))⟩
  · rw [h1] at CI
    have ha : l.any isOpt = true := List.any_eq_true.2 ⟨_, List.getElem_mem hi, h2⟩
    have HA := hid ha
    have t0 : (0 : Int) ≤ ((0 + i : Nat) : Int) := by omega
    have t1 : decide ((0 : Int) ≤ ((0 + i : Nat) : Int)) = true := decide_eq_true t0
    clear h1 h2 h3 ha hR
    have tk0 : True := trivial; have tk1 : True := trivial; have tk2 : True := trivial; have tk3 : True := trivial; have tk4 : True := trivial; have tk5 : True := trivial; have tk6 : True := trivial; have tk7 : True := trivial; have tk8 : True := trivial; have tk9 : True := trivial; have tk10 : True := trivial; have tk11 : True := trivial; have tk12 : True := trivial
    go_enter Tryd.func47, Tryd.ntmps47
    go_wp2_with (go_at_call 45; have _t := tk1; (with_reducible refine (CI.out).mono ?_); rintro e w1 ⟨rfl, hb⟩; obtain ⟨otk1, dtk1, rfl⟩ := ext_of_below hb; clear hb tk1)
    go_ret
    exact ⟨by rw [HA.out]; rfl, (by (repeat' (first | (with_reducible exact Below.refl _ _) | (with_reducible assumption) | (with_reducible refine below_ext0 ?_ _ _) | (with_reducible refine below_alloc0 ?_ _) | (with_reducible refine Below.ext ?_ ?_ _ _) | (with_reducible refine Below.alloc ?_ ?_ _) | (with_reducible refine Below.setCell ?_ ?_ _) | (with_reducible refine Below.drew ?_) | (with_reducible refine below_draws ?_ _) | go_size | (simp [size_ext]; done) | (simp [size_ext]; omega))))⟩
end Go.Proofs.YtfihedcobopbcaaDoor
/- Messages as they are read, in plain Lean: questions and records one behind the other; what was sent is read. No function of the program. -/
namespace Go.Proofs.YtfihedcobopbcaaDoor
set_option linter.unusedVariables false
set_option linter.unusedSimpArgs false

def rdQ (b : List UInt8) : Nat → Nat → List QT → Int × List QT × Nat
  | 0, p, acc => (0, acc, p)
  | k + 1, p, acc => if (rdN b p).1 = 0 then (if (rdN b p).2.2.toNat + 4 ≤ b.length then rdQ b k ((rdN b p).2.2.toNat + 4) (acc ++ [(((rdN b p).2.1, ((at2 b (rdN b p).2.2.toNat : Nat) : Int), ((at2 b ((rdN b p).2.2.toNat + 2) : Nat) : Int), ()) : QT)]) else (2, [], 0)) else ((rdN b p).1, [], 0)
def rdR (b : List UInt8) : Nat → Nat → List RecT → Int × List RecT × Nat
  | 0, p, acc => (0, acc, p)
  | k + 1, p, acc => if (rrF b p).1 = 0 then rdR b k (rrF b p).2.2.2 (acc ++ [recOf b (rrF b p).2.1 (rrF b p).2.2.1 (rrF b p).2.2.2]) else ((rrF b p).1, [], 0)
theorem rdQ_step {b : List UInt8} {k p q : Nat} {acc : List QT} {l : List ByteArray} (h : rdN b p = (0, l, (q : Int))) (hq : q + 4 ≤ b.length) : rdQ b (k + 1) p acc = rdQ b k (q + 4) (acc ++ [((l, ((at2 b q : Nat) : Int), ((at2 b (q + 2) : Nat) : Int), ()) : QT)]) := by
  rw [rdQ, h]
  simp only [Int.toNat_natCast, if_true]
  rw [if_pos hq]
theorem rdQ_short {b : List UInt8} {k p q : Nat} {acc : List QT} {l : List ByteArray} (h : rdN b p = (0, l, (q : Int))) (hq : ¬ q + 4 ≤ b.length) : rdQ b (k + 1) p acc = (2, [], 0) := by
  rw [rdQ, h]
  simp only [Int.toNat_natCast, if_true]
  rw [if_neg hq]
theorem rdQ_bad {b : List UInt8} {k p : Nat} {acc : List QT} {e : Int} (h : (rdN b p).1 = e) (he : e ≠ 0) : rdQ b (k + 1) p acc = (e, [], 0) := by
  rw [rdQ, h, if_neg he]
theorem rdR_step {b : List UInt8} {k p q en : Nat} {acc : List RecT} {l : List ByteArray} (h : rrF b p = (0, l, q, en)) : rdR b (k + 1) p acc = rdR b k en (acc ++ [recOf b l q en]) := by
  rw [rdR, h, if_pos rfl]
theorem rdR_bad {b : List UInt8} {k p : Nat} {acc : List RecT} {e : Int} (h : (rrF b p).1 = e) (he : e ≠ 0) : rdR b (k + 1) p acc = (e, [], 0) := by
  rw [rdR, h, if_neg he]
theorem rdN_nat {b : List UInt8} {p : Nat} (h : (rdN b p).1 = 0) : ∃ l q, rdN b p = (0, l, ((q : Nat) : Int)) ∧ nameErr l = 0 ∧ q ≤ b.length ∧ p < q := by
  obtain ⟨a, k, h1, h2, h3, h4⟩ := rdN_ok.1 (show rdN b p = (0, (rdN b p).2.1, (rdN b p).2.2) by rw [← h])
  have h5 := h3.lt
  exact ⟨_, k, by rw [← h2, ← h], h4, h5.2.1, by omega⟩
theorem rrF_nat {b : List UInt8} {p : Nat} (h : (rrF b p).1 = 0) : ∃ l q en, rrF b p = (0, l, q, en) ∧ nameErr l = 0 ∧ q + 10 ≤ en ∧ en ≤ b.length ∧ p < q := by
  have hh : rrF b p = (0, (rrF b p).2.1, (rrF b p).2.2.1, (rrF b p).2.2.2) := by rw [← h]
  obtain ⟨h1, h2, h3, h4⟩ := rrF_ok.1 hh
  obtain ⟨l, q, e1, e2, e3, e4⟩ := rdN_nat (b := b) (p := p) (by rw [h1])
  rw [e1] at h1
  simp only [Prod.mk.injEq, true_and] at h1
  have : q = (rrF b p).2.2.1 := by omega
  exact ⟨_, _, _, hh, by rw [← h1.1]; exact e2, by omega, h4, by omega⟩
/-- what was sent is read, whatever stands behind it -/
theorem rdQ_wr : ∀ (qs : List QT) (b : List UInt8) (ss : List Int) (b' : List UInt8) (ss' : List Int), wrQ qs b ss = (0, b', ss') → (∃ t, b' = b ++ t) ∧ ∀ k acc, rdQ (b' ++ k) qs.length b.length acc = (0, acc ++ qs, b'.length)
  | [], b, ss, b', ss', h => by
    simp only [wrQ, Prod.mk.injEq, true_and] at h
    obtain ⟨rfl, _⟩ := h
    exact ⟨⟨[], by simp⟩, fun k acc => by simp [rdQ]⟩
  | q :: qs, b, ss, b', ss', h => by
    rw [wrQ] at h
    by_cases hq : qErr q = 0
    · rw [if_pos hq] at h
      obtain ⟨⟨t, ht⟩, ih⟩ := rdQ_wr qs _ _ _ _ h
      obtain ⟨h0, ⟨t0, t1⟩, c0, c1⟩ := qErr_zero hq
      refine ⟨⟨packT b ss q.1 ++ (two2 q.2.1 ++ two2 q.2.2.1) ++ t, by rw [ht]; simp [qB]⟩, fun k acc => ?_⟩
      have hn := rdN_app (pack_back b ss q.1 h0) (two2 q.2.1 ++ (two2 q.2.2.1 ++ (t ++ k)))
      have e : b' ++ k = b ++ packT b ss q.1 ++ (two2 q.2.1 ++ (two2 q.2.2.1 ++ (t ++ k))) := by rw [ht]; simp [qB]
      rw [← e] at hn
      have a0 := at2_app (b ++ packT b ss q.1) (two2 q.2.1 ++ (two2 q.2.2.1 ++ (t ++ k))) 0
      have a2 := at2_app (b ++ packT b ss q.1) (two2 q.2.1 ++ (two2 q.2.2.1 ++ (t ++ k))) 2
      rw [← e] at a0 a2
      rw [Nat.add_zero] at a0
      have e2 := at2_two q.2.1 (two2 q.2.2.1 ++ (t ++ k)) 0
      have hl : (b' ++ k).length = (b ++ packT b ss q.1).length + 4 + (t ++ k).length := by rw [e]; simp only [List.length_append, two2_len]; omega
      rw [List.length_cons, rdQ_step hn (by omega), a0, a2, e2, two2_at _ _ t0 t1, two2_at _ _ c0 c1]
      have := ih k (acc ++ [(q.1, q.2.1, q.2.2.1, ())])
      rw [show (qB b ss q).length = (b ++ packT b ss q.1).length + 4 by simp [qB, two2_len]; omega] at this
      rw [this]
      obtain ⟨q1, q2, q3, u⟩ := q
      simp
    · rw [if_neg hq] at h
      simp only [Prod.mk.injEq] at h
      exact absurd h.1 hq
theorem rdR_wr : ∀ (rs : List RecT) (b : List UInt8) (ss : List Int) (b' : List UInt8) (ss' : List Int), wrR rs b ss = (0, b', ss') → (∃ t, b' = b ++ t) ∧ ∀ k acc, rdR (b' ++ k) rs.length b.length acc = (0, acc ++ rs, b'.length)
  | [], b, ss, b', ss', h => by
    simp only [wrR, Prod.mk.injEq, true_and] at h
    obtain ⟨rfl, _⟩ := h
    exact ⟨⟨[], by simp⟩, fun k acc => by simp [rdR]⟩
  | r :: rs, b, ss, b', ss', h => by
    rw [wrR] at h
    by_cases hr : recErr r = 0
    · rw [if_pos hr] at h
      obtain ⟨⟨t, ht⟩, ih⟩ := rdR_wr rs _ _ _ _ h
      obtain ⟨g1, g2⟩ := rr_back b ss r hr
      refine ⟨⟨packT b ss r.1 ++ recTail r.2.1 r.2.2.1 r.2.2.2.1 r.2.2.2.2.1 ++ t, by rw [ht]; simp [recB]⟩, fun k acc => ?_⟩
      obtain ⟨f1, f2⟩ := rrF_app g1 (t ++ k)
      rw [← List.append_assoc, ← ht] at f1 f2
      rw [List.length_cons, rdR_step f1, f2, g2, ih k (acc ++ [r])]
      simp
    · rw [if_neg hr] at h
      simp only [Prod.mk.injEq] at h
      exact absurd h.1 hr
/-- what is read could be sent -/
theorem rdQ_good : ∀ (k : Nat) (b : List UInt8) (p : Nat) (acc : List QT), (rdQ b k p acc).1 = 0 → (∀ q ∈ acc, qErr q = 0) → (∀ q ∈ (rdQ b k p acc).2.1, qErr q = 0) ∧ (rdQ b k p acc).2.1.length = acc.length + k ∧ (p ≤ b.length → (rdQ b k p acc).2.2 ≤ b.length)
  | 0, b, p, acc, h, ha => ⟨ha, rfl, fun h => h⟩
  | k + 1, b, p, acc, h, ha => by
    by_cases h0 : (rdN b p).1 = 0
    · obtain ⟨l, q, e1, e2, e3, e4⟩ := rdN_nat h0
      by_cases hq : q + 4 ≤ b.length
      · rw [rdQ_step e1 hq] at h ⊢
        obtain ⟨i1, i2, i3⟩ := rdQ_good k b (q + 4) _ h (by
          intro x hx
          rcases List.mem_append.1 hx with hx | hx
          · exact ha x hx
          · rw [List.mem_singleton] at hx
            subst hx
            have z1 := at2_le b q
            have z2 := at2_le b (q + 2)
            unfold qErr
            rw [if_pos e2, if_pos ⟨by simp, by simp only; omega, by simp, by simp only; omega⟩])
        exact ⟨i1, by rw [i2]; simp; omega, fun _ => i3 hq⟩
      · rw [rdQ_short e1 hq] at h; exact absurd h (by decide)
    · rw [rdQ_bad rfl h0] at h; exact absurd h h0
theorem rdR_good : ∀ (k : Nat) (b : List UInt8) (p : Nat) (acc : List RecT), (rdR b k p acc).1 = 0 → (∀ r ∈ acc, recErr r = 0) → (∀ r ∈ (rdR b k p acc).2.1, recErr r = 0) ∧ (rdR b k p acc).2.1.length = acc.length + k ∧ (p ≤ b.length → (rdR b k p acc).2.2 ≤ b.length)
  | 0, b, p, acc, h, ha => ⟨ha, rfl, fun h => h⟩
  | k + 1, b, p, acc, h, ha => by
    by_cases h0 : (rrF b p).1 = 0
    · obtain ⟨l, q, en, e1, e2, e3, e4, e5⟩ := rrF_nat h0
      rw [rdR_step e1] at h ⊢
      obtain ⟨_, _, e6, _⟩ := rrF_ok.1 e1
      obtain ⟨i1, i2, i3⟩ := rdR_good k b en _ h (by
        intro x hx
        rcases List.mem_append.1 hx with hx | hx
        · exact ha x hx
        · rw [List.mem_singleton] at hx
          subst hx
          have z1 := at2_le b q
          have z2 := at2_le b (q + 2)
          have z3 := at2_le b (q + 4)
          have z4 := at2_le b (q + 6)
          have z5 := at2_le b (q + 8)
          unfold recErr recOf
          simp only
          rw [if_pos e2, if_pos (by omega), if_pos (by rw [List.length_take]; omega)])
      exact ⟨i1, by rw [i2]; simp; omega, fun _ => i3 e4⟩
    · rw [rdR_bad rfl h0] at h; exact absurd h h0
theorem wrQ_good : ∀ (qs : List QT) (b : List UInt8) (ss : List Int), (∀ q ∈ qs, qErr q = 0) → (wrQ qs b ss).1 = 0
  | [], b, ss, _ => rfl
  | q :: qs, b, ss, h => by
    rw [wrQ, if_pos (h q (by simp))]
    exact wrQ_good qs _ _ fun x hx => h x (by simp [hx])
theorem wrR_good : ∀ (rs : List RecT) (b : List UInt8) (ss : List Int), (∀ r ∈ rs, recErr r = 0) → (wrR rs b ss).1 = 0
  | [], b, ss, _ => rfl
  | r :: rs, b, ss, h => by
    rw [wrR, if_pos (h r (by simp))]
    exact wrR_good rs _ _ fun x hx => h x (by simp [hx])

/-- a message's parts that are read: what is wrong, the questions, the three rows of records -/
def rdM (b : List UInt8) : Int × List QT × List RecT × List RecT × List RecT :=
  if b.length < 12 then (2, [], [], [], [])
  else if (rdQ b (at2 b 4) 12 []).1 = 0 then
    if (rdR b (at2 b 6) (rdQ b (at2 b 4) 12 []).2.2 []).1 = 0 then
      if (rdR b (at2 b 8) (rdR b (at2 b 6) (rdQ b (at2 b 4) 12 []).2.2 []).2.2 []).1 = 0 then
        if (rdR b (at2 b 10) (rdR b (at2 b 8) (rdR b (at2 b 6) (rdQ b (at2 b 4) 12 []).2.2 []).2.2 []).2.2 []).1 = 0 then
          if (rdR b (at2 b 10) (rdR b (at2 b 8) (rdR b (at2 b 6) (rdQ b (at2 b 4) 12 []).2.2 []).2.2 []).2.2 []).2.2 < b.length then (8, [], [], [], [])
          else (0, (rdQ b (at2 b 4) 12 []).2.1, (rdR b (at2 b 6) (rdQ b (at2 b 4) 12 []).2.2 []).2.1, (rdR b (at2 b 8) (rdR b (at2 b 6) (rdQ b (at2 b 4) 12 []).2.2 []).2.2 []).2.1, (rdR b (at2 b 10) (rdR b (at2 b 8) (rdR b (at2 b 6) (rdQ b (at2 b 4) 12 []).2.2 []).2.2 []).2.2 []).2.1)
        else ((rdR b (at2 b 10) (rdR b (at2 b 8) (rdR b (at2 b 6) (rdQ b (at2 b 4) 12 []).2.2 []).2.2 []).2.2 []).1, [], [], [], [])
      else ((rdR b (at2 b 8) (rdR b (at2 b 6) (rdQ b (at2 b 4) 12 []).2.2 []).2.2 []).1, [], [], [], [])
    else ((rdR b (at2 b 6) (rdQ b (at2 b 4) 12 []).2.2 []).1, [], [], [], [])
  else ((rdQ b (at2 b 4) 12 []).1, [], [], [], [])
end Go.Proofs.YtfihedcobopbcaaDoor
/- Messages in plain Lean: what was sent is read; no beginning alone of a message is one, and none with more behind it. No function of the program. -/
namespace Go.Proofs.YtfihedcobopbcaaDoor
set_option linter.unusedVariables false
set_option linter.unusedSimpArgs false

theorem rdM_short {b : List UInt8} (h : b.length < 12) : rdM b = (2, [], [], [], []) := by unfold rdM; rw [if_pos h]
theorem rdM_q {b : List UInt8} {e : Int} (h0 : ¬ b.length < 12) (h : (rdQ b (at2 b 4) 12 []).1 = e) (he : e ≠ 0) : rdM b = (e, [], [], [], []) := by
  unfold rdM; rw [if_neg h0, h, if_neg he]
theorem rdM_x {b : List UInt8} {e : Int} {qs : List QT} {p1 : Nat} (h0 : ¬ b.length < 12) (h1 : rdQ b (at2 b 4) 12 [] = (0, qs, p1)) (h : (rdR b (at2 b 6) p1 []).1 = e) (he : e ≠ 0) : rdM b = (e, [], [], [], []) := by
  unfold rdM; rw [if_neg h0, h1]; simp only [if_true]; rw [h, if_neg he]
theorem rdM_y {b : List UInt8} {e : Int} {qs : List QT} {xs : List RecT} {p1 p2 : Nat} (h0 : ¬ b.length < 12) (h1 : rdQ b (at2 b 4) 12 [] = (0, qs, p1)) (h2 : rdR b (at2 b 6) p1 [] = (0, xs, p2)) (h : (rdR b (at2 b 8) p2 []).1 = e) (he : e ≠ 0) : rdM b = (e, [], [], [], []) := by
  unfold rdM; rw [if_neg h0, h1]; simp only [if_true]; rw [h2]; simp only [if_true]; rw [h, if_neg he]
theorem rdM_z {b : List UInt8} {e : Int} {qs : List QT} {xs ys : List RecT} {p1 p2 p3 : Nat} (h0 : ¬ b.length < 12) (h1 : rdQ b (at2 b 4) 12 [] = (0, qs, p1)) (h2 : rdR b (at2 b 6) p1 [] = (0, xs, p2)) (h3 : rdR b (at2 b 8) p2 [] = (0, ys, p3)) (h : (rdR b (at2 b 10) p3 []).1 = e) (he : e ≠ 0) : rdM b = (e, [], [], [], []) := by
  unfold rdM; rw [if_neg h0, h1]; simp only [if_true]; rw [h2]; simp only [if_true]; rw [h3]; simp only [if_true]; rw [h, if_neg he]
theorem rdM_end {b : List UInt8} {qs : List QT} {xs ys zs : List RecT} {p1 p2 p3 p4 : Nat} (h0 : ¬ b.length < 12) (h1 : rdQ b (at2 b 4) 12 [] = (0, qs, p1)) (h2 : rdR b (at2 b 6) p1 [] = (0, xs, p2)) (h3 : rdR b (at2 b 8) p2 [] = (0, ys, p3)) (h4 : rdR b (at2 b 10) p3 [] = (0, zs, p4)) : rdM b = if p4 < b.length then (8, [], [], [], []) else (0, qs, xs, ys, zs) := by
  unfold rdM; rw [if_neg h0, h1]; simp only [if_true]; rw [h2]; simp only [if_true]; rw [h3]; simp only [if_true]; rw [h4]; simp only [if_true]
theorem rdQ_zero {b : List UInt8} {k p : Nat} {acc : List QT} (h : (rdQ b k p acc).1 = 0) : rdQ b k p acc = (0, (rdQ b k p acc).2.1, (rdQ b k p acc).2.2) := by rw [← h]
theorem rdR_zero {b : List UInt8} {k p : Nat} {acc : List RecT} (h : (rdR b k p acc).1 = 0) : rdR b k p acc = (0, (rdR b k p acc).2.1, (rdR b k p acc).2.2) := by rw [← h]
/-- how a message is read whole -/
theorem rdM_ok {b : List UInt8} (h : (rdM b).1 = 0) : ∃ qs xs ys zs p1 p2 p3 p4, ¬ b.length < 12 ∧ rdQ b (at2 b 4) 12 [] = (0, qs, p1) ∧ rdR b (at2 b 6) p1 [] = (0, xs, p2) ∧ rdR b (at2 b 8) p2 [] = (0, ys, p3) ∧ rdR b (at2 b 10) p3 [] = (0, zs, p4) ∧ ¬ p4 < b.length ∧ rdM b = (0, qs, xs, ys, zs) := by
  by_cases h0 : b.length < 12
  · rw [rdM_short h0] at h; exact absurd h (by decide)
  by_cases h1 : (rdQ b (at2 b 4) 12 []).1 = 0
  · have e1 := rdQ_zero h1
    by_cases h2 : (rdR b (at2 b 6) (rdQ b (at2 b 4) 12 []).2.2 []).1 = 0
    · have e2 := rdR_zero h2
      by_cases h3 : (rdR b (at2 b 8) (rdR b (at2 b 6) (rdQ b (at2 b 4) 12 []).2.2 []).2.2 []).1 = 0
      · have e3 := rdR_zero h3
        by_cases h4 : (rdR b (at2 b 10) (rdR b (at2 b 8) (rdR b (at2 b 6) (rdQ b (at2 b 4) 12 []).2.2 []).2.2 []).2.2 []).1 = 0
        · have e4 := rdR_zero h4
          have e := rdM_end h0 e1 e2 e3 e4
          by_cases hp : (rdR b (at2 b 10) (rdR b (at2 b 8) (rdR b (at2 b 6) (rdQ b (at2 b 4) 12 []).2.2 []).2.2 []).2.2 []).2.2 < b.length
          · rw [e, if_pos hp] at h; exact absurd h (by decide)
          · rw [if_neg hp] at e
            exact ⟨_, _, _, _, _, _, _, _, h0, e1, e2, e3, e4, hp, e⟩
        · rw [rdM_z h0 e1 e2 e3 rfl h4] at h; exact absurd h h4
      · rw [rdM_y h0 e1 e2 rfl h3] at h; exact absurd h h3
    · rw [rdM_x h0 e1 rfl h2] at h; exact absurd h h2
  · rw [rdM_q h0 rfl h1] at h; exact absurd h h1
theorem rdM_bad {b : List UInt8} {e : Int} (h : (rdM b).1 = e) (he : e ≠ 0) : rdM b = (e, [], [], [], []) := by
  subst h
  by_cases h0 : b.length < 12
  · rw [rdM_short h0]
  by_cases h1 : (rdQ b (at2 b 4) 12 []).1 = 0
  · have e1 := rdQ_zero h1
    by_cases h2 : (rdR b (at2 b 6) (rdQ b (at2 b 4) 12 []).2.2 []).1 = 0
    · have e2 := rdR_zero h2
      by_cases h3 : (rdR b (at2 b 8) (rdR b (at2 b 6) (rdQ b (at2 b 4) 12 []).2.2 []).2.2 []).1 = 0
      · have e3 := rdR_zero h3
        by_cases h4 : (rdR b (at2 b 10) (rdR b (at2 b 8) (rdR b (at2 b 6) (rdQ b (at2 b 4) 12 []).2.2 []).2.2 []).2.2 []).1 = 0
        · have e4 := rdR_zero h4
          have e := rdM_end h0 e1 e2 e3 e4
          by_cases hp : (rdR b (at2 b 10) (rdR b (at2 b 8) (rdR b (at2 b 6) (rdQ b (at2 b 4) 12 []).2.2 []).2.2 []).2.2 []).2.2 < b.length
          · rw [e, if_pos hp]
          · rw [if_neg hp] at e
            rw [e] at he; exact absurd rfl he
        · rw [rdM_z h0 e1 e2 e3 rfl h4]
      · rw [rdM_y h0 e1 e2 rfl h3]
    · rw [rdM_x h0 e1 rfl h2]
  · rw [rdM_q h0 rfl h1]

/-! more behind -/
theorem rdQ_app : ∀ (n : Nat) (b k : List UInt8) (p : Nat) (acc : List QT), (rdQ b n p acc).1 = 0 → rdQ (b ++ k) n p acc = rdQ b n p acc
  | 0, b, k, p, acc, h => rfl
  | n + 1, b, k, p, acc, h => by
    by_cases h0 : (rdN b p).1 = 0
    · obtain ⟨l, q, e1, e2, e3, e4⟩ := rdN_nat h0
      by_cases hq : q + 4 ≤ b.length
      · rw [rdQ_step e1 hq] at h ⊢
        rw [rdQ_step (rdN_app e1 k) (by rw [List.length_append]; omega), at2_left b k q (by omega), at2_left b k (q + 2) (by omega)]
        exact rdQ_app n b k _ _ h
      · rw [rdQ_short e1 hq] at h; exact absurd h (by decide)
    · rw [rdQ_bad rfl h0] at h; exact absurd h h0
theorem rdR_app : ∀ (n : Nat) (b k : List UInt8) (p : Nat) (acc : List RecT), (rdR b n p acc).1 = 0 → rdR (b ++ k) n p acc = rdR b n p acc
  | 0, b, k, p, acc, h => rfl
  | n + 1, b, k, p, acc, h => by
    by_cases h0 : (rrF b p).1 = 0
    · obtain ⟨l, q, en, e1, e2, e3, e4, e5⟩ := rrF_nat h0
      rw [rdR_step e1] at h ⊢
      obtain ⟨f1, f2⟩ := rrF_app e1 k
      rw [rdR_step f1, f2]
      exact rdR_app n b k _ _ h
    · rw [rdR_bad rfl h0] at h; exact absurd h h0
theorem rdM_more {b : List UInt8} (h : (rdM b).1 = 0) (k : List UInt8) (hk : k ≠ []) : rdM (b ++ k) = (8, [], [], [], []) := by
  obtain ⟨qs, xs, ys, zs, p1, p2, p3, p4, h0, h1, h2, h3, h4, h5, h6⟩ := rdM_ok h
  have hl : 0 < k.length := List.length_pos_iff.2 hk
  have g1 := rdQ_app _ b k _ _ (by rw [h1]); rw [h1] at g1
  have g2 := rdR_app _ b k _ _ (by rw [h2]); rw [h2] at g2
  have g3 := rdR_app _ b k _ _ (by rw [h3]); rw [h3] at g3
  have g4 := rdR_app _ b k _ _ (by rw [h4]); rw [h4] at g4
  have u1 := (rdQ_good _ b 12 [] (by rw [h1]) (by simp)).2.2 (by omega); rw [h1] at u1
  have u2 := (rdR_good _ b p1 [] (by rw [h2]) (by simp)).2.2 u1; rw [h2] at u2
  have u3 := (rdR_good _ b p2 [] (by rw [h3]) (by simp)).2.2 u2; rw [h3] at u3
  have u4 := (rdR_good _ b p3 [] (by rw [h4]) (by simp)).2.2 u3; rw [h4] at u4
  simp only at u4
  rw [rdM_end (b := b ++ k) (by rw [List.length_append]; omega) (by rw [at2_left b k 4 (by omega)]; exact g1) (by rw [at2_left b k 6 (by omega)]; exact g2) (by rw [at2_left b k 8 (by omega)]; exact g3) (by rw [at2_left b k 10 (by omega)]; exact g4), if_pos (by rw [List.length_append]; omega)]

/-! a beginning alone -/
theorem nm_torn (m k : List UInt8) (low at_ size : Nat) : (nm (m ++ k) low at_ size).1 = 0 → (nm m low at_ size).1 = 0 ∨ (nm m low at_ size).1 = 2 := by
  induction low, at_, size using nm.induct (m := m) with
  | case1 low at_ size h h0 => intro _; left; rw [nm, dif_pos h, if_pos h0]
  | case2 low at_ size h h0 h1 h2 h3 ih =>
    rw [nm, nm.eq_def m low at_ size, dif_pos h, if_neg h0, if_pos h1, dif_pos h2, if_pos h3, dif_pos (by simp; omega)]
    simp only [List.getElem_append_left h, List.getElem_append_left h2]
    rw [if_neg h0, if_pos h1, dif_pos (by simp; omega), if_pos h3]
    exact ih
  | case3 low at_ size h h0 h1 h2 h3 =>
    rw [nm, dif_pos (by simp; omega)]
    simp only [List.getElem_append_left h, List.getElem_append_left h2]
    rw [if_neg h0, if_pos h1, dif_pos (by simp; omega), if_neg h3]
    intro e; cases e
  | case4 low at_ size h h0 h1 h2 => intro _; right; rw [nm, dif_pos h, if_neg h0, if_pos h1, dif_neg h2]
  | case5 low at_ size h h0 h1 h2 =>
    rw [nm, dif_pos (by simp; omega)]
    simp only [List.getElem_append_left h]
    rw [if_neg h0, if_neg h1, if_pos h2]
    intro e; cases e
  | case6 low at_ size h h0 h1 h2 h3 h4 ih =>
    rw [nm, nm.eq_def m low at_ size, dif_pos h, if_neg h0, if_neg h1, if_neg h2, if_pos h3, if_pos h4, dif_pos (by simp; omega)]
    simp only [List.getElem_append_left h]
    rw [if_neg h0, if_neg h1, if_neg h2, if_pos (by simp; omega), if_pos h4]
    exact ih
  | case7 low at_ size h h0 h1 h2 h3 h4 =>
    rw [nm, dif_pos (by simp; omega)]
    simp only [List.getElem_append_left h]
    rw [if_neg h0, if_neg h1, if_neg h2, if_pos (by simp; omega), if_neg h4]
    intro e; cases e
  | case8 low at_ size h h0 h1 h2 h3 => intro _; right; rw [nm, dif_pos h, if_neg h0, if_neg h1, if_neg h2, if_neg h3]
  | case9 low at_ size h => intro _; right; rw [nm, dif_neg h]
theorem rdN_torn {m k : List UInt8} {p : Nat} (h : (rdN (m ++ k) p).1 = 0) : (rdN m p).1 = 0 ∨ (rdN m p).1 = 2 := by
  unfold rdN at h ⊢
  rw [if_neg (by omega)] at h ⊢
  have := nm_torn m k (p : Int).toNat (p : Int).toNat 1
  by_cases h0 : (nm (m ++ k) (p : Int).toNat (p : Int).toNat 1).1 = 0
  · rcases this h0 with h1 | h1
    · left; rw [if_pos h1]
    · right; rw [if_neg (by omega), h1]
  · rw [if_neg h0] at h; exact absurd h h0
theorem rrF_torn {m k : List UInt8} {p : Nat} (h : (rrF (m ++ k) p).1 = 0) : (rrF m p).1 = 0 ∨ (rrF m p).1 = 2 := by
  have h0 : (rdN (m ++ k) p).1 = 0 := by
    unfold rrF at h
    by_cases h0 : (rdN (m ++ k) p).1 = 0
    · exact h0
    · rw [if_neg h0] at h; exact absurd h h0
  unfold rrF
  rcases rdN_torn h0 with h1 | h1
  · rw [if_pos h1]
    split
    · exact .inl rfl
    · exact .inr rfl
  · right; rw [if_neg (by omega), h1]
theorem rdQ_torn : ∀ (n : Nat) (b k : List UInt8) (p : Nat) (acc : List QT), (rdQ (b ++ k) n p acc).1 = 0 → (rdQ b n p acc).1 = 0 ∨ (rdQ b n p acc).1 = 2
  | 0, b, k, p, acc, h => .inl rfl
  | n + 1, b, k, p, acc, h => by
    have h0 : (rdN (b ++ k) p).1 = 0 := by
      by_cases h0 : (rdN (b ++ k) p).1 = 0
      · exact h0
      · rw [rdQ_bad rfl h0] at h; exact absurd h h0
    rcases rdN_torn h0 with h1 | h1
    · obtain ⟨l, q, e1, e2, e3, e4⟩ := rdN_nat h1
      by_cases hq : q + 4 ≤ b.length
      · rw [rdQ_step e1 hq]
        rw [rdQ_step (rdN_app e1 k) (by rw [List.length_append]; omega), at2_left b k q (by omega), at2_left b k (q + 2) (by omega)] at h
        exact rdQ_torn n b k _ _ h
      · right; rw [rdQ_short e1 hq]
    · right; rw [rdQ_bad h1 (by decide)]
theorem rdR_torn : ∀ (n : Nat) (b k : List UInt8) (p : Nat) (acc : List RecT), (rdR (b ++ k) n p acc).1 = 0 → (rdR b n p acc).1 = 0 ∨ (rdR b n p acc).1 = 2
  | 0, b, k, p, acc, h => .inl rfl
  | n + 1, b, k, p, acc, h => by
    have h0 : (rrF (b ++ k) p).1 = 0 := by
      by_cases h0 : (rrF (b ++ k) p).1 = 0
      · exact h0
      · rw [rdR_bad rfl h0] at h; exact absurd h h0
    rcases rrF_torn h0 with h1 | h1
    · obtain ⟨l, q, en, e1, e2, e3, e4, e5⟩ := rrF_nat h1
      rw [rdR_step e1]
      obtain ⟨f1, f2⟩ := rrF_app e1 k
      rw [rdR_step f1, f2] at h
      exact rdR_torn n b k _ _ h
    · right; rw [rdR_bad h1 (by decide)]
theorem rdM_torn {b k : List UInt8} (hk : k ≠ []) (h : (rdM (b ++ k)).1 = 0) : rdM b = (2, [], [], [], []) := by
  obtain ⟨qs, xs, ys, zs, p1, p2, p3, p4, h0, h1, h2, h3, h4, h5, h6⟩ := rdM_ok h
  have hl : 0 < k.length := List.length_pos_iff.2 hk
  by_cases b0 : b.length < 12
  · exact rdM_short b0
  rw [at2_left b k 4 (by omega)] at h1
  rw [at2_left b k 6 (by omega)] at h2
  rw [at2_left b k 8 (by omega)] at h3
  rw [at2_left b k 10 (by omega)] at h4
  rcases rdQ_torn _ b k _ _ (by rw [h1]) with t1 | t1
  · have g1 := rdQ_app _ b k _ _ t1; rw [h1] at g1
    have u1 := (rdQ_good _ b 12 [] t1 (by simp)).2.2 (by omega); rw [← g1] at u1
    rcases rdR_torn _ b k _ _ (by rw [h2]) with t2 | t2
    · have g2 := rdR_app _ b k _ _ t2; rw [h2] at g2
      have u2 := (rdR_good _ b p1 [] t2 (by simp)).2.2 u1; rw [← g2] at u2
      rcases rdR_torn _ b k _ _ (by rw [h3]) with t3 | t3
      · have g3 := rdR_app _ b k _ _ t3; rw [h3] at g3
        have u3 := (rdR_good _ b p2 [] t3 (by simp)).2.2 u2; rw [← g3] at u3
        rcases rdR_torn _ b k _ _ (by rw [h4]) with t4 | t4
        · have g4 := rdR_app _ b k _ _ t4; rw [h4] at g4
          have u4 := (rdR_good _ b p3 [] t4 (by simp)).2.2 u3; rw [← g4] at u4
          simp only at u4
          rw [List.length_append] at h5
          omega
        · exact rdM_z b0 g1.symm g2.symm g3.symm t4 (by decide)
      · exact rdM_y b0 g1.symm g2.symm t3 (by decide)
    · exact rdM_x b0 g1.symm t2 (by decide)
  · exact rdM_q b0 t1 (by decide)

/-! what was sent is read -/
theorem wrR_split (a b : List RecT) : ∀ (m : List UInt8) (s : List Int) (m' : List UInt8) (s' : List Int), wrR (a ++ b) m s = (0, m', s') → ∃ m1 s1, wrR a m s = (0, m1, s1) ∧ wrR b m1 s1 = (0, m', s') := by
  induction a with
  | nil => intro m s m' s' h; exact ⟨m, s, rfl, h⟩
  | cons r a ih =>
    intro m s m' s' h
    rw [List.cons_append, wrR] at h
    rw [wrR]
    by_cases h0 : recErr r = 0
    · rw [if_pos h0] at h ⊢; exact ih _ _ _ _ h
    · rw [if_neg h0] at h
      simp only [Prod.mk.injEq] at h
      exact absurd h.1 h0
theorem rdM_sent {H : List UInt8} (hH : H.length = 12) {qs : List QT} {xs ys zs : List RecT} (a4 : at2 H 4 = qs.length) (a6 : at2 H 6 = xs.length) (a8 : at2 H 8 = ys.length) (a10 : at2 H 10 = zs.length) {b1 b2 : List UInt8} {s1 s2 : List Int} (h1 : wrQ qs H [] = (0, b1, s1)) (h2 : wrR (xs ++ (ys ++ zs)) b1 s1 = (0, b2, s2)) : rdM b2 = (0, qs, xs, ys, zs) ∧ ∃ t, b2 = H ++ t := by
  obtain ⟨⟨t0, e0⟩, r0⟩ := rdQ_wr _ _ _ _ _ h1
  obtain ⟨m1, u1, k1, k1'⟩ := wrR_split _ _ _ _ _ _ h2
  obtain ⟨m2, u2, k2, k3⟩ := wrR_split _ _ _ _ _ _ k1'
  obtain ⟨⟨t1, e1⟩, r1⟩ := rdR_wr _ _ _ _ _ k1
  obtain ⟨⟨t2, e2⟩, r2⟩ := rdR_wr _ _ _ _ _ k2
  obtain ⟨⟨t3, e3⟩, r3⟩ := rdR_wr _ _ _ _ _ k3
  have q0 := r0 (t1 ++ (t2 ++ t3)) []
  have q1 := r1 (t2 ++ t3) []
  have q2 := r2 t3 []
  have q3 := r3 [] []
  have E1 : m1 ++ (t2 ++ t3) = b2 := by rw [e3, e2]; simp
  have E0 : b1 ++ (t1 ++ (t2 ++ t3)) = b2 := by rw [← E1, e1]; simp
  rw [E0, hH] at q0
  rw [E1] at q1
  rw [← e3] at q2
  rw [List.append_nil] at q3
  rw [List.nil_append] at q0 q1 q2 q3
  have hb : b2 = H ++ (t0 ++ (t1 ++ (t2 ++ t3))) := by rw [← E0, e0]; simp
  have hl : b2.length = 12 + (t0 ++ (t1 ++ (t2 ++ t3))).length := by rw [hb, List.length_append, hH]
  have f : ∀ k, k + 1 < 12 → at2 b2 k = at2 H k := fun k hk => by rw [hb]; exact at2_left H _ k (by omega)
  refine ⟨?_, _, hb⟩
  rw [rdM_end (by omega) (by rw [f 4 (by omega), a4]; exact q0) (by rw [f 6 (by omega), a6]; exact q1) (by rw [f 8 (by omega), a8]; exact q2) (by rw [f 10 (by omega), a10]; exact q3), if_neg (by omega)]
end Go.Proofs.YtfihedcobopbcaaDoor
/- append onto a row of the call's own, whose block holds nothing of a kind: neither does the new row's block. No function of the program. -/
namespace Go.Proofs.YtfihedcobopbcaaDoor
open Go.RowKit
set_option linter.unusedVariables false
set_option linter.unusedSimpArgs false

/-- a slice's own block holds nothing of a kind -/
def FreeV (K : Value → Prop) (w : World) (v : Value) : Prop := ∀ k, v.ownBlock = some k → FreeB K w k
section
variable {K : Value → Prop} {w w' : World} {v : Value}
theorem FreeV.nil : FreeV K w (.slice none 0 0) := fun k h => (by cases h)
theorem FreeV.lit {g n c : Nat} (h : FreeB K w g) : FreeV K w (.slice (some ⟨g, 0, none⟩) n c) := fun k e => (by cases e; exact h)
theorem FreeV.below {base : Nat} {e : TypeId} {size n : Nat} {xs : List Value} (h : FreeV K w v) (ho : w.ownsRow base e size v n xs) (hb : Below w.heap.size w w') : FreeV K w' v := fun k hk => (h k hk).below hb (ho.lt k hk).2
theorem FreeV.grown {base : Nat} {e : TypeId} {size n : Nat} {xs : List Value} {r : Option Nat} (h : FreeV K w v) (ho : w.ownsRow base e size v n xs) (hg : w.grownBy w' r) (hr : v.ownBlock = none ∨ v.ownBlock ≠ r) : FreeV K w' v := by
  intro k hk i u hu
  refine h k hk i u ?_
  rw [← hu]
  exact (World.cell?_of_block (hg.block k (ho.lt k hk).2 (by rw [← hk]; exact hr.resolve_left (by rw [hk]; simp)))).symm
theorem FreeV.set {g i : Nat} {s : Option Nat} {u : Value} (h : FreeV K w v) (hne : v.ownBlock = none ∨ v.ownBlock ≠ some g) : FreeV K (w.setCell ⟨g, i, s⟩ u) v := fun k hk =>
  (h k hk).far (fun e => (hne.elim (fun h0 => by rw [hk] at h0; cases h0) fun h1 => h1 (by rw [hk, show k = g from e]))) u
theorem FreeV.drew (h : FreeV K w v) : FreeV K w.drew v := h
theorem mem_zero {z : Array Value} {n : Nat} {u : Value} (h : u ∈ (Builtin.zeroCells z n).toList) : u ∈ z.toList := by
  unfold Builtin.zeroCells at h
  simp only [Array.toList_map, List.mem_map, Array.mem_toList_iff] at h
  obtain ⟨i, hi, rfl⟩ := h
  rw [Array.mem_range] at hi
  have hz : 0 < z.size := by
    rcases Nat.eq_zero_or_pos z.size with h | h
    · rw [h] at hi; omega
    · exact h
  have := Nat.mod_lt i hz
  rw [getElem!_pos z _ this]
  exact Array.mem_toList_iff.2 (Array.getElem_mem this)
/-- what a row of the call's own holds is of no kind, if its block holds nothing of it -/
theorem own_free {base : Nat} {e : TypeId} {size n : Nat} {xs : List Value} (ho : w.ownsRow base e size v n xs) (hf : FreeV K w v) (hn : 0 < n ∨ xs = []) : ∀ u ∈ xs, ¬ K u := by
  rcases ho.2 with ⟨rfl, rfl⟩ | ⟨g, cap, cur, rfl, hbg, hg, hnc, hcm, hcs, htake⟩
  · have hx : xs = [] := List.eq_nil_of_length_eq_zero (by simpa using ho.1)
    subst hx
    simp
  · intro u hu
    obtain ⟨j, hj, rfl⟩ := List.getElem_of_mem hu
    have := ho.cells (g := g) rfl j _ (List.getElem?_eq_getElem hj)
    rw [add_none] at this
    exact hf g rfl _ _ this
end
section
variable {P : Program} {w : World} {K : Value → Prop}
theorem free_app (base : Nat) (t ty e : TypeId) (size bytes : Nat) (E : El P t e size bytes) (hz : ∀ z, (P.info? e).bind (·.zero) = some z → ∀ u ∈ z.cells.toList, ¬ K u) {v : Value} {n : Nat} {xs : List Value} (hown : w.ownsRow base e size v n xs) (hf : FreeV K w v)
    {A : Option Addr} {m c : Nat} {ys : List Value} (hs : Src w A m c size ys) (hy : ∀ u ∈ ys, ¬ K u) (hbytes : (n + m) * bytes ≤ 140737488355328) (h63 : n + m ≤ maxLen) {v' : Value} {w' : World}
    (hr : (Builtin.append_ #[t, t] ty #[v, .slice A m c]).run P w = .ok v' w') : FreeV K w' v' := by
  obtain ⟨ht, ⟨i, z, hi, hz0, hsz, hby, hzs⟩, hp⟩ := E
  have hzz := hz z (by rw [hi]; exact hz0)
  have hsmall : n + m ≤ 9223372036854775807 := by simp only [maxLen] at h63; omega
  rcases A with _ | ad
  · obtain ⟨rfl, rfl⟩ := hs.nil rfl
    have h2 := run_append_owned_none (P := P) (w := w) base t ty e i size ht hi v n xs hown
    have h3 := hr.symm.trans h2
    injection h3 with h3 h4
    subst h3; subst h4
    exact hf
  · have hl := hs.len
    have hnews := hs.at_ ad rfl
    subst hsz
    subst hby
    rcases hown.2 with ⟨rfl, rfl⟩ | ⟨g, cap, cur, rfl, hbg, hg, hnc, hcm, hcs, htake⟩
    · by_cases hm : m = 0
      · subst hm
        have hn : ys = [] := List.eq_nil_of_length_eq_zero (by simpa using hl)
        subst hn
        have h2 : (Builtin.append_ #[t, t] ty #[.slice none 0 0, .slice (some ad) 0 c]).run P w = .ok (.slice none 0 0) w := by
          simp [Builtin.append_, run_underlying ht, sizeOf, typeInfo, hi, Builtin.lenOf, Builtin.firstCells, loadCells, loadCellsFrom]
        have h3 := hr.symm.trans h2
        injection h3 with h3 h4
        subst h3; subst h4
        exact hf
      · have h2 := run_append_nil (P := P) w t ty e i z ht hi hz0 ad m c ys hl hnews (by omega) (by omega) (by simp only [Nat.zero_add] at hbytes; omega)
        have h3 := hr.symm.trans h2
        injection h3 with h3 h4
        subst h3; subst h4
        refine FreeV.lit (FreeB.of_blk (t := e) (cs := ys.toArray ++ Builtin.zeroCells z.cells (grownCap w m 0 e - m)) (Blk.new w.drew _ _) ?_)
        intro u hu
        rw [Array.toList_append, List.mem_append] at hu
        rcases hu with hu | hu
        · exact hy u hu
        · exact hzz u (mem_zero hu)
    · by_cases hroom : n + m ≤ cap
      · have hfit : n * i.size + ys.length ≤ cur.size := by rw [hl, hcs, ← Nat.add_mul]; exact Nat.mul_le_mul_right _ hroom
        have h2 := run_append_room (P := P) w t ty e i ht hi g n cap cur hg ad m c ys hl hnews hs.one hroom hfit
        have h3 := hr.symm.trans h2
        injection h3 with h3 h4
        subst h3; subst h4
        have hb : Blk w g e cur := hg
        have hcur : ∀ u ∈ cur.toList, ¬ K u := by
          intro u hu
          obtain ⟨j, hj, rfl⟩ := List.getElem_of_mem hu
          refine hf g rfl j _ ?_
          rw [hb.cell j]
          simp only [Array.length_toList] at hj
          rw [Array.getElem?_eq_getElem hj]
          simp
        refine FreeV.lit (FreeB.of_blk (t := e) (setRow_heap w g cur _ e _ hg) ?_)
        intro u hu
        simp only [List.mem_append] at hu
        rcases hu with (hu | hu) | hu
        · exact hcur u (List.mem_of_mem_take hu)
        · exact hy u hu
        · exact hcur u (List.mem_of_mem_drop hu)
      · have h2 := run_append_grow (P := P) w t ty e i z ht hi hz0 ⟨g, 0, none⟩ n cap xs hown.1 (hown.cells (g := g) rfl) ad m c ys hl hnews (by omega) (by omega) (growslice_fits (by omega) hbytes)
        have h3 := hr.symm.trans h2
        injection h3 with h3 h4
        subst h3; subst h4
        refine FreeV.lit (FreeB.of_blk (t := e) (cs := xs.toArray ++ ys.toArray ++ Builtin.zeroCells z.cells (grownCap w (n + m) cap e - (n + m))) (Blk.new w.drew _ _) ?_)
        have hxs : ∀ u ∈ xs, ¬ K u := by
          intro u hu
          obtain ⟨j, hj, rfl⟩ := List.getElem_of_mem hu
          have := hown.cells (g := g) rfl j _ (List.getElem?_eq_getElem hj)
          rw [add_none] at this
          exact hf g rfl _ _ this
        intro u hu
        rw [Array.toList_append, Array.toList_append, List.mem_append, List.mem_append] at hu
        rcases hu with (hu | hu) | hu
        · exact hxs u hu
        · exact hy u hu
        · exact hzz u (mem_zero hu)
/-- append, in a region that draws: where the new row lies, and that it holds nothing of a kind -/
theorem step_appF {ops : Array Oper} {o : Oper} {a : Act} {Q : Exit → Act → World → Prop} {KK : Act → World → Prop} {F : Prop} (hgd : o.guard = none) (s x : Operand) (t : TypeId)
    (ho : o.op = .call { callee := .builtin .append, args := #[s, x], argTypes := #[t, t] }) (base : Nat) (e : TypeId) (size bytes : Nat) (E : El P t e size bytes) (hz : ∀ z, (P.info? e).bind (·.zero) = some z → ∀ u ∈ z.cells.toList, ¬ K u)
    (v : Value) (n : Nat) (xs : List Value) (hs : a.eval s = v) (hown : w.ownsRow base e size v n xs) (hf : FreeV K w v) (A : Option Addr) (m c : Nat) (ys : List Value) (hx : a.eval x = .slice A m c) (hsrc : Src w A m c size ys) (hy : ∀ u ∈ ys, ¬ K u)
    (hbytes : (n + m) * bytes ≤ 140737488355328) (h63 : n + m ≤ maxLen) (hbase : base ≤ w.heap.size)
    (h : ∀ v' w', w'.ownsRow base e size v' (n + m) (xs ++ ys) → AppTo w w' v v' → FreeV K w' v' → KK (a.put o.dst v') w') :
    if Region.wanted o (yielded ops a.tmps) = true then Oper.wp P o a w KK Q else F := by
  have hw : Region.wanted o (yielded ops a.tmps) = true := by simp [Region.wanted, hgd]
  rw [if_pos hw]
  obtain ⟨v', w', hr, h2, h3, h5⟩ := run_app (P := P) (w := w) base t o.type e size bytes E v n xs hown A m c ys hsrc hbytes h63 hbase
  have h6 := free_app (K := K) base t o.type e size bytes E hz hown hf hsrc hy hbytes h63 hr
  unfold Oper.wp execOp
  simp only [ho, resolve, invoke, builtin, Sem.run_bind, Sem.run_pure, Result.andThen_ok, List.map_toArray, List.map_cons, List.map_nil, hs, hx, hr]
  exact h v' w' h2 ⟨h3, h5.imp id fun e => ⟨_, e, Nat.le_refl _⟩⟩ h6
theorem wpList_appF {ops : Array Oper} {rest : List Oper} {o : Oper} {a : Act} {Q : Exit → Act → World → Prop} (hgd : o.guard = none) (s x : Operand) (t : TypeId)
    (ho : o.op = .call { callee := .builtin .append, args := #[s, x], argTypes := #[t, t] }) (base : Nat) (e : TypeId) (size bytes : Nat) (E : El P t e size bytes) (hz : ∀ z, (P.info? e).bind (·.zero) = some z → ∀ u ∈ z.cells.toList, ¬ K u)
    (v : Value) (n : Nat) (xs : List Value) (hs : a.eval s = v) (hown : w.ownsRow base e size v n xs) (hf : FreeV K w v) (A : Option Addr) (m c : Nat) (ys : List Value) (hx : a.eval x = .slice A m c) (hsrc : Src w A m c size ys) (hy : ∀ u ∈ ys, ¬ K u)
    (hbytes : (n + m) * bytes ≤ 140737488355328) (h63 : n + m ≤ maxLen) (hbase : base ≤ w.heap.size)
    (h : ∀ v' w', w'.ownsRow base e size v' (n + m) (xs ++ ys) → AppTo w w' v v' → FreeV K w' v' → wpList P ops Q rest (a.put o.dst v') w') :
    wpList P ops Q (o :: rest) a w := by
  refine wpList_plain hgd fun KK hK => ?_
  obtain ⟨v', w', hr, h2, h3, h5⟩ := run_app (P := P) (w := w) base t o.type e size bytes E v n xs hown A m c ys hsrc hbytes h63 hbase
  have h6 := free_app (K := K) base t o.type e size bytes E hz hown hf hsrc hy hbytes h63 hr
  unfold Oper.wp execOp
  simp only [ho, resolve, invoke, builtin, Sem.run_bind, Sem.run_pure, Result.andThen_ok, List.map_toArray, List.map_cons, List.map_nil, hs, hx, hr]
  exact hK _ _ (h v' w' h2 ⟨h3, h5.imp id fun e => ⟨_, e, Nat.le_refl _⟩⟩ h6)
end
section
variable {K : Value → Prop} {w w' : World} {v v' : Value}
/-- readings of a kind are kept where one row grew that holds nothing of the kind -/
theorem AppTo.near (h : AppTo w w' v v') (hf : FreeV K w v) : NearP K w w' :=
  ⟨h.grown.size, fun k hk => by
    by_cases e : v.ownBlock = some k
    · exact .inr (hf k e)
    · exact .inl (h.grown.block k hk (fun h => e h.symm))⟩
end
end Go.Proofs.YtfihedcobopbcaaDoor
/- A row of the call's own whose elements hold slices that lie elsewhere: kept while it grows, while others grow, and while one block is stored into that holds no bytes and no texts. No function of the program. -/
namespace Go.Proofs.YtfihedcobopbcaaDoor
open Go.RowKit
set_option linter.unusedVariables false
set_option linter.unusedSimpArgs false

def IsD (v : Value) : Prop := IsStr v ∨ IsU8 v
def Near {α : Type} (K : Value → Prop) (R : Rep α) : Prop := ∀ {w w' : World} {a : α} {vs : List Value}, R.rel w w.heap.size a vs → NearP K w w' → R.rel w' w'.heap.size a vs
theorem near_int (K : Value → Prop) : Near K intR := fun h _ => h
theorem near_unit (K : Value → Prop) : Near K unitR := fun h _ => h
theorem near_pair {α β : Type} {K : Value → Prop} {R : Rep α} {S : Rep β} (h1 : Near K R) (h2 : Near K S) : Near K (pairR R S) := by
  rintro w w' a vs ⟨u, v, rfl, r1, r2⟩ hn
  exact ⟨u, v, rfl, h1 r1 hn, h2 r2 hn⟩
theorem near_strs : Near IsD (sliceR strR) := by
  rintro w w' a vs ⟨A, n, c, rfl, h⟩ hn
  exact ⟨A, n, c, rfl, Rd.near (R := strR) IsD (fun hr u hu => by rw [hr.1] at hu; exact .inl ⟨_, List.mem_singleton.1 hu⟩) (fun hr => hr) h hn⟩
theorem near_bytes : Near IsD (sliceR u8R) := by
  rintro w w' a vs ⟨A, n, c, rfl, h⟩ hn
  exact ⟨A, n, c, rfl, Rd.near (R := u8R) IsD (fun hr u hu => by rw [show _ = [_] from hr] at hu; exact .inr ⟨_, List.mem_singleton.1 hu⟩) (fun hr => hr) h hn⟩
theorem near_q : Near IsD qR := near_pair near_strs (near_pair (near_int _) (near_pair (near_int _) (near_unit _)))
theorem near_rec : Near IsD recR := near_pair near_strs (near_pair (near_int _) (near_pair (near_int _) (near_pair (near_int _) (near_pair near_bytes (near_unit _)))))
theorem not_d_slice (A : Option Addr) (n c : Nat) : ¬ IsD (.slice A n c) := by rintro (⟨_, h⟩ | ⟨_, h⟩) <;> cases h
theorem not_d_int (x : Int) : ¬ IsD (.int .i64 x) := by rintro (⟨_, h⟩ | ⟨_, h⟩) <;> cases h
theorem not_d_bool (x : Bool) : ¬ IsD (.bool x) := by rintro (⟨_, h⟩ | ⟨_, h⟩) <;> cases h
theorem not_d_nil (v : Value) (h : v = .slice none 0 0) : ¬ IsD v := by subst h; exact not_d_slice _ _ _
theorem rels_near {α : Type} {K : Value → Prop} {R : Rep α} (hR : Near K R) {w w' : World} {l : List α} {xs : List Value} (h : Rels R w w.heap.size l xs) (hn : NearP K w w') : Rels R w' w'.heap.size l xs := by
  obtain ⟨vss, h1, h2, r⟩ := h
  exact ⟨vss, h1, h2, fun i hi hi' => hR (r i hi hi') hn⟩
theorem near_grown {K : Value → Prop} {w w' : World} {g : Nat} (hg : w.grownBy w' (some g)) (hf : FreeB K w g) : NearP K w w' :=
  ⟨hg.size, fun k hk => by
    by_cases e : k = g
    · subst e; exact .inr hf
    · exact .inl (hg.block k hk (fun h => e (by cases h; rfl)))⟩
theorem near_below {K : Value → Prop} {w w' : World} (hb : Below w.heap.size w w') : NearP K w w' := ⟨hb.size, fun k hk => .inl (hb.block k hk)⟩

/-- such a row -/
structure Row {α : Type} (R : Rep α) (t : TypeId) (w : World) (base : Nat) (v : Value) (l : List α) : Prop where
  ex : ∃ cs, w.ownsRow base t R.k v l.length cs ∧ Rels R w w.heap.size l cs ∧ FreeV IsD w v
section
variable {α : Type} {R : Rep α} {t : TypeId} {w w' : World} {base : Nat} {v : Value} {l : List α}
theorem Row.nil (R : Rep α) (t : TypeId) (w : World) (base : Nat) : Row R t w base (.slice none 0 0) [] := ⟨[], World.ownsRow_nil w base t R.k, Rels.nil, FreeV.nil⟩
theorem Row.near (hR : Near IsD R) (h : Row R t w base v l) {r : Option Nat} (hg : w.grownBy w' r) (hne : v.ownBlock = none ∨ v.ownBlock ≠ r) (hn : NearP IsD w w') : Row R t w' base v l := by
  obtain ⟨cs, h1, h2, h3⟩ := h
  exact ⟨cs, h1.kept hg hne, rels_near hR h2 hn, h3.grown h1 hg hne⟩
theorem Row.apart (h : Row R t w base v l) {g : Nat} (hg : g < base) : v.ownBlock = none ∨ v.ownBlock ≠ some g := by
  obtain ⟨cs, h1, h2, h3⟩ := h
  cases e : v.ownBlock with
  | none => exact .inl rfl
  | some k =>
    right
    have := (h1.lt k e).1
    intro h
    cases h
    omega
theorem Row.grown (hR : Near IsD R) (h : Row R t w base v l) {g : Nat} (hg : w.grownBy w' (some g)) (hf : FreeB IsD w g) (hne : g < base) : Row R t w' base v l := h.near hR hg (h.apart hne) (near_grown hg hf)
theorem Row.below (hR : Near IsD R) (h : Row R t w base v l) (hb : Below w.heap.size w w') : Row R t w' base v l := by
  refine h.near hR (below_grown hb none) ?_ (near_below hb)
  cases e : v.ownBlock with
  | none => exact .inl rfl
  | some k => exact .inr (by simp)
theorem Row.drew (h : Row R t w base v l) : Row R t w.drew base v l := by
  obtain ⟨cs, h1, h2, h3⟩ := h
  exact ⟨cs, h1.drew, h2.keep (w' := w.drew) (Nat.le_refl _) (fun _ _ => rfl), h3⟩
theorem Row.less {base' : Nat} (h : Row R t w base v l) (hb : base' ≤ base) : Row R t w base' v l := by
  obtain ⟨cs, h1, h2, h3⟩ := h
  exact ⟨cs, own_less h1 hb, h2, h3⟩
theorem Row.rd (h : Row R t w base v l) (hb : base ≤ w.heap.size) (hlim : l.length * R.bs ≤ 140737488355328) (hk : 0 < R.k) : ∃ A c, v = .slice A l.length c ∧ Rd R w w.heap.size A l.length c l := by
  obtain ⟨cs, h1, h2, h3⟩ := h
  exact rd_of_own h1 h2 rfl (Nat.le_refl _) hlim hk
theorem Row.slice (h : Row R t w base v l) : ∃ A c, v = .slice A l.length c := by
  obtain ⟨cs, h1, h2, h3⟩ := h
  obtain ⟨A, c, e, _⟩ := own_slice h1
  exact ⟨A, c, e⟩
/-- one element more -/
theorem Row.app (hR : Near IsD R) {v' : Value} {cs ys : List Value} {a : α} (h2 : Rels R w w.heap.size l cs) (hf : FreeV IsD w v) (ho : w'.ownsRow base t R.k v' (l.length + 1) (cs ++ ys)) (ha : AppTo w w' v v') (hf' : FreeV IsD w' v') (hr : R.rel w w.heap.size a ys) : Row R t w' base v' (l ++ [a]) := by
  have hn := ha.near hf
  refine ⟨cs ++ ys, ?_, (rels_near hR h2 hn).append (Rels.one (hR hr hn)), hf'⟩
  rw [List.length_append, List.length_singleton]
  exact ho
theorem grown_refl (w : World) (r : Option Nat) : w.grownBy w r := ⟨rfl, rfl, rfl, Nat.le_refl _, fun _ _ _ => rfl⟩
end
theorem FreeB.grown_msg {w : World} {g : Nat} {T : TypeId} {h : Hd} {Q X Y Z : Value} (hb : Blk w g T (msgC h Q X Y Z)) (hq : ¬ IsD Q) (hx : ¬ IsD X) (hy : ¬ IsD Y) (hz : ¬ IsD Z) : FreeB IsD w g := by
  refine FreeB.of_blk hb ?_
  intro v hv
  simp only [msgC, List.mem_cons, List.not_mem_nil, or_false] at hv
  rcases hv with rfl | rfl | rfl | rfl | rfl | rfl | rfl | rfl | rfl | rfl | rfl | rfl | rfl | rfl | rfl <;> first | exact not_d_int _ | exact not_d_bool _ | assumption
end Go.Proofs.YtfihedcobopbcaaDoor
/- What msg.Read leans on: two bytes, the header of bytes, rows by numbers, a record that cannot be read; plain laws of the three rows of records. -/
namespace Go.Proofs.YtfihedcobopbcaaDoor
open Go.RowKit
set_option linter.unusedVariables false
set_option linter.unusedSimpArgs false

def upd {β : Type} (V : Nat → β) (i : Nat) (u : β) : Nat → β := fun j => if j = i then u else V j
theorem upd_self {β : Type} (V : Nat → β) (i : Nat) (u : β) : upd V i u i = u := by unfold upd; rw [if_pos rfl]
theorem upd_ne {β : Type} (V : Nat → β) {i j : Nat} (u : β) (h : j ≠ i) : upd V i u j = V j := by unfold upd; rw [if_neg h]
theorem msgC_at {h : Hd} {Q : Value} {V : Nat → Value} {i : Nat} (hi : i < 3) : (msgC h Q (V 0) (V 1) (V 2))[12 + i]? = some (V i) := by
  obtain rfl | rfl | rfl : i = 0 ∨ i = 1 ∨ i = 2 := by omega
  all_goals rfl
theorem msgC_set {h : Hd} {Q x u : Value} {V : Nat → Value} {i : Nat} (hi : i < 3) : (msgC h Q (upd V i x 0) (upd V i x 1) (upd V i x 2)).setIfInBounds (12 + i) u = msgC h Q (upd V i u 0) (upd V i u 1) (upd V i u 2) := by
  obtain rfl | rfl | rfl : i = 0 ∨ i = 1 ∨ i = 2 := by omega
  all_goals rfl
theorem msgC_own {h : Hd} {Q : Value} {V : Nat → Value} {i : Nat} (hi : i < 3) : msgC h Q (V 0) (V 1) (V 2) = msgC h Q (upd V i (V i) 0) (upd V i (V i) 1) (upd V i (V i) 2) := by
  obtain rfl | rfl | rfl : i = 0 ∨ i = 1 ∨ i = 2 := by omega
  all_goals rfl
theorem msgC_setQ {h : Hd} {Q x y z u : Value} : (msgC h Q x y z).setIfInBounds 11 u = msgC h u x y z := rfl

/-- the header of a message's first bytes -/
def hdOf (m : List UInt8) : Hd := hdK (bits .or .i64 (((m.getD 0 0).toNat : Int) * 256) ((m.getD 1 0).toNat : Int)) (bits .or .i64 (((m.getD 2 0).toNat : Int) * 256) ((m.getD 3 0).toNat : Int)) 7
abbrev hd0 : Hd := ⟨0, false, 0, false, false, false, false, false, false, false, 0⟩
theorem hread_rd {w : World} {A : Option Addr} {n c : Nat} {m : List UInt8} (hM : Rd u8R w w.heap.size A n c m) (hn : 4 ≤ n) :
    Calls Tryd.prog 25 #[.slice A n c] w fun e w' => e = .returned (.tuple #[.agg (hdCells (hdOf m)), .nilIface]) ∧ Below w.heap.size w w' := by
  obtain ⟨b, o, rfl, lb⟩ := hM.addr (by omega)
  obtain ⟨x0, h0, c0, k0, _⟩ := hM.byte 0 (by omega)
  obtain ⟨x1, h1, c1, k1, _⟩ := hM.byte 1 (by omega)
  obtain ⟨x2, h2, c2, k2, _⟩ := hM.byte 2 (by omega)
  obtain ⟨x3, h3, c3, k3, _⟩ := hM.byte 3 (by omega)
  unfold hdOf
  rw [h0, h1, h2, h3]
  have hm := hM.max
  unfold maxLen at hm
  exact hread_ok b o n c _ _ _ _ hn hM.cap (by omega) w c0 c1 c2 c3 (by omega) k0 (by omega) k1 (by omega) k2 (by omega) k3
theorem two_msg {w : World} {B b o n c : Nat} {m : List UInt8} (hM : Rd u8R w B (some ⟨b, o, none⟩) n c m) (h2 : 2 ≤ n) {k : Nat} (hk : at2 m 0 = k) :
    Calls Tryd.prog 26 #[.slice (some ⟨b, o, none⟩) n c] w fun e w' => e = .returned (.int .i64 (k : Int)) ∧ Below w.heap.size w w' := by
  obtain ⟨x, y, hxy, c0, c1, lb⟩ := hM.two 0 (by omega)
  rw [hk] at hxy
  rw [Nat.add_zero] at c0 c1
  have hc := hM.cap
  have hm := hM.max
  unfold maxLen at hm
  have two := two_or x y
  have hx := x.toNat_lt
  have hy := y.toNat_lt
  have hkk : (x.toNat : Int) * 256 + (y.toNat : Int) = (k : Int) := by omega
  rw [hkk] at two
  have p0 : (0 : Int) ≤ (x.toNat : Int) := by omega
  have p1 : (0 : Int) ≤ (y.toNat : Int) := by omega
  have p2 : (x.toNat : Int) ≤ 255 := by omega
  have p3 : (y.toNat : Int) ≤ 255 := by omega
  clear hM hkk hxy hk hx hy
  generalize (x.toNat : Int) = y0 at *
  generalize (y.toNat : Int) = y1 at *
  have v0 : IntKind.i64.wrap y0 = y0 := IntWalk.i64_in _ (by omega)
  have v01 : IntKind.i64.wrap (y0 * 256) = y0 * 256 := IntWalk.i64_in _ (by omega)
  have v1 : IntKind.i64.wrap y1 = y1 := IntWalk.i64_in _ (by omega)
  have j0 : (0 : Int) < (n : Int) := by omega
  have j1 : (1 : Int) < (n : Int) := by omega
  have j2 : 0 < n := by omega
  have j3 : 1 < n := by omega
  go_enter Tryd.func26, Tryd.ntmps26
  go_wp2_with fail
  go_region_held3 (fun w' => w'.cell? ⟨b, o, none⟩ = some (.int .u8 y0) ∧ w'.cell? ⟨b, o + 1, none⟩ = some (.int .u8 y1)) (go_keep) (fail)
  all_goals go_wp2
  all_goals go_ret
  all_goals exact ⟨rfl, by (repeat' (first | (with_reducible exact Below.refl _ _) | (with_reducible assumption) | (with_reducible refine below_ext0 ?_ _ _) | (with_reducible refine below_alloc0 ?_ _) | (with_reducible refine Below.ext ?_ ?_ _ _) | (with_reducible refine Below.alloc ?_ ?_ _) | (with_reducible refine Below.setCell ?_ ?_ _) | (with_reducible refine Below.drew ?_) | (with_reducible refine below_draws ?_ _) | go_size | (simp [size_ext]; done) | (simp [size_ext]; omega)))⟩
/-- two bytes from a place on -/
theorem two_at_msg {w w' : World} {b o n c p : Nat} {m : List UInt8} (hM : Rd u8R w w.heap.size (some ⟨b, o, none⟩) n c m) (hp : p + 2 ≤ n) (hb : Below w.heap.size w w') {k : Nat} (hk : at2 m p = k) :
    Calls Tryd.prog 26 #[.slice (some ⟨b, o + p, none⟩) (n - p) (c - p)] w' fun e w2 => e = .returned (.int .i64 (k : Int)) ∧ Below w'.heap.size w' w2 :=
  two_msg ((hM.later hb).dropB (k := p) (by omega)) (by omega) ((at2_drop m p 0).trans hk)
theorem rread_no {w : World} {A : Option Addr} {n c : Nat} {m : List UInt8} (hM : Rd u8R w w.heap.size A n c m) {at_ k : Int} (hr : (rrF m at_).1 = k) (hk : k ≠ 0) :
    Calls Tryd.prog 29 #[.slice A n c, .int .i64 at_] w fun e w' => e = .returned (.tuple #[.agg #[.slice none 0 0, .int .i64 0, .int .i64 0, .int .i64 0, .slice none 0 0], .int .i64 0, .iface 29 (.int .i64 k)]) ∧ Below w.heap.size w w' := by
  have CF := hid fun w' (hb : Below w.heap.size w w') => fixed_bad (hM.later hb) hr hk
  clear hr hk hM
  have tk0 : True := trivial; have tk1 : True := trivial; have tk2 : True := trivial; have tk3 : True := trivial; have tk4 : True := trivial; have tk5 : True := trivial; have tk6 : True := trivial; have tk7 : True := trivial; have tk8 : True := trivial; have tk9 : True := trivial; have tk10 : True := trivial; have tk11 : True := trivial; have tk12 : True := trivial
  go_enter Tryd.func29, Tryd.ntmps29
  go_wp2_with (go_at_call 60; have _t := tk1; (with_reducible refine (CF.out _ (by (repeat' (first | (with_reducible exact Below.refl _ _) | (with_reducible assumption) | (with_reducible refine below_ext0 ?_ _ _) | (with_reducible refine below_alloc0 ?_ _) | (with_reducible refine Below.ext ?_ ?_ _ _) | (with_reducible refine Below.alloc ?_ ?_ _) | (with_reducible refine Below.setCell ?_ ?_ _) | (with_reducible refine Below.drew ?_) | (with_reducible refine below_draws ?_ _) | go_size | (simp [size_ext]; done) | (simp [size_ext]; omega))))).mono ?_); rintro e w1 ⟨rfl, hb⟩; obtain ⟨otk1, dtk1, rfl⟩ := ext_of_below hb; clear hb tk1)
  refine bodyPost_ret (v := .tuple #[.agg #[.slice none 0 0, .int .i64 0, .int .i64 0, .int .i64 0, .slice none 0 0], .int .i64 0, .iface 29 (.int .i64 k)]) (by simp [results, Tryd.results29, go_sem]) rfl ⟨rfl, (by (repeat' (first | (with_reducible exact Below.refl _ _) | (with_reducible assumption) | (with_reducible refine below_ext0 ?_ _ _) | (with_reducible refine below_alloc0 ?_ _) | (with_reducible refine Below.ext ?_ ?_ _ _) | (with_reducible refine Below.alloc ?_ ?_ _) | (with_reducible refine Below.setCell ?_ ?_ _) | (with_reducible refine Below.drew ?_) | (with_reducible refine below_draws ?_ _) | go_size | (simp [size_ext]; done) | (simp [size_ext]; omega))))⟩
theorem el_q : El Tryd.prog 25 65 3 40 := el_of (z := .agg #[.slice none 0 0, .int .i64 0, .int .i64 0]) Tryd.underlying25 (by kernel_rfl) rfl (by decide)
theorem el_r : El Tryd.prog 26 67 5 72 := el_of (z := .agg #[.slice none 0 0, .int .i64 0, .int .i64 0, .int .i64 0, .slice none 0 0]) Tryd.underlying26 (by kernel_rfl) rfl (by decide)
theorem zq_d : ∀ z, (Tryd.prog.info? 65).bind (·.zero) = some z → ∀ u ∈ z.cells.toList, ¬ IsD u := by
  have e : (Tryd.prog.info? 65).bind (·.zero) = some (.agg #[.slice none 0 0, .int .i64 0, .int .i64 0]) := by kernel_rfl
  intro z hz
  rw [e] at hz
  cases hz
  intro u hu
  simp [Value.cells] at hu
  rcases hu with rfl | rfl
  · exact not_d_slice _ _ _
  · exact not_d_int _
theorem zr_d : ∀ z, (Tryd.prog.info? 67).bind (·.zero) = some z → ∀ u ∈ z.cells.toList, ¬ IsD u := by
  have e : (Tryd.prog.info? 67).bind (·.zero) = some (.agg #[.slice none 0 0, .int .i64 0, .int .i64 0, .int .i64 0, .slice none 0 0]) := by kernel_rfl
  intro z hz
  rw [e] at hz
  cases hz
  intro u hu
  simp [Value.cells] at hu
  rcases hu with rfl | rfl | rfl
  · exact not_d_slice _ _ _
  · exact not_d_int _
  · exact not_d_slice _ _ _
theorem rel_q {w : World} {A : Option Addr} {n c : Nat} {l : List ByteArray} {T C : Int} (h : Rd strR w w.heap.size A n c l) (hT : I64 T) (hC : I64 C) : qR.rel w w.heap.size (l, T, C, ()) [.slice A n c, .int .i64 T, .int .i64 C] :=
  ⟨[_], _, rfl, ⟨A, n, c, rfl, h⟩, [_], _, rfl, ⟨rfl, hT⟩, [_], _, rfl, ⟨rfl, hC⟩, rfl⟩
theorem rel_r {w : World} {A A' : Option Addr} {n c n' c' : Nat} {l : List ByteArray} {T C L : Int} {d : List UInt8} (h : Rd strR w w.heap.size A n c l) (hT : I64 T) (hC : I64 C) (hL : I64 L) (hd : Rd u8R w w.heap.size A' n' c' d) : recR.rel w w.heap.size (l, T, C, L, d, ()) [.slice A n c, .int .i64 T, .int .i64 C, .int .i64 L, .slice A' n' c'] :=
  ⟨[_], _, rfl, ⟨A, n, c, rfl, h⟩, [_], _, rfl, ⟨rfl, hT⟩, [_], _, rfl, ⟨rfl, hC⟩, [_], _, rfl, ⟨rfl, hL⟩, [_], _, rfl, ⟨A', n', c', rfl, hd⟩, rfl⟩

section
variable {wr W w9 : World} {base : Nat} {e : TypeId} {size n : Nat} {V v9 : Value} {xs : List Value}
/-- one element more, onto a row that was met in an earlier world -/
theorem app_blk {g : Nat} {T : TypeId} {CS : Array Value} (ho : wr.ownsRow base e size V n xs) (hk : Blk wr g T CS) (ha : AppTo W w9 V v9) (hb : Below wr.heap.size wr W) (hg : g < base) : Blk w9 g T CS :=
  (ha.grown.block g (Nat.lt_of_lt_of_le hk.lt hb.size) (fun e => by have := ho.lt g e.symm; omega)).trans ((hb.block g hk.lt).trans hk)
theorem app_low {w : World} (ho : wr.ownsRow base e size V n xs) (ha : AppTo W w9 V v9) (hb : Below wr.heap.size wr W) (hl : Below w.heap.size w wr) (hbase : w.heap.size ≤ base) (hbr : base ≤ wr.heap.size) : Below w.heap.size w w9 :=
  (hl.trans (hb.mono hl.size)).trans ((grown_below (own_low ho hb (Nat.le_refl _)) ha.grown (Nat.le_trans hbr hb.size)).mono hbase)
theorem app_row {α : Type} {R : Rep α} {l : List α} {cs ys : List Value} {a : α} (ha : AppTo W w9 V v9) (hf9 : FreeV IsD w9 v9) (hR : Near IsD R) (ho : wr.ownsRow base e R.k V l.length cs) (hr : Rels R wr wr.heap.size l cs) (hf : FreeV IsD wr V) (hb : Below wr.heap.size wr W) (ho9 : w9.ownsRow base e R.k v9 (l.length + 1) (cs ++ ys)) (hrel : R.rel W W.heap.size a ys) : Row R e w9 base v9 (l ++ [a]) :=
  Row.app hR (hr.later hb) (hf.below ho hb) ho9 ha hf9 hrel
end
theorem blk_grown {w w' : World} {g k : Nat} {T : TypeId} {cs : Array Value} (hk : Blk w k T cs) (hg : w.grownBy w' (some g)) (hne : k ≠ g) : Blk w' k T cs :=
  (hg.block k hk.lt (fun e => hne (by cases e; rfl))).trans hk
theorem low_grown {w w2 wr : World} {g : Nat} (hl : Below w.heap.size w w2) (hg : w2.grownBy wr (some g)) (h1 : w.heap.size ≤ g) (h2 : g ≤ w2.heap.size) : Below w.heap.size w wr := hl.trans ((grown_belowB hg h2).mono h1)
theorem grow_step {w2 wr W w9 : World} {g : Nat} {e : TypeId} {size n : Nat} {V v9 : Value} {xs : List Value} (hg : w2.grownBy wr (some g)) (ho : wr.ownsRow w2.heap.size e size V n xs) (ha : AppTo W w9 V v9) (hb : Below wr.heap.size wr W) : w2.grownBy w9 (some g) :=
  ⟨(ha.grown.os.trans hb.os).trans hg.os, (ha.grown.tape.trans hb.tape).trans hg.tape, (ha.grown.output.trans hb.output).trans hg.output, Nat.le_trans hg.size (Nat.le_trans hb.size ha.grown.size), fun k hk hne =>
    ((ha.grown.block k (Nat.lt_of_lt_of_le hk (Nat.le_trans hg.size hb.size)) (fun e => by have := (ho.lt k e.symm).1; omega)).trans (hb.block k (Nat.lt_of_lt_of_le hk hg.size))).trans (hg.block k hk hne)⟩
theorem upd_slice {w : World} {base : Nat} {T : TypeId} {V : Nat → Value} {L : Nat → List RecT} (h : ∀ j, Row recR T w base (V j) (L j)) (i : Nat) (A : Option Addr) (n c j : Nat) : ¬ IsD (upd V i (.slice A n c) j) := by
  unfold upd
  split
  · exact not_d_slice _ _ _
  · obtain ⟨A', c', e⟩ := (h j).slice
    rw [e]; exact not_d_slice _ _ _
theorem src_blk {w : World} {t : TypeId} {g m size : Nat} {cs : Array Value} (hb : Blk w g t cs) (hm : cs.size = m * size) (hu : ∀ u ∈ cs.toList, u.oneCell' = true) : Src w (some ⟨g, 0, none⟩) m m size cs.toList := by
  refine ⟨by simpa using hm, fun ad ha j u h => ?_, fun h => (by cases h), hu⟩
  cases ha
  have := hb.cell j
  rw [add_none, Nat.zero_add, this]
  simpa using h
/-- a message stored over another -/
theorem msg_over {w : World} {g : Nat} {T : TypeId} {h : Hd} {Q X Y Z : Value} (h2 : Hd) (Q2 X2 Y2 Z2 : Value) (hB : Blk w g T (msgC h Q X Y Z)) : Blk (((((((((((((((w.setCell ⟨g, 0, none⟩ (.int .i64 h2.id)).setCell ⟨g, 1, none⟩ (.bool h2.an)).setCell ⟨g, 2, none⟩ (.int .i64 h2.op)).setCell ⟨g, 3, none⟩ (.bool h2.aa)).setCell ⟨g, 4, none⟩ (.bool h2.tc)).setCell ⟨g, 5, none⟩ (.bool h2.rd)).setCell ⟨g, 6, none⟩ (.bool h2.ra)).setCell ⟨g, 7, none⟩ (.bool h2.z)).setCell ⟨g, 8, none⟩ (.bool h2.ad)).setCell ⟨g, 9, none⟩ (.bool h2.cd)).setCell ⟨g, 10, none⟩ (.int .i64 h2.code)).setCell ⟨g, 11, none⟩ (Q2)).setCell ⟨g, 12, none⟩ (X2)).setCell ⟨g, 13, none⟩ (Y2)).setCell ⟨g, 14, none⟩ (Z2)) g T (msgC h2 Q2 X2 Y2 Z2) := by
  have := (Blk.set (Blk.set (Blk.set (Blk.set (Blk.set (Blk.set (Blk.set (Blk.set (Blk.set (Blk.set (Blk.set (Blk.set (Blk.set (Blk.set (Blk.set hB 0 (.int .i64 h2.id)) 1 (.bool h2.an)) 2 (.int .i64 h2.op)) 3 (.bool h2.aa)) 4 (.bool h2.tc)) 5 (.bool h2.rd)) 6 (.bool h2.ra)) 7 (.bool h2.z)) 8 (.bool h2.ad)) 9 (.bool h2.cd)) 10 (.int .i64 h2.code)) 11 (Q2)) 12 (X2)) 13 (Y2)) 14 (Z2))
  simpa [msgC] using this
/-- what msg.Read's end hands back -/
theorem res_msg {tmps : Array Value} {W : World} {r : Nat} {T : TypeId} {h : Hd} {Q X Y Z ev : Value} (h2 : tmps[2]? = some (.pointer (some ⟨r, 0, none⟩))) (h3 : tmps[3]? = some ev) (hB : Blk W r T (msgC h Q X Y Z)) :
    (results Tryd.f6 tmps).run Tryd.prog W = .ok (.tuple #[.agg (msgC h Q X Y Z), ev]) W := by
  have k0 : W.cell? ⟨r, 0, none⟩ = some (.int .i64 h.id) := hB.cell 0
  have k1 : W.cell? ⟨r, 1, none⟩ = some (.bool h.an) := hB.cell 1
  have k2 : W.cell? ⟨r, 2, none⟩ = some (.int .i64 h.op) := hB.cell 2
  have k3 : W.cell? ⟨r, 3, none⟩ = some (.bool h.aa) := hB.cell 3
  have k4 : W.cell? ⟨r, 4, none⟩ = some (.bool h.tc) := hB.cell 4
  have k5 : W.cell? ⟨r, 5, none⟩ = some (.bool h.rd) := hB.cell 5
  have k6 : W.cell? ⟨r, 6, none⟩ = some (.bool h.ra) := hB.cell 6
  have k7 : W.cell? ⟨r, 7, none⟩ = some (.bool h.z) := hB.cell 7
  have k8 : W.cell? ⟨r, 8, none⟩ = some (.bool h.ad) := hB.cell 8
  have k9 : W.cell? ⟨r, 9, none⟩ = some (.bool h.cd) := hB.cell 9
  have k10 : W.cell? ⟨r, 10, none⟩ = some (.int .i64 h.code) := hB.cell 10
  have k11 : W.cell? ⟨r, 11, none⟩ = some (Q) := hB.cell 11
  have k12 : W.cell? ⟨r, 12, none⟩ = some (X) := hB.cell 12
  have k13 : W.cell? ⟨r, 13, none⟩ = some (Y) := hB.cell 13
  have k14 : W.cell? ⟨r, 14, none⟩ = some (Z) := hB.cell 14
  simp [results, Tryd.results6, go_sem, h2, h3, k0, k1, k2, k3, k4, k5, k6, k7, k8, k9, k10, k11, k12, k13, k14]
/-- append of one element, at a step of a region that draws, onto a row that was met in an earlier world -/
theorem step_row {α : Type} {P : Program} {R : Rep α} (hR : Near IsD R) {t e : TypeId} {bytes : Nat} (E : El P t e R.k bytes) (hz : ∀ z, (P.info? e).bind (·.zero) = some z → ∀ u ∈ z.cells.toList, ¬ IsD u) {wr w : World} {base : Nat} {V : Value} {l : List α} {cs : List Value} (ho : wr.ownsRow base e R.k V l.length cs) (hr : Rels R wr wr.heap.size l cs) (hf : FreeV IsD wr V)
    {ops : Array Oper} {o : Oper} {a : Act} {Q : Exit → Act → World → Prop} {K : Act → World → Prop} {F : Prop} (a' : α) (ys : List Value) (hgd : o.guard = none) (s x : Operand) (hop : o.op = .call { callee := .builtin .append, args := #[s, x], argTypes := #[t, t] }) {A : Option Addr} {c : Nat} (hs : a.eval s = V) (hx : a.eval x = .slice A 1 c)
    (hb : Below wr.heap.size wr w) (hsrc : Src w A 1 c R.k ys) (hrel : R.rel w w.heap.size a' ys) (hy : ∀ u ∈ ys, ¬ IsD u) (hbytes : (l.length + 1) * bytes ≤ 140737488355328) (h63 : l.length + 1 ≤ maxLen) (hbase : base ≤ wr.heap.size)
    (h : ∀ v' w', Row R e w' base v' (l ++ [a']) → AppTo w w' V v' → K (a.put o.dst v') w') : if Region.wanted o (yielded ops a.tmps) = true then Oper.wp P o a w K Q else F :=
  step_appF (K := IsD) hgd s x t hop base e R.k bytes E hz V l.length cs hs (own_low ho hb (Nat.le_refl _)) (hf.below ho hb) A 1 c ys hx hsrc hy hbytes h63 (Nat.le_trans hbase hb.size) fun v' w' h1 h2 h3 => h v' w' (app_row h2 h3 hR ho hr hf hb h1 hrel) h2
/-- the first rows of records are read -/
def SecOk (m : List UInt8) (i : Nat) (L : Nat → List RecT) (P : Nat → Nat) : Prop := ∀ j < i, rdR m (at2 m (6 + 2 * j)) (P j) [] = (0, L j, P (j + 1))
theorem SecOk.next {m : List UInt8} {i : Nat} {L : Nat → List RecT} {P : Nat → Nat} (h : SecOk m i L P) {rs : List RecT} {p : Nat} (hr : rdR m (at2 m (6 + 2 * i)) (P i) [] = (0, rs, p)) : SecOk m (i + 1) (upd L i rs) (upd P (i + 1) p) := by
  intro j hj
  by_cases e : j = i
  · subst e
    rw [upd_ne P p (by omega : j ≠ j + 1), upd_self, upd_self, hr]
  · rw [upd_ne P p (by omega), upd_ne P p (by omega), upd_ne L rs e]
    exact h j (by omega)
theorem rdM_sec {m : List UInt8} {i : Nat} {L : Nat → List RecT} {P : Nat → Nat} {qs : List QT} {e : Int} (h0 : ¬ m.length < 12) (h1 : rdQ m (at2 m 4) 12 [] = (0, qs, P 0)) (h : SecOk m i L P) (hi : i < 3) (hr : (rdR m (at2 m (6 + 2 * i)) (P i) []).1 = e) (he : e ≠ 0) : rdM m = (e, [], [], [], []) := by
  obtain rfl | rfl | rfl : i = 0 ∨ i = 1 ∨ i = 2 := by omega
  · exact rdM_x h0 h1 hr he
  · exact rdM_y h0 h1 (h 0 (by omega)) hr he
  · exact rdM_z h0 h1 (h 0 (by omega)) (h 1 (by omega)) hr he
theorem rdM_fin {m : List UInt8} {L : Nat → List RecT} {P : Nat → Nat} {qs : List QT} (h0 : ¬ m.length < 12) (h1 : rdQ m (at2 m 4) 12 [] = (0, qs, P 0)) (h : SecOk m 3 L P) : rdM m = if P 3 < m.length then (8, [], [], [], []) else (0, qs, L 0, L 1, L 2) :=
  rdM_end h0 h1 (h 0 (by omega)) (h 1 (by omega)) (h 2 (by omega))
end Go.Proofs.YtfihedcobopbcaaDoor
/- Names: slices.Reverse of a row of the call's own; Compare. -/
namespace Go.Proofs.YtfihedcobopbcaaDoor
open Go.RowKit
set_option linter.unusedVariables false
set_option linter.unusedSimpArgs false

/-- k of the first ones and of the last ones changed over -/
def revK (l : List ByteArray) (k : Nat) : List ByteArray := (List.range l.length).map fun i => if i < k ∨ l.length - k ≤ i then l.getD (l.length - 1 - i) .empty else l.getD i .empty
theorem revK_len (l : List ByteArray) (k : Nat) : (revK l k).length = l.length := by simp [revK]
theorem revK_get (l : List ByteArray) (k i : Nat) (h : i < l.length) : (revK l k)[i]? = some (if i < k ∨ l.length - k ≤ i then l.getD (l.length - 1 - i) .empty else l.getD i .empty) := by
  unfold revK
  rw [List.getElem?_map, List.getElem?_range h]; rfl
theorem revK_zero (l : List ByteArray) : revK l 0 = l := by
  apply List.ext_getElem?
  intro i
  by_cases h : i < l.length
  · rw [revK_get l 0 i h, if_neg (by omega), List.getD_eq_getElem?_getD, List.getElem?_eq_getElem h]; rfl
  · rw [List.getElem?_eq_none (by rw [revK_len]; omega), List.getElem?_eq_none (by omega)]
theorem revK_all (l : List ByteArray) (k : Nat) (h : l.length ≤ 2 * k + 1) : revK l k = l.reverse := by
  apply List.ext_getElem?
  intro i
  by_cases hi : i < l.length
  · rw [revK_get l k i hi, List.getElem?_reverse hi]
    by_cases c : i < k ∨ l.length - k ≤ i
    · rw [if_pos c, List.getD_eq_getElem?_getD, List.getElem?_eq_getElem (by omega)]; rfl
    · rw [if_neg c, show l.length - 1 - i = i by omega, List.getD_eq_getElem?_getD, List.getElem?_eq_getElem hi]; rfl
  · rw [List.getElem?_eq_none (by rw [revK_len]; omega), List.getElem?_eq_none (by simp; omega)]
theorem revK_succ (l : List ByteArray) (k : Nat) (h : 2 * k + 1 < l.length) : revK l (k + 1) = ((revK l k).set k (l.getD (l.length - 1 - k) .empty)).set (l.length - 1 - k) (l.getD k .empty) := by
  apply List.ext_getElem?
  intro i
  by_cases hi : i < l.length
  · rw [revK_get l (k + 1) i hi, List.getElem?_set, List.getElem?_set, List.length_set, revK_len, revK_get l k i hi]
    by_cases c1 : l.length - 1 - k = i
    · subst c1
      rw [if_pos (by omega), if_pos rfl, if_pos (by omega), show l.length - 1 - (l.length - 1 - k) = k by omega]
    · rw [if_neg c1]
      by_cases c2 : k = i
      · subst c2
        rw [if_pos (by omega), if_pos rfl, if_pos (by omega)]
      · rw [if_neg c2]
        congr 1
        by_cases c3 : i < k ∨ l.length - k ≤ i
        · rw [if_pos c3, if_pos (by omega)]
        · rw [if_neg c3, if_neg (by omega)]
  · rw [List.getElem?_eq_none (by rw [revK_len]; omega), List.getElem?_eq_none (by simp [revK_len]; omega)]
theorem strsV_set (l : List ByteArray) (k : Nat) (b : ByteArray) : strsV (l.set k b) = (strsV l).set k (.string b) := by simp [strsV, List.map_set]

/-! Compare -/
theorem ne_blocks {v1 v2 : Value} {m : Nat} (h1 : ∀ g, v1.ownBlock = some g → g < m) (h2 : ∀ g, v2.ownBlock = some g → m ≤ g) : (v2.ownBlock = none ∨ v2.ownBlock ≠ v1.ownBlock) ∧ (v1.ownBlock = none ∨ v1.ownBlock ≠ v2.ownBlock) := by
  cases e1 : v1.ownBlock with
  | none => exact ⟨by cases e2 : v2.ownBlock <;> simp, .inl rfl⟩
  | some g1 =>
    cases e2 : v2.ownBlock with
    | none => exact ⟨.inl rfl, .inr (by simp)⟩
    | some g2 =>
      have a := h1 g1 e1
      have b := h2 g2 e2
      exact ⟨.inr (by simp; omega), .inr (by simp; omega)⟩
theorem own_rd_str {w : World} {base n : Nat} {v : Value} {l : List ByteArray} (h : w.ownsRow base 9 1 v n (strsV l)) (hs : ∀ s ∈ l, s.size ≤ 140737488355328) (hb : base ≤ w.heap.size) (hn : n * 16 ≤ 140737488355328) : ∃ A c, v = .slice A n c ∧ Rd strR w w.heap.size A n c l :=
  rd_of_own (R := strR) h (rels_str hs) (by have := h.1; simpa [strsV] using this) hb (by simpa [strR] using hn) (by decide)

end Go.Proofs.YtfihedcobopbcaaDoor
