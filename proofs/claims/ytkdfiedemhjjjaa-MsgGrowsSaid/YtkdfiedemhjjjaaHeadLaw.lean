/- The header's plain law: four bytes, one header. No walk here. -/
import Derived.Test.YtkdfiedemhjjjaaHeadRd
namespace Go.Proofs.Ytkdfiedemhjjjaa
open Go.RowKit
set_option linter.unusedVariables false

theorem ofInt64 (a : Nat) (ha : a < 9223372036854775808) : (BitVec.ofInt 64 (a : Int)).toNat = a := by
  rw [BitVec.ofInt_natCast, BitVec.toNat_ofNat]; exact Nat.mod_eq_of_lt (by omega)
theorem and64 (a b : Nat) (ha : a < 9223372036854775808) (hb : b < 9223372036854775808) : bits .and .i64 (a : Int) (b : Int) = ((a &&& b : Nat) : Int) := by
  have hx : a &&& b < 2 ^ 63 := Nat.and_lt_two_pow _ (by omega)
  show IntKind.i64.wrap ((BitVec.ofInt 64 (a : Int) &&& BitVec.ofInt 64 (b : Int)).toNat : Int) = _
  rw [BitVec.toNat_and, ofInt64 a ha, ofInt64 b hb, IntKind.wrap_i64]
  omega
theorem or64 (a b : Nat) (ha : a < 9223372036854775808) (hb : b < 9223372036854775808) : bits .or .i64 (a : Int) (b : Int) = ((a ||| b : Nat) : Int) := by
  have hx : a ||| b < 2 ^ 63 := Nat.or_lt_two_pow (by omega) (by omega)
  show IntKind.i64.wrap ((BitVec.ofInt 64 (a : Int) ||| BitVec.ofInt 64 (b : Int)).toNat : Int) = _
  rw [BitVec.toNat_or, ofInt64 a ha, ofInt64 b hb, IntKind.wrap_i64]
  omega
/-- two bytes as one number -/
theorem or256 (a b : Nat) (hb : b < 256) : a * 256 ||| b = a * 256 + b := by
  have := Nat.shiftLeft_add_eq_or_of_lt (i := 8) (b := b) hb a
  rw [Nat.shiftLeft_eq] at this
  exact this.symm
theorem and_low (a n : Nat) : a &&& (2 ^ n - 1) = a % 2 ^ n := Nat.and_two_pow_sub_one_eq_mod a n

/-- the word over Nat, in the order of the code -/
def wordN (o c : Nat) (an aa tc rd ra z ad cd : Bool) : Nat :=
  let a := o * 2048 ||| c
  let a := if an then a ||| 32768 else a
  let a := if aa then a ||| 1024 else a
  let a := if tc then a ||| 512 else a
  let a := if rd then a ||| 256 else a
  let a := if ra then a ||| 128 else a
  let a := if z then a ||| 64 else a
  let a := if ad then a ||| 32 else a
  if cd then a ||| 16 else a
def sumN (o c : Nat) (an aa tc rd ra z ad cd : Bool) : Nat :=
  o * 2048 + c + an.toNat * 32768 + aa.toNat * 1024 + tc.toNat * 512 + rd.toNat * 256 + ra.toNat * 128 + z.toNat * 64 + ad.toNat * 32 + cd.toNat * 16
theorem word_sum : ∀ o, o < 16 → ∀ c, c < 16 → ∀ an aa tc rd ra z ad cd, wordN o c an aa tc rd ra z ad cd = sumN o c an aa tc rd ra z ad cd := by decide +kernel

theorem word_eq (h : Hd) (k : HOk h) : word h = (sumN h.op.toNat h.code.toNat h.an h.aa h.tc h.rd h.ra h.z h.ad h.cd : Nat) := by
  obtain ⟨id, an, op, aa, tc, rd, ra, z, ad, cd, code⟩ := h
  obtain ⟨i0, i1, o0, o1, c0, c1⟩ := k
  simp only at *
  obtain ⟨o, rfl⟩ := Int.eq_ofNat_of_zero_le o0
  obtain ⟨c, rfl⟩ := Int.eq_ofNat_of_zero_le c0
  simp only [Int.toNat_natCast]
  rw [← word_sum o (by omega) c (by omega)]
  have step : ∀ (a b : Nat) (q : Bool), a < 65536 → b < 65536 → (if q then bits .or .i64 (a : Int) (b : Int) else (a : Int)) = ((if q then a ||| b else a : Nat) : Int) ∧ (if q then a ||| b else a) < 65536 := by
    intro a b q ha hb
    cases q
    · exact ⟨rfl, ha⟩
    · exact ⟨or64 a b (by omega) (by omega), Nat.or_lt_two_pow (n := 16) ha hb⟩
  have e0 : bits .or .i64 ((o : Int) * 2048) (c : Int) = ((o * 2048 ||| c : Nat) : Int) := by
    have := or64 (o * 2048) c (by omega) (by omega)
    simpa using this
  have l0 : o * 2048 ||| c < 65536 := Nat.or_lt_two_pow (n := 16) (by omega) (by omega)
  simp only [word, wk, flagOf, bitOf, wordN]
  rw [e0]
  have s1 := step _ 32768 an l0 (by omega)
  have s2 := step _ 1024 aa s1.2 (by omega)
  have s3 := step _ 512 tc s2.2 (by omega)
  have s4 := step _ 256 rd s3.2 (by omega)
  have s5 := step _ 128 ra s4.2 (by omega)
  have s6 := step _ 64 z s5.2 (by omega)
  have s7 := step _ 32 ad s6.2 (by omega)
  have s8 := step _ 16 cd s7.2 (by omega)
  rw [← s8.1, ← s7.1, ← s6.1, ← s5.1, ← s4.1, ← s3.1, ← s2.1, ← s1.1]
  rfl

theorem bool_toNat_le (b : Bool) : b.toNat ≤ 1 := by cases b <;> decide
theorem hd_ext {h g : Hd} (a : h.id = g.id) (b : h.an = g.an) (c : h.op = g.op) (d : h.aa = g.aa) (e : h.tc = g.tc) (f : h.rd = g.rd) (i : h.ra = g.ra) (j : h.z = g.z) (k : h.ad = g.ad) (l : h.cd = g.cd) (m : h.code = g.code) : h = g := by
  cases h; cases g; simp_all
theorem bitq_nat (w p : Nat) (hw : w < 65536) : bitq (w : Int) p = (w / 2 ^ p % 2 == 1) := by
  unfold bitq
  have e : ((w : Int) / 2 ^ p) = ((w / 2 ^ p : Nat) : Int) := by simp
  have hd : w / 2 ^ p ≤ w := Nat.div_le_self _ _
  rw [e, show ((1 : Int)) = ((1 : Nat) : Int) from rfl, and64 _ _ (by omega) (by omega), show (1 : Nat) = 2 ^ 1 - 1 from rfl, and_low]
  rw [Bool.eq_iff_iff]
  simp
  omega
theorem and16_two : ∀ a, a < 256 → ∀ b, b < 256 → ((a * 256 + b) &&& 16 != 0) = ((a * 256 + b) / 16 % 2 == 1) := by decide +kernel
theorem and16_all (w : Nat) (hw : w < 65536) : (w &&& 16 != 0) = (w / 16 % 2 == 1) := by
  have := and16_two (w / 256) (by omega) (w % 256) (by omega)
  rwa [show w / 256 * 256 + w % 256 = w by omega] at this
theorem and16_nat (w : Nat) (hw : w < 65536) : (bits .and .i64 (w : Int) 16 != 0) = (w / 16 % 2 == 1) := by
  rw [show ((16 : Int)) = ((16 : Nat) : Int) from rfl, and64 _ _ (by omega) (by omega), ← and16_all w hw, Bool.eq_iff_iff]
  simp
theorem hdK_nat (i w : Nat) (hi : i < 65536) (hw : w < 65536) : hdK (i : Int) (w : Int) 7 =
    ⟨i, w / 32768 % 2 == 1, ((w / 2048 % 16 : Nat) : Int), w / 1024 % 2 == 1, w / 512 % 2 == 1, w / 256 % 2 == 1, w / 128 % 2 == 1, w / 64 % 2 == 1, w / 32 % 2 == 1, w / 16 % 2 == 1, ((w % 16 : Nat) : Int)⟩ := by
  have e : ((w : Int) / 2048) = ((w / 2048 : Nat) : Int) := by simp
  refine hd_ext rfl ?_ ?_ ?_ ?_ ?_ ?_ ?_ ?_ ?_ ?_
  · exact bitq_nat w 15 hw
  · show bits .and .i64 ((w : Int) / 2048) 15 = _
    rw [e, show ((15 : Int)) = ((15 : Nat) : Int) from rfl, and64 _ _ (by omega) (by omega), show (15 : Nat) = 2 ^ 4 - 1 from rfl, and_low]
  · exact bitq_nat w 10 hw
  · exact bitq_nat w 9 hw
  · exact bitq_nat w 8 hw
  · exact bitq_nat w 7 hw
  · exact bitq_nat w 6 hw
  · exact bitq_nat w 5 hw
  · exact and16_nat w hw
  · show bits .and .i64 (w : Int) 15 = _
    rw [show ((15 : Int)) = ((15 : Nat) : Int) from rfl, and64 _ _ (by omega) (by omega), show (15 : Nat) = 2 ^ 4 - 1 from rfl, and_low]

set_option maxRecDepth 100000 in
/-- each header that may be is its bytes -/
theorem back_head (h : Hd) (k : HOk h) : hdK (bits .or .i64 (h.id / 256 * 256) (h.id % 256)) (bits .or .i64 (word h / 256 % 256 * 256) (word h % 256)) 7 = h ∧ 0 ≤ word h ∧ word h ≤ 65535 := by
  have hw := word_eq h k
  obtain ⟨id, an, op, aa, tc, rd, ra, z, ad, cd, code⟩ := h
  obtain ⟨i0, i1, o0, o1, c0, c1⟩ := k
  simp only at i0 i1 o0 o1 c0 c1 hw ⊢
  obtain ⟨o, rfl⟩ := Int.eq_ofNat_of_zero_le o0
  obtain ⟨c, rfl⟩ := Int.eq_ofNat_of_zero_le c0
  obtain ⟨i, rfl⟩ := Int.eq_ofNat_of_zero_le i0
  simp only [Int.toNat_natCast] at hw
  rw [hw]
  generalize hW : sumN o c an aa tc rd ra z ad cd = W
  unfold sumN at hW
  have q1 := bool_toNat_le an
  have q2 := bool_toNat_le aa
  have q3 := bool_toNat_le tc
  have q4 := bool_toNat_le rd
  have q5 := bool_toNat_le ra
  have q6 := bool_toNat_le z
  have q7 := bool_toNat_le ad
  have q8 := bool_toNat_le cd
  have hW1 : W < 65536 := by omega
  have e1 : bits .or .i64 ((i : Int) / 256 * 256) ((i : Int) % 256) = (i : Int) := by
    have := or64 (i / 256 * 256) (i % 256) (by omega) (by omega)
    rw [or256 _ _ (by omega)] at this
    have h2 : i / 256 * 256 + i % 256 = i := by omega
    rw [h2] at this
    simp only [Int.natCast_mul, Int.natCast_ediv, Int.natCast_emod] at this
    exact this
  have e2 : bits .or .i64 ((W : Int) / 256 % 256 * 256) ((W : Int) % 256) = (W : Int) := by
    have := or64 (W / 256 % 256 * 256) (W % 256) (by omega) (by omega)
    rw [or256 _ _ (by omega)] at this
    have h2 : W / 256 % 256 * 256 + W % 256 = W := by omega
    rw [h2] at this
    simp only [Int.natCast_mul, Int.natCast_ediv, Int.natCast_emod] at this
    exact this
  rw [e1, e2, hdK_nat i W (by omega) hW1]
  have tb : ∀ (b : Bool) (n : Nat), n = b.toNat → (n == 1) = b := by intro b n h; subst h; cases b <;> rfl
  refine ⟨hd_ext rfl (tb _ _ (by dsimp only; omega)) (by simp only; omega) (tb _ _ (by dsimp only; omega)) (tb _ _ (by dsimp only; omega)) (tb _ _ (by dsimp only; omega)) (tb _ _ (by dsimp only; omega)) (tb _ _ (by dsimp only; omega)) (tb _ _ (by dsimp only; omega)) (tb _ _ (by dsimp only; omega)) (by simp only; omega), by omega, by omega⟩

set_option maxRecDepth 100000 in
/-- any four bytes are those of their header -/
theorem back_bytes (x0 x1 x2 x3 : Nat) (h0 : x0 < 256) (h1 : x1 < 256) (h2 : x2 < 256) (h3 : x3 < 256) :
    ∃ h, hdK (bits .or .i64 ((x0 : Int) * 256) x1) (bits .or .i64 ((x2 : Int) * 256) x3) 7 = h ∧ HOk h ∧ h.id / 256 = x0 ∧ h.id % 256 = x1 ∧ word h / 256 % 256 = x2 ∧ word h % 256 = x3 := by
  have e1 : bits .or .i64 ((x0 : Int) * 256) (x1 : Int) = ((x0 * 256 + x1 : Nat) : Int) := by
    have := or64 (x0 * 256) x1 (by omega) (by omega)
    rw [or256 _ _ h1] at this
    rw [← this, Int.natCast_mul]; rfl
  have e2 : bits .or .i64 ((x2 : Int) * 256) (x3 : Int) = ((x2 * 256 + x3 : Nat) : Int) := by
    have := or64 (x2 * 256) x3 (by omega) (by omega)
    rw [or256 _ _ h3] at this
    rw [← this, Int.natCast_mul]; rfl
  generalize hi : x0 * 256 + x1 = i at *
  generalize hw : x2 * 256 + x3 = w at *
  refine ⟨_, rfl, ?_⟩
  rw [e1, e2, hdK_nat i w (by omega) (by omega)]
  have k : HOk ⟨i, w / 32768 % 2 == 1, ((w / 2048 % 16 : Nat) : Int), w / 1024 % 2 == 1, w / 512 % 2 == 1, w / 256 % 2 == 1, w / 128 % 2 == 1, w / 64 % 2 == 1, w / 32 % 2 == 1, w / 16 % 2 == 1, ((w % 16 : Nat) : Int)⟩ :=
    ⟨by simp only; omega, by simp only; omega, by simp only; omega, by simp only; omega, by simp only; omega, by simp only; omega⟩
  have hW := word_eq _ k
  have hs : sumN (w / 2048 % 16) (w % 16) (w / 32768 % 2 == 1) (w / 1024 % 2 == 1) (w / 512 % 2 == 1) (w / 256 % 2 == 1) (w / 128 % 2 == 1) (w / 64 % 2 == 1) (w / 32 % 2 == 1) (w / 16 % 2 == 1) = w := by
    have tb : ∀ n, n < 2 → (n == 1).toNat = n := by intro n h; have : n = 0 ∨ n = 1 := by omega
                                                    rcases this with rfl | rfl <;> rfl
    unfold sumN
    rw [tb _ (by omega), tb _ (by omega), tb _ (by omega), tb _ (by omega), tb _ (by omega), tb _ (by omega), tb _ (by omega), tb _ (by omega)]
    omega
  simp only [Int.toNat_natCast, hs] at hW
  rw [hW]
  exact ⟨k, by simp only; omega, by simp only; omega, by omega, by omega⟩
end Go.Proofs.Ytkdfiedemhjjjaa
