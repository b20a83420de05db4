/- Names as they are sent, in plain Lean: what is read at a place, what is sent, what is packed. No function of the program. -/
import Derived.Test.YtemgbfppdopfbaaDoorNameA
namespace Go.Proofs.YtemgbfppdopfbaaDoor
set_option linter.unusedVariables false
set_option linter.unusedSimpArgs false

/-! what is read at a place of a message -/
def segB (m : List UInt8) (o n : Nat) : ByteArray := ⟨((m.drop o).take n).toArray⟩
theorem segB_size (m : List UInt8) (o n : Nat) (h : o + n ≤ m.length) : (segB m o n).size = n := by
  show (((m.drop o).take n).toArray).size = n
  simp; omega
theorem segB_app (m k : List UInt8) (o n : Nat) (h : o + n ≤ m.length) : segB (m ++ k) o n = segB m o n := by
  unfold segB
  rw [List.drop_append_of_le_length (by omega), List.take_append_of_le_length (by simp; omega)]

/-- from a place on: what is wrong, the labels, the place behind -/
def nm (m : List UInt8) (low at_ size : Nat) : Int × List ByteArray × Nat :=
  if h : at_ < m.length then
    if m[at_].toNat = 0 then (0, [], at_ + 1)
    else if 192 ≤ m[at_].toNat then
      if h1 : at_ + 1 < m.length then
        if (m[at_].toNat - 192) * 256 + m[at_ + 1].toNat < low then
          let t := nm m ((m[at_].toNat - 192) * 256 + m[at_ + 1].toNat) ((m[at_].toNat - 192) * 256 + m[at_ + 1].toNat) size
          (t.1, t.2.1, at_ + 2)
        else (4, [], 0)
      else (2, [], 0)
    else if 63 < m[at_].toNat then (3, [], 0)
    else if at_ + 1 + m[at_].toNat ≤ m.length then
      if size + m[at_].toNat + 1 ≤ 255 then
        let t := nm m low (at_ + 1 + m[at_].toNat) (size + m[at_].toNat + 1)
        (t.1, segB m (at_ + 1) m[at_].toNat :: t.2.1, t.2.2)
      else (5, [], 0)
    else (2, [], 0)
  else (2, [], 0)
termination_by (low, m.length - at_)

/-- the same, as a relation: read without a fault -/
inductive Nm (m : List UInt8) : Nat → Nat → List ByteArray → Nat → Prop
  | zero {low at_ : Nat} {b : UInt8} (h : m[at_]? = some b) (h0 : b.toNat = 0) : Nm m low at_ [] (at_ + 1)
  | ptr {low at_ to : Nat} {b c : UInt8} {l : List ByteArray} {nx : Nat} (h : m[at_]? = some b) (h0 : 192 ≤ b.toNat) (h1 : m[at_ + 1]? = some c) (ht : (b.toNat - 192) * 256 + c.toNat = to) (hlt : to < low) (hn : Nm m to to l nx) : Nm m low at_ l (at_ + 2)
  | lab {low at_ : Nat} {b : UInt8} {l : List ByteArray} {nx : Nat} (h : m[at_]? = some b) (h1 : 1 ≤ b.toNat) (h2 : b.toNat ≤ 63) (hs : at_ + 1 + b.toNat ≤ m.length) (hn : Nm m low (at_ + 1 + b.toNat) l nx) : Nm m low at_ (segB m (at_ + 1) b.toNat :: l) nx

def lsum (l : List ByteArray) : Nat := (l.map fun s => s.size + 1).sum
theorem lsum_cons (s : ByteArray) (l : List ByteArray) : lsum (s :: l) = s.size + 1 + lsum l := by simp [lsum]
theorem nsize_lsum (l : List ByteArray) : nsize l = lsum l + 1 := rfl

theorem nm_of (m : List UInt8) {low at_ : Nat} {l : List ByteArray} {nx : Nat} (h : Nm m low at_ l nx) : ∀ size, size + lsum l ≤ 255 → nm m low at_ size = (0, l, nx) := by
  induction h with
  | zero h h0 =>
    intro size _
    obtain ⟨a, rfl⟩ := List.getElem?_eq_some_iff.1 h
    rw [nm, dif_pos a, if_pos h0]
  | @ptr low at_ to b c l nx h h0 h1 ht hlt hn ih =>
    intro size hs
    obtain ⟨a, rfl⟩ := List.getElem?_eq_some_iff.1 h
    obtain ⟨a1, rfl⟩ := List.getElem?_eq_some_iff.1 h1
    rw [nm, dif_pos a, if_neg (by omega), if_pos h0, dif_pos a1, if_pos (by omega)]
    simp only [ht]
    rw [ih size hs]
  | @lab low at_ b l nx h h1 h2 hsz hn ih =>
    intro size hs
    obtain ⟨a, rfl⟩ := List.getElem?_eq_some_iff.1 h
    rw [lsum_cons, segB_size _ _ _ (by omega)] at hs
    rw [nm, dif_pos a, if_neg (by omega), if_neg (by omega), if_neg (by omega), if_pos hsz, if_pos (by omega)]
    simp only []
    rw [ih _ (by omega)]

theorem of_nm (m : List UInt8) (low at_ size : Nat) (hs : size ≤ 255) : (nm m low at_ size).1 = 0 → Nm m low at_ (nm m low at_ size).2.1 (nm m low at_ size).2.2 ∧ size + lsum (nm m low at_ size).2.1 ≤ 255 := by
  induction low, at_, size using nm.induct (m := m) with
  | case1 low at_ size h h0 =>
    rw [nm, dif_pos h, if_pos h0]
    exact fun _ => ⟨.zero (List.getElem?_eq_getElem h) h0, hs⟩
  | case2 low at_ size h h0 h1 h2 h3 ih =>
    rw [nm, dif_pos h, if_neg h0, if_pos h1, dif_pos h2, if_pos h3]
    intro e
    obtain ⟨a, b⟩ := ih hs e
    exact ⟨.ptr (List.getElem?_eq_getElem h) h1 (List.getElem?_eq_getElem h2) rfl h3 a, b⟩
  | case3 low at_ size h h0 h1 h2 h3 =>
    rw [nm, dif_pos h, if_neg h0, if_pos h1, dif_pos h2, if_neg h3]
    intro e; cases e
  | case4 low at_ size h h0 h1 h2 =>
    rw [nm, dif_pos h, if_neg h0, if_pos h1, dif_neg h2]
    intro e; cases e
  | case5 low at_ size h h0 h1 h2 =>
    rw [nm, dif_pos h, if_neg h0, if_neg h1, if_pos h2]
    intro e; cases e
  | case6 low at_ size h h0 h1 h2 h3 h4 ih =>
    rw [nm, dif_pos h, if_neg h0, if_neg h1, if_neg h2, if_pos h3, if_pos h4]
    intro e
    obtain ⟨a, b⟩ := ih (by omega) e
    refine ⟨.lab (List.getElem?_eq_getElem h) (by omega) (by omega) h3 a, ?_⟩
    show size + lsum (_ :: _) ≤ 255
    rw [lsum_cons, segB_size _ _ _ (by omega)]
    omega
  | case7 low at_ size h h0 h1 h2 h3 h4 =>
    rw [nm, dif_pos h, if_neg h0, if_neg h1, if_neg h2, if_pos h3, if_neg h4]
    intro e; cases e
  | case8 low at_ size h h0 h1 h2 h3 =>
    rw [nm, dif_pos h, if_neg h0, if_neg h1, if_neg h2, if_neg h3]
    intro e; cases e
  | case9 low at_ size h =>
    rw [nm, dif_neg h]
    intro e; cases e

theorem Nm.app {m : List UInt8} {low at_ : Nat} {l : List ByteArray} {nx : Nat} (h : Nm m low at_ l nx) (k : List UInt8) : Nm (m ++ k) low at_ l nx := by
  induction h with
  | zero h h0 => exact .zero (by rw [List.getElem?_append_left (List.getElem?_eq_some_iff.1 h).1]; exact h) h0
  | ptr h h0 h1 ht hlt hn ih =>
    exact .ptr (by rw [List.getElem?_append_left (List.getElem?_eq_some_iff.1 h).1]; exact h) h0 (by rw [List.getElem?_append_left (List.getElem?_eq_some_iff.1 h1).1]; exact h1) ht hlt ih
  | @lab low at_ b l nx h h1 h2 hs hn ih =>
    rw [← segB_app m k _ _ hs]
    exact .lab (by rw [List.getElem?_append_left (List.getElem?_eq_some_iff.1 h).1]; exact h) h1 h2 (by simp; omega) ih
theorem Nm.lt {m : List UInt8} {low at_ : Nat} {l : List ByteArray} {nx : Nat} (h : Nm m low at_ l nx) : at_ < nx ∧ nx ≤ m.length ∧ at_ < m.length := by
  induction h with
  | zero h h0 => have := (List.getElem?_eq_some_iff.1 h).1; omega
  | ptr h h0 h1 ht hlt hn ih => have := (List.getElem?_eq_some_iff.1 h1).1; omega
  | lab h h1 h2 hs hn ih => have := (List.getElem?_eq_some_iff.1 h).1; omega
theorem Nm.ok {m : List UInt8} {low at_ : Nat} {l : List ByteArray} {nx : Nat} (h : Nm m low at_ l nx) : l.all labelOk = true := by
  induction h with
  | zero h h0 => rfl
  | ptr h h0 h1 ht hlt hn ih => exact ih
  | lab h h1 h2 hs hn ih =>
    rw [List.all_cons, ih, Bool.and_true]
    unfold labelOk
    rw [segB_size _ _ _ (by omega)]
    simp [h1, h2]
/-- what stands lower may be led to from higher -/
theorem Nm.low {m : List UInt8} {low at_ : Nat} {l : List ByteArray} {nx : Nat} (h : Nm m low at_ l nx) : ∀ low', low ≤ low' → Nm m low' at_ l nx := by
  induction h with
  | zero h h0 => exact fun _ _ => .zero h h0
  | ptr h h0 h1 ht hlt hn ih => exact fun low' hl => .ptr h h0 h1 ht (by omega) hn
  | lab h h1 h2 hs hn ih => exact fun low' hl => .lab h h1 h2 hs (ih low' hl)

/-! one step of it -/
section
variable {m : List UInt8} {low at_ size : Nat} {x : UInt8}
theorem nm_end (h : m.length ≤ at_) : nm m low at_ size = (2, [], 0) := by rw [nm, dif_neg (by omega)]
theorem nm_zero (h : m[at_]? = some x) (h0 : x.toNat = 0) : nm m low at_ size = (0, [], at_ + 1) := by
  obtain ⟨a, rfl⟩ := List.getElem?_eq_some_iff.1 h
  rw [nm, dif_pos a, if_pos h0]
theorem nm_ptr {y : UInt8} {to : Nat} (h : m[at_]? = some x) (h0 : 192 ≤ x.toNat) (h1 : m[at_ + 1]? = some y) (ht : (x.toNat - 192) * 256 + y.toNat = to) :
    nm m low at_ size = if to < low then ((nm m to to size).1, (nm m to to size).2.1, at_ + 2) else (4, [], 0) := by
  obtain ⟨a, rfl⟩ := List.getElem?_eq_some_iff.1 h
  obtain ⟨b, rfl⟩ := List.getElem?_eq_some_iff.1 h1
  rw [nm, dif_pos a, if_neg (by omega), if_pos h0, dif_pos b]
  subst ht
  rfl
theorem nm_ptr_short (h : m[at_]? = some x) (h0 : 192 ≤ x.toNat) (h1 : m.length ≤ at_ + 1) : nm m low at_ size = (2, [], 0) := by
  obtain ⟨a, rfl⟩ := List.getElem?_eq_some_iff.1 h
  rw [nm, dif_pos a, if_neg (by omega), if_pos h0, dif_neg (by omega)]
theorem nm_big (h : m[at_]? = some x) (h0 : 63 < x.toNat) (h1 : x.toNat < 192) : nm m low at_ size = (3, [], 0) := by
  obtain ⟨a, rfl⟩ := List.getElem?_eq_some_iff.1 h
  rw [nm, dif_pos a, if_neg (by omega), if_neg (by omega), if_pos h0]
theorem nm_lab (h : m[at_]? = some x) (h0 : 1 ≤ x.toNat) (h1 : x.toNat ≤ 63) (h2 : at_ + 1 + x.toNat ≤ m.length) (h3 : size + x.toNat + 1 ≤ 255) :
    nm m low at_ size = ((nm m low (at_ + 1 + x.toNat) (size + x.toNat + 1)).1, segB m (at_ + 1) x.toNat :: (nm m low (at_ + 1 + x.toNat) (size + x.toNat + 1)).2.1, (nm m low (at_ + 1 + x.toNat) (size + x.toNat + 1)).2.2) := by
  obtain ⟨a, rfl⟩ := List.getElem?_eq_some_iff.1 h
  rw [nm, dif_pos a, if_neg (by omega), if_neg (by omega), if_neg (by omega), if_pos h2, if_pos h3]
theorem nm_lab_long (h : m[at_]? = some x) (h0 : 1 ≤ x.toNat) (h1 : x.toNat ≤ 63) (h2 : at_ + 1 + x.toNat ≤ m.length) (h3 : 255 < size + x.toNat + 1) : nm m low at_ size = (5, [], 0) := by
  obtain ⟨a, rfl⟩ := List.getElem?_eq_some_iff.1 h
  rw [nm, dif_pos a, if_neg (by omega), if_neg (by omega), if_neg (by omega), if_pos h2, if_neg (by omega)]
theorem nm_lab_short (h : m[at_]? = some x) (h0 : 1 ≤ x.toNat) (h1 : x.toNat ≤ 63) (h2 : m.length < at_ + 1 + x.toNat) : nm m low at_ size = (2, [], 0) := by
  obtain ⟨a, rfl⟩ := List.getElem?_eq_some_iff.1 h
  rw [nm, dif_pos a, if_neg (by omega), if_neg (by omega), if_neg (by omega), if_neg (by omega)]
end

/-- Read: what is wrong, the labels, the place behind -/
def rdN (m : List UInt8) (at_ : Int) : Int × List ByteArray × Int :=
  if at_ < 0 then (6, [], 0)
  else if (nm m at_.toNat at_.toNat 1).1 = 0 then (0, (nm m at_.toNat at_.toNat 1).2.1, ((nm m at_.toNat at_.toNat 1).2.2 : Int))
  else ((nm m at_.toNat at_.toNat 1).1, [], 0)
theorem rdN_ok {m : List UInt8} {at_ : Int} {l : List ByteArray} {nx : Int} : rdN m at_ = (0, l, nx) ↔ ∃ a k : Nat, at_ = a ∧ nx = k ∧ Nm m a a l k ∧ nameErr l = 0 := by
  unfold rdN
  constructor
  · intro h
    by_cases h0 : at_ < 0
    · rw [if_pos h0] at h; cases h
    · rw [if_neg h0] at h
      by_cases h1 : (nm m at_.toNat at_.toNat 1).1 = 0
      · rw [if_pos h1] at h
        obtain ⟨a, b⟩ := of_nm m _ _ _ (by omega) h1
        simp only [Prod.mk.injEq, true_and] at h
        obtain ⟨rfl, rfl⟩ := h
        refine ⟨_, _, by omega, rfl, a, ?_⟩
        unfold nameErr
        rw [if_pos a.ok, nsize_lsum, if_pos (by omega)]
      · rw [if_neg h1] at h
        simp only [Prod.mk.injEq] at h
        exact absurd h.1 h1
  · rintro ⟨a, k, rfl, rfl, h, hn⟩
    unfold nameErr at hn
    rw [if_pos h.ok, nsize_lsum] at hn
    have hs : 1 + lsum l ≤ 255 := by
      by_cases c : lsum l + 1 ≤ 255
      · omega
      · rw [if_neg c] at hn; cases hn
    have := nm_of m h 1 hs
    rw [if_neg (by omega), Int.toNat_natCast, this]
    rfl
theorem rdN_app {m : List UInt8} {at_ : Int} {l : List ByteArray} {nx : Int} (h : rdN m at_ = (0, l, nx)) (k : List UInt8) : rdN (m ++ k) at_ = (0, l, nx) := by
  obtain ⟨a, n, rfl, rfl, h, hn⟩ := rdN_ok.1 h
  exact rdN_ok.2 ⟨a, n, rfl, rfl, h.app k, hn⟩

/-! what is sent -/
def sentL (l : List ByteArray) : List UInt8 := (l.map fun s => UInt8.ofNat s.size :: s.data.toList).flatten
theorem sentL_nil : sentL [] = [] := rfl
theorem sentL_cons (s : ByteArray) (l : List ByteArray) : sentL (s :: l) = UInt8.ofNat s.size :: s.data.toList ++ sentL l := by simp [sentL]
theorem sentL_append (l k : List ByteArray) : sentL (l ++ k) = sentL l ++ sentL k := by simp [sentL]
theorem sentL_len (l : List ByteArray) : (sentL l).length = lsum l := by
  induction l with
  | nil => rfl
  | cons s l ih =>
    rw [sentL_cons, lsum_cons, List.length_append, ih, List.length_cons, Array.length_toList]; rfl
theorem segB_mid (p q : List UInt8) (s : ByteArray) (o n : Nat) (ho : o = p.length) (hn : n = s.size) : segB (p ++ (s.data.toList ++ q)) o n = s := by
  subst ho hn
  unfold segB
  rw [List.drop_left, List.take_left' (by rw [Array.length_toList]; rfl)]
/-- labels behind a message, and then what can be read on -/
theorem Nm.sent {q : List UInt8} : ∀ (l : List ByteArray) (p : List UInt8) (low : Nat) (k : List ByteArray) (nx : Nat), l.all labelOk = true → Nm (p ++ sentL l ++ q) low (p.length + (sentL l).length) k nx → Nm (p ++ sentL l ++ q) low p.length (l ++ k) nx := by
  intro l
  induction l with
  | nil => intro p low k nx _ h; simpa [sentL_nil] using h
  | cons s l ih =>
    intro p low k nx hl h
    rw [List.all_cons, Bool.and_eq_true] at hl
    obtain ⟨hs, hl⟩ := hl
    unfold labelOk at hs
    simp only [Bool.and_eq_true, decide_eq_true_eq] at hs
    have hb : (UInt8.ofNat s.size).toNat = s.size := by rw [UInt8.toNat_ofNat']; omega
    have hlen : s.data.toList.length = s.size := by rw [Array.length_toList]; rfl
    have e : p ++ sentL (s :: l) ++ q = (p ++ UInt8.ofNat s.size :: s.data.toList) ++ sentL l ++ q := by rw [sentL_cons]; simp
    have h' := h
    rw [e] at h'
    have h2 := ih (p ++ UInt8.ofNat s.size :: s.data.toList) low k nx hl (by
      have : p.length + (sentL (s :: l)).length = (p ++ UInt8.ofNat s.size :: s.data.toList).length + (sentL l).length := by rw [sentL_cons]; simp; omega
      rw [← this]; exact h')
    rw [← e] at h2
    have hg : (p ++ sentL (s :: l) ++ q)[p.length]? = some (UInt8.ofNat s.size) := by rw [sentL_cons]; simp
    have h3 := Nm.lab (m := p ++ sentL (s :: l) ++ q) (low := low) (at_ := p.length) hg (by omega) (by omega) (by rw [hb, sentL_cons]; simp; omega) (l := l ++ k) (nx := nx) (by
      have : (p ++ UInt8.ofNat s.size :: s.data.toList).length = p.length + 1 + (UInt8.ofNat s.size).toNat := by rw [hb]; simp; omega
      rw [← this]; exact h2)
    have hseg : segB (p ++ sentL (s :: l) ++ q) (p.length + 1) (UInt8.ofNat s.size).toNat = s := by
      rw [hb]
      have : p ++ sentL (s :: l) ++ q = (p ++ [UInt8.ofNat s.size]) ++ (s.data.toList ++ (sentL l ++ q)) := by rw [sentL_cons]; simp
      rw [this]
      exact segB_mid _ _ _ _ _ (by simp) rfl
    rw [hseg] at h3
    exact h3

/-! Pack -/
def findS (m : List UInt8) (n : List ByteArray) : List Int → Int
  | [] => -1
  | s :: ss => if s ≤ 16383 ∧ (rdN m s).1 = 0 ∧ (rdN m s).2.1 = n then s else findS m n ss
theorem findS_or (m : List UInt8) (n : List ByteArray) (ss : List Int) : findS m n ss = -1 ∨ (0 ≤ findS m n ss ∧ findS m n ss ≤ 16383 ∧ ∃ nx, rdN m (findS m n ss) = (0, n, nx)) := by
  induction ss with
  | nil => exact .inl rfl
  | cons s ss ih =>
    rw [findS]
    by_cases h : s ≤ 16383 ∧ (rdN m s).1 = 0 ∧ (rdN m s).2.1 = n
    · rw [if_pos h]
      have hr : rdN m s = (0, n, (rdN m s).2.2) := by rw [← h.2.1, ← h.2.2]
      obtain ⟨a, _, rfl, _⟩ := rdN_ok.1 hr
      exact .inr ⟨by omega, h.1, _, hr⟩
    · rw [if_neg h]; exact ih
theorem findS_app (m : List UInt8) (n : List ByteArray) (s t : List Int) : findS m n (s ++ t) = if 0 ≤ findS m n s then findS m n s else findS m n t := by
  induction s with
  | nil => simp [findS]
  | cons a s ih =>
    rw [List.cons_append, findS, findS]
    by_cases h : a ≤ 16383 ∧ (rdN m a).1 = 0 ∧ (rdN m a).2.1 = n
    · rw [if_pos h, if_pos h]
      have hr : rdN m a = (0, n, (rdN m a).2.2) := by rw [← h.2.1, ← h.2.2]
      obtain ⟨b, _, rfl, _⟩ := rdN_ok.1 hr
      rw [if_pos (by omega)]
    · rw [if_neg h, if_neg h, ih]
def ptrB (p : Int) : List UInt8 := [UInt8.ofNat (192 + p.toNat / 256), UInt8.ofNat (p.toNat % 256)]
/-- the message, and the starts -/
def packL (m : List UInt8) (starts : List Int) : List ByteArray → List UInt8 → List Int → List UInt8 × List Int
  | [], out, all => (out ++ [0], all)
  | s :: n, out, all =>
    if 0 ≤ findS m (s :: n) starts then (out ++ ptrB (findS m (s :: n) starts), all)
    else packL m starts n (out ++ sentL [s]) (if out.length ≤ 16383 then all ++ [(out.length : Int)] else all)
theorem nameErr_zero {l : List ByteArray} : nameErr l = 0 ↔ l.all labelOk = true ∧ nsize l ≤ 255 := by
  unfold nameErr
  by_cases h : l.all labelOk = true
  · rw [if_pos h]
    by_cases h2 : nsize l ≤ 255
    · rw [if_pos h2]; simp [h, h2]
    · rw [if_neg h2]; simp [h2]
  · rw [if_neg h]; simp [h]
theorem nameErr_drop {l : List ByteArray} (h : nameErr l = 0) (i : Nat) : nameErr (l.drop i) = 0 := by
  rw [nameErr_zero] at h ⊢
  refine ⟨List.all_eq_true.2 fun x hx => List.all_eq_true.1 h.1 x (List.mem_of_mem_drop hx), ?_⟩
  have h2 := h.2
  rw [nsize_lsum] at h2 ⊢
  have : lsum l = lsum (l.take i) + lsum (l.drop i) := by
    rw [← sentL_len, ← sentL_len, ← sentL_len, ← List.length_append, ← sentL_append, List.take_append_drop]
  omega
/-- what is laid behind the message -/
def packT (m : List UInt8) (starts : List Int) : List ByteArray → List UInt8
  | [] => [0]
  | s :: n => if 0 ≤ findS m (s :: n) starts then ptrB (findS m (s :: n) starts) else sentL [s] ++ packT m starts n
/-- the new starts -/
def packN (m : List UInt8) (starts : List Int) : List ByteArray → Nat → List Int
  | [], _ => []
  | s :: n, k => if 0 ≤ findS m (s :: n) starts then [] else if k ≤ 16383 then (k : Int) :: packN m starts n (k + s.size + 1) else []
theorem packN_far (m : List UInt8) (starts : List Int) (n : List ByteArray) (k : Nat) (h : 16383 < k) : packN m starts n k = [] := by
  cases n with
  | nil => rfl
  | cons s n =>
    rw [packN]
    split
    · rfl
    · rw [if_neg (by omega)]
theorem sentL_one (s : ByteArray) : (sentL [s]).length = s.size + 1 := by rw [sentL_len]; simp [lsum]
theorem packL_eq (m : List UInt8) (starts : List Int) (n : List ByteArray) : ∀ out all, packL m starts n out all = (out ++ packT m starts n, all ++ packN m starts n out.length) := by
  induction n with
  | nil => intro out all; simp [packL, packT, packN]
  | cons s n ih =>
    intro out all
    rw [packL, packT, packN]
    by_cases h : 0 ≤ findS m (s :: n) starts
    · rw [if_pos h, if_pos h, if_pos h, List.append_nil]
    · rw [if_neg h, if_neg h, if_neg h, ih, List.append_assoc, List.length_append, sentL_one]
      by_cases h2 : out.length ≤ 16383
      · rw [if_pos h2, if_pos h2]; simp [Nat.add_assoc]
      · rw [if_neg h2, if_neg h2, packN_far _ _ _ _ (by omega)]
theorem packT_len (m : List UInt8) (starts : List Int) (n : List ByteArray) (h : n.all labelOk = true) : (packT m starts n).length ≤ lsum n + 1 ∧ 1 ≤ (packT m starts n).length := by
  induction n with
  | nil => simp [packT, lsum]
  | cons s n ih =>
    rw [List.all_cons, Bool.and_eq_true] at h
    have := ih h.2
    have h1 := h.1
    unfold labelOk at h1
    simp only [Bool.and_eq_true, decide_eq_true_eq] at h1
    rw [packT, lsum_cons]
    split
    · simp only [ptrB, List.length_cons, List.length_nil]; omega
    · rw [List.length_append, sentL_one]; omega
theorem packT_nm (m : List UInt8) (starts : List Int) (n : List ByteArray) : ∀ (q : List UInt8) (low : Nat), n.all labelOk = true → m.length ≤ low → Nm (m ++ q ++ packT m starts n) low (m ++ q).length n ((m ++ q).length + (packT m starts n).length) := by
  induction n with
  | nil =>
    intro q low _ _
    exact .zero (b := 0) (by simp [packT]) rfl
  | cons s n ih =>
    intro q low h hl
    rw [packT]
    by_cases hf : 0 ≤ findS m (s :: n) starts
    · rw [if_pos hf]
      rcases findS_or m (s :: n) starts with h0 | ⟨_, h1, nx, h2⟩
      · omega
      · obtain ⟨a, k, ha, _, hn, _⟩ := rdN_ok.1 h2
        rw [ha] at h1 ⊢
        have hlt := hn.lt
        have e0 : (ptrB (a : Int)) = [UInt8.ofNat (192 + a / 256), UInt8.ofNat (a % 256)] := by simp [ptrB]
        have b0 : (UInt8.ofNat (192 + a / 256)).toNat = 192 + a / 256 := by rw [UInt8.toNat_ofNat']; omega
        have b1 : (UInt8.ofNat (a % 256)).toNat = a % 256 := by rw [UInt8.toNat_ofNat']; omega
        rw [e0]
        refine .ptr (b := UInt8.ofNat (192 + a / 256)) (c := UInt8.ofNat (a % 256)) (to := a) (nx := k) (by simp) (by omega) ?_ (by omega) (by omega) ?_
        · rw [List.getElem?_append_right (by omega)]; simp
        · rw [List.append_assoc]; exact hn.app _
    · rw [if_neg hf]
      rw [List.all_cons, Bool.and_eq_true] at h
      have h2 := ih (q ++ sentL [s]) low h.2 hl
      have e : m ++ q ++ (sentL [s] ++ packT m starts n) = m ++ (q ++ sentL [s]) ++ packT m starts n := by simp
      have e2 : m ++ (q ++ sentL [s]) ++ packT m starts n = (m ++ q) ++ sentL [s] ++ packT m starts n := by simp
      have h3 := Nm.sent (q := packT m starts n) [s] (m ++ q) low n _ (by simp [h.1]) (by
        rw [← e2]
        have : (m ++ q).length + (sentL [s]).length = (m ++ (q ++ sentL [s])).length := by simp; omega
        rw [this]; exact h2)
      rw [e, e2]
      have e3 : (m ++ q).length + (sentL [s] ++ packT m starts n).length = (m ++ (q ++ sentL [s])).length + (packT m starts n).length := by simp; omega
      rw [e3]
      exact h3
/-- each new start is one -/
theorem packN_nm (m : List UInt8) (starts : List Int) (n : List ByteArray) : ∀ (q : List UInt8), n.all labelOk = true → ∀ i (hi : i < (packN m starts n (m ++ q).length).length), i ≤ n.length ∧ ∃ a : Nat, (packN m starts n (m ++ q).length)[i] = (a : Int) ∧ ∃ nx, Nm (m ++ q ++ packT m starts n) a a (n.drop i) nx := by
  induction n with
  | nil => intro q _ i hi; simp [packN] at hi
  | cons s n ih =>
    intro q h i hi
    have h0 := h
    by_cases hf : 0 ≤ findS m (s :: n) starts
    · simp [packN, hf] at hi
    · by_cases hk : (m ++ q).length ≤ 16383
      · have ep : packN m starts (s :: n) (m ++ q).length = ((m ++ q).length : Int) :: packN m starts n (m ++ (q ++ sentL [s])).length := by
          rw [packN, if_neg hf, if_pos hk]
          congr 2
          simp only [List.length_append, sentL_one]; omega
        cases i with
        | zero =>
          refine ⟨Nat.zero_le _, (m ++ q).length, by simp only [ep, List.getElem_cons_zero], (m ++ q).length + (packT m starts (s :: n)).length, ?_⟩
          exact packT_nm m starts (s :: n) q (m ++ q).length h (by simp)
        | succ i =>
          rw [List.all_cons, Bool.and_eq_true] at h
          have hi' : i < (packN m starts n (m ++ (q ++ sentL [s])).length).length := by rw [ep] at hi; simpa using hi
          obtain ⟨h1, a, h2, nx, h3⟩ := ih (q ++ sentL [s]) h.2 i hi'
          refine ⟨by simp; omega, a, by simp only [ep, List.getElem_cons_succ]; exact h2, nx, ?_⟩
          rw [packT, if_neg hf]
          have e : m ++ q ++ (sentL [s] ++ packT m starts n) = m ++ (q ++ sentL [s]) ++ packT m starts n := by simp
          rw [e]; exact h3
      · rw [packN_far _ _ _ _ (by omega)] at hi; simp at hi

/-! what the laws ask -/
theorem write_back (m : List UInt8) (n : List ByteArray) (h : nameErr n = 0) : rdN (m ++ sentL n ++ [0]) (m.length : Int) = (0, n, ((m ++ sentL n ++ [0]).length : Int)) := by
  have h' := nameErr_zero.1 h
  refine rdN_ok.2 ⟨m.length, _, rfl, rfl, ?_, h⟩
  have := Nm.sent (q := [0]) n m m.length [] (m.length + (sentL n).length + 1) h'.1 (.zero (b := 0) (by rw [List.getElem?_append_right (by simp)]; simp) rfl)
  simpa [Nat.add_assoc] using this
theorem pack_back (m : List UInt8) (starts : List Int) (n : List ByteArray) (h : nameErr n = 0) : rdN (m ++ packT m starts n) (m.length : Int) = (0, n, ((m ++ packT m starts n).length : Int)) := by
  have h' := nameErr_zero.1 h
  refine rdN_ok.2 ⟨m.length, _, rfl, rfl, ?_, h⟩
  have := packT_nm m starts n [] m.length h'.1 (Nat.le_refl _)
  simpa using this
theorem pack_starts (m : List UInt8) (starts : List Int) (n : List ByteArray) (h : nameErr n = 0) (i : Nat) (hi : i < (packN m starts n m.length).length) : i ≤ n.length ∧ ∃ nx, rdN (m ++ packT m starts n) (packN m starts n m.length)[i] = (0, n.drop i, nx) := by
  have h' := nameErr_zero.1 h
  have := packN_nm m starts n [] h'.1
  simp only [List.append_nil] at this
  obtain ⟨h1, a, h2, nx, h3⟩ := this i hi
  refine ⟨h1, nx, ?_⟩
  rw [h2]
  exact rdN_ok.2 ⟨a, nx, rfl, rfl, h3, nameErr_drop h i⟩
theorem packN_len (m : List UInt8) (starts : List Int) (n : List ByteArray) : ∀ k, (packN m starts n k).length ≤ n.length := by
  induction n with
  | nil => intro k; simp [packN]
  | cons s n ih =>
    intro k
    rw [packN]
    split
    · simp
    · split
      · simp; exact ih _
      · simp
end Go.Proofs.YtemgbfppdopfbaaDoor
