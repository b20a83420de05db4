/- wire: slices.Equal of texts, slices.Clone of numbers, find. -/
import Derived.Test.YtfihedcobopbcaaDoorK2
import Derived.Test.YtfihedcobopbcaaDoorK1
import Derived.Deep.LoopGhost
import Derived.Deep.QuietTactic
import Derived.BigQuiet
namespace Go.Proofs.YtfihedcobopbcaaDoor
open Go.RowKit
set_option linter.unusedVariables false
set_option linter.unusedSimpArgs false

set_option maxHeartbeats 2000000 in
theorem equal_strs (w : World) (A1 : Option Addr) (n1 c1 : Nat) (l1 : List ByteArray) (B1 : Nat) (h1 : Rd strR w B1 A1 n1 c1 l1) (A2 : Option Addr) (n2 c2 : Nat) (l2 : List ByteArray) (B2 : Nat) (h2 : Rd strR w B2 A2 n2 c2 l2) :
    Calls Tryd.prog 84 #[.slice A1 n1 c1, .slice A2 n2 c2] w fun e w' => e = .returned (.bool (decide (l1 = l2))) ∧ Below w.heap.size w w' := by
  have m1 := h1.max
  have k1 := h1.cap
  have m2 := h2.max
  have k2 := h2.cap
  unfold maxLen at m1 m2
  have H1 := hid h1
  have H2 := hid h2
  clear h1 h2
  by_cases hn : n1 = n2
  · subst hn
    go_enter Tryd.func84, Tryd.ntmps84
    go_wp2
    go_loopg [13] n1 (fun g v wi => ∃ k m : Nat, k ≤ n1 ∧ g = n1 - k ∧ v = .int .i64 k ∧ wi = w.drewN m ∧ l1.take k = l2.take k)
    case atStart => exact ⟨0, 0, Nat.zero_le _, rfl, rfl, rfl, rfl⟩
    case round =>
      obtain ⟨k, m, hk, rfl, rfl, rfl, ht⟩ := hrel
      have HT := hid ht
      clear ht
      by_cases hlt : k < n1
      · obtain ⟨b1, o1, rfl, _, hc1, _⟩ := H1.out.str k hlt
        obtain ⟨b2, o2, rfl, _, hc2, _⟩ := H2.out.str k hlt
        have q1 : k < l1.length := by rw [H1.out.len]; exact hlt
        have q2 : k < l2.length := by rw [H2.out.len]; exact hlt
        have hkz : (k : Int) < (n1 : Int) := by omega
        obtain ⟨x, hx⟩ : ∃ x, l1[k] = x := ⟨_, rfl⟩
        obtain ⟨y, hy⟩ : ∃ y, l2[k] = y := ⟨_, rfl⟩
        rw [hx] at hc1
        rw [hy] at hc2
        have HXY := hid (And.intro hx hy)
        clear hx hy
        by_cases he : x = y
        · subst he
          have hv : (x.toList != x.toList) = false := by simp
          have hv' : (x.toList == x.toList) = true := by simp
          go_wp2_with fail
          go_quiet (fail)
          go_wp2
          go_roundg (n1 - (k + 1))
          case measure => omega
          case rel => exact ⟨k + 1, _, by omega, rfl, by go_num, rfl, by rw [List.take_succ_eq_append_getElem q1, List.take_succ_eq_append_getElem q2, HT.out, HXY.out.1, HXY.out.2]⟩
        · have hv' : (x.toList == y.toList) = false := by rw [str_beq]; simp [he]
          have hv : (x.toList != y.toList) = true := by rw [bne, hv']; rfl
          have hr : decide (l1 = l2) = false := decide_eq_false fun h => he (by rw [← HXY.out.1, ← HXY.out.2]; simp [h])
          clear he
          go_wp2_with fail
          go_quiet (fail)
          go_wp2
          go_ret
          exact ⟨by first | rfl | (rw [hr]; rfl), by first | exact below_drawsN (below_drawsN (Below.refl _ _) _) _ | exact below_drawsN (Below.refl _ _) _⟩
      · have hr : decide (l1 = l2) = true := decide_eq_true (by
          have h := HT.out
          rwa [List.take_of_length_le (by have := H1.out.len; omega), List.take_of_length_le (by have := H2.out.len; omega)] at h)
        go_wp2
        go_ret
        exact ⟨by first | rfl | (rw [hr]; rfl), below_drawsN (Below.refl _ _) _⟩
  · have hv : ((n1 : Int) != (n2 : Int)) = true := by rw [bne_iff_ne]; omega
    have hr : decide (l1 = l2) = false := decide_eq_false fun h => hn (by rw [← H1.out.len, ← H2.out.len, h])
    go_enter Tryd.func84, Tryd.ntmps84
    go_wp2
    go_ret
    exact ⟨by first | rfl | (rw [hr]; rfl), Below.refl _ _⟩

@[reducible] def intsV (l : List Int) : List Value := l.map (Value.int .i64)
theorem flat_int (l : List Int) : (l.map fun s => [Value.int .i64 s]).flatten = intsV l := by
  induction l with
  | nil => rfl
  | cons a l ih => simp only [intsV] at ih; simp [ih]
theorem el_int : El Tryd.prog 88 3 1 8 := el_of (z := .int .i64 0) Tryd.underlying88 (by kernel_rfl) rfl (by decide)
theorem rels_int {w : World} {B : Nat} {l : List Int} (h : ∀ s ∈ l, I64 s) : Rels intR w B l (intsV l) := by
  refine ⟨l.map fun s => [Value.int .i64 s], by simp, ?_, fun i hi hi' => ?_⟩
  · exact (flat_int l).symm
  · simp only [List.getElem_map]
    exact ⟨rfl, h _ (List.getElem_mem _)⟩
theorem Rd.i64s {w : World} {B n c : Nat} {A : Option Addr} {l : List Int} (h : Rd intR w B A n c l) : ∀ s ∈ l, I64 s := by
  intro s hs
  obtain ⟨i, hi, rfl⟩ := List.getElem_of_mem hs
  obtain ⟨_, _, _, _, _, hz⟩ := h.int i (by rw [← h.len]; exact hi)
  exact hz
set_option maxHeartbeats 1000000 in
theorem clone_ints (w : World) (A : Option Addr) (n c : Nat) (l : List Int) (B : Nat) (h : Rd intR w B A n c l) :
    Calls Tryd.prog 78 #[.slice A n c] w fun e w' => ∃ v, e = .returned v ∧ w'.ownsRow w.heap.size 3 1 v n (intsV l) ∧ Below w.heap.size w w' := by
  have hm := h.lim
  simp only [intR] at hm
  have he := fun w a n c => Lib.run_eql_slice_nil (P := Tryd.prog) w 88 3 a n c 0 0 Tryd.underlying88
  obtain ⟨ys, hr, hs⟩ := h.src (R := intR) fun a vs (hv : vs = _ ∧ _) u hu => by
    rw [hv.1] at hu
    simp at hu
    subst hu
    rfl
  have hys : ys = intsV l := by
    obtain ⟨vss, h1, rfl, hv⟩ := hr
    have : vss = l.map fun s => [Value.int .i64 s] := by
      apply List.ext_getElem (by simpa using h1)
      intro i hi hi'
      simp only [List.getElem_map]
      exact (hv i (by omega) hi).1
    rw [this]
    exact flat_int l
  subst hys
  have HS := hid hs
  rcases A with _ | ad
  · have hn : n = 0 ∧ c = 0 := hs.nil rfl
    obtain ⟨rfl, rfl⟩ := hn
    have hl : l = [] := List.eq_nil_of_length_eq_zero h.len
    subst hl
    clear h hr hs
    go_enter Tryd.func78, Tryd.ntmps78
    go_wp2
    go_ret
    exact ⟨_, rfl, World.ownsRow_nil _ _ _ _, Below.refl _ _⟩
  · clear h hr hs
    go_enter Tryd.func78, Tryd.ntmps78
    go_wp2_with (at_builtin; refine wpList_app rfl _ _ 88 rfl w.heap.size 3 1 8 el_int (.slice (some ⟨w.heap.size, 0, none⟩) 0 0) 0 [] rfl (own_lit #[] [] rfl (Nat.le_refl _) rfl (by decide) rfl) _ n c (intsV l) rfl (HS.out.later ((Below.refl _ _).alloc (Nat.le_refl _) _)) (by omega) (by unfold maxLen; omega) (by simp) ?_; intro v' w1 ho hg _)
    go_ret
    refine ⟨_, rfl, by simpa using ho, ?_⟩
    exact ((Below.refl _ w).alloc (Nat.le_refl _) _).grown hg (by simp) (by simp [Value.ownBlock])

/-! find -/
theorem findS_step {m : List UInt8} {n : List ByteArray} {ss : List Int} {k : Nat} (h : k < ss.length) : findS m n (ss.drop k) = if ss[k] ≤ 16383 ∧ (rdN m ss[k]).1 = 0 ∧ (rdN m ss[k]).2.1 = n then ss[k] else findS m n (ss.drop (k + 1)) := by
  rw [List.drop_eq_getElem_cons h, findS]

set_option maxRecDepth 100000 in
set_option maxHeartbeats 4000000 in
theorem find_any (w : World) (A : Option Addr) (n c : Nat) (m : List UInt8) (hM : Rd u8R w w.heap.size A n c m) (A1 : Option Addr) (n1 c1 : Nat) (ss : List Int) (hS : Rd intR w w.heap.size A1 n1 c1 ss) (A2 : Option Addr) (n2 c2 : Nat) (l : List ByteArray) (hL : Rd strR w w.heap.size A2 n2 c2 l) :
    Calls Tryd.prog 79 #[.slice A n c, .slice A1 n1 c1, .slice A2 n2 c2] w fun e w' => e = .returned (.int .i64 (findS m l ss)) ∧ Below w.heap.size w w' := by
  have m1 := hS.max
  have k1 := hS.cap
  unfold maxLen at m1
  have HM := hid hM
  have HS := hid hS
  have HL := hid hL
  clear hM hS hL
  have tk0 : True := trivial; have tk1 : True := trivial; have tk2 : True := trivial; have tk3 : True := trivial; have tk4 : True := trivial; have tk5 : True := trivial; have tk6 : True := trivial; have tk7 : True := trivial; have tk8 : True := trivial; have tk9 : True := trivial; have tk10 : True := trivial; have tk11 : True := trivial; have tk12 : True := trivial
  go_enter Tryd.func79, Tryd.ntmps79
  go_wp2
  go_loopg [14] n1 (fun g v wi => ∃ k : Nat, k ≤ n1 ∧ g = n1 - k ∧ v = .int .i64 k ∧ Below w.heap.size w wi ∧ findS m l ss = findS m l (ss.drop k))
  case atStart => exact ⟨0, Nat.zero_le _, rfl, rfl, Below.refl _ _, rfl⟩
  case round =>
    obtain ⟨k, hk, rfl, rfl, hlow, ht⟩ := hrel
    have HT := hid ht
    have HLOW := hid hlow
    have hzw := hlow.size
    clear ht hlow
    by_cases hlt : k < n1
    · obtain ⟨b1, o1, rfl, _, hc1, z1, z2⟩ := (HS.out.below HLOW.out).int k hlt
      have q1 : k < ss.length := by rw [HS.out.len]; exact hlt
      have st := findS_step (m := m) (n := l) q1
      obtain ⟨s, hs⟩ : ∃ s, ss[k] = s := ⟨_, rfl⟩
      rw [hs] at hc1 z1 z2
      rw [hs] at st
      have HST := hid st
      have hkz : (k : Int) < (n1 : Int) := by omega
      clear st hs
      by_cases hbig : 16383 < s
      · go_wp2
        go_roundg (n1 - (k + 1))
        case measure => omega
        case rel => exact ⟨k + 1, by omega, rfl, by go_num, HLOW.out, by rw [HT.out, HST.out, if_neg (fun h => by have := h.1; omega)]⟩
      · have hbig' : s ≤ 16383 := by omega
        have CR := hid (wread_any wr A n c m (HM.out.keep hzw (fun p hp => HLOW.out.cell hp)) s)
        by_cases hf : (rdN m s).1 = 0
        · have CE := hid fun w1 (hb : Below wr.heap.size wr w1) A' c' (hr : Rd strR w1 w1.heap.size A' (rdN m s).2.1.length c' (rdN m s).2.1) => equal_strs w1 A' _ c' _ _ hr A2 n2 c2 l _ (HL.out.below (HLOW.out.trans (hb.mono hzw)))
          by_cases he : (rdN m s).2.1 = l
          · have hd : decide ((rdN m s).2.1 = l) = true := decide_eq_true he
            have HD := hid hd
            have hfin : findS m l ss = s := by rw [HT.out, HST.out, if_pos ⟨hbig', hf, he⟩]
            have HF := hid hfin
            clear hfin he hd
            go_wp2_with (first
              | (go_at_call 27; refine CR.out.mono ?_; rintro e w1 ⟨hb, hr⟩; rw [if_pos hf] at hr; obtain ⟨A', c', rfl, hr⟩ := hr; have HR1 := hid hr; have HB1 := hid hb; clear hr hb)
              | (go_at_call 84; refine (CE.out _ HB1.out _ _ HR1.out).mono ?_; rw [HD.out]; rintro e w2 ⟨rfl, hb2⟩; have HB2 := hid hb2; clear hb2))
            go_ret
            exact ⟨by rw [HF.out]; rfl, (HLOW.out.trans (HB1.out.mono hzw)).trans (HB2.out.mono (by have := HB1.out.size; omega))⟩
          · have hd : decide ((rdN m s).2.1 = l) = false := decide_eq_false he
            have HD := hid hd
            have hfin : findS m l ss = findS m l (ss.drop (k + 1)) := by rw [HT.out, HST.out, if_neg fun h => he h.2.2]
            have HF := hid hfin
            clear hfin he hd
            go_wp2_with (first
              | (go_at_call 27; refine CR.out.mono ?_; rintro e w1 ⟨hb, hr⟩; rw [if_pos hf] at hr; obtain ⟨A', c', rfl, hr⟩ := hr; have HR1 := hid hr; have HB1 := hid hb; clear hr hb)
              | (go_at_call 84; refine (CE.out _ HB1.out _ _ HR1.out).mono ?_; rw [HD.out]; rintro e w2 ⟨rfl, hb2⟩; have HB2 := hid hb2; clear hb2))
            go_roundg (n1 - (k + 1))
            case measure => omega
            case rel => exact ⟨k + 1, by omega, rfl, by go_num, (HLOW.out.trans (HB1.out.mono hzw)).trans (HB2.out.mono (by have := HB1.out.size; omega)), HF.out⟩
        · have hfin : findS m l ss = findS m l (ss.drop (k + 1)) := by rw [HT.out, HST.out, if_neg fun h => hf h.2.1]
          have HF := hid hfin
          clear hfin
          go_wp2_with (go_at_call 27; refine CR.out.mono ?_; rintro e w1 ⟨hb, hr⟩; rw [if_neg hf] at hr; subst hr; have HB1 := hid hb; clear hb)
          go_roundg (n1 - (k + 1))
          case measure => omega
          case rel => exact ⟨k + 1, by omega, rfl, by go_num, HLOW.out.trans (HB1.out.mono hzw), HF.out⟩
    · have hfin : findS m l ss = -1 := by
        rw [HT.out, List.drop_eq_nil_of_le (by rw [HS.out.len]; omega)]; rfl
      have HF := hid hfin
      clear hfin
      go_wp2
      go_ret
      exact ⟨by rw [HF.out]; rfl, HLOW.out⟩
end Go.Proofs.YtfihedcobopbcaaDoor
/- wire: Pack. -/
namespace Go.Proofs.YtfihedcobopbcaaDoor
open Go.RowKit
set_option linter.unusedVariables false
set_option linter.unusedSimpArgs false

def PkE (w : World) (m : List UInt8) (ss : List Int) (l : List ByteArray) (e : Ending) (w' : World) : Prop :=
  Below w.heap.size w w' ∧ if nameErr l = 0 then ∃ A' c' A2 c2, e = .returned (.tuple #[.slice A' (m ++ packT m ss l).length c', .slice A2 (ss ++ packN m ss l m.length).length c2, .nilIface]) ∧ Rd u8R w' w'.heap.size A' (m ++ packT m ss l).length c' (m ++ packT m ss l) ∧ Rd intR w' w'.heap.size A2 (ss ++ packN m ss l m.length).length c2 (ss ++ packN m ss l m.length)
    else e = .returned (.tuple #[.slice none 0 0, .slice none 0 0, .iface 29 (.int .i64 (nameErr l))])

theorem own_less {w : World} {base base' : Nat} {e : TypeId} {size : Nat} {v : Value} {n : Nat} {xs : List Value} (h : w.ownsRow base e size v n xs) (hb : base' ≤ base) : w.ownsRow base' e size v n xs := by
  refine ⟨h.1, ?_⟩
  rcases h.2 with h | ⟨g, cap, cur, h1, h2, h3⟩
  · exact .inl h
  · exact .inr ⟨g, cap, cur, h1, Nat.le_trans hb h2, h3⟩
/-- two rows of the call's own lie apart -/
def Apart (u v : Value) : Prop := u.ownBlock = none ∨ u.ownBlock ≠ v.ownBlock
theorem Apart.symm {u v : Value} (h : Apart u v) : Apart v u := by
  unfold Apart at *
  cases eu : u.ownBlock with
  | none => cases ev : v.ownBlock <;> simp
  | some a =>
    rw [eu] at h
    rcases h with h | h
    · cases h
    · right; exact Ne.symm h
theorem apart_of {u v : Value} {m : Nat} (h1 : ∀ g, u.ownBlock = some g → g < m) (h2 : ∀ g, v.ownBlock = some g → m ≤ g) : Apart u v := by
  unfold Apart
  cases eu : u.ownBlock with
  | none => exact .inl rfl
  | some a =>
    right
    intro e
    have := h1 a eu
    have := h2 a e.symm
    omega

theorem ptr_cells (p : Int) (h0 : 0 ≤ p) (h1 : p ≤ 16383) : [Value.int .u8 (bits .or .i64 192 (p / 256) % 256), Value.int .u8 (p % 256)] = bytesV (ptrB p) := by
  obtain ⟨q, rfl⟩ : ∃ q : Nat, p = (q : Int) := ⟨p.toNat, by omega⟩
  have h := b64_or 192 (q / 256) (by omega) (by omega)
  have h2 := or_low 3 (q / 256) 6 (by omega)
  have e : bits .or .i64 192 ((q : Int) / 256) = ((192 + q / 256 : Nat) : Int) := by
    have e1 : ((q : Int) / 256) = ((q / 256 : Nat) : Int) := by omega
    rw [e1, show (192 : Int) = ((192 : Nat) : Int) from rfl, h]
    rw [show (192 : Nat) = 3 * 2 ^ 6 from rfl, h2]
  rw [e]
  simp only [bytesV, ptrB, List.map_cons, List.map_nil, Int.toNat_natCast, UInt8.toNat_ofNat']
  congr 2 <;> (try congr 1) <;> omega
theorem src_ptr {w1 : World} {t : TypeId} (p : Int) (h0 : 0 ≤ p) (h1 : p ≤ 16383) : Src (w1.alloc (.cells #[.int .u8 (bits .or .i64 192 (p / 256) % 256), .int .u8 (p % 256)] t)) (some ⟨w1.heap.size, 0, none⟩) 2 2 1 (bytesV (ptrB p)) := by
  rw [← ptr_cells p h0 h1]
  exact src_lit (w := w1) (t := t) #[.int .u8 (bits .or .i64 192 (p / 256) % 256), .int .u8 (p % 256)] rfl (by simp [Value.oneCell']) rfl

/-- where Pack is -/
structure PkS (w : World) (m : List UInt8) (ss : List Int) (l : List ByteArray) (n2 k : Nat) (wi : World) (v10 v11 : Value) (al : List Int) : Prop where
  out : wi.ownsRow w.heap.size 5 1 v10 (m.length + lsum (l.take k)) (bytesV (m ++ sentL (l.take k)))
  all : wi.ownsRow w.heap.size 3 1 v11 al.length (intsV al)
  apart : Apart v10 v11
  bel : Below w.heap.size w wi
  ints : ∀ s ∈ al, I64 s
  len : al.length ≤ ss.length + k
  pack : packL m ss l m ss = packL m ss (l.drop k) (m ++ sentL (l.take k)) al

theorem lsum_take (l : List ByteArray) (k : Nat) : lsum (l.take k) ≤ lsum l := by
  have : lsum l = lsum (l.take k) + lsum (l.drop k) := by
    rw [← sentL_len, ← sentL_len, ← sentL_len, ← List.length_append, ← sentL_append, List.take_append_drop]
  omega
theorem own_rd_int {w : World} {base n : Nat} {v : Value} {l : List Int} (h : w.ownsRow base 3 1 v n (intsV l)) (hi : ∀ s ∈ l, I64 s) (hb : base ≤ w.heap.size) (hn : n * 8 ≤ 140737488355328) : ∃ A c, v = .slice A n c ∧ Rd intR w w.heap.size A n c l :=
  rd_of_own (R := intR) h (rels_int hi) (by have := h.1; simpa [intsV] using this) hb (by simpa [intR] using hn) (by decide)

/-- what Pack hands back: two rows of the call's own -/
structure OwnP (w w' : World) (m : List UInt8) (ss : List Int) (l : List ByteArray) (v v' : Value) : Prop where
  out : w'.ownsRow w.heap.size 5 1 v (m ++ packT m ss l).length (bytesV (m ++ packT m ss l))
  all : w'.ownsRow w.heap.size 3 1 v' (ss ++ packN m ss l m.length).length (intsV (ss ++ packN m ss l m.length))
  apart : Apart v v'
  ints : ∀ s ∈ ss ++ packN m ss l m.length, I64 s
  lenX : (m ++ packT m ss l).length ≤ 140737488355328
  lenY : (ss ++ packN m ss l m.length).length * 8 ≤ 140737488355328
theorem OwnP.rd {w w' : World} {m : List UInt8} {ss : List Int} {l : List ByteArray} {v v' : Value} (h : OwnP w w' m ss l v v') (hb : w.heap.size ≤ w'.heap.size) :
    ∃ A' c' A2 c2, v = .slice A' (m ++ packT m ss l).length c' ∧ v' = .slice A2 (ss ++ packN m ss l m.length).length c2 ∧ Rd u8R w' w'.heap.size A' (m ++ packT m ss l).length c' (m ++ packT m ss l) ∧ Rd intR w' w'.heap.size A2 (ss ++ packN m ss l m.length).length c2 (ss ++ packN m ss l m.length) := by
  obtain ⟨A', c', rfl, hr⟩ := own_rd_u8 h.out hb h.lenX
  obtain ⟨A2, c2, rfl, hr2⟩ := own_rd_int h.all h.ints hb h.lenY
  exact ⟨A', c', A2, c2, rfl, rfl, hr, hr2⟩
theorem ownP_of {w w' : World} {m : List UInt8} {ss : List Int} {l : List ByteArray} {v v' : Value} {X : List UInt8} {Y : List Int} (hp : packL m ss l m ss = (X, Y)) (ho : w'.ownsRow w.heap.size 5 1 v X.length (bytesV X)) (ha : w'.ownsRow w.heap.size 3 1 v' Y.length (intsV Y)) (hap : Apart v v')
    (hi : ∀ s ∈ Y, I64 s) (hX : X.length ≤ 140737488355328) (hY : Y.length * 8 ≤ 140737488355328) : OwnP w w' m ss l v v' := by
  rw [packL_eq] at hp
  simp only [Prod.mk.injEq] at hp
  obtain ⟨rfl, rfl⟩ := hp
  exact ⟨ho, ha, hap, hi, hX, hY⟩
def PkO (w : World) (m : List UInt8) (ss : List Int) (l : List ByteArray) (e : Ending) (w' : World) : Prop :=
  Below w.heap.size w w' ∧ if nameErr l = 0 then ∃ v v', e = .returned (.tuple #[v, v', .nilIface]) ∧ OwnP w w' m ss l v v'
    else e = .returned (.tuple #[.slice none 0 0, .slice none 0 0, .iface 29 (.int .i64 (nameErr l))])
/-- the end: what Pack hands back -/
theorem pkE_ok {w w' : World} {m : List UInt8} {ss : List Int} {l : List ByteArray} {v v' : Value} {X : List UInt8} {Y : List Int} (hf : nameErr l = 0) (hp : packL m ss l m ss = (X, Y)) (ho : w'.ownsRow w.heap.size 5 1 v X.length (bytesV X)) (ha : w'.ownsRow w.heap.size 3 1 v' Y.length (intsV Y)) (hap : Apart v v')
    (hi : ∀ s ∈ Y, I64 s) (hb : Below w.heap.size w w') (hX : X.length ≤ 140737488355328) (hY : Y.length * 8 ≤ 140737488355328) : PkO w m ss l (.returned (.tuple #[v, v', .nilIface])) w' := by
  refine ⟨hb, ?_⟩
  rw [if_pos hf]
  exact ⟨v, v', rfl, ownP_of hp ho ha hap hi hX hY⟩

set_option maxRecDepth 100000 in
set_option maxHeartbeats 8000000 in
theorem pack_own (w : World) (A : Option Addr) (n c : Nat) (m : List UInt8) (hM : Rd u8R w w.heap.size A n c m) (A1 : Option Addr) (n1 c1 : Nat) (ss : List Int) (hS : Rd intR w w.heap.size A1 n1 c1 ss) (A2 : Option Addr) (n2 c2 : Nat) (l : List ByteArray) (hL : Rd strR w w.heap.size A2 n2 c2 l)
    (hlim : n + 256 ≤ 140737488355328) (hlim1 : n1 * 8 + 4096 ≤ 140737488355328) :
    Calls Tryd.prog 68 #[.slice A n c, .slice A1 n1 c1, .slice A2 n2 c2] w (PkO w m ss l) := by
  have CK := name_check w A2 n2 c2 l _ hL
  have c2m := hL.max
  have c2c := hL.cap
  unfold maxLen at c2m
  by_cases hf : nameErr l = 0
  · rw [hf, errV_zero] at CK
    replace CK := hid CK
    have hok := nameErr_zero.1 hf
    have hls : lsum l ≤ 254 := by have := hok.2; rw [nsize_lsum] at this; omega
    have hll := lsum_len l
    have hln : l.length = n2 := hL.len
    have hn2 : n2 ≤ 254 := by omega
    have hmn : m.length = n := hM.len
    have hsn : ss.length = n1 := hS.len
    have CC := hid (clone_bytes w A n c m _ hM)
    have CI := hid fun w' (hb : Below w.heap.size w w') => clone_ints w' A1 n1 c1 ss _ (hS.below hb)
    have CF := hid fun w' (hb : Below w.heap.size w w') A' n' c' l' (hr : Rd strR w' w'.heap.size A' n' c' l') => find_any w' A n c m (hM.later hb) A1 n1 c1 ss (hS.later hb) A' n' c' l' hr
    have HL := hid hL
    have HM := hid hM
    have HS := hid hS
    have HOK := hid hok
    have HF := hid hf
    have HLN := hid hln
    have HMN := hid hmn
    have HSN := hid hsn
    have HI := hid hS.i64s
    clear hM hL hS hok hf hln hmn hsn
    have tk0 : True := trivial; have tk1 : True := trivial; have tk2 : True := trivial; have tk3 : True := trivial; have tk4 : True := trivial; have tk5 : True := trivial; have tk6 : True := trivial; have tk7 : True := trivial; have tk8 : True := trivial; have tk9 : True := trivial; have tk10 : True := trivial; have tk11 : True := trivial; have tk12 : True := trivial
    go_enter Tryd.func68, Tryd.ntmps68
    go_wp2_with (first
      | (go_at_call 77; refine CK.out.mono ?_; rintro e w1 ⟨rfl, hw⟩; subst w1)
      | (go_at_call 62; refine CC.out.mono ?_; rintro e w1 ⟨v1, rfl, ho1, hb1⟩; have HO1 := hid ho1; have HB1 := hid hb1; have hz1 := hb1.size; clear ho1 hb1)
      | (go_at_call 78; refine (CI.out _ HB1.out).mono ?_; rintro e w2 ⟨v2, rfl, ho2, hb2⟩; have HO2 := hid ho2; have HB2 := hid hb2; have hz2 := hb2.size; clear ho2 hb2))
    go_loopg [10, 11, 25] n2 (fun gk u10 u11 u25 wi => ∃ (k : Nat) (al : List Int), k ≤ n2 ∧ gk = n2 - k ∧ u25 = .int .i64 (k : Int) ∧ PkS w m ss l n2 k wi u10 u11 al)
    case atStart =>
      refine ⟨0, ss, Nat.zero_le _, rfl, rfl, ?_, ?_, ?_, HB1.out.trans (HB2.out.mono hz1), HI.out, by omega, ?_⟩
      · have := own_low HO1.out HB2.out (Nat.le_refl _)
        rw [HMN.out]
        simpa [sentL, lsum] using this
      · rw [HSN.out]
        exact own_less HO2.out hz1
      · exact apart_of (m := w1.heap.size) (fun g e => (HO1.out.lt g e).2) (fun g e => (HO2.out.lt g e).1)
      · simp [sentL]
    case round =>
      obtain ⟨k, al, hk, rfl, rfl, hs⟩ := hrel
      have hzw : w.heap.size ≤ wr.heap.size := hs.bel.size
      have hal := hs.len
      have hlk := lsum_take l k
      have PS := hid hs
      clear hs CC CI HO1 HO2 HB1 HB2 CK
      by_cases hlt : k < n2
      · obtain ⟨b, o, rfl, lb⟩ := HL.out.addr (by omega)
        have CFK := hid (CF.out wr PS.out.bel _ _ _ _ ((HL.out.dropS (k := k) (by omega)).keep hzw fun p hp => PS.out.bel.cell hp))
        have hkl : k < l.length := by rw [HLN.out]; exact hlt
        have hdr : l.drop k = l[k] :: l.drop (k + 1) := List.drop_eq_getElem_cons hkl
        have htk : l.take (k + 1) = l.take k ++ [l[k]] := List.take_succ_eq_append_getElem hkl
        have hstep := PS.out.pack
        rw [hdr, packL, ← hdr] at hstep
        have hlx : labelOk l[k] = true := List.all_eq_true.1 HOK.out.1 _ (List.getElem_mem hkl)
        obtain ⟨x, hx⟩ : ∃ x, l[k] = x := ⟨_, rfl⟩
        rw [hx] at htk hlx hstep
        have hls1 : lsum (l.take (k + 1)) = lsum (l.take k) + (x.size + 1) := by rw [htk, lsum_snoc]
        have hle1 := lsum_take l (k + 1)
        have hfo := findS_or m (l.drop k) ss
        obtain ⟨p, hp⟩ : ∃ p, findS m (l.drop k) ss = p := ⟨_, rfl⟩
        rw [hp] at CFK hfo hstep
        have HST := hid hstep
        have HTK := hid htk
        have HLS1 := hid hls1
        have HX := hid hx
        have hc0 : k + 1 ≤ n2 := by omega
        have hcc : ¬ c2 = k := by omega
        have wk : IntKind.i64.wrap ((k : Int) + 1) = (k : Int) + 1 := IntWalk.i64_in _ (by omega)
        clear hstep htk hls1 hdr hp hx
        by_cases hp0 : 0 ≤ p
        · have hp1 : p ≤ 16383 := by rcases hfo with h | h <;> omega
          clear hfo
          have ab1 : (m.length + lsum (l.take k) + 2) * 1 ≤ 140737488355328 := by have := HMN.out; omega
          have ab2 : m.length + lsum (l.take k) + 2 ≤ maxLen := by unfold maxLen; have := HMN.out; omega
          go_wp2_with (first
            | (go_at_call 79; (with_reducible refine CFK.out.mono ?_); rintro e w1 ⟨rfl, hb1⟩; have HB1 := hid hb1; have hz1 := hb1.size; clear hb1)
            | (at_builtin; refine wpList_appT rfl _ _ 22 rfl w.heap.size 5 1 1 el_u8 u10 (m.length + lsum (l.take k)) _ rfl ((own_low PS.out.out HB1.out (Nat.le_refl _)).alloc _) _ 2 2 (bytesV (ptrB p)) rfl (src_ptr p hp0 hp1) ab1 ab2 (by simp; omega) ?_; intro v3 w3 ho3 ha3; have HO3 := hid ho3; have HA3 := hid ha3; clear ho3 ha3))
          go_ret3
          have hst := HST.out
          rw [if_pos hp0] at hst
          obtain ⟨hall, hap⟩ := HA3.out.other ((own_low PS.out.all HB1.out (Nat.le_refl _)).alloc _) PS.out.apart.symm
          have hb3 := HA3.out.below ((own_low PS.out.out HB1.out (Nat.le_refl _)).alloc _) (by simp; omega)
          have hXl : (m ++ sentL (l.take k) ++ ptrB p).length = m.length + lsum (l.take k) + 2 := by rw [List.length_append, List.length_append, sentL_len]; rfl
          refine pkE_ok HF.out hst ?_ hall (Apart.symm hap) PS.out.ints (((PS.out.bel.trans (HB1.out.mono hzw)).alloc (by omega) _).trans hb3) (by omega) (by have := HSN.out; omega)
          rw [hXl]
          simpa [bytesV] using HO3.out
        · have hn0 : p < 0 := by omega
          clear hfo
          obtain ⟨N, hN⟩ : ∃ N, m.length + lsum (l.take k) = N := ⟨_, rfl⟩
          have ho10 := PS.out.out
          rw [hN] at ho10
          obtain ⟨A', cap', rfl, _, _, _⟩ := own_slice ho10
          have HO10 := hid ho10
          have HN := hid hN
          have hNb : N ≤ n + 254 := by have := HMN.out; omega
          have hR1 : Rd strR w w.heap.size (some ⟨b, o + k, none⟩) 1 (c2 - k) [x] := by
            have := (HL.out.dropS (k := k) (by omega)).take (k := 1) (by omega)
            rw [List.drop_eq_getElem_cons hkl, HX.out] at this
            simpa using this
          have HR1 := hid hR1
          have hsx : (sentL [x]).length = x.size + 1 := sentL_one x
          have hxs : lsum [x] = x.size + 1 := by simp [lsum]
          have HSX := hid (And.intro hsx hxs)
          have hXb : N + (x.size + 1) ≤ 140737488355328 := by have := HLS1.out; have := HMN.out; omega
          have hst := HST.out
          rw [if_neg hp0] at hst
          have hlen : (m ++ sentL (l.take k)).length = N := by rw [List.length_append, sentL_len, hN]
          rw [hlen, List.append_assoc, ← sentL_append, ← HTK.out] at hst
          have HST2 := hid hst
          have HLX := hid hlx
          clear ho10 hN hR1 hsx hxs hst hlen hlx
          by_cases hbig : N ≤ 16383
          · have ab1 : (al.length + 1) * 8 ≤ 140737488355328 := by have := HSN.out; omega
            have ab2 : al.length + 1 ≤ maxLen := by unfold maxLen; omega
            go_wp2_with (first
              | (go_at_call 79; (with_reducible refine CFK.out.mono ?_); rintro e w1 ⟨rfl, hb1⟩; have HB1 := hid hb1; have hz1 := hb1.size; clear hb1)
              | (at_builtin; refine wpList_appT rfl _ _ 88 rfl w.heap.size 3 1 8 el_int u11 al.length _ rfl ((own_low PS.out.all HB1.out (Nat.le_refl _)).alloc _) _ 1 1 [.int .i64 (N : Int)] rfl (src_one _ rfl rfl) ab1 ab2 (by simp; omega) ?_; intro v3 w3 ho3 ha3; have hz3 := ha3.grown.size; have HO3 := hid ho3; have HA3 := hid ha3; have HOUT := hid (ha3.other ((own_low HO10.out HB1.out (Nat.le_refl _)).alloc _) PS.out.apart); have HB3 := hid (((PS.out.bel.trans (HB1.out.mono hzw)).alloc (by omega) _).trans (ha3.below ((own_low PS.out.all HB1.out (Nat.le_refl _)).alloc _) (by simp; omega))); have CS := hid (sent_any w3 w.heap.size N _ _ HOUT.out.1 (by simp at hz3; omega) _ _ _ [x] (HR1.out.below HB3.out) (by simp [HLX.out]) (by rw [HSX.out.2]; exact hXb)); clear ho3 ha3)
              | (go_at_call 80; (with_reducible refine CS.out.mono ?_); rintro e w4 ⟨v4, rfl, ho4, ha4⟩; have HO4 := hid ho4; have HA4 := hid ha4; clear ho4 ha4))
            go_roundg (n2 - (k + 1))
            case measure => omega
            case rel =>
              obtain ⟨hall, hap⟩ := HA4.out.other HO3.out (Apart.symm HOUT.out.2)
              have hst := HST2.out
              rw [if_pos hbig] at hst
              refine ⟨k + 1, al ++ [(N : Int)], by omega, rfl, by go_num, ?_, by simpa [intsV] using hall, Apart.symm hap, HB3.out.trans (HA4.out.below HOUT.out.1 (by simp at hz3; omega)), ?_, by simp; omega, hst⟩
              · have := HO4.out
                rw [HSX.out.2] at this
                rw [HLS1.out, ← Nat.add_assoc, HN.out, HTK.out, sentL_append, ← List.append_assoc]
                exact this
              · intro s hs
                rcases List.mem_append.1 hs with h | h
                · exact PS.out.ints s h
                · obtain rfl := List.mem_singleton.1 h
                  unfold I64; omega
          · have hbig' : 16383 < N := by omega
            go_wp2_with (first
              | (go_at_call 79; (with_reducible refine CFK.out.mono ?_); rintro e w1 ⟨rfl, hb1⟩; have HB1 := hid hb1; have hz1 := hb1.size; have HOUT := hid (own_low HO10.out hb1 (Nat.le_refl _)); have HB3 := hid (PS.out.bel.trans (hb1.mono hzw)); have CS := hid (sent_any w1 w.heap.size N _ _ HOUT.out (by omega) _ _ _ [x] (HR1.out.below HB3.out) (by simp [HLX.out]) (by rw [HSX.out.2]; exact hXb)); clear hb1)
              | (go_at_call 80; (with_reducible refine CS.out.mono ?_); rintro e w4 ⟨v4, rfl, ho4, ha4⟩; have HO4 := hid ho4; have HA4 := hid ha4; clear ho4 ha4))
            go_roundg (n2 - (k + 1))
            case measure => omega
            case rel =>
              obtain ⟨hall, hap⟩ := HA4.out.other (own_low PS.out.all HB1.out (Nat.le_refl _)) PS.out.apart.symm
              have hst := HST2.out
              rw [if_neg hbig] at hst
              refine ⟨k + 1, al, by omega, rfl, by go_num, ?_, hall, Apart.symm hap, HB3.out.trans (HA4.out.below HOUT.out (by omega)), PS.out.ints, by omega, hst⟩
              have := HO4.out
              rw [HSX.out.2] at this
              rw [HLS1.out, ← Nat.add_assoc, HN.out, HTK.out, sentL_append, ← List.append_assoc]
              exact this
      · obtain rfl : k = n2 := by omega
        have hdr : l.drop k = [] := List.drop_eq_nil_of_le (by rw [HLN.out]; exact Nat.le_refl _)
        have hst := PS.out.pack
        rw [hdr, packL] at hst
        have HST := hid hst
        have ab1 : (m.length + lsum (l.take k) + 1) * 1 ≤ 140737488355328 := by have := HMN.out; omega
        have ab2 : m.length + lsum (l.take k) + 1 ≤ maxLen := by unfold maxLen; have := HMN.out; omega
        clear hst hdr
        go_wp2_with (at_builtin; refine wpList_appT rfl _ _ 22 rfl w.heap.size 5 1 1 el_u8 u10 (m.length + lsum (l.take k)) _ rfl (PS.out.out.alloc _) _ 1 1 [.int .u8 0] rfl (src_one _ rfl rfl) ab1 ab2 (by simp; omega) ?_; intro v3 w3 ho3 ha3; have HO3 := hid ho3; have HA3 := hid ha3; clear ho3 ha3)
        go_ret3
        obtain ⟨hall, hap⟩ := HA3.out.other (PS.out.all.alloc _) PS.out.apart.symm
        have hb3 := HA3.out.below (PS.out.out.alloc _) (by simp; omega)
        have hXl : (m ++ sentL (l.take k) ++ [0]).length = m.length + lsum (l.take k) + 1 := by rw [List.length_append, List.length_append, sentL_len]; rfl
        refine pkE_ok HF.out HST.out ?_ hall (Apart.symm hap) PS.out.ints ((PS.out.bel.alloc (by omega) _).trans hb3) (by omega) (by have := HSN.out; omega)
        rw [hXl]
        simpa [bytesV] using HO3.out
  · rw [errV_ne hf] at CK
    replace CK := hid CK
    have HF := hid hf
    clear hM hL hS hf
    go_enter Tryd.func68, Tryd.ntmps68
    go_wp2_with (go_at_call 77; refine CK.out.mono ?_; rintro e w1 ⟨rfl, hw⟩; subst w1)
    go_ret3
    refine ⟨Below.refl _ _, ?_⟩
    rw [if_neg HF.out]
    rfl
theorem pack_any (w : World) (A : Option Addr) (n c : Nat) (m : List UInt8) (hM : Rd u8R w w.heap.size A n c m) (A1 : Option Addr) (n1 c1 : Nat) (ss : List Int) (hS : Rd intR w w.heap.size A1 n1 c1 ss) (A2 : Option Addr) (n2 c2 : Nat) (l : List ByteArray) (hL : Rd strR w w.heap.size A2 n2 c2 l)
    (hlim : n + 256 ≤ 140737488355328) (hlim1 : n1 * 8 + 4096 ≤ 140737488355328) :
    Calls Tryd.prog 68 #[.slice A n c, .slice A1 n1 c1, .slice A2 n2 c2] w (PkE w m ss l) := by
  refine (pack_own w A n c m hM A1 n1 c1 ss hS A2 n2 c2 l hL hlim hlim1).mono ?_
  rintro e w' ⟨hb, he⟩
  refine ⟨hb, ?_⟩
  by_cases hf : nameErr l = 0
  · rw [if_pos hf] at he ⊢
    obtain ⟨v, v', rfl, ho⟩ := he
    obtain ⟨A', c', A2, c2, rfl, rfl, hr, hr2⟩ := ho.rd hb.size
    exact ⟨A', c', A2, c2, rfl, hr, hr2⟩
  · rw [if_neg hf] at he ⊢
    exact he
end Go.Proofs.YtfihedcobopbcaaDoor
/- What the statements ask alike: are two lists the same? -/
namespace Go.Proofs.YtfihedcobopbcaaDoor
open Go.RowKit
set_option linter.unusedVariables false
set_option linter.unusedSimpArgs false

theorem below_draws {B : Nat} {a w : World} (h : Below B a w) (n : Nat) : Below B a (w.drewN n) := ⟨h.os, h.tape, h.output, h.size, h.block⟩

theorem take_succ_eq {α : Type} {l m : List α} {k : Nat} (h : l.take k = m.take k) (hl : k < l.length) (hm : k < m.length) (he : l[k] = m[k]) : l.take (k + 1) = m.take (k + 1) := by
  rw [List.take_succ_eq_append_getElem hl, List.take_succ_eq_append_getElem hm, h, he]

end Go.Proofs.YtfihedcobopbcaaDoor
/- Are two lists of bytes the same? -/
namespace Go.Proofs.YtfihedcobopbcaaDoor
open Go.RowKit
set_option linter.unusedVariables false
set_option linter.unusedSimpArgs false

set_option maxHeartbeats 2000000 in
theorem bytes_any (w : World) (A1 : Option Addr) (n1 c1 : Nat) (l1 : List UInt8) (B1 : Nat) (h1 : Rd u8R w B1 A1 n1 c1 l1) (A2 : Option Addr) (n2 c2 : Nat) (l2 : List UInt8) (B2 : Nat) (h2 : Rd u8R w B2 A2 n2 c2 l2) :
    Calls Tryd.prog 11 #[.slice A1 n1 c1, .slice A2 n2 c2] w fun e w' => e = .returned (.bool (decide (l1 = l2))) ∧ Below w.heap.size w w' := by
  have m1 := h1.max
  have k1 := h1.cap
  have m2 := h2.max
  have k2 := h2.cap
  unfold maxLen at m1 m2
  have H1 := hid h1
  have H2 := hid h2
  clear h1 h2
  by_cases hn : n1 = n2
  · subst hn
    go_enter Tryd.func11, Tryd.ntmps11
    go_wp2
    go_loopg [5] n1 (fun g v wi => ∃ k m : Nat, k ≤ n1 ∧ g = n1 - k ∧ v = .int .i64 k ∧ wi = w.drewN m ∧ l1.take k = l2.take k)
    case atStart => exact ⟨0, 0, Nat.zero_le _, rfl, rfl, rfl, rfl⟩
    case round =>
      obtain ⟨k, m, hk, rfl, rfl, rfl, ht⟩ := hrel
      have HT := hid ht
      clear ht
      by_cases hlt : k < n1
      · obtain ⟨b1, o1, rfl, _, hc1⟩ := H1.out.u8 k hlt
        obtain ⟨b2, o2, rfl, _, hc2⟩ := H2.out.u8 k hlt
        have q1 : k < l1.length := by rw [H1.out.len]; exact hlt
        have q2 : k < l2.length := by rw [H2.out.len]; exact hlt
        have hkz : (k : Int) < (n1 : Int) := by omega
        by_cases he : l1[k] = l2[k]
        · have hv : (((l1[k]).toNat : Int) != ((l2[k]).toNat : Int)) = false := by rw [he]; simp
          have HE := hid he
          clear he
          go_wp2_with fail
          go_quiet (fail)
          go_wp2
          go_roundg (n1 - (k + 1))
          case measure => omega
          case rel => exact ⟨k + 1, _, by omega, rfl, by go_num, rfl, take_succ_eq HT.out q1 q2 HE.out⟩
        · have hv : (((l1[k]).toNat : Int) != ((l2[k]).toNat : Int)) = true := by
            rw [bne_iff_ne]
            intro h
            exact he (UInt8.toNat_inj.1 (by omega))
          have hr : decide (l1 = l2) = false := decide_eq_false fun h => he (by simp [h])
          clear he
          go_wp2_with fail
          go_quiet (fail)
          go_wp2
          go_ret
          exact ⟨by first | rfl | (rw [hr]; rfl), by (repeat' (first | (with_reducible exact Below.refl _ _) | (with_reducible assumption) | (with_reducible refine below_ext0 ?_ _ _) | (with_reducible refine below_alloc0 ?_ _) | (with_reducible refine Below.ext ?_ ?_ _ _) | (with_reducible refine Below.alloc ?_ ?_ _) | (with_reducible refine Below.setCell ?_ ?_ _) | (with_reducible refine Below.drew ?_) | (with_reducible refine below_draws ?_ _) | go_size | (simp [size_ext]; done) | (simp [size_ext]; omega)))⟩
      · have hr : decide (l1 = l2) = true := decide_eq_true (by
          have h := HT.out
          rwa [List.take_of_length_le (by have := H1.out.len; omega), List.take_of_length_le (by have := H2.out.len; omega)] at h)
        go_wp2
        go_ret
        exact ⟨by first | rfl | (rw [hr]; rfl), by (repeat' (first | (with_reducible exact Below.refl _ _) | (with_reducible assumption) | (with_reducible refine below_ext0 ?_ _ _) | (with_reducible refine below_alloc0 ?_ _) | (with_reducible refine Below.ext ?_ ?_ _ _) | (with_reducible refine Below.alloc ?_ ?_ _) | (with_reducible refine Below.setCell ?_ ?_ _) | (with_reducible refine Below.drew ?_) | (with_reducible refine below_draws ?_ _) | go_size | (simp [size_ext]; done) | (simp [size_ext]; omega)))⟩
  · have hv : ((n1 : Int) != (n2 : Int)) = true := by rw [bne_iff_ne]; omega
    have hr : decide (l1 = l2) = false := decide_eq_false fun h => hn (by rw [← H1.out.len, ← H2.out.len, h])
    go_enter Tryd.func11, Tryd.ntmps11
    go_wp2
    go_ret
    exact ⟨by first | rfl | (rw [hr]; rfl), Below.refl _ _⟩
end Go.Proofs.YtfihedcobopbcaaDoor
/- wire: contracts of Write, Read, Pack as the laws meet them, one for each way. -/
namespace Go.Proofs.YtfihedcobopbcaaDoor
open Go.RowKit
set_option linter.unusedVariables false
set_option linter.unusedSimpArgs false

section
variable {w : World} {A : Option Addr} {n c : Nat} {m : List UInt8} {A1 : Option Addr} {n1 c1 : Nat} {ss : List Int} {A2 : Option Addr} {n2 c2 : Nat} {l : List ByteArray}
theorem read_ok (hM : Rd u8R w w.heap.size A n c m) {at_ nx : Int} (hr : rdN m at_ = (0, l, nx)) {k : Nat} (hk : l.length = k) :
    Calls Tryd.prog 27 #[.slice A n c, .int .i64 at_] w fun e w' => ∃ A' c', e = .returned (.tuple #[.slice A' k c', .int .i64 nx, .nilIface]) ∧ Rd strR w' w'.heap.size A' k c' l ∧ Below w.heap.size w w' := by
  refine (wread_any w A n c m hM at_).mono ?_
  rintro e w' ⟨hb, he⟩
  rw [hr, if_pos rfl] at he
  obtain ⟨A', c', he, hr'⟩ := he
  simp only [hk] at he hr'
  exact ⟨A', c', he, hr', hb⟩
theorem read_bad (hM : Rd u8R w w.heap.size A n c m) {at_ : Int} {k : Int} (hr : (rdN m at_).1 = k) (hk : k ≠ 0) :
    Calls Tryd.prog 27 #[.slice A n c, .int .i64 at_] w fun e w' => e = .returned (.tuple #[.slice none 0 0, .int .i64 0, .iface 29 (.int .i64 k)]) ∧ Below w.heap.size w w' := by
  refine (wread_any w A n c m hM at_).mono ?_
  rintro e w' ⟨hb, he⟩
  rw [if_neg (by rw [hr]; exact hk), hr] at he
  exact ⟨he, hb⟩
theorem pack_ok (hM : Rd u8R w w.heap.size A n c m) (hS : Rd intR w w.heap.size A1 n1 c1 ss) (hL : Rd strR w w.heap.size A2 n2 c2 l) (hlim : n + 256 ≤ 140737488355328) (hlim1 : n1 * 8 + 4096 ≤ 140737488355328) (hf : nameErr l = 0) {X : List UInt8} {Y : List Int} (hX : m ++ packT m ss l = X) (hY : ss ++ packN m ss l m.length = Y) {k k2 : Nat} (hk : X.length = k) (hk2 : Y.length = k2) :
    Calls Tryd.prog 68 #[.slice A n c, .slice A1 n1 c1, .slice A2 n2 c2] w fun e w' => ∃ A' c' A2 c2, e = .returned (.tuple #[.slice A' k c', .slice A2 k2 c2, .nilIface]) ∧ (Rd u8R w' w'.heap.size A' k c' X ∧ Rd intR w' w'.heap.size A2 k2 c2 Y) ∧ Below w.heap.size w w' := by
  refine (pack_any w A n c m hM A1 n1 c1 ss hS A2 n2 c2 l hL hlim hlim1).mono ?_
  rintro e w' ⟨hb, he⟩
  rw [if_pos hf, hX, hY, hk, hk2] at he
  obtain ⟨A', c', A2, c2, he, hr, hr2⟩ := he
  exact ⟨A', c', A2, c2, he, ⟨hr, hr2⟩, hb⟩
theorem pack_bad (hM : Rd u8R w w.heap.size A n c m) (hS : Rd intR w w.heap.size A1 n1 c1 ss) (hL : Rd strR w w.heap.size A2 n2 c2 l) (hlim : n + 256 ≤ 140737488355328) (hlim1 : n1 * 8 + 4096 ≤ 140737488355328) {k : Int} (hf : nameErr l = k) (hk : k ≠ 0) :
    Calls Tryd.prog 68 #[.slice A n c, .slice A1 n1 c1, .slice A2 n2 c2] w fun e w' => e = .returned (.tuple #[.slice none 0 0, .slice none 0 0, .iface 29 (.int .i64 k)]) ∧ Below w.heap.size w w' := by
  refine (pack_any w A n c m hM A1 n1 c1 ss hS A2 n2 c2 l hL hlim hlim1).mono ?_
  rintro e w' ⟨hb, he⟩
  rw [if_neg (by rw [hf]; exact hk), hf] at he
  exact ⟨he, hb⟩
end

/-! the fact that each law opens with: 'a' sent -/
theorem rd_one {w : World} {g : Nat} (t : TypeId) (s : ByteArray) (hs : s.size ≤ 140737488355328) (hg : g = w.heap.size) : Rd strR (w.alloc (.cells #[.string s] t)) (w.alloc (.cells #[.string s] t)).heap.size (some ⟨g, 0, none⟩) 1 1 [s] := by
  subst hg
  have h : Blk (w.alloc (.cells #[.string s] t)) w.heap.size t #[.string s] := Blk.new w t _
  refine ⟨rfl, Nat.le_refl _, by simp [maxLen], by simp [strR], fun e => (by cases e), fun i hi => ?_⟩
  obtain rfl : i = 0 := by simpa using hi
  refine ⟨w.heap.size, 0, _, rfl, h.lt, ⟨rfl, hs⟩, fun j u hu => ?_⟩
  have hj : j = 0 := by
    cases j with
    | zero => rfl
    | succ j => simp at hu
  subst hj
  simp at hu
  subst hu
  simp [h.cell]
theorem bytes_yes {w : World} {A1 : Option Addr} {n1 c1 B1 : Nat} {l : List UInt8} {A2 : Option Addr} {n2 c2 B2 : Nat} (h1 : Rd u8R w B1 A1 n1 c1 l) (h2 : Rd u8R w B2 A2 n2 c2 l) :
    Calls Tryd.prog 11 #[.slice A1 n1 c1, .slice A2 n2 c2] w fun e w' => e = .returned (.bool true) ∧ Below w.heap.size w w' := by
  have := bytes_any w A1 n1 c1 l B1 h1 A2 n2 c2 l B2 h2
  rwa [decide_eq_true rfl] at this
theorem texts_yes {w : World} {A1 : Option Addr} {n1 c1 B1 : Nat} {l : List ByteArray} {A2 : Option Addr} {n2 c2 B2 : Nat} (h1 : Rd strR w B1 A1 n1 c1 l) (h2 : Rd strR w B2 A2 n2 c2 l) :
    Calls Tryd.prog 31 #[.slice A1 n1 c1, .slice A2 n2 c2] w fun e w' => e = .returned (.bool true) ∧ Below w.heap.size w w' := by
  have := texts_any w A1 n1 c1 l B1 h1 A2 n2 c2 l B2 h2
  rwa [decide_eq_true rfl] at this
theorem rd_fact {w : World} {g : Nat} (t : TypeId) (hg : g = w.heap.size) : Rd u8R (w.alloc (.cells #[.int .u8 1, .int .u8 97, .int .u8 0] t)) (w.alloc (.cells #[.int .u8 1, .int .u8 97, .int .u8 0] t)).heap.size (some ⟨g, 0, none⟩) 3 3 [1, 97, 0] :=
  rd_lit t _ [1, 97, 0] 3 hg rfl rfl (by omega)

theorem own_empty {w : World} {base : Nat} {e : TypeId} (hb : base ≤ w.heap.size) : (w.alloc (.cells #[] e)).ownsRow base e 1 (.slice (some ⟨w.heap.size, 0, none⟩) 0 0) 0 [] :=
  own_lit (size := 1) #[] [] rfl hb rfl (by decide) rfl
end Go.Proofs.YtfihedcobopbcaaDoor
/- Records as they are sent, in plain Lean: what is read at a place, what is sent. No function of the program. -/
namespace Go.Proofs.YtfihedcobopbcaaDoor
set_option linter.unusedVariables false
set_option linter.unusedSimpArgs false

/-- two bytes at a place -/
def at2 (m : List UInt8) (p : Nat) : Nat := (m.getD p 0).toNat * 256 + (m.getD (p + 1) 0).toNat
theorem at2_le (m : List UInt8) (p : Nat) : at2 m p ≤ 65535 := by
  unfold at2
  have h1 := (m.getD p 0).toNat_lt
  have h2 := (m.getD (p + 1) 0).toNat_lt
  omega
theorem at2_cons (a b : UInt8) (l : List UInt8) : at2 (a :: b :: l) 0 = a.toNat * 256 + b.toNat := rfl
theorem at2_tail (a : UInt8) (l : List UInt8) (k : Nat) : at2 (a :: l) (k + 1) = at2 l k := rfl
theorem at2_app (P t : List UInt8) (k : Nat) : at2 (P ++ t) (P.length + k) = at2 t k := by
  unfold at2
  simp only [List.getD_eq_getElem?_getD]
  rw [List.getElem?_append_right (by omega), List.getElem?_append_right (by omega), Nat.add_sub_cancel_left, show P.length + k + 1 - P.length = k + 1 by omega]
theorem at2_left (P t : List UInt8) (k : Nat) (h : k + 1 < P.length) : at2 (P ++ t) k = at2 P k := by
  unfold at2
  simp only [List.getD_eq_getElem?_getD]
  rw [List.getElem?_append_left (by omega), List.getElem?_append_left (by omega)]
theorem at2_drop (m : List UInt8) (p k : Nat) : at2 (m.drop p) k = at2 m (p + k) := by
  unfold at2
  simp only [List.getD_eq_getElem?_getD, List.getElem?_drop, Nat.add_assoc]
/-- a number in two bytes -/
def two2 (n : Int) : List UInt8 := [UInt8.ofNat (n / 256 % 256).toNat, UInt8.ofNat (n % 256).toNat]
theorem two2_at (n : Int) (l : List UInt8) (h0 : 0 ≤ n) (h1 : n ≤ 65535) : ((at2 (two2 n ++ l) 0 : Nat) : Int) = n := by
  show ((at2 (_ :: _ :: l) 0 : Nat) : Int) = n
  rw [at2_cons, UInt8.toNat_ofNat', UInt8.toNat_ofNat']
  omega
theorem two2_len (n : Int) : (two2 n).length = 2 := rfl

abbrev RecT := List ByteArray × Int × Int × Int × List UInt8 × Unit
def recErr (r : RecT) : Int :=
  if nameErr r.1 = 0 then
    if 0 ≤ r.2.1 ∧ r.2.1 ≤ 65535 ∧ 0 ≤ r.2.2.1 ∧ r.2.2.1 ≤ 65535 ∧ 0 ≤ r.2.2.2.1 ∧ r.2.2.2.1 ≤ 4294967295 then
      if r.2.2.2.2.1.length ≤ 65535 then 0 else 7
    else 6
  else nameErr r.1
/-- behind the name -/
def recTail (T C L : Int) (d : List UInt8) : List UInt8 := two2 T ++ (two2 C ++ (two2 (L / 65536) ++ (two2 (L % 65536) ++ (two2 (d.length : Int) ++ d))))
theorem recTail_len (T C L : Int) (d : List UInt8) : (recTail T C L d).length = 10 + d.length := by simp [recTail, two2]; omega
theorem at2_two (n : Int) (l : List UInt8) (k : Nat) : at2 (two2 n ++ l) (k + 2) = at2 l k := at2_app (two2 n) l k ▸ (by rw [two2_len, Nat.add_comm])
theorem recTail_at (T C L : Int) (d : List UInt8) (hT : 0 ≤ T ∧ T ≤ 65535) (hC : 0 ≤ C ∧ C ≤ 65535) (hL : 0 ≤ L ∧ L ≤ 4294967295) (hd : d.length ≤ 65535) :
    ((at2 (recTail T C L d) 0 : Nat) : Int) = T ∧ ((at2 (recTail T C L d) 2 : Nat) : Int) = C ∧ ((at2 (recTail T C L d) 4 : Nat) : Int) * 65536 + ((at2 (recTail T C L d) 6 : Nat) : Int) = L ∧ at2 (recTail T C L d) 8 = d.length ∧ (recTail T C L d).drop 10 = d := by
  have e2 : at2 (recTail T C L d) 2 = at2 (two2 C ++ (two2 (L / 65536) ++ (two2 (L % 65536) ++ (two2 (d.length : Int) ++ d)))) 0 := at2_two T _ 0
  have e4 : at2 (recTail T C L d) 4 = at2 (two2 (L / 65536) ++ (two2 (L % 65536) ++ (two2 (d.length : Int) ++ d))) 0 := (at2_two T _ 2).trans (at2_two C _ 0)
  have e6 : at2 (recTail T C L d) 6 = at2 (two2 (L % 65536) ++ (two2 (d.length : Int) ++ d)) 0 := (at2_two T _ 4).trans ((at2_two C _ 2).trans (at2_two _ _ 0))
  have e8 : at2 (recTail T C L d) 8 = at2 (two2 (d.length : Int) ++ d) 0 := (at2_two T _ 6).trans ((at2_two C _ 4).trans ((at2_two _ _ 2).trans (at2_two _ _ 0)))
  have h8 := two2_at (d.length : Int) d (by omega) (by omega)
  refine ⟨two2_at T _ hT.1 hT.2, ?_, ?_, ?_, rfl⟩
  · rw [e2]; exact two2_at C _ hC.1 hC.2
  · rw [e4, e6, two2_at _ _ (by omega) (by omega), two2_at _ _ (by omega) (by omega)]; omega
  · rw [e8]; omega

/-- the fixed part: what is wrong, the name, the place behind it, the place behind all -/
def rrF (m : List UInt8) (at_ : Int) : Int × List ByteArray × Nat × Nat :=
  if (rdN m at_).1 = 0 then
    if (rdN m at_).2.2.toNat + 10 ≤ m.length ∧ (rdN m at_).2.2.toNat + 10 + at2 m ((rdN m at_).2.2.toNat + 8) ≤ m.length then (0, (rdN m at_).2.1, (rdN m at_).2.2.toNat, (rdN m at_).2.2.toNat + 10 + at2 m ((rdN m at_).2.2.toNat + 8))
    else (2, [], 0, 0)
  else ((rdN m at_).1, [], 0, 0)
def recOf (m : List UInt8) (l : List ByteArray) (p en : Nat) : RecT := (l, (at2 m p : Nat), (at2 m (p + 2) : Nat), (at2 m (p + 4) : Nat) * 65536 + (at2 m (p + 6) : Nat), (m.drop (p + 10)).take (en - (p + 10)), ())
theorem rrF_ok {m : List UInt8} {at_ : Int} {l : List ByteArray} {p en : Nat} : rrF m at_ = (0, l, p, en) ↔ rdN m at_ = (0, l, (p : Int)) ∧ p + 10 ≤ m.length ∧ en = p + 10 + at2 m (p + 8) ∧ en ≤ m.length := by
  unfold rrF
  constructor
  · intro h
    by_cases h0 : (rdN m at_).1 = 0
    · rw [if_pos h0] at h
      split at h
      · rename_i h1
        simp only [Prod.mk.injEq, true_and] at h
        obtain ⟨h2, h3, h4⟩ := h
        have hr : rdN m at_ = (0, (rdN m at_).2.1, (rdN m at_).2.2) := by rw [← h0]
        obtain ⟨a, k, rfl, hk, _⟩ := rdN_ok.1 hr
        rw [hk, Int.toNat_natCast] at h3 h4 h1
        subst h3
        refine ⟨by rw [hr, h2, hk], h1.1, h4.symm, by omega⟩
      · cases h
    · rw [if_neg h0] at h
      simp only [Prod.mk.injEq] at h
      exact absurd h.1 h0
  · rintro ⟨h, h1, rfl, h2⟩
    rw [h]
    simp only [Int.toNat_natCast, if_true]
    rw [if_pos ⟨h1, h2⟩]
theorem rrF_bad {m : List UInt8} {at_ : Int} {k : Int} (h : (rrF m at_).1 = k) (hk : k ≠ 0) : rrF m at_ = (k, [], 0, 0) := by
  unfold rrF at h ⊢
  by_cases h0 : (rdN m at_).1 = 0
  · rw [if_pos h0] at h ⊢
    split
    · rename_i h1; rw [if_pos h1] at h; exact absurd h.symm hk
    · rename_i h1; rw [if_neg h1] at h; rw [← h]
  · rw [if_neg h0] at h ⊢
    rw [← h]
theorem rrF_app {m : List UInt8} {at_ : Int} {l : List ByteArray} {p en : Nat} (h : rrF m at_ = (0, l, p, en)) (k : List UInt8) : rrF (m ++ k) at_ = (0, l, p, en) ∧ recOf (m ++ k) l p en = recOf m l p en := by
  obtain ⟨h1, h2, rfl, h3⟩ := rrF_ok.1 h
  have h8 := at2_left m k (p + 8) (by omega)
  refine ⟨rrF_ok.2 ⟨rdN_app h1 k, by rw [List.length_append]; omega, by rw [h8], by rw [List.length_append]; omega⟩, ?_⟩
  unfold recOf
  rw [at2_left m k p (by omega), at2_left m k (p + 2) (by omega), at2_left m k (p + 4) (by omega), at2_left m k (p + 6) (by omega), List.drop_append_of_le_length (by omega), List.take_append_of_le_length (by rw [List.length_drop]; omega)]
/-- what is sent -/
def recB (m : List UInt8) (ss : List Int) (r : RecT) : List UInt8 := m ++ packT m ss r.1 ++ recTail r.2.1 r.2.2.1 r.2.2.2.1 r.2.2.2.2.1
theorem recErr_zero {r : RecT} (h : recErr r = 0) : nameErr r.1 = 0 ∧ (0 ≤ r.2.1 ∧ r.2.1 ≤ 65535) ∧ (0 ≤ r.2.2.1 ∧ r.2.2.1 ≤ 65535) ∧ (0 ≤ r.2.2.2.1 ∧ r.2.2.2.1 ≤ 4294967295) ∧ r.2.2.2.2.1.length ≤ 65535 := by
  unfold recErr at h
  by_cases h0 : nameErr r.1 = 0
  · rw [if_pos h0] at h
    split at h
    · rename_i h1
      split at h
      · rename_i h2
        exact ⟨h0, ⟨h1.1, h1.2.1⟩, ⟨h1.2.2.1, h1.2.2.2.1⟩, ⟨h1.2.2.2.2.1, h1.2.2.2.2.2⟩, h2⟩
      · cases h
    · cases h
  · rw [if_neg h0] at h; exact absurd h h0
theorem rr_back (m : List UInt8) (ss : List Int) (r : RecT) (h : recErr r = 0) : rrF (recB m ss r) (m.length : Int) = (0, r.1, (m ++ packT m ss r.1).length, (recB m ss r).length) ∧ recOf (recB m ss r) r.1 (m ++ packT m ss r.1).length (recB m ss r).length = r := by
  obtain ⟨l, T, C, L, d, u⟩ := r
  obtain ⟨h0, h1, h2, h3, h4⟩ := recErr_zero h
  simp only at h0 h1 h2 h3 h4
  obtain ⟨t0, t2, t4, t8, t10⟩ := recTail_at T C L d h1 h2 h3 h4
  have hr := rdN_app (pack_back m ss l h0) (recTail T C L d)
  have hl : (recB m ss (l, T, C, L, d, u)).length = (m ++ packT m ss l).length + (10 + d.length) := by unfold recB; rw [List.length_append, recTail_len]
  have a0 := at2_app (m ++ packT m ss l) (recTail T C L d) 0
  have a2 := at2_app (m ++ packT m ss l) (recTail T C L d) 2
  have a4 := at2_app (m ++ packT m ss l) (recTail T C L d) 4
  have a6 := at2_app (m ++ packT m ss l) (recTail T C L d) 6
  have a8 := at2_app (m ++ packT m ss l) (recTail T C L d) 8
  have a10 : (m ++ packT m ss l ++ recTail T C L d).drop ((m ++ packT m ss l).length + 10) = d := by rw [← List.drop_drop, List.drop_left, t10]
  rw [Nat.add_zero] at a0
  refine ⟨rrF_ok.2 ⟨hr, by rw [hl]; show (m ++ packT m ss l).length + 10 ≤ _; omega, ?_, Nat.le_refl _⟩, ?_⟩
  · rw [hl]
    show _ = (m ++ packT m ss l).length + 10 + at2 (m ++ packT m ss l ++ recTail T C L d) _
    rw [a8, t8]; omega
  · rw [hl]
    unfold recOf recB
    simp only
    rw [a0, a2, a4, a6, a10, t0, t2, t4, show (m ++ packT m ss l).length + (10 + d.length) - ((m ++ packT m ss l).length + 10) = d.length by omega, List.take_length]
/-- another TTL in its place -/
theorem recB_ttl (P d : List UInt8) (T C L L' : Int) (k : Nat) (hk : k = P.length + 4) :
    ((((P ++ recTail T C L d).set k (UInt8.ofNat (L' / 65536 / 256 % 256).toNat)).set (k + 1) (UInt8.ofNat (L' / 65536 % 256).toNat)).set (k + 2) (UInt8.ofNat (L' % 65536 / 256 % 256).toNat)).set (k + 3) (UInt8.ofNat (L' % 65536 % 256).toNat) = P ++ recTail T C L' d := by
  subst hk
  rw [List.set_append_right _ _ (by omega), List.set_append_right _ _ (by omega), List.set_append_right _ _ (by omega), List.set_append_right _ _ (by omega)]
  congr 1
  simp only [Nat.add_sub_cancel_left, show P.length + 4 + 1 - P.length = 5 by omega, show P.length + 4 + 2 - P.length = 6 by omega, show P.length + 4 + 3 - P.length = 7 by omega]
  rfl
end Go.Proofs.YtfihedcobopbcaaDoor
/- rr: two bytes as a number; the fixed part of a record. -/
namespace Go.Proofs.YtfihedcobopbcaaDoor
open Go.RowKit
set_option linter.unusedVariables false
set_option linter.unusedSimpArgs false

theorem below_ext0 {w w' : World} (h : Below w.heap.size w w') (os : Array Obj) (d : Nat) : Below w.heap.size w (ext w' os d) := Below.ext h h.size os d
theorem below_alloc0 {w w' : World} (h : Below w.heap.size w w') (o : Obj) : Below w.heap.size w (w'.alloc o) := Below.alloc h h.size o
theorem results_tmp4 {fn : Func} {t u v x : Tmp} (h : fn.results = #[.tmp t, .tmp u, .tmp v, .tmp x]) (tmps : Array Value) (P : Program) (w : World) :
    (results fn tmps).run P w = .ok (.tuple #[tmps.getD t undef, tmps.getD u undef, tmps.getD v undef, tmps.getD x undef]) w := by
  simp [results, h]
/-- two bytes of a slice -/
theorem Rd.two {w : World} {B n c b o : Nat} {m : List UInt8} (hM : Rd u8R w B (some ⟨b, o, none⟩) n c m) (p : Nat) (hp : p + 2 ≤ n) :
    ∃ x y : UInt8, at2 m p = x.toNat * 256 + y.toNat ∧ w.cell? ⟨b, o + p, none⟩ = some (.int .u8 (x.toNat : Int)) ∧ w.cell? ⟨b, o + p + 1, none⟩ = some (.int .u8 (y.toNat : Int)) ∧ b < B := by
  obtain ⟨x, hx, c0, _, lb⟩ := hM.byte p (by omega)
  obtain ⟨y, hy, c1, _, _⟩ := hM.byte (p + 1) (by omega)
  exact ⟨x, y, by unfold at2; rw [hx, hy], c0, c1, lb⟩
/-- a slice with two bounds, wherever its end stands -/
theorem slice_two {w : World} {B n c i j : Nat} {A : Option Addr} {m : List UInt8} (hM : Rd u8R w B A n c m) (hij : i ≤ j) (hj : j ≤ n) (hA : 0 < n) {a b : Int} (ha : a = (i : Int)) (hb : b = (j : Int)) :
    ∃ S C, (∀ w' : World, (Instr.slice 22 (.slice A n c) (some (.int .i64 a)) (some (.int .i64 b)) none).run Tryd.prog w' = .ok (.slice S (j - i) C) w') ∧ Rd u8R w B S (j - i) C ((m.drop i).take (j - i)) := by
  subst ha hb
  have hcap := hM.cap
  obtain ⟨g, o, rfl, hg⟩ := hM.addr hA
  have h1 : (j : Int) ≤ (c : Int) := by omega
  have h2 : (i : Int) ≤ (j : Int) := by omega
  have hsz : (Tryd.prog.info? 5).map (·.size) = some 1 := by kernel_rfl
  by_cases hc : c = i
  · refine ⟨some ⟨g, o, none⟩, 0, ?_, ?_⟩
    · intro w'
      obtain rfl : j = c := by omega
      subst hc
      simp [Instr.slice, Instr.sliceBounds, Instr.sliceBound, go_sem, Tryd.underlying22]
    · have e : j - i = 0 := by omega
      rw [e]
      exact ⟨by simp, Nat.le_refl _, by simp [maxLen], by simp, fun e => (by cases e), fun i hi => by simp at hi⟩
  · refine ⟨some ⟨g, o + i, none⟩, c - i, ?_, (hM.dropB (k := i) (by omega)).take (by omega)⟩
    intro w'
    have e3 : j ≤ c := by omega
    simp [Instr.slice, Instr.sliceBounds, Instr.sliceBound, go_sem, Tryd.underlying22, e3, hij, hc]
theorem two_rr {w : World} {B b o n c : Nat} {m : List UInt8} (hM : Rd u8R w B (some ⟨b, o, none⟩) n c m) (h2 : 2 ≤ n) {k : Nat} (hk : at2 m 0 = k) :
    Calls Tryd.prog 61 #[.slice (some ⟨b, o, none⟩) n c] w fun e w' => e = .returned (.int .i64 (k : Int)) ∧ Below w.heap.size w w' := by
  obtain ⟨x, y, hxy, c0, c1, lb⟩ := hM.two 0 (by omega)
  rw [hk] at hxy
  rw [Nat.add_zero] at c0 c1
  have hc := hM.cap
  have hm := hM.max
  unfold maxLen at hm
  have two := two_or x y
  have hx := x.toNat_lt
  have hy := y.toNat_lt
  have hkk : (x.toNat : Int) * 256 + (y.toNat : Int) = (k : Int) := by omega
  rw [hkk] at two
  have p0 : (0 : Int) ≤ (x.toNat : Int) := by omega
  have p1 : (0 : Int) ≤ (y.toNat : Int) := by omega
  have p2 : (x.toNat : Int) ≤ 255 := by omega
  have p3 : (y.toNat : Int) ≤ 255 := by omega
  clear hM hkk hxy hk hx hy
  generalize (x.toNat : Int) = y0 at *
  generalize (y.toNat : Int) = y1 at *
  have v0 : IntKind.i64.wrap y0 = y0 := IntWalk.i64_in _ (by omega)
  have v01 : IntKind.i64.wrap (y0 * 256) = y0 * 256 := IntWalk.i64_in _ (by omega)
  have v1 : IntKind.i64.wrap y1 = y1 := IntWalk.i64_in _ (by omega)
  have j0 : (0 : Int) < (n : Int) := by omega
  have j1 : (1 : Int) < (n : Int) := by omega
  have j2 : 0 < n := by omega
  have j3 : 1 < n := by omega
  go_enter Tryd.func61, Tryd.ntmps61
  go_wp2_with fail
  go_region_held3 (fun w' => w'.cell? ⟨b, o, none⟩ = some (.int .u8 y0) ∧ w'.cell? ⟨b, o + 1, none⟩ = some (.int .u8 y1)) (go_keep) (fail)
  all_goals go_wp2
  all_goals go_ret
  all_goals exact ⟨rfl, by (repeat' (first | (with_reducible exact Below.refl _ _) | (with_reducible assumption) | (with_reducible refine below_ext0 ?_ _ _) | (with_reducible refine below_alloc0 ?_ _) | (with_reducible refine Below.ext ?_ ?_ _ _) | (with_reducible refine Below.alloc ?_ ?_ _) | (with_reducible refine Below.setCell ?_ ?_ _) | (with_reducible refine Below.drew ?_) | (with_reducible refine below_draws ?_ _) | go_size | (simp [size_ext]; done) | (simp [size_ext]; omega)))⟩

set_option maxRecDepth 100000 in
set_option maxHeartbeats 2000000 in
theorem fixed_ok {w : World} {A : Option Addr} {n c : Nat} {m : List UInt8} (hM : Rd u8R w w.heap.size A n c m) {at_ : Int} {l : List ByteArray} {p en : Nat} (hr : rrF m at_ = (0, l, p, en)) {k : Nat} (hk : l.length = k) :
    Calls Tryd.prog 60 #[.slice A n c, .int .i64 at_] w fun e w' => ∃ A' c', e = .returned (.tuple #[.slice A' k c', .int .i64 (p : Int), .int .i64 (en : Int), .nilIface]) ∧ Rd strR w' w'.heap.size A' k c' l ∧ Below w.heap.size w w' := by
  obtain ⟨h1, h2, h3, h4⟩ := rrF_ok.1 hr
  have hn := hM.len
  have hcap := hM.cap
  have hmax := hM.max
  have hlim := hM.lim
  simp only [u8R, Nat.mul_one] at hlim
  unfold maxLen at hmax
  rw [hn] at h2 h4
  obtain ⟨b, o, rfl, lb⟩ := hM.addr (by omega)
  have CR := hid (read_ok hM h1 hk)
  obtain ⟨t, ht⟩ : ∃ t, at2 m (p + 8) = t := ⟨_, rfl⟩
  have ht1 : t ≤ 65535 := by rw [← ht]; exact at2_le _ _
  have CT := hid fun w' (hb : Below w.heap.size w w') => two_rr ((hM.later hb).dropB (k := p + 8) (by omega)) (by omega) ((at2_drop m (p + 8) 0).trans ht)
  rw [ht] at h3
  subst h3
  clear hr hn ht hM h1 hk
  have w1 : IntKind.i64.wrap ((n : Int) - (p : Int)) = (n : Int) - (p : Int) := IntWalk.i64_in _ (by omega)
  have w2 : IntKind.i64.wrap ((p : Int) + 10) = (p : Int) + 10 := IntWalk.i64_in _ (by omega)
  have w3 : IntKind.i64.wrap ((p : Int) + 8) = (p : Int) + 8 := IntWalk.i64_in _ (by omega)
  have w4 : IntKind.i64.wrap ((p : Int) + 10 + (t : Int)) = (p : Int) + 10 + (t : Int) := IntWalk.i64_in _ (by omega)
  have q1 : ¬ ((n : Int) - (p : Int) < 10) := by omega
  have q1' : decide ((n : Int) - (p : Int) < 10) = false := decide_eq_false q1
  have q2 : (0 : Int) ≤ (p : Int) + 8 := by omega
  have q3 : (p : Int) + 8 ≤ (n : Int) := by omega
  have q4 : ¬ ((n : Int) < (p : Int) + 10 + (t : Int)) := by omega
  have q5 : decide ((n : Int) < (p : Int) + 10 + (t : Int)) = false := decide_eq_false q4
  have q6 : p + 8 ≤ n := by omega
  have q7 : ¬ c = p + 8 := by omega
  have tk0 : True := trivial; have tk1 : True := trivial; have tk2 : True := trivial; have tk3 : True := trivial; have tk4 : True := trivial; have tk5 : True := trivial; have tk6 : True := trivial; have tk7 : True := trivial; have tk8 : True := trivial; have tk9 : True := trivial; have tk10 : True := trivial; have tk11 : True := trivial; have tk12 : True := trivial
  go_enter Tryd.func60, Tryd.ntmps60
  go_wp2_with (first
    | (go_at_call 27; have _t := tk1; (with_reducible refine (CR.out).mono ?_); rintro e w1 ⟨Atk1, ctk1, rfl, hr, hb⟩; obtain ⟨otk1, dtk1, rfl⟩ := ext_of_below hb; (try simp only [ext_drew, ext_drewN] at hr); have R1 := hid hr; clear hr; clear hb tk1)
    | (go_at_call 61; have _t := tk2; (with_reducible refine (CT.out _ (by (repeat' (first | (with_reducible exact Below.refl _ _) | (with_reducible assumption) | (with_reducible refine below_ext0 ?_ _ _) | (with_reducible refine below_alloc0 ?_ _) | (with_reducible refine Below.ext ?_ ?_ _ _) | (with_reducible refine Below.alloc ?_ ?_ _) | (with_reducible refine Below.setCell ?_ ?_ _) | (with_reducible refine Below.drew ?_) | (with_reducible refine below_draws ?_ _) | go_size | (simp [size_ext]; done) | (simp [size_ext]; omega))))).mono ?_); rintro e w1 ⟨rfl, hb⟩; obtain ⟨otk2, dtk2, rfl⟩ := ext_of_below hb; clear hb tk2))
  ((try simp only [Exit.inBlock, Exit.then]); refine bodyPost_ret (results_tmp4 rfl _ _ _) rfl ?_)
  exact ⟨_, _, by simp, R1.out.later (by (repeat' (first | (with_reducible exact Below.refl _ _) | (with_reducible assumption) | (with_reducible refine below_ext0 ?_ _ _) | (with_reducible refine below_alloc0 ?_ _) | (with_reducible refine Below.ext ?_ ?_ _ _) | (with_reducible refine Below.alloc ?_ ?_ _) | (with_reducible refine Below.setCell ?_ ?_ _) | (with_reducible refine Below.drew ?_) | (with_reducible refine below_draws ?_ _) | go_size | (simp [size_ext]; done) | (simp [size_ext]; omega)))), (by (repeat' (first | (with_reducible exact Below.refl _ _) | (with_reducible assumption) | (with_reducible refine below_ext0 ?_ _ _) | (with_reducible refine below_alloc0 ?_ _) | (with_reducible refine Below.ext ?_ ?_ _ _) | (with_reducible refine Below.alloc ?_ ?_ _) | (with_reducible refine Below.setCell ?_ ?_ _) | (with_reducible refine Below.drew ?_) | (with_reducible refine below_draws ?_ _) | go_size | (simp [size_ext]; done) | (simp [size_ext]; omega))))⟩

/-- the ways that end in a fault -/
theorem fixed_bad {w : World} {A : Option Addr} {n c : Nat} {m : List UInt8} (hM : Rd u8R w w.heap.size A n c m) {at_ k : Int} (hr : (rrF m at_).1 = k) (hk : k ≠ 0) :
    Calls Tryd.prog 60 #[.slice A n c, .int .i64 at_] w fun e w' => e = .returned (.tuple #[.slice none 0 0, .int .i64 0, .int .i64 0, .iface 29 (.int .i64 k)]) ∧ Below w.heap.size w w' := by
  have hn := hM.len
  have hcap := hM.cap
  have hmax := hM.max
  have hlim := hM.lim
  simp only [u8R, Nat.mul_one] at hlim
  unfold maxLen at hmax
  by_cases h0 : (rdN m at_).1 = 0
  · have hrd : rdN m at_ = (0, (rdN m at_).2.1, (rdN m at_).2.2) := by rw [← h0]
    obtain ⟨a, p, rfl, hp, hnm, _⟩ := rdN_ok.1 hrd
    rw [hp] at hrd
    have hlt := hnm.lt
    rw [hn] at hlt
    unfold rrF at hr
    rw [if_pos h0, hp, Int.toNat_natCast, hn] at hr
    obtain ⟨b, o, rfl, lb⟩ := hM.addr (by omega)
    have CR := hid (read_ok hM hrd rfl)
    generalize (rdN m (a : Int)).2.1.length = nl at *
    have w1 : IntKind.i64.wrap ((n : Int) - (p : Int)) = (n : Int) - (p : Int) := IntWalk.i64_in _ (by omega)
    have w2 : IntKind.i64.wrap ((p : Int) + 10) = (p : Int) + 10 := IntWalk.i64_in _ (by omega)
    have w3 : IntKind.i64.wrap ((p : Int) + 8) = (p : Int) + 8 := IntWalk.i64_in _ (by omega)
    by_cases hs : p + 10 ≤ n
    · obtain ⟨t, ht⟩ : ∃ t, at2 m (p + 8) = t := ⟨_, rfl⟩
      have ht1 : t ≤ 65535 := by rw [← ht]; exact at2_le _ _
      have CT := hid fun w' (hb : Below w.heap.size w w') => two_rr ((hM.later hb).dropB (k := p + 8) (by omega)) (by omega) ((at2_drop m (p + 8) 0).trans ht)
      rw [ht] at hr
      have h1 : ¬ (p + 10 + t ≤ n) := fun h => by rw [if_pos ⟨hs, h⟩] at hr; exact hk hr.symm
      rw [if_neg (fun h => h1 h.2)] at hr
      obtain rfl : k = 2 := hr.symm
      clear hr h0 hrd hp hnm ht hM hk hn
      have w4 : IntKind.i64.wrap ((p : Int) + 10 + (t : Int)) = (p : Int) + 10 + (t : Int) := IntWalk.i64_in _ (by omega)
      have q1 : ¬ ((n : Int) - (p : Int) < 10) := by omega
      have q1' : decide ((n : Int) - (p : Int) < 10) = false := decide_eq_false q1
      have q2 : (0 : Int) ≤ (p : Int) + 8 := by omega
      have q3 : (p : Int) + 8 ≤ (n : Int) := by omega
      have q4 : (n : Int) < (p : Int) + 10 + (t : Int) := by omega
      have q5 : decide ((n : Int) < (p : Int) + 10 + (t : Int)) = true := decide_eq_true q4
      have q6 : p + 8 ≤ n := by omega
      have q7 : ¬ c = p + 8 := by omega
      have tk0 : True := trivial; have tk1 : True := trivial; have tk2 : True := trivial; have tk3 : True := trivial; have tk4 : True := trivial; have tk5 : True := trivial; have tk6 : True := trivial; have tk7 : True := trivial; have tk8 : True := trivial; have tk9 : True := trivial; have tk10 : True := trivial; have tk11 : True := trivial; have tk12 : True := trivial
      go_enter Tryd.func60, Tryd.ntmps60
      go_wp2_with (first
        | (go_at_call 27; have _t := tk1; (with_reducible refine (CR.out).mono ?_); rintro e w1 ⟨Atk1, ctk1, rfl, hr, hb⟩; obtain ⟨otk1, dtk1, rfl⟩ := ext_of_below hb; (try simp only [ext_drew, ext_drewN] at hr); have R1 := hid hr; clear hr; clear hb tk1)
        | (go_at_call 61; have _t := tk2; (with_reducible refine (CT.out _ (by (repeat' (first | (with_reducible exact Below.refl _ _) | (with_reducible assumption) | (with_reducible refine below_ext0 ?_ _ _) | (with_reducible refine below_alloc0 ?_ _) | (with_reducible refine Below.ext ?_ ?_ _ _) | (with_reducible refine Below.alloc ?_ ?_ _) | (with_reducible refine Below.setCell ?_ ?_ _) | (with_reducible refine Below.drew ?_) | (with_reducible refine below_draws ?_ _) | go_size | (simp [size_ext]; done) | (simp [size_ext]; omega))))).mono ?_); rintro e w1 ⟨rfl, hb⟩; obtain ⟨otk2, dtk2, rfl⟩ := ext_of_below hb; clear hb tk2))
      ((try simp only [Exit.inBlock, Exit.then]); refine bodyPost_ret (results_tmp4 rfl _ _ _) rfl ?_)
      exact ⟨by simp, (by (repeat' (first | (with_reducible exact Below.refl _ _) | (with_reducible assumption) | (with_reducible refine below_ext0 ?_ _ _) | (with_reducible refine below_alloc0 ?_ _) | (with_reducible refine Below.ext ?_ ?_ _ _) | (with_reducible refine Below.alloc ?_ ?_ _) | (with_reducible refine Below.setCell ?_ ?_ _) | (with_reducible refine Below.drew ?_) | (with_reducible refine below_draws ?_ _) | go_size | (simp [size_ext]; done) | (simp [size_ext]; omega))))⟩
    · rw [if_neg (fun h => hs h.1)] at hr
      obtain rfl : k = 2 := hr.symm
      clear hr h0 hrd hp hnm hM hk hn
      have q1 : ((n : Int) - (p : Int) < 10) := by omega
      have q1' : decide ((n : Int) - (p : Int) < 10) = true := decide_eq_true q1
      have tk0 : True := trivial; have tk1 : True := trivial; have tk2 : True := trivial; have tk3 : True := trivial; have tk4 : True := trivial; have tk5 : True := trivial; have tk6 : True := trivial; have tk7 : True := trivial; have tk8 : True := trivial; have tk9 : True := trivial; have tk10 : True := trivial; have tk11 : True := trivial; have tk12 : True := trivial
      go_enter Tryd.func60, Tryd.ntmps60
      go_wp2_with (go_at_call 27; have _t := tk1; (with_reducible refine (CR.out).mono ?_); rintro e w1 ⟨Atk1, ctk1, rfl, hr, hb⟩; obtain ⟨otk1, dtk1, rfl⟩ := ext_of_below hb; (try simp only [ext_drew, ext_drewN] at hr); have R1 := hid hr; clear hr; clear hb tk1)
      ((try simp only [Exit.inBlock, Exit.then]); refine bodyPost_ret (results_tmp4 rfl _ _ _) rfl ?_)
      exact ⟨by simp, (by (repeat' (first | (with_reducible exact Below.refl _ _) | (with_reducible assumption) | (with_reducible refine below_ext0 ?_ _ _) | (with_reducible refine below_alloc0 ?_ _) | (with_reducible refine Below.ext ?_ ?_ _ _) | (with_reducible refine Below.alloc ?_ ?_ _) | (with_reducible refine Below.setCell ?_ ?_ _) | (with_reducible refine Below.drew ?_) | (with_reducible refine below_draws ?_ _) | go_size | (simp [size_ext]; done) | (simp [size_ext]; omega))))⟩
  · unfold rrF at hr
    rw [if_neg h0] at hr
    have CR := hid (read_bad hM hr hk)
    clear hM h0 hr
    have tk0 : True := trivial; have tk1 : True := trivial; have tk2 : True := trivial; have tk3 : True := trivial; have tk4 : True := trivial; have tk5 : True := trivial; have tk6 : True := trivial; have tk7 : True := trivial; have tk8 : True := trivial; have tk9 : True := trivial; have tk10 : True := trivial; have tk11 : True := trivial; have tk12 : True := trivial
    go_enter Tryd.func60, Tryd.ntmps60
    go_wp2_with (go_at_call 27; have _t := tk1; (with_reducible refine (CR.out).mono ?_); rintro e w1 ⟨rfl, hb⟩; obtain ⟨otk1, dtk1, rfl⟩ := ext_of_below hb; clear hb tk1)
    ((try simp only [Exit.inBlock, Exit.then]); refine bodyPost_ret (results_tmp4 rfl _ _ _) rfl ?_)
    exact ⟨by simp, (by (repeat' (first | (with_reducible exact Below.refl _ _) | (with_reducible assumption) | (with_reducible refine below_ext0 ?_ _ _) | (with_reducible refine below_alloc0 ?_ _) | (with_reducible refine Below.ext ?_ ?_ _ _) | (with_reducible refine Below.alloc ?_ ?_ _) | (with_reducible refine Below.setCell ?_ ?_ _) | (with_reducible refine Below.drew ?_) | (with_reducible refine below_draws ?_ _) | go_size | (simp [size_ext]; done) | (simp [size_ext]; omega))))⟩
theorem clone_rd {w : World} {A : Option Addr} {n c B : Nat} {m : List UInt8} (hM : Rd u8R w B A n c m) (hn : n ≤ 140737488355328) :
    Calls Tryd.prog 62 #[.slice A n c] w fun e w' => ∃ A' c', e = .returned (.slice A' n c') ∧ Rd u8R w' w'.heap.size A' n c' m ∧ Below w.heap.size w w' := by
  refine (clone_bytes w A n c m _ hM).mono ?_
  rintro e w' ⟨v, rfl, ho, hb⟩
  have hl := hM.len
  subst hl
  obtain ⟨A', c', rfl, hr⟩ := own_rd_u8 ho hb.size hn
  exact ⟨A', c', rfl, hr, hb⟩
end Go.Proofs.YtfihedcobopbcaaDoor
