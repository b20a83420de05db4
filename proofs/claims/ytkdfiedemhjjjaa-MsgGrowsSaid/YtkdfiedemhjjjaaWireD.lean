/- wire: slices.Equal of texts, slices.Clone of numbers, find. -/
import Derived.Test.YtkdfiedemhjjjaaWireC
namespace Go.Proofs.Ytkdfiedemhjjjaa
open Go.RowKit
set_option linter.unusedVariables false

set_option maxHeartbeats 2000000 in
theorem equal_strs (w : World) (A1 : Option Addr) (n1 c1 : Nat) (l1 : List ByteArray) (B1 : Nat) (h1 : Rd strR w B1 A1 n1 c1 l1) (A2 : Option Addr) (n2 c2 : Nat) (l2 : List ByteArray) (B2 : Nat) (h2 : Rd strR w B2 A2 n2 c2 l2) :
    Calls Try.prog 62 #[.slice A1 n1 c1, .slice A2 n2 c2] w fun e w' => e = .returned (.bool (decide (l1 = l2))) ∧ Below w.heap.size w w' := by
  have m1 := h1.max
  have k1 := h1.cap
  have m2 := h2.max
  have k2 := h2.cap
  unfold maxLen at m1 m2
  have H1 := hid h1
  have H2 := hid h2
  clear h1 h2
  by_cases hn : n1 = n2
  · subst hn
    go_enter Try.func62, Try.ntmps62
    go_wp2
    go_loopg [13] n1 (fun g v wi => ∃ k m : Nat, k ≤ n1 ∧ g = n1 - k ∧ v = .int .i64 k ∧ wi = w.drewN m ∧ l1.take k = l2.take k)
    case atStart => exact ⟨0, 0, Nat.zero_le _, rfl, rfl, rfl, rfl⟩
    case round =>
      obtain ⟨k, m, hk, rfl, rfl, rfl, ht⟩ := hrel
      have HT := hid ht
      clear ht
      by_cases hlt : k < n1
      · obtain ⟨b1, o1, rfl, _, hc1, _⟩ := H1.out.str k hlt
        obtain ⟨b2, o2, rfl, _, hc2, _⟩ := H2.out.str k hlt
        have q1 : k < l1.length := by rw [H1.out.len]; exact hlt
        have q2 : k < l2.length := by rw [H2.out.len]; exact hlt
        have hkz : (k : Int) < (n1 : Int) := by omega
        obtain ⟨x, hx⟩ : ∃ x, l1[k] = x := ⟨_, rfl⟩
        obtain ⟨y, hy⟩ : ∃ y, l2[k] = y := ⟨_, rfl⟩
        rw [hx] at hc1
        rw [hy] at hc2
        have HXY := hid (And.intro hx hy)
        clear hx hy
        by_cases he : x = y
        · subst he
          have hv : (x.toList != x.toList) = false := by simp
          have hv' : (x.toList == x.toList) = true := by simp
          go_wp2_with fail
          go_quiet (fail)
          go_wp2
          go_roundg (n1 - (k + 1))
          case measure => omega
          case rel => exact ⟨k + 1, _, by omega, rfl, by go_num, rfl, by rw [List.take_succ_eq_append_getElem q1, List.take_succ_eq_append_getElem q2, HT.out, HXY.out.1, HXY.out.2]⟩
        · have hv' : (x.toList == y.toList) = false := by rw [str_beq]; simp [he]
          have hv : (x.toList != y.toList) = true := by rw [bne, hv']; rfl
          have hr : decide (l1 = l2) = false := decide_eq_false fun h => he (by rw [← HXY.out.1, ← HXY.out.2]; simp [h])
          clear he
          go_wp2_with fail
          go_quiet (fail)
          go_wp2
          go_ret
          exact ⟨by first | rfl | (rw [hr]; rfl), by first | exact below_drawsN (below_drawsN (Below.refl _ _) _) _ | exact below_drawsN (Below.refl _ _) _⟩
      · have hr : decide (l1 = l2) = true := decide_eq_true (by
          have h := HT.out
          rwa [List.take_of_length_le (by have := H1.out.len; omega), List.take_of_length_le (by have := H2.out.len; omega)] at h)
        go_wp2
        go_ret
        exact ⟨by first | rfl | (rw [hr]; rfl), below_drawsN (Below.refl _ _) _⟩
  · have hv : ((n1 : Int) != (n2 : Int)) = true := by rw [bne_iff_ne]; omega
    have hr : decide (l1 = l2) = false := decide_eq_false fun h => hn (by rw [← H1.out.len, ← H2.out.len, h])
    go_enter Try.func62, Try.ntmps62
    go_wp2
    go_ret
    exact ⟨by first | rfl | (rw [hr]; rfl), Below.refl _ _⟩

@[reducible] def intsV (l : List Int) : List Value := l.map (Value.int .i64)
theorem flat_int (l : List Int) : (l.map fun s => [Value.int .i64 s]).flatten = intsV l := by
  induction l with
  | nil => rfl
  | cons a l ih => simp only [intsV] at ih; simp [ih]
theorem el_int : El Try.prog 23 3 1 8 := el_of (z := .int .i64 0) Try.underlying23 (by kernel_rfl) rfl (by decide)
theorem rels_int {w : World} {B : Nat} {l : List Int} (h : ∀ s ∈ l, I64 s) : Rels intR w B l (intsV l) := by
  refine ⟨l.map fun s => [Value.int .i64 s], by simp, ?_, fun i hi hi' => ?_⟩
  · exact (flat_int l).symm
  · simp only [List.getElem_map]
    exact ⟨rfl, h _ (List.getElem_mem _)⟩
theorem Rd.i64s {w : World} {B n c : Nat} {A : Option Addr} {l : List Int} (h : Rd intR w B A n c l) : ∀ s ∈ l, I64 s := by
  intro s hs
  obtain ⟨i, hi, rfl⟩ := List.getElem_of_mem hs
  obtain ⟨_, _, _, _, _, hz⟩ := h.int i (by rw [← h.len]; exact hi)
  exact hz
set_option maxHeartbeats 1000000 in
theorem clone_ints (w : World) (A : Option Addr) (n c : Nat) (l : List Int) (B : Nat) (h : Rd intR w B A n c l) :
    Calls Try.prog 56 #[.slice A n c] w fun e w' => ∃ v, e = .returned v ∧ w'.ownsRow w.heap.size 3 1 v n (intsV l) ∧ Below w.heap.size w w' := by
  have hm := h.lim
  simp only [intR] at hm
  have he := fun w a n c => Lib.run_eql_slice_nil (P := Try.prog) w 23 3 a n c 0 0 Try.underlying23
  obtain ⟨ys, hr, hs⟩ := h.src (R := intR) fun a vs (hv : vs = _ ∧ _) u hu => by
    rw [hv.1] at hu
    simp at hu
    subst hu
    rfl
  have hys : ys = intsV l := by
    obtain ⟨vss, h1, rfl, hv⟩ := hr
    have : vss = l.map fun s => [Value.int .i64 s] := by
      apply List.ext_getElem (by simpa using h1)
      intro i hi hi'
      simp only [List.getElem_map]
      exact (hv i (by omega) hi).1
    rw [this]
    exact flat_int l
  subst hys
  have HS := hid hs
  rcases A with _ | ad
  · have hn : n = 0 ∧ c = 0 := hs.nil rfl
    obtain ⟨rfl, rfl⟩ := hn
    have hl : l = [] := List.eq_nil_of_length_eq_zero h.len
    subst hl
    clear h hr hs
    go_enter Try.func56, Try.ntmps56
    go_wp2
    go_ret
    exact ⟨_, rfl, World.ownsRow_nil _ _ _ _, Below.refl _ _⟩
  · clear h hr hs
    go_enter Try.func56, Try.ntmps56
    go_wp2_with (at_builtin; refine wpList_app rfl _ _ 23 rfl w.heap.size 3 1 8 el_int (.slice (some ⟨w.heap.size, 0, none⟩) 0 0) 0 [] rfl (own_lit #[] [] rfl (Nat.le_refl _) rfl (by decide) rfl) _ n c (intsV l) rfl (HS.out.later ((Below.refl _ _).alloc (Nat.le_refl _) _)) (by omega) (by unfold maxLen; omega) (by simp) ?_; intro v' w1 ho hg _)
    go_ret
    refine ⟨_, rfl, by simpa using ho, ?_⟩
    exact ((Below.refl _ w).alloc (Nat.le_refl _) _).grown hg (by simp) (by simp [Value.ownBlock])

/-! find -/
theorem findS_step {m : List UInt8} {n : List ByteArray} {ss : List Int} {k : Nat} (h : k < ss.length) : findS m n (ss.drop k) = if ss[k] ≤ 16383 ∧ (rdN m ss[k]).1 = 0 ∧ (rdN m ss[k]).2.1 = n then ss[k] else findS m n (ss.drop (k + 1)) := by
  rw [List.drop_eq_getElem_cons h, findS]

set_option maxRecDepth 100000 in
set_option maxHeartbeats 4000000 in
theorem find_any (w : World) (A : Option Addr) (n c : Nat) (m : List UInt8) (hM : Rd u8R w w.heap.size A n c m) (A1 : Option Addr) (n1 c1 : Nat) (ss : List Int) (hS : Rd intR w w.heap.size A1 n1 c1 ss) (A2 : Option Addr) (n2 c2 : Nat) (l : List ByteArray) (hL : Rd strR w w.heap.size A2 n2 c2 l) :
    Calls Try.prog 57 #[.slice A n c, .slice A1 n1 c1, .slice A2 n2 c2] w fun e w' => e = .returned (.int .i64 (findS m l ss)) ∧ Below w.heap.size w w' := by
  have m1 := hS.max
  have k1 := hS.cap
  unfold maxLen at m1
  have HM := hid hM
  have HS := hid hS
  have HL := hid hL
  clear hM hS hL
  have tk0 : True := trivial; have tk1 : True := trivial; have tk2 : True := trivial; have tk3 : True := trivial; have tk4 : True := trivial; have tk5 : True := trivial; have tk6 : True := trivial; have tk7 : True := trivial; have tk8 : True := trivial; have tk9 : True := trivial; have tk10 : True := trivial; have tk11 : True := trivial; have tk12 : True := trivial
  go_enter Try.func57, Try.ntmps57
  go_wp2
  go_loopg [14] n1 (fun g v wi => ∃ k : Nat, k ≤ n1 ∧ g = n1 - k ∧ v = .int .i64 k ∧ Below w.heap.size w wi ∧ findS m l ss = findS m l (ss.drop k))
  case atStart => exact ⟨0, Nat.zero_le _, rfl, rfl, Below.refl _ _, rfl⟩
  case round =>
    obtain ⟨k, hk, rfl, rfl, hlow, ht⟩ := hrel
    have HT := hid ht
    have HLOW := hid hlow
    have hzw := hlow.size
    clear ht hlow
    by_cases hlt : k < n1
    · obtain ⟨b1, o1, rfl, _, hc1, z1, z2⟩ := (HS.out.below HLOW.out).int k hlt
      have q1 : k < ss.length := by rw [HS.out.len]; exact hlt
      have st := findS_step (m := m) (n := l) q1
      obtain ⟨s, hs⟩ : ∃ s, ss[k] = s := ⟨_, rfl⟩
      rw [hs] at hc1 z1 z2
      rw [hs] at st
      have HST := hid st
      have hkz : (k : Int) < (n1 : Int) := by omega
      clear st hs
      by_cases hbig : 16383 < s
      · go_wp2
        go_roundg (n1 - (k + 1))
        case measure => omega
        case rel => exact ⟨k + 1, by omega, rfl, by go_num, HLOW.out, by rw [HT.out, HST.out, if_neg (fun h => by have := h.1; omega)]⟩
      · have hbig' : s ≤ 16383 := by omega
        have CR := hid (wread_any wr A n c m (HM.out.keep hzw (fun p hp => HLOW.out.cell hp)) s)
        by_cases hf : (rdN m s).1 = 0
        · have CE := hid fun w1 (hb : Below wr.heap.size wr w1) A' c' (hr : Rd strR w1 w1.heap.size A' (rdN m s).2.1.length c' (rdN m s).2.1) => equal_strs w1 A' _ c' _ _ hr A2 n2 c2 l _ (HL.out.below (HLOW.out.trans (hb.mono hzw)))
          by_cases he : (rdN m s).2.1 = l
          · have hd : decide ((rdN m s).2.1 = l) = true := decide_eq_true he
            have HD := hid hd
            have hfin : findS m l ss = s := by rw [HT.out, HST.out, if_pos ⟨hbig', hf, he⟩]
            have HF := hid hfin
            clear hfin he hd
            go_wp2_with (first
              | (go_at_call 40; refine CR.out.mono ?_; rintro e w1 ⟨hb, hr⟩; rw [if_pos hf] at hr; obtain ⟨A', c', rfl, hr⟩ := hr; have HR1 := hid hr; have HB1 := hid hb; clear hr hb)
              | (go_at_call 62; refine (CE.out _ HB1.out _ _ HR1.out).mono ?_; rw [HD.out]; rintro e w2 ⟨rfl, hb2⟩; have HB2 := hid hb2; clear hb2))
            go_ret
            exact ⟨by rw [HF.out]; rfl, (HLOW.out.trans (HB1.out.mono hzw)).trans (HB2.out.mono (by have := HB1.out.size; omega))⟩
          · have hd : decide ((rdN m s).2.1 = l) = false := decide_eq_false he
            have HD := hid hd
            have hfin : findS m l ss = findS m l (ss.drop (k + 1)) := by rw [HT.out, HST.out, if_neg fun h => he h.2.2]
            have HF := hid hfin
            clear hfin he hd
            go_wp2_with (first
              | (go_at_call 40; refine CR.out.mono ?_; rintro e w1 ⟨hb, hr⟩; rw [if_pos hf] at hr; obtain ⟨A', c', rfl, hr⟩ := hr; have HR1 := hid hr; have HB1 := hid hb; clear hr hb)
              | (go_at_call 62; refine (CE.out _ HB1.out _ _ HR1.out).mono ?_; rw [HD.out]; rintro e w2 ⟨rfl, hb2⟩; have HB2 := hid hb2; clear hb2))
            go_roundg (n1 - (k + 1))
            case measure => omega
            case rel => exact ⟨k + 1, by omega, rfl, by go_num, (HLOW.out.trans (HB1.out.mono hzw)).trans (HB2.out.mono (by have := HB1.out.size; omega)), HF.out⟩
        · have hfin : findS m l ss = findS m l (ss.drop (k + 1)) := by rw [HT.out, HST.out, if_neg fun h => hf h.2.1]
          have HF := hid hfin
          clear hfin
          go_wp2_with (go_at_call 40; refine CR.out.mono ?_; rintro e w1 ⟨hb, hr⟩; rw [if_neg hf] at hr; subst hr; have HB1 := hid hb; clear hb)
          go_roundg (n1 - (k + 1))
          case measure => omega
          case rel => exact ⟨k + 1, by omega, rfl, by go_num, HLOW.out.trans (HB1.out.mono hzw), HF.out⟩
    · have hfin : findS m l ss = -1 := by
        rw [HT.out, List.drop_eq_nil_of_le (by rw [HS.out.len]; omega)]; rfl
      have HF := hid hfin
      clear hfin
      go_wp2
      go_ret
      exact ⟨by rw [HF.out]; rfl, HLOW.out⟩
end Go.Proofs.Ytkdfiedemhjjjaa
