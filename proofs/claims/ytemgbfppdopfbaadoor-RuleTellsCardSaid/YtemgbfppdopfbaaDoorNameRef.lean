/- The document's answers of names: NameFault, Small, Folded, Numbers, Labels. -/
import Derived.Test.YtemgbfppdopfbaaDoorOrder
import Derived.Test.YtemgbfppdopfbaaDoorQuietExt
import Derived.Laws.BytesArg
namespace Go.Proofs.YtemgbfppdopfbaaDoor
open Go.RowKit
set_option linter.unusedVariables false
set_option linter.unusedSimpArgs false

set_option maxRecDepth 100000 in
set_option maxHeartbeats 1000000 in
theorem nfault_any (w : World) (A : Option Addr) (n c : Nat) (l : List ByteArray) (B : Nat) (h : Rd strR w B A n c l) :
    Calls Tryd.prog 14 #[.slice A n c] w fun e w' => e = .returned (.int .i64 (nameErr l)) ∧ w' = w := by
  have hm := h.max
  have hcap := h.cap
  unfold maxLen at hm
  have H := hid h
  clear h
  go_enter Tryd.func14, Tryd.ntmps14
  go_wp2
  go_loop [3, 4] (fun v3 v4 => ∃ (k : Nat) (s : Int), k ≤ n ∧ v4 = .int .i64 (k : Int) ∧ v3 = .int .i64 s ∧ s ≤ 400 ∧ 0 ≤ s ∧ (s ≤ 255 → s = (nsize (l.take k) : Int)) ∧ (255 < s → 255 < (nsize (l.take k) : Int)) ∧ (l.take k).all labelOk = true) (fun _ v => n - (intOf v).toNat)
  case atStart => exact ⟨0, 1, by omega, rfl, rfl, by omega, by omega, by simp [nsize], by omega, by simp⟩
  case round =>
    obtain ⟨k, s, hk, rfl, rfl, s1, s0, hs, hs', hall⟩ := hrel
    have HS := hid (And.intro hs hs')
    have HALL := hid hall
    clear hs hs' hall
    by_cases hlt : k < n
    · obtain ⟨b, off, rfl, _, hc, hsz⟩ := H.out.str k hlt
      have hkl : k < l.length := by rw [H.out.len]; exact hlt
      have htk : l.take (k + 1) = l.take k ++ [l[k]] := List.take_succ_eq_append_getElem hkl
      have HTK := hid htk
      obtain ⟨x, hx⟩ : ∃ x, l[k] = x := ⟨_, rfl⟩
      rw [hx] at hc hsz
      have HX := hid hx
      clear htk hx
      have hkz : (k : Int) < (n : Int) := by omega
      have ways : x.size < 1 ∨ (1 ≤ x.size ∧ 63 < x.size) ∨ (1 ≤ x.size ∧ x.size ≤ 63) := by omega
      rcases ways with hb | ⟨hb, hb'⟩ | ⟨hb, hb'⟩
      · have hr : nameErr l = 3 := by
          unfold nameErr
          rw [if_neg]
          intro h
          have := List.all_eq_true.1 h x (by rw [← HX.out]; exact List.getElem_mem _)
          unfold labelOk at this
          simp at this
          omega
        have HR := hid hr
        have hz : ((x.size : Int) == 0) = true := by rw [beq_iff_eq]; omega
        have hz' : (x.size == 0) = true := by rw [beq_iff_eq]; omega
        clear hr hb
        go_wp2
        go_ret
        exact ⟨by rw [HR.out]; rfl, rfl⟩
      · have hr : nameErr l = 3 := by
          unfold nameErr
          rw [if_neg]
          intro h
          have := List.all_eq_true.1 h x (by rw [← HX.out]; exact List.getElem_mem _)
          unfold labelOk at this
          simp at this
          omega
        have HR := hid hr
        have hz : ((x.size : Int) == 0) = false := by rw [beq_eq_false_iff_ne]; omega
        have hz' : (x.size == 0) = false := by rw [beq_eq_false_iff_ne]; omega
        clear hr
        go_wp2
        go_ret
        exact ⟨by rw [HR.out]; rfl, rfl⟩
      · have hall' : (l.take (k + 1)).all labelOk = true := by
          rw [HTK.out, List.all_append, HALL.out, HX.out]
          unfold labelOk
          simp [hb, hb']
        have hsn : nsize (l.take (k + 1)) = nsize (l.take k) + (x.size + 1) := by rw [HTK.out, nsize_snoc, HX.out]
        have HALL' := hid hall'
        have HSN := hid hsn
        have hz : ((x.size : Int) == 0) = false := by rw [beq_eq_false_iff_ne]; omega
        have hz' : (x.size == 0) = false := by rw [beq_eq_false_iff_ne]; omega
        clear hall' hsn
        by_cases hbig : s ≤ 255
        · go_wp2
          go_round
          case rel => exact ⟨k + 1, s + ((x.size : Int) + 1), by omega, by go_num, rfl, by omega, by omega, fun _ => by rw [HSN.out]; have := HS.out.1 hbig; omega, fun _ => by rw [HSN.out]; have := HS.out.1 hbig; omega, HALL'.out⟩
          case measure => simp [intOf]; omega
        · go_wp2
          go_round
          case rel => exact ⟨k + 1, s, by omega, by go_num, rfl, by omega, by omega, fun _ => by omega, fun _ => by rw [HSN.out]; have := HS.out.2 (by omega); omega, HALL'.out⟩
          case measure => simp [intOf]; omega
    · have hkn : l.take k = l := List.take_of_length_le (by rw [H.out.len]; omega)
      have hS := HS.out
      rw [hkn] at hS
      have hA : l.all labelOk = true := by have := HALL.out; rwa [hkn] at this
      by_cases hbig : 255 < s
      · have hr : nameErr l = 5 := by unfold nameErr; rw [if_pos hA, if_neg (by have := hS.2 hbig; omega)]
        have HR := hid hr
        clear hr hkn hS hA
        go_wp2
        go_ret
        exact ⟨by rw [HR.out]; rfl, rfl⟩
      · have hr : nameErr l = 0 := by unfold nameErr; rw [if_pos hA, if_pos (by have := hS.1 (by omega); omega)]
        have HR := hid hr
        clear hr hkn hS hA
        go_wp2
        go_ret
        exact ⟨by rw [HR.out]; rfl, rfl⟩

theorem rsmall_any (b : UInt8) (w : World) : Calls Tryd.prog 31 #[.int .u8 (b.toNat : Int)] w fun e w' => e = .returned (.int .u8 ((lowB b).toNat : Int)) ∧ w' = w := by
  have hb := b.toNat_lt
  rw [lowB_nat]
  generalize b.toNat = x at *
  have hx : (x : Int) ≤ 255 := by omega
  have ways : (x < 65) ∨ (65 ≤ x ∧ 90 < x) ∨ (65 ≤ x ∧ x ≤ 90) := by omega
  rcases ways with h | ⟨h, h'⟩ | ⟨h, h'⟩
  · rw [if_neg (by omega)]
    go_enter Tryd.func31, Tryd.ntmps31
    go_wp2
    go_ret
    exact ⟨rfl, rfl⟩
  · rw [if_neg (by omega)]
    go_enter Tryd.func31, Tryd.ntmps31
    go_wp2
    go_ret
    exact ⟨rfl, rfl⟩
  · rw [if_pos ⟨h, h'⟩]
    go_enter Tryd.func31, Tryd.ntmps31
    go_wp2
    go_ret
    exact ⟨rfl, rfl⟩

theorem numbers_any (a b : Int) (w : World) : Calls Tryd.prog 53 #[.int .i64 a, .int .i64 b] w fun e w' => e = .returned (.int .i64 (if a < b then -1 else if b < a then 1 else 0)) ∧ w' = w := by
  by_cases h1 : a < b
  · rw [if_pos h1]
    go_enter Tryd.func53, Tryd.ntmps53
    go_wp2
    go_ret
    exact ⟨rfl, rfl⟩
  · rw [if_neg h1]
    by_cases h2 : b < a
    · rw [if_pos h2]
      go_enter Tryd.func53, Tryd.ntmps53
      go_wp2
      go_ret
      exact ⟨rfl, rfl⟩
    · rw [if_neg h2]
      go_enter Tryd.func53, Tryd.ntmps53
      go_wp2
      go_ret
      exact ⟨rfl, rfl⟩

/-! Folded -/
/-- 'string(b)', b a row of the call's own -/
theorem conv_own {w : World} {base n : Nat} {v : Value} {l : List UInt8} (h : w.ownsRow base 5 1 v n (bytesV l)) : (convert 51 9 v).run Tryd.prog w = .ok (.string ⟨l.toArray⟩) w := by
  have hl : l.length = n := by have := h.1; simpa [bytesV] using this
  rcases h.2 with ⟨rfl, rfl⟩ | ⟨g, cap, cur, rfl, hb, hh, hnc, hcm, hcs, ht⟩
  · have : l = [] := List.eq_nil_of_length_eq_zero hl
    subst this
    exact run_convert_bytes_nil _ 51 5 Tryd.underlying51 Tryd.underlying5 0 0 9 Tryd.underlying9
  · have := run_convert_bytes_back w 51 9 5 ⟨g, 0, none⟩ cap l Tryd.underlying51 Tryd.underlying5 Tryd.underlying9 (by
      intro j hj
      have := h.cells (g := g) rfl j (.int .u8 (l[j].toNat : Int)) (by rw [bytesV, List.getElem?_map, List.getElem?_eq_getElem hj]; rfl)
      simpa using this)
    rwa [hl] at this

/-! Labels -/
theorem lex_byte_nil (a : List UInt8) (k : Nat) (b : List UInt8) (ha : a.length = k ∨ b.length = k) (hk : k ≤ a.length) (hk' : k ≤ b.length) : lex cmpByte (a.drop k) (b.drop k) = if a.length < b.length then -1 else if b.length < a.length then 1 else 0 := by
  rcases ha with h | h
  · rw [List.drop_eq_nil_of_le (by omega)]
    by_cases e : b.length = k
    · rw [List.drop_eq_nil_of_le (by omega), if_neg (by omega), if_neg (by omega)]; rfl
    · rw [List.drop_eq_getElem_cons (by omega), if_pos (by omega)]; rfl
  · rw [show b.drop k = [] from List.drop_eq_nil_of_le (by omega)]
    by_cases e : a.length = k
    · rw [List.drop_eq_nil_of_le (by omega), if_neg (by omega), if_neg (by omega)]; rfl
    · rw [List.drop_eq_getElem_cons (by omega), if_neg (by omega), if_pos (by omega)]; rfl
theorem cmpB_lex (a b : ByteArray) : cmpB a b = lex cmpByte (smallL a.data.toList) (smallL b.data.toList) := by unfold cmpB; exact compareBytes_lex _ _

theorem rsmall_b (b : UInt8) (w : World) : Calls Tryd.prog 31 #[.int .u8 (b.toNat : Int)] w fun e w' => e = .returned (.int .u8 ((lowB b).toNat : Int)) ∧ Below w.heap.size w w' :=
  (rsmall_any b w).mono fun e w' ⟨he, hw⟩ => ⟨he, by subst hw; exact Below.refl _ _⟩
theorem lex_step {x y : UInt8} {l m : List UInt8} {k : Nat} (hl : k < l.length) (hm : k < m.length) (hx : l[k] = x) (hy : m[k] = y) : lex cmpByte (l.drop k) (m.drop k) = if cmpByte x y = 0 then lex cmpByte (l.drop (k + 1)) (m.drop (k + 1)) else cmpByte x y := by
  rw [List.drop_eq_getElem_cons hl, List.drop_eq_getElem_cons hm, lex, hx, hy]

set_option maxRecDepth 100000 in
set_option maxHeartbeats 4000000 in
theorem rlabels_any (a b : ByteArray) (ha : a.size ≤ 140737488355328) (hb : b.size ≤ 140737488355328) (w : World) :
    Calls Tryd.prog 52 #[.string a, .string b] w fun e w' => e = .returned (.int .i64 (cmpB a b)) ∧ Below w.heap.size w w' := by
  have h1 : (smallL a.data.toList).length = a.size := by unfold smallL; rw [List.length_map, Array.length_toList]; rfl
  have h2 : (smallL b.data.toList).length = b.size := by unfold smallL; rw [List.length_map, Array.length_toList]; rfl
  have H := hid (And.intro h1 h2)
  clear h1 h2
  go_enter Tryd.func52, Tryd.ntmps52
  go_wp2
  go_loopg [5] a.size (fun gk v5 wi => ∃ k : Nat, k ≤ a.size ∧ k ≤ b.size ∧ gk = a.size - k ∧ v5 = .int .i64 (k : Int) ∧ Below w.heap.size w wi ∧ cmpB a b = lex cmpByte ((smallL a.data.toList).drop k) ((smallL b.data.toList).drop k))
  case atStart => exact ⟨0, Nat.zero_le _, Nat.zero_le _, rfl, rfl, Below.refl _ _, cmpB_lex a b⟩
  case round =>
    obtain ⟨k, hk, hk', rfl, rfl, hlow, ht⟩ := hrel
    have HT := hid ht
    have HLOW := hid hlow
    clear ht hlow
    by_cases hlt : k < a.size ∧ k < b.size
    · obtain ⟨q1, q2⟩ := hlt
      have st := lex_step (x := lowB a[k]) (y := lowB b[k]) (by rw [H.out.1]; exact q1) (by rw [H.out.2]; exact q2) (by unfold smallL; rw [List.getElem_map]; rfl) (by unfold smallL; rw [List.getElem_map]; rfl)
      have HST := hid st
      have C1 := rsmall_b a[k]
      have C2 := rsmall_b b[k]
      have hcb : cmpByte (lowB a[k]) (lowB b[k]) = if (lowB a[k]).toNat < (lowB b[k]).toNat then -1 else if (lowB b[k]).toNat < (lowB a[k]).toNat then 1 else 0 := by
        unfold cmpByte; simp only [UInt8.lt_iff_toNat_lt]
      have x1 := (lowB a[k]).toNat_lt
      have y1 := (lowB b[k]).toNat_lt
      have HCB := hid hcb
      clear st hcb
      have q1z : (k : Int) < (a.size : Int) := by omega
      have q2z : (k : Int) < (b.size : Int) := by omega
      obtain ⟨x, hx⟩ : ∃ x, (lowB a[k]).toNat = x := ⟨_, rfl⟩
      obtain ⟨y, hy⟩ : ∃ y, (lowB b[k]).toNat = y := ⟨_, rfl⟩
      rw [hx] at C1 x1
      rw [hy] at C2 y1
      have HXY := hid (And.intro hx hy)
      replace C1 := hid C1
      replace C2 := hid C2
      clear hx hy
      have hsz := HLOW.out.size
      have ways : x < y ∨ (¬ x < y ∧ y < x) ∨ (¬ x < y ∧ ¬ y < x) := by omega
      rcases ways with h | ⟨h, h'⟩ | ⟨h, h'⟩
      · have hfin : cmpB a b = -1 := by rw [HT.out, HST.out, HCB.out, HXY.out.1, HXY.out.2, if_pos h]; rfl
        have HF := hid hfin
        have d1 : decide ((x : Int) < (y : Int)) = true := by simp; exact h
        clear hfin
        go_wp2_with fail
        refine wp_region_ext (by kernel_rfl) (by kernel_rfl) ?_
        repeat (go_big_quiet_step ((first | (go_at_call 31; with_reducible exact Calls.quiet_ext (C1.out _)) | (go_at_call 31; with_reducible exact Calls.quiet_ext (C2.out _)))))
        refine wpQuiet_nil ?_
        rintro _ ⟨⟨os, d⟩, rfl⟩
        simp only [exts]
        go_wp2
        go_ret
        exact ⟨by rw [HF.out]; rfl, Below.ext HLOW.out hsz _ _⟩
      · have hfin : cmpB a b = 1 := by rw [HT.out, HST.out, HCB.out, HXY.out.1, HXY.out.2, if_neg h, if_pos h']; rfl
        have HF := hid hfin
        have d1 : decide ((x : Int) < (y : Int)) = false := by simp; omega
        have d2 : decide ((y : Int) < (x : Int)) = true := by simp; exact h'
        clear hfin
        go_wp2_with fail
        refine wp_region_ext (by kernel_rfl) (by kernel_rfl) ?_
        repeat (go_big_quiet_step ((first | (go_at_call 31; with_reducible exact Calls.quiet_ext (C1.out _)) | (go_at_call 31; with_reducible exact Calls.quiet_ext (C2.out _)))))
        refine wpQuiet_nil ?_
        rintro _ ⟨⟨os, d⟩, rfl⟩
        simp only [exts]
        go_wp2_with fail
        refine wp_region_ext (by kernel_rfl) (by kernel_rfl) ?_
        repeat (go_big_quiet_step ((first | (go_at_call 31; with_reducible exact Calls.quiet_ext (C1.out _)) | (go_at_call 31; with_reducible exact Calls.quiet_ext (C2.out _)))))
        refine wpQuiet_nil ?_
        rintro _ ⟨⟨os, d⟩, rfl⟩
        simp only [exts]
        go_wp2
        go_ret
        exact ⟨by rw [HF.out]; rfl, by have := HLOW.out; (repeat' (first | (with_reducible exact Below.refl _ _) | (with_reducible assumption) | (with_reducible refine below_ext0 ?_ _ _) | (with_reducible refine below_alloc0 ?_ _) | (with_reducible refine Below.ext ?_ ?_ _ _) | (with_reducible refine Below.alloc ?_ ?_ _) | (with_reducible refine Below.setCell ?_ ?_ _) | (with_reducible refine Below.drew ?_) | (with_reducible refine below_draws ?_ _) | go_size | (simp [size_ext]; done) | (simp [size_ext]; omega)))⟩
      · have hfin : cmpB a b = lex cmpByte ((smallL a.data.toList).drop (k + 1)) ((smallL b.data.toList).drop (k + 1)) := by
          rw [HT.out, HST.out, if_pos (by rw [HCB.out, HXY.out.1, HXY.out.2, if_neg h, if_neg h'])]
        have HF := hid hfin
        have d1 : decide ((x : Int) < (y : Int)) = false := by simp; omega
        have d2 : decide ((y : Int) < (x : Int)) = false := by simp; omega
        clear hfin
        go_wp2_with fail
        refine wp_region_ext (by kernel_rfl) (by kernel_rfl) ?_
        repeat (go_big_quiet_step ((first | (go_at_call 31; with_reducible exact Calls.quiet_ext (C1.out _)) | (go_at_call 31; with_reducible exact Calls.quiet_ext (C2.out _)))))
        refine wpQuiet_nil ?_
        rintro _ ⟨⟨os, d⟩, rfl⟩
        simp only [exts]
        go_wp2_with fail
        refine wp_region_ext (by kernel_rfl) (by kernel_rfl) ?_
        repeat (go_big_quiet_step ((first | (go_at_call 31; with_reducible exact Calls.quiet_ext (C1.out _)) | (go_at_call 31; with_reducible exact Calls.quiet_ext (C2.out _)))))
        refine wpQuiet_nil ?_
        rintro _ ⟨⟨os, d⟩, rfl⟩
        simp only [exts]
        go_wp2
        go_roundg (a.size - (k + 1))
        case measure => omega
        case rel => exact ⟨k + 1, by omega, by omega, rfl, by go_num, by have := HLOW.out; (repeat' (first | (with_reducible exact Below.refl _ _) | (with_reducible assumption) | (with_reducible refine below_ext0 ?_ _ _) | (with_reducible refine below_alloc0 ?_ _) | (with_reducible refine Below.ext ?_ ?_ _ _) | (with_reducible refine Below.alloc ?_ ?_ _) | (with_reducible refine Below.setCell ?_ ?_ _) | (with_reducible refine Below.drew ?_) | (with_reducible refine below_draws ?_ _) | go_size | (simp [size_ext]; done) | (simp [size_ext]; omega))), HF.out⟩
    · have hfin : cmpB a b = if (a.size : Int) < (b.size : Int) then -1 else if (b.size : Int) < (a.size : Int) then 1 else 0 := by
        rw [HT.out, lex_byte_nil _ _ _ (by rw [H.out.1, H.out.2]; omega) (by rw [H.out.1]; exact hk) (by rw [H.out.2]; exact hk'), H.out.1, H.out.2]
        simp only [Int.ofNat_lt]
      have HF := hid hfin
      have CN := hid (numbers_any (a.size : Int) (b.size : Int))
      generalize (if (a.size : Int) < (b.size : Int) then (-1 : Int) else if (b.size : Int) < (a.size : Int) then 1 else 0) = r at *
      clear hfin
      have ways : (a.size : Int) ≤ (k : Int) ∨ ((k : Int) < (a.size : Int) ∧ (b.size : Int) ≤ (k : Int)) := by omega
      clear hlt
      rcases ways with h | ⟨h, h'⟩
      all_goals
        go_wp2_with (go_at_call 53; refine (CN.out _).mono ?_; rintro e w1 ⟨rfl, rfl⟩)
        go_ret
        exact ⟨by rw [HF.out]; rfl, HLOW.out⟩
end Go.Proofs.YtemgbfppdopfbaaDoor
