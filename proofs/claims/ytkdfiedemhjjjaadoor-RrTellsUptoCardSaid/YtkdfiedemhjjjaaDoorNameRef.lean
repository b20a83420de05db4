/- The document's answers of names: NameFault, Small, Folded, Numbers, Labels. -/
import Derived.Test.YtkdfiedemhjjjaaDoorOrder
import Derived.Test.YtkdfiedemhjjjaaDoorQuietExt
import Derived.Laws.BytesArg
namespace Go.Proofs.YtkdfiedemhjjjaaDoor
open Go.RowKit
set_option linter.unusedVariables false

set_option maxRecDepth 100000 in
set_option maxHeartbeats 1000000 in
theorem nfault_any (w : World) (A : Option Addr) (n c : Nat) (l : List ByteArray) (B : Nat) (h : Rd strR w B A n c l) :
    Calls Tryd.prog 41 #[.slice A n c] w fun e w' => e = .returned (.int .i64 (nameErr l)) ∧ w' = w := by
  have hm := h.max
  have hcap := h.cap
  unfold maxLen at hm
  have H := hid h
  clear h
  go_enter Tryd.func41, Tryd.ntmps41
  go_wp2
  go_loop [3, 4] (fun v3 v4 => ∃ (k : Nat) (s : Int), k ≤ n ∧ v4 = .int .i64 (k : Int) ∧ v3 = .int .i64 s ∧ s ≤ 400 ∧ 0 ≤ s ∧ (s ≤ 255 → s = (nsize (l.take k) : Int)) ∧ (255 < s → 255 < (nsize (l.take k) : Int)) ∧ (l.take k).all labelOk = true) (fun _ v => n - (intOf v).toNat)
  case atStart => exact ⟨0, 1, by omega, rfl, rfl, by omega, by omega, by simp [nsize], by omega, by simp⟩
  case round =>
    obtain ⟨k, s, hk, rfl, rfl, s1, s0, hs, hs', hall⟩ := hrel
    have HS := hid (And.intro hs hs')
    have HALL := hid hall
    clear hs hs' hall
    by_cases hlt : k < n
    · obtain ⟨b, off, rfl, _, hc, hsz⟩ := H.out.str k hlt
      have hkl : k < l.length := by rw [H.out.len]; exact hlt
      have htk : l.take (k + 1) = l.take k ++ [l[k]] := List.take_succ_eq_append_getElem hkl
      have HTK := hid htk
      obtain ⟨x, hx⟩ : ∃ x, l[k] = x := ⟨_, rfl⟩
      rw [hx] at hc hsz
      have HX := hid hx
      clear htk hx
      have hkz : (k : Int) < (n : Int) := by omega
      have ways : x.size < 1 ∨ (1 ≤ x.size ∧ 63 < x.size) ∨ (1 ≤ x.size ∧ x.size ≤ 63) := by omega
      rcases ways with hb | ⟨hb, hb'⟩ | ⟨hb, hb'⟩
      · have hr : nameErr l = 3 := by
          unfold nameErr
          rw [if_neg]
          intro h
          have := List.all_eq_true.1 h x (by rw [← HX.out]; exact List.getElem_mem _)
          unfold labelOk at this
          simp at this
          omega
        have HR := hid hr
        have hz : ((x.size : Int) == 0) = true := by rw [beq_iff_eq]; omega
        have hz' : (x.size == 0) = true := by rw [beq_iff_eq]; omega
        clear hr hb
        go_wp2
        go_ret
        exact ⟨by rw [HR.out]; rfl, rfl⟩
      · have hr : nameErr l = 3 := by
          unfold nameErr
          rw [if_neg]
          intro h
          have := List.all_eq_true.1 h x (by rw [← HX.out]; exact List.getElem_mem _)
          unfold labelOk at this
          simp at this
          omega
        have HR := hid hr
        have hz : ((x.size : Int) == 0) = false := by rw [beq_eq_false_iff_ne]; omega
        have hz' : (x.size == 0) = false := by rw [beq_eq_false_iff_ne]; omega
        clear hr
        go_wp2
        go_ret
        exact ⟨by rw [HR.out]; rfl, rfl⟩
      · have hall' : (l.take (k + 1)).all labelOk = true := by
          rw [HTK.out, List.all_append, HALL.out, HX.out]
          unfold labelOk
          simp [hb, hb']
        have hsn : nsize (l.take (k + 1)) = nsize (l.take k) + (x.size + 1) := by rw [HTK.out, nsize_snoc, HX.out]
        have HALL' := hid hall'
        have HSN := hid hsn
        have hz : ((x.size : Int) == 0) = false := by rw [beq_eq_false_iff_ne]; omega
        have hz' : (x.size == 0) = false := by rw [beq_eq_false_iff_ne]; omega
        clear hall' hsn
        by_cases hbig : s ≤ 255
        · go_wp2
          go_round
          case rel => exact ⟨k + 1, s + ((x.size : Int) + 1), by omega, by go_num, rfl, by omega, by omega, fun _ => by rw [HSN.out]; have := HS.out.1 hbig; omega, fun _ => by rw [HSN.out]; have := HS.out.1 hbig; omega, HALL'.out⟩
          case measure => simp [intOf]; omega
        · go_wp2
          go_round
          case rel => exact ⟨k + 1, s, by omega, by go_num, rfl, by omega, by omega, fun _ => by omega, fun _ => by rw [HSN.out]; have := HS.out.2 (by omega); omega, HALL'.out⟩
          case measure => simp [intOf]; omega
    · have hkn : l.take k = l := List.take_of_length_le (by rw [H.out.len]; omega)
      have hS := HS.out
      rw [hkn] at hS
      have hA : l.all labelOk = true := by have := HALL.out; rwa [hkn] at this
      by_cases hbig : 255 < s
      · have hr : nameErr l = 5 := by unfold nameErr; rw [if_pos hA, if_neg (by have := hS.2 hbig; omega)]
        have HR := hid hr
        clear hr hkn hS hA
        go_wp2
        go_ret
        exact ⟨by rw [HR.out]; rfl, rfl⟩
      · have hr : nameErr l = 0 := by unfold nameErr; rw [if_pos hA, if_pos (by have := hS.1 (by omega); omega)]
        have HR := hid hr
        clear hr hkn hS hA
        go_wp2
        go_ret
        exact ⟨by rw [HR.out]; rfl, rfl⟩

/-! Folded -/
/-- 'string(b)', b a row of the call's own -/
theorem conv_own {w : World} {base n : Nat} {v : Value} {l : List UInt8} (h : w.ownsRow base 5 1 v n (bytesV l)) : (convert 22 9 v).run Tryd.prog w = .ok (.string ⟨l.toArray⟩) w := by
  have hl : l.length = n := by have := h.1; simpa [bytesV] using this
  rcases h.2 with ⟨rfl, rfl⟩ | ⟨g, cap, cur, rfl, hb, hh, hnc, hcm, hcs, ht⟩
  · have : l = [] := List.eq_nil_of_length_eq_zero hl
    subst this
    exact run_convert_bytes_nil _ 22 5 Tryd.underlying22 Tryd.underlying5 0 0 9 Tryd.underlying9
  · have := run_convert_bytes_back w 22 9 5 ⟨g, 0, none⟩ cap l Tryd.underlying22 Tryd.underlying5 Tryd.underlying9 (by
      intro j hj
      have := h.cells (g := g) rfl j (.int .u8 (l[j].toNat : Int)) (by rw [bytesV, List.getElem?_map, List.getElem?_eq_getElem hj]; rfl)
      simpa using this)
    rwa [hl] at this

/-! Labels -/
theorem lex_byte_nil (a : List UInt8) (k : Nat) (b : List UInt8) (ha : a.length = k ∨ b.length = k) (hk : k ≤ a.length) (hk' : k ≤ b.length) : lex cmpByte (a.drop k) (b.drop k) = if a.length < b.length then -1 else if b.length < a.length then 1 else 0 := by
  rcases ha with h | h
  · rw [List.drop_eq_nil_of_le (by omega)]
    by_cases e : b.length = k
    · rw [List.drop_eq_nil_of_le (by omega), if_neg (by omega), if_neg (by omega)]; rfl
    · rw [List.drop_eq_getElem_cons (by omega), if_pos (by omega)]; rfl
  · rw [show b.drop k = [] from List.drop_eq_nil_of_le (by omega)]
    by_cases e : a.length = k
    · rw [List.drop_eq_nil_of_le (by omega), if_neg (by omega), if_neg (by omega)]; rfl
    · rw [List.drop_eq_getElem_cons (by omega), if_neg (by omega), if_pos (by omega)]; rfl
theorem cmpB_lex (a b : ByteArray) : cmpB a b = lex cmpByte (smallL a.data.toList) (smallL b.data.toList) := by unfold cmpB; exact compareBytes_lex _ _

theorem lex_step {x y : UInt8} {l m : List UInt8} {k : Nat} (hl : k < l.length) (hm : k < m.length) (hx : l[k] = x) (hy : m[k] = y) : lex cmpByte (l.drop k) (m.drop k) = if cmpByte x y = 0 then lex cmpByte (l.drop (k + 1)) (m.drop (k + 1)) else cmpByte x y := by
  rw [List.drop_eq_getElem_cons hl, List.drop_eq_getElem_cons hm, lex, hx, hy]

end Go.Proofs.YtkdfiedemhjjjaaDoor
