/- The document's text of a name: NameText. -/
import Derived.Test.YtbjjmikiefgnaaaDoorTextR
namespace Go.Proofs.YtbjjmikiefgnaaaDoor
open Go.RowKit
set_option linter.unusedVariables false
set_option linter.unusedSimpArgs false

theorem digit_l (P : Nat) (h : P ≤ 9) : ((⟨#[48, 49, 50, 51, 52, 53, 54, 55, 56, 57]⟩ : ByteArray).extract P (P + 1)).data.toList = [UInt8.ofNat (48 + P)] := by
  have h0 : P = 0 ∨ P = 1 ∨ P = 2 ∨ P = 3 ∨ P = 4 ∨ P = 5 ∨ P = 6 ∨ P = 7 ∨ P = 8 ∨ P = 9 := by omega
  rcases h0 with rfl | rfl | rfl | rfl | rfl | rfl | rfl | rfl | rfl | rfl <;> rfl
theorem app_l (a b : ByteArray) : (a ++ b).data.toList = a.data.toList ++ b.data.toList := by simp
theorem ext_one {s : ByteArray} {j : Nat} (h : j < s.size) : (s.extract j (j + 1)).data.toList = [s[j]] := by
  have h' : j < s.data.size := h
  simp [ByteArray.data_extract]
  apply List.ext_getElem
  · simp; omega
  · intro i hi hi'
    have : i = 0 := by simpa using hi'
    subst this
    simp
    rfl

set_option maxRecDepth 100000 in
set_option maxHeartbeats 8000000 in
theorem nametext_any {w : World} {A : Option Addr} {n c : Nat} {l : List ByteArray} (h : Rd strR w w.heap.size A n c l) (hn0 : n ≠ 0) (hn : n ≤ 255) (hs63 : ∀ s ∈ l, s.size ≤ 63) :
    Calls Tryd.prog 26 #[.slice A n c] w fun e w' => e = .returned (.string (textS l)) ∧ Below w.heap.size w w' := by
  have H := hid h
  have HL := hid h.len
  have HS := hid hs63
  have hn1 : ((n : Int) == 0) = false := by rw [beq_eq_false_iff_ne]; omega
  clear h hs63 hn0
  have tk0 : True := trivial; have tk1 : True := trivial; have tk2 : True := trivial; have tk3 : True := trivial; have tk4 : True := trivial; have tk5 : True := trivial; have tk6 : True := trivial; have tk7 : True := trivial; have tk8 : True := trivial; have tk9 : True := trivial; have tk10 : True := trivial; have tk11 : True := trivial; have tk12 : True := trivial
  go_enter Tryd.func26, Tryd.ntmps26
  go_wp2
  go_loopg [3, 4] n (fun gk v3 v4 wi => ∃ (k : Nat) (acc : ByteArray), k ≤ n ∧ gk = n - k ∧ v4 = .int .i64 (k : Int) ∧ v3 = .string acc ∧ acc.data.toList = accT l k ∧ Below w.heap.size w wi)
  case atStart => exact ⟨0, .empty, Nat.zero_le _, rfl, rfl, rfl, rfl, Below.refl _ _⟩
  case round =>
    obtain ⟨k, acc, hk, rfl, rfl, rfl, hacc, hlow⟩ := hrel
    have HLOW := hid hlow
    have HACC := hid hacc
    have zw := hlow.size
    have hal := accT_len HS.out k (by rw [HL.out]; exact hk)
    have hasz : acc.size ≤ 253 * k := by
      have h1 : acc.data.toList.length = acc.size := by rw [Array.length_toList]; rfl
      rw [hacc] at h1
      omega
    clear hlow hacc
    by_cases hlt : k < n
    · have g0 : (k : Int) < (n : Int) := by omega
      obtain ⟨b1, o1, rfl, lb1, cc1, z1⟩ := (H.out.below HLOW.out).str k hlt
      have hkl : k < l.length := by rw [HL.out]; exact hlt
      have hsm := HS.out (l[k]'hkl) (List.getElem_mem _)
      have HSU := hid (accT_succ hkl)
      obtain ⟨s, hs⟩ : ∃ s, l[k]'hkl = s := ⟨_, rfl⟩
      rw [hs] at cc1 hsm HSU
      have lb1' : b1 < wr.heap.size := by omega
      have hslen := hid (show s.data.toList.length = s.size by rw [Array.length_toList]; rfl)
      clear hs z1
      go_wp2
      obtain ⟨wo, hwo⟩ : ∃ wo, wr = wo := ⟨_, rfl⟩
      rw [hwo] at cc1 ⊢
      go_loopg [3, 5] s.size (fun gk v3 v5 wi => ∃ (j : Nat) (acc2 : ByteArray), j ≤ s.size ∧ gk = s.size - j ∧ v5 = .int .i64 (j : Int) ∧ v3 = .string acc2 ∧ acc2.data.toList = accT l k ++ (s.data.toList.take j).flatMap escB ∧ Below wo.heap.size wo wi)
      case atStart => exact ⟨0, acc, Nat.zero_le _, rfl, rfl, rfl, by rw [HACC.out]; simp, Below.refl _ _⟩
      case round =>
        obtain ⟨j, acc2, hj, rfl, rfl, rfl, hacc2, hlow2⟩ := hrel
        have HACC2 := hid hacc2
        have HLOW2 := hid hlow2
        have cc2 : wr.cell? ⟨b1, o1 + k, none⟩ = some (.string s) := (hlow2.cell (p := ⟨b1, o1 + k, none⟩) (by rw [← hwo]; exact lb1')).trans cc1
        have hel := escs_len (s.data.toList.take j)
        have htl : (s.data.toList.take j).length ≤ j := List.length_take_le _ _
        have hasz2 : acc2.size ≤ 253 * k + 4 * j := by
          have h1 : acc2.data.toList.length = acc2.size := by rw [Array.length_toList]; rfl
          rw [hacc2, List.length_append] at h1
          omega
        clear hacc2 hlow2 hel htl cc1
        by_cases hjlt : j < s.size
        · have g1 : (j : Int) < (s.size : Int) := by omega
          obtain ⟨x, hx⟩ : ∃ x, s[j] = x := ⟨_, rfl⟩
          have x0 : (0 : Int) ≤ (x.toNat : Int) := by omega
          have xlt := x.toNat_lt
          have x1 : (x.toNat : Int) ≤ 255 := by omega
          have HEX := hid (show (s.extract j (j + 1)).data.toList = [x] by rw [ext_one hjlt, hx])
          have HTK := hid (show (s.data.toList.take (j + 1)).flatMap escB = (s.data.toList.take j).flatMap escB ++ escB x by
            rw [List.take_succ_eq_append_getElem (by rw [hslen.out]; exact hjlt)]
            have : s.data.toList[j]'(by rw [hslen.out]; exact hjlt) = x := by rw [← hx]; rfl
            rw [this]; simp)
          by_cases hsp : x.toNat = 46 ∨ x.toNat = 92
          · have he := hid (show escB x = [92, x] by unfold escB; rw [if_pos hsp])
            have hx2 : ((x.toNat : Int) == 46) = true ∨ (((x.toNat : Int) == 46) = false ∧ ((x.toNat : Int) == 92) = true) := by
              rw [beq_eq_false_iff_ne, beq_iff_eq, beq_iff_eq]
              omega
            clear hsp
            rcases hx2 with y1 | ⟨y1, y2⟩
            all_goals
              go_wp2
              go_roundg (s.size - (j + 1))
              case measure => omega
              case rel => exact ⟨j + 1, _, by omega, rfl, by go_num, rfl, by rw [HTK.out, he.out, app_l, app_l, HEX.out, HACC2.out]; simp, HLOW2.out⟩
          · by_cases hnp : x.toNat < 33 ∨ 126 < x.toNat
            · have he := hid (show escB x = [92, UInt8.ofNat (48 + x.toNat / 100), UInt8.ofNat (48 + x.toNat / 10 % 10), UInt8.ofNat (48 + x.toNat % 10)] by unfold escB; rw [if_neg hsp, if_pos hnp])
              have y1 : ((x.toNat : Int) == 46) = false := by rw [beq_eq_false_iff_ne]; omega
              have y2 : ((x.toNat : Int) == 92) = false := by rw [beq_eq_false_iff_ne]; omega
              have hways : (x.toNat : Int) < 33 ∨ (¬ (x.toNat : Int) < 33 ∧ (126 : Int) < (x.toNat : Int)) := by omega
              obtain ⟨P, hP⟩ : ∃ P, x.toNat / 100 = P := ⟨_, rfl⟩
              obtain ⟨Q, hQ⟩ : ∃ Q, x.toNat / 10 % 10 = Q := ⟨_, rfl⟩
              obtain ⟨R, hR⟩ : ∃ R, x.toNat % 10 = R := ⟨_, rfl⟩
              rw [hP, hQ, hR] at he
              have i1 : (x.toNat : Int) / 100 = (P : Int) := by omega
              have i2 : (x.toNat : Int) / 10 % 10 = (Q : Int) := by omega
              have i3 : (x.toNat : Int) % 10 = (R : Int) := by omega
              have p2 : P ≤ 2 := by omega
              have q9 : Q ≤ 9 := by omega
              have r9 : R ≤ 9 := by omega
              clear hsp hnp hP hQ hR
              have g2 : (P : Int) + 1 ≤ 10 := by omega
              have g3 : (Q : Int) + 1 ≤ 10 := by omega
              have g4 : (R : Int) + 1 ≤ 10 := by omega
              have v1 : IntKind.i64.wrap ((P : Int) + 1) = (P : Int) + 1 := IntWalk.i64_in _ (by omega)
              have v2 : IntKind.i64.wrap ((Q : Int) + 1) = (Q : Int) + 1 := IntWalk.i64_in _ (by omega)
              have v3 : IntKind.i64.wrap ((R : Int) + 1) = (R : Int) + 1 := IntWalk.i64_in _ (by omega)
              rcases hways with y3 | ⟨y3, y4⟩
              all_goals
                go_wp2
                (try rw [i2]); (try rw [i3])
                refine wp_region_ext (by kernel_rfl) (by kernel_rfl) ?_
                repeat (go_big_quiet_step ((fail)))
                refine wpQuiet_nil ?_
                rintro _ ⟨⟨os, d⟩, rfl⟩
                simp only [exts]
                go_wp2
                go_roundg (s.size - (j + 1))
                case measure => omega
                case rel => exact ⟨j + 1, _, by omega, rfl, by go_num, rfl, by rw [HTK.out, he.out, app_l, app_l, app_l, app_l, digit_l P (by omega), digit_l Q q9, digit_l R r9, HACC2.out]; simp, by have := HLOW2.out; have := HLOW2.out.size; (repeat' (first | (with_reducible exact Below.refl _ _) | (with_reducible assumption) | (with_reducible refine below_ext0 ?_ _ _) | (with_reducible refine below_alloc0 ?_ _) | (with_reducible refine Below.ext ?_ ?_ _ _) | (with_reducible refine Below.alloc ?_ ?_ _) | (with_reducible refine Below.setCell ?_ ?_ _) | (with_reducible refine Below.drew ?_) | (with_reducible refine below_draws ?_ _) | go_size | (simp [size_ext]; done) | (simp [size_ext]; omega)))⟩
            · have y1 : ((x.toNat : Int) == 46) = false := by rw [beq_eq_false_iff_ne]; omega
              have y2 : ((x.toNat : Int) == 92) = false := by rw [beq_eq_false_iff_ne]; omega
              have y3 : ¬ (x.toNat : Int) < 33 := by omega
              have y4 : ¬ (126 : Int) < (x.toNat : Int) := by omega
              have he := hid (show escB x = [x] by unfold escB; rw [if_neg hsp, if_neg hnp])
              clear hsp hnp
              go_wp2
              go_roundg (s.size - (j + 1))
              case measure => omega
              case rel => exact ⟨j + 1, _, by omega, rfl, by go_num, rfl, by rw [HTK.out, he.out, app_l, HEX.out, HACC2.out, List.append_assoc], HLOW2.out⟩
        · obtain rfl : j = s.size := by omega
          have hfull : acc2.data.toList = accT l k ++ s.data.toList.flatMap escB := by
            rw [HACC2.out, List.take_of_length_le (by rw [hslen.out]; exact Nat.le_refl _)]
          have HF := hid hfull
          clear hfull
          go_wp2
          go_roundg (n - (k + 1))
          case measure => omega
          case rel => exact ⟨k + 1, _, by omega, rfl, by go_num, rfl, by rw [HSU.out, app_l, HF.out], by
            have h1 := HLOW.out
            have h2 := HLOW2.out
            subst hwo
            exact h1.trans (h2.mono zw)⟩
    · obtain rfl : k = n := by omega
      have hfin : acc = textS l := by
        have h1 : accT l k = textT (namL l) := by
          unfold accT textT
          have hne : namL l ≠ [] := by
            intro e
            have := congrArg List.length e
            simp only [namL, List.length_map, List.length_nil, HL.out] at this
            have := beq_eq_false_iff_ne.1 hn1
            omega
          rw [if_neg hne, List.take_of_length_le (by simp [namL, HL.out])]
        have h2 := HACC.out
        rw [h1] at h2
        unfold textS
        cases acc with
        | mk d => rw [← h2]
      have HF := hid hfin
      clear hfin
      go_wp2
      go_ret
      exact ⟨by rw [HF.out]; rfl, HLOW.out⟩
end Go.Proofs.YtbjjmikiefgnaaaDoor
