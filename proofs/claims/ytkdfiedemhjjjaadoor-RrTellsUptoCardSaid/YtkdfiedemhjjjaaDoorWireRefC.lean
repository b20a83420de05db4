/- The document's answers of names as they are sent: Start, Packed. -/
import Derived.Test.YtkdfiedemhjjjaaDoorWireRefB
namespace Go.Proofs.YtkdfiedemhjjjaaDoor
open Go.RowKit
set_option linter.unusedVariables false

set_option maxRecDepth 100000 in
set_option maxHeartbeats 4000000 in
theorem rstart_any (w : World) (A : Option Addr) (n c : Nat) (m : List UInt8) (hM : Rd u8R w w.heap.size A n c m) (A1 : Option Addr) (n1 c1 : Nat) (ss : List Int) (hS : Rd intR w w.heap.size A1 n1 c1 ss) (A2 : Option Addr) (n2 c2 : Nat) (l : List ByteArray) (hL : Rd strR w w.heap.size A2 n2 c2 l) :
    Calls Tryd.prog 70 #[.slice A n c, .slice A1 n1 c1, .slice A2 n2 c2] w fun e w' => e = .returned (.int .i64 (findS m l ss)) ∧ Below w.heap.size w w' := by
  have m1 := hS.max
  have k1 := hS.cap
  unfold maxLen at m1
  have HM := hid hM
  have HS := hid hS
  have HL := hid hL
  clear hM hS hL
  have tk0 : True := trivial; have tk1 : True := trivial; have tk2 : True := trivial; have tk3 : True := trivial; have tk4 : True := trivial; have tk5 : True := trivial; have tk6 : True := trivial; have tk7 : True := trivial; have tk8 : True := trivial; have tk9 : True := trivial; have tk10 : True := trivial; have tk11 : True := trivial; have tk12 : True := trivial
  go_enter Tryd.func70, Tryd.ntmps70
  go_wp2
  go_loopg [7] n1 (fun g v wi => ∃ k : Nat, k ≤ n1 ∧ g = n1 - k ∧ v = .int .i64 k ∧ Below w.heap.size w wi ∧ findS m l ss = findS m l (ss.drop k))
  case atStart => exact ⟨0, Nat.zero_le _, rfl, rfl, Below.refl _ _, rfl⟩
  case round =>
    obtain ⟨k, hk, rfl, rfl, hlow, ht⟩ := hrel
    have HT := hid ht
    have HLOW := hid hlow
    have hzw := hlow.size
    clear ht hlow
    by_cases hlt : k < n1
    · obtain ⟨b1, o1, rfl, hb1, hc0, z1, z2⟩ := HS.out.int k hlt
      have q1 : k < ss.length := by rw [HS.out.len]; exact hlt
      have st := findS_step (m := m) (n := l) q1
      obtain ⟨s, hs⟩ : ∃ s, ss[k] = s := ⟨_, rfl⟩
      rw [hs] at hc0 z1 z2
      rw [hs] at st
      have HST := hid st
      have hkz : (k : Int) < (n1 : Int) := by omega
      have hc1 := (HLOW.out.cell (p := ⟨b1, o1 + k, none⟩) hb1).trans hc0
      have HC0 := hid hc0
      have hb1r : b1 < wr.heap.size := by omega
      clear st hs hc0
      by_cases hbig : 16383 < s
      · go_wp2
        go_roundg (n1 - (k + 1))
        case measure => omega
        case rel => exact ⟨k + 1, by omega, rfl, by go_num, HLOW.out, by rw [HT.out, HST.out, if_neg (fun h => by have := h.1; omega)]⟩
      · have hbig' : s ≤ 16383 := by omega
        have CN := nameAt_any wr A n c m (HM.out.keep hzw (fun p hp => HLOW.out.cell hp)) s z2
        by_cases hf : (rdN m s).1 = 0
        · have CN' : Calls Tryd.prog 34 #[.slice A n c, .int .i64 s] wr fun e w2 => ∃ A' c', e = .returned (.agg #[.slice A' (rdN m s).2.1.length c', .int .i64 (rdN m s).2.2, .int .i64 0]) ∧ Rd strR w2 w2.heap.size A' (rdN m s).2.1.length c' (rdN m s).2.1 ∧ Below wr.heap.size wr w2 := by
            refine CN.mono ?_
            rintro e w2 ⟨hb2, A', c', he, hrd⟩
            rw [hf] at he
            exact ⟨A', c', he, hrd, hb2⟩
          have C1 := hid CN'
          have CE := hid fun w1 (hb : Below wr.heap.size wr w1) A' c' (hr : Rd strR w1 w1.heap.size A' (rdN m s).2.1.length c' (rdN m s).2.1) => rtexts_any w1 A' _ c' _ _ hr A2 n2 c2 l _ (HL.out.below (HLOW.out.trans (hb.mono hzw)))
          clear CN CN'
          by_cases he : (rdN m s).2.1 = l
          · have hd : decide ((rdN m s).2.1 = l) = true := decide_eq_true he
            have HD := hid hd
            have hfin : findS m l ss = s := by rw [HT.out, HST.out, if_pos ⟨hbig', hf, he⟩]
            have HF := hid hfin
            clear hfin he hd
            go_wp2_with (first
              | (go_at_call 34; (with_reducible refine C1.out.mono ?_); rintro e w1 ⟨A', c', rfl, hr, hb⟩; obtain ⟨oo, dd, rfl⟩ := ext_of_below hb; have HR1 := hid hr; clear hr hb)
              | (go_at_call 85; (with_reducible refine (CE.out _ (by (repeat' (first | (with_reducible exact Below.refl _ _) | (with_reducible assumption) | (with_reducible refine below_ext0 ?_ _ _) | (with_reducible refine below_alloc0 ?_ _) | (with_reducible refine Below.ext ?_ ?_ _ _) | (with_reducible refine Below.alloc ?_ ?_ _) | (with_reducible refine Below.setCell ?_ ?_ _) | (with_reducible refine Below.drew ?_) | (with_reducible refine below_draws ?_ _) | go_size | (simp [size_ext]; done) | (simp [size_ext]; omega)))) _ _ (HR1.out.later (by (repeat' (first | (with_reducible exact Below.refl _ _) | (with_reducible assumption) | (with_reducible refine below_ext0 ?_ _ _) | (with_reducible refine below_alloc0 ?_ _) | (with_reducible refine Below.ext ?_ ?_ _ _) | (with_reducible refine Below.alloc ?_ ?_ _) | (with_reducible refine Below.setCell ?_ ?_ _) | (with_reducible refine Below.drew ?_) | (with_reducible refine below_draws ?_ _) | go_size | (simp [size_ext]; done) | (simp [size_ext]; omega)))))).mono ?_); rw [HD.out]; rintro e w2 ⟨rfl, hb2⟩; obtain ⟨oo2, dd2, rfl⟩ := ext_of_below hb2; clear hb2))
            go_ret
            exact ⟨by rw [HF.out]; rfl, HLOW.out.trans ((show Below wr.heap.size wr _ by (repeat' (first | (with_reducible exact Below.refl _ _) | (with_reducible assumption) | (with_reducible refine below_ext0 ?_ _ _) | (with_reducible refine below_alloc0 ?_ _) | (with_reducible refine Below.ext ?_ ?_ _ _) | (with_reducible refine Below.alloc ?_ ?_ _) | (with_reducible refine Below.setCell ?_ ?_ _) | (with_reducible refine Below.drew ?_) | (with_reducible refine below_draws ?_ _) | go_size | (simp [size_ext]; done) | (simp [size_ext]; omega)))).mono hzw)⟩
          · have hd : decide ((rdN m s).2.1 = l) = false := decide_eq_false he
            have HD := hid hd
            have hfin : findS m l ss = findS m l (ss.drop (k + 1)) := by rw [HT.out, HST.out, if_neg fun h => he h.2.2]
            have HF := hid hfin
            clear hfin he hd
            go_wp2_with (first
              | (go_at_call 34; (with_reducible refine C1.out.mono ?_); rintro e w1 ⟨A', c', rfl, hr, hb⟩; obtain ⟨oo, dd, rfl⟩ := ext_of_below hb; have HR1 := hid hr; clear hr hb)
              | (go_at_call 85; (with_reducible refine (CE.out _ (by (repeat' (first | (with_reducible exact Below.refl _ _) | (with_reducible assumption) | (with_reducible refine below_ext0 ?_ _ _) | (with_reducible refine below_alloc0 ?_ _) | (with_reducible refine Below.ext ?_ ?_ _ _) | (with_reducible refine Below.alloc ?_ ?_ _) | (with_reducible refine Below.setCell ?_ ?_ _) | (with_reducible refine Below.drew ?_) | (with_reducible refine below_draws ?_ _) | go_size | (simp [size_ext]; done) | (simp [size_ext]; omega)))) _ _ (HR1.out.later (by (repeat' (first | (with_reducible exact Below.refl _ _) | (with_reducible assumption) | (with_reducible refine below_ext0 ?_ _ _) | (with_reducible refine below_alloc0 ?_ _) | (with_reducible refine Below.ext ?_ ?_ _ _) | (with_reducible refine Below.alloc ?_ ?_ _) | (with_reducible refine Below.setCell ?_ ?_ _) | (with_reducible refine Below.drew ?_) | (with_reducible refine below_draws ?_ _) | go_size | (simp [size_ext]; done) | (simp [size_ext]; omega)))))).mono ?_); rw [HD.out]; rintro e w2 ⟨rfl, hb2⟩; obtain ⟨oo2, dd2, rfl⟩ := ext_of_below hb2; clear hb2))
            go_roundg (n1 - (k + 1))
            case measure => omega
            case rel => exact ⟨k + 1, by omega, rfl, by go_num, HLOW.out.trans ((show Below wr.heap.size wr _ by (repeat' (first | (with_reducible exact Below.refl _ _) | (with_reducible assumption) | (with_reducible refine below_ext0 ?_ _ _) | (with_reducible refine below_alloc0 ?_ _) | (with_reducible refine Below.ext ?_ ?_ _ _) | (with_reducible refine Below.alloc ?_ ?_ _) | (with_reducible refine Below.setCell ?_ ?_ _) | (with_reducible refine Below.drew ?_) | (with_reducible refine below_draws ?_ _) | go_size | (simp [size_ext]; done) | (simp [size_ext]; omega)))).mono hzw), HF.out⟩
        · have hfin : findS m l ss = findS m l (ss.drop (k + 1)) := by rw [HT.out, HST.out, if_neg fun h => hf h.2.1]
          have HF := hid hfin
          obtain ⟨e0, he0⟩ : ∃ e0, (rdN m s).1 = e0 := ⟨_, rfl⟩
          have hne : (e0 == 0) = false := by rw [beq_eq_false_iff_ne, ← he0]; exact hf
          have CN' : Calls Tryd.prog 34 #[.slice A n c, .int .i64 s] wr fun e w2 => ∃ A' c', e = .returned (.agg #[.slice A' (rdN m s).2.1.length c', .int .i64 (rdN m s).2.2, .int .i64 e0]) ∧ Below wr.heap.size wr w2 := by
            refine CN.mono ?_
            rintro e w2 ⟨hb2, A', c', he, hrd⟩
            rw [he0] at he
            exact ⟨A', c', he, hb2⟩
          have C1 := hid CN'
          clear hfin CN CN' he0 hf
          go_wp2_with (go_at_call 34; (with_reducible refine C1.out.mono ?_); rintro e w1 ⟨A', c', rfl, hb⟩; obtain ⟨oo, dd, rfl⟩ := ext_of_below hb; clear hb)
          go_roundg (n1 - (k + 1))
          case measure => omega
          case rel => exact ⟨k + 1, by omega, rfl, by go_num, HLOW.out.trans ((show Below wr.heap.size wr _ by (repeat' (first | (with_reducible exact Below.refl _ _) | (with_reducible assumption) | (with_reducible refine below_ext0 ?_ _ _) | (with_reducible refine below_alloc0 ?_ _) | (with_reducible refine Below.ext ?_ ?_ _ _) | (with_reducible refine Below.alloc ?_ ?_ _) | (with_reducible refine Below.setCell ?_ ?_ _) | (with_reducible refine Below.drew ?_) | (with_reducible refine below_draws ?_ _) | go_size | (simp [size_ext]; done) | (simp [size_ext]; omega)))).mono hzw), HF.out⟩
    · have hfin : findS m l ss = -1 := by
        rw [HT.out, List.drop_eq_nil_of_le (by rw [HS.out.len]; omega)]; rfl
      have HF := hid hfin
      clear hfin
      go_wp2
      go_ret
      exact ⟨by rw [HF.out]; rfl, HLOW.out⟩
end Go.Proofs.YtkdfiedemhjjjaaDoor
