/- The document's name of a text: NameOf is the name that Read tells. -/
import Derived.Test.YtbjjmikiefgnaaaDoorTextB
import Derived.Test.YtbjjmikiefgnaaaDoorNameRef
namespace Go.Proofs.YtbjjmikiefgnaaaDoor
open Go.RowKit
set_option linter.unusedVariables false
set_option linter.unusedSimpArgs false

/-- what NameOf hands back -/
def NameO2 (w : World) (r : Option (List ByteArray)) (e : Ending) (w' : World) : Prop :=
  Below w.heap.size w w' ∧ ((r = none ∧ ∃ A n c, e = .returned (.tuple #[.slice A n c, .bool false])) ∨
      ∃ l n A c, r = some l ∧ l.length = n ∧ e = .returned (.tuple #[.slice A n c, .bool true]) ∧ Rd strR w' w'.heap.size A n c l)
theorem nameOf_dot (w : World) : Calls Tryd.prog 27 #[.string ⟨#[46]⟩] w fun e w' => e = .returned (.tuple #[.slice none 0 0, .bool true]) ∧ w' = w := by
  go_enter Tryd.func27, Tryd.ntmps27
  go_wp2
  go_ret2
  exact ⟨rfl, rfl⟩
set_option maxRecDepth 100000 in
set_option maxHeartbeats 8000000 in
theorem nameOf_main {w : World} (s : ByteArray) (hs : s.size ≤ 1048576) (hne : s.data.toList ≠ [46]) :
    Calls Tryd.prog 27 #[.string s] w (NameO2 w (readOk s)) := by
  have hslen := hid (show s.data.toList.length = s.size by rw [Array.length_toList]; rfl)
  have hdot : (s.toList == [46]) = false := by rw [ByteArray.toList_eq, beq_eq_false_iff_ne]; exact hne
  have HOF := hid fun r (h : OfT s.data.toList [] [] r) => of_read hne h
  have CB := hid fun (w' : World) (p : Nat) (hp : p < s.size) => byteOf_any (w := w') s p hp hs
  clear hne
  have tk0 : True := trivial; have tk1 : True := trivial; have tk2 : True := trivial; have tk3 : True := trivial; have tk4 : True := trivial; have tk5 : True := trivial; have tk6 : True := trivial; have tk7 : True := trivial; have tk8 : True := trivial; have tk9 : True := trivial; have tk10 : True := trivial; have tk11 : True := trivial; have tk12 : True := trivial
  go_enter Tryd.func27, Tryd.ntmps27
  go_wp2
  go_loopg [4, 5, 6] s.size (fun gk v2 v4 v5 wi => ∃ (i : Nat) (ns : List (List UInt8)) (lab : List UInt8) (A2 : Option Addr) (m2 c2 : Nat) (A4 : Option Addr) (m4 c4 : Nat), i ≤ s.size ∧ gk = s.size - i ∧ v5 = .int .i64 (i : Int) ∧ v2 = .slice A2 m2 c2 ∧ v4 = .slice A4 m4 c4 ∧ ns.length = m2 ∧ lab.length = m4 ∧ m2 ≤ i ∧ m4 ≤ i ∧ (∀ l ∈ ns, l.length ≤ s.size) ∧ Hid (∀ r, OfT (s.data.toList.drop i) lab ns r → OfT s.data.toList [] [] r) ∧ Two2 w (.slice A2 m2 c2) (.slice A4 m4 c4) ns lab wi)
  case atStart => exact ⟨0, [], [], none, 0, 0, none, 0, 0, Nat.zero_le _, rfl, rfl, rfl, rfl, rfl, rfl, Nat.le_refl _, Nat.le_refl _, by simp, hid (fun r h => h), World.ownsRow_nil _ _ _ _, World.ownsRow_nil _ _ _ _, fun _ => rfl, Below.refl _ _⟩
  case round =>
    obtain ⟨i, ns, lab, A2, m2, c2, A4, m4, c4, hi, rfl, rfl, rfl, rfl, nl, ll, nle, lle, hsz, hR, hT⟩ := hrel
    have HT := hid hT
    have HSZ := hid hsz
    have NL := hid nl
    have LL := hid ll
    have HR := hid hR.out
    have hww := hT.low.size
    clear hT hsz hR
    by_cases hlt : i < s.size
    · have g0 : (i : Int) < (s.size : Int) := by omega
      obtain ⟨x, hx⟩ : ∃ x, s[i] = x := ⟨_, rfl⟩
      have hd := drop_at s hlt
      rw [hx] at hd
      have HD := hid hd
      have xlt := x.toNat_lt
      have x0 : (0 : Int) ≤ (x.toNat : Int) := by omega
      have x1 : (x.toNat : Int) ≤ 255 := by omega
      clear hd
      have ab1 : (m4 + 1) * 1 ≤ 140737488355328 := by omega
      have ab2 : m4 + 1 ≤ maxLen := by unfold maxLen; omega
      have ab3 : (m2 + 1) * 16 ≤ 140737488355328 := by omega
      have ab4 : m2 + 1 ≤ maxLen := by unfold maxLen; omega
      by_cases hdt : x.toNat = 46
      · have y1 : ((x.toNat : Int) == 46) = true := by rw [beq_iff_eq]; omega
        have hst := hid (show ∀ r, OfT (s.data.toList.drop (i + 1)) [] (ns ++ [lab]) r → OfT s.data.toList [] [] r from fun r h => HR.out r (by rw [HD.out]; exact OfT.dot _ _ _ _ x hdt h))
        have hcv : (convert 24 9 (.slice A4 m4 c4)).run Tryd.prog wr = .ok (.string ⟨lab.toArray⟩) wr := by
          cases lab with
          | nil =>
            have e := HT.out.nil rfl
            rw [e]
            exact back_nil wr
          | cons a lab =>
            obtain ⟨A, cap, e, _, _, hA⟩ := own_slice HT.out.o4
            obtain ⟨g, rfl, _⟩ := hA (by simp)
            have ho := HT.out.o4
            rw [e] at ho ⊢
            exact back_of ho
        have hlab : ∀ l ∈ ns ++ [lab], l.length ≤ s.size := fun l hl => by
          rcases List.mem_append.1 hl with h | h
          · exact HSZ.out l h
          · simp at h; subst h; have := LL.out; omega
        have HLAB := hid hlab
        clear hdt hlab
        go_wp2_with (at_builtin; refine wpList_appT rfl _ _ 38 rfl w.heap.size 9 1 16 el_str (.slice A2 m2 c2) m2 _ rfl (by have := HT.out.o2; rw [NL.out] at this; exact this.alloc _) _ 1 1 [.string ⟨lab.toArray⟩] rfl (src_one _ rfl rfl) ab3 ab4 (by simp; omega) ?_; intro v2 w2 ho2 ha2; obtain ⟨A2', k2, rfl, _⟩ := own_slice ho2; have hT2 := (HT.out.later ((Below.refl _ wr).alloc (Nat.le_refl _) _)).close (by rw [NL.out]; exact ho2) ha2; have HT2 := hid hT2; clear ho2 ha2 hT2)
        go_roundg (s.size - (i + 1))
        case measure => omega
        case rel => exact ⟨i + 1, ns ++ [lab], [], _, _, _, _, _, _, by omega, rfl, by go_num, rfl, rfl, by simp [NL.out], rfl, by omega, by omega, HLAB.out, hst, HT2.out⟩
      · have y1 : ((x.toNat : Int) == 46) = false := by rw [beq_eq_false_iff_ne]; omega
        go_wp2_with fail
        refine (CB.out _ i hlt).mono ?_
        rintro e w1 ⟨hb1, (⟨rfl, hno⟩ | ⟨b, q, N, hq, hN, rfl⟩)⟩
        · have hfin := hid (show readOk s = none from by
            have := HOF.out _ (HR.out none (OfT.none _ _ _ hno (fun y q' e => by
              rw [HD.out] at e
              injection e with e1 e2
              rw [← e1]; exact hdt) (by rw [HD.out]; exact List.cons_ne_nil _ _)))
            exact this)
          have HB1 := hid (HT.out.low.trans (hb1.mono hww))
          clear hb1 hno hdt
          go_wp2
          go_ret2
          exact ⟨HB1.out, .inl ⟨hfin.out, _, _, _, rfl⟩⟩
        · have hz := escB_size b
          rw [hN] at hz
          have hq2 : s.data.toList.drop (i + N) = q := by rw [← List.drop_drop, hq, ← hN, List.drop_left]
          have hll : N ≤ s.size - i := by
            have := congrArg List.length hq
            rw [List.length_drop, hslen.out, List.length_append, hN] at this
            omega
          have hst := hid (show ∀ r, OfT (s.data.toList.drop (i + N)) (lab ++ [b]) ns r → OfT s.data.toList [] [] r from fun r h => HR.out r (by rw [hq]; rw [hq2] at h; exact OfT.byte b q lab ns r h))
          have HB1 := hid hb1
          have hz1 := hb1.size
          have blt := b.toNat_lt
          have b0 : (0 : Int) ≤ (b.toNat : Int) := by omega
          have b1 : (b.toNat : Int) ≤ 255 := by omega
          obtain ⟨z1, z2⟩ := hz
          have y2 : ¬ ((i + N : Nat) : Int) < 0 := by omega
          clear hb1 hq hN hq2 hdt
          go_wp2_with (at_builtin; refine wpList_appT rfl _ _ 24 rfl w.heap.size 5 1 1 el_u8 (.slice A4 m4 c4) m4 _ rfl (by have := (HT.out.later HB1.out).o4; rw [LL.out] at this; exact this.alloc _) _ 1 1 [.int .u8 (b.toNat : Int)] rfl (src_one _ rfl rfl) ab1 ab2 (by simp; omega) ?_; intro v4 w4 ho4 ha4; obtain ⟨A4', k4, rfl, _⟩ := own_slice ho4; have hT2 := ((HT.out.later HB1.out).later ((Below.refl _ w1).alloc (Nat.le_refl _) _)).push (by rw [LL.out]; exact ho4) ha4; have HT2 := hid hT2; clear ho4 ha4 hT2)
          go_roundg (s.size - (i + N))
          case measure => omega
          case rel => exact ⟨i + N, ns, lab ++ [b], _, _, _, _, _, _, by omega, rfl, by first | rfl | go_num, rfl, rfl, NL.out, by simp [LL.out], by omega, by omega, HSZ.out, hst, HT2.out⟩
    · obtain rfl : i = s.size := by omega
      have hd3 : s.data.toList.drop s.size = [] := List.drop_eq_nil_of_le (by rw [hslen.out]; exact Nat.le_refl _)
      have hst : readOk s = nameO (some (ns, lab)) := HOF.out _ (HR.out _ (by rw [hd3]; exact OfT.nil lab ns))
      have ho2 := HT.out.o2
      have hl2 : (mkL ns).length = m2 := by simp [mkL, NL.out]
      obtain ⟨A', c', e, hr⟩ := rd_of_own (R := strR) (l := mkL ns) (by rw [NL.out] at ho2; exact ho2) (by
        have := rels_str (w := wr) (B := w.heap.size) (l := mkL ns) (fun t ht => by
          obtain ⟨l, hl, rfl⟩ := List.mem_map.1 ht
          have h1 := HSZ.out l hl
          have h2 : (⟨l.toArray⟩ : ByteArray).size = l.length := by simp [ByteArray.size]
          omega)
        rw [show (ns.map fun l => Value.string ⟨l.toArray⟩) = strsV (mkL ns) by simp [strsV, mkL]]
        exact this) hl2 hww (by show m2 * 16 ≤ _; omega) (by decide)
      cases e
      have HRD := hid hr
      have hlo := HT.out.low
      have CN := hid (nfault_any wr A2 m2 c2 (mkL ns) _ hr)
      clear hr ho2 hd3
      cases lab with
      | nil =>
        have hm4 : m4 = 0 := LL.out.symm
        subst hm4
        cases hns : ns with
        | nil =>
          subst hns
          have hm2 : m2 = 0 := NL.out.symm
          subst hm2
          have hfin := hid (show readOk s = none from hst)
          clear hst hl2
          go_wp2
          go_ret2
          exact ⟨hlo, .inl ⟨hfin.out, _, _, _, rfl⟩⟩
        | cons a ns' =>
          have hm2 : (0 : Int) < (m2 : Int) := by have := NL.out; rw [hns] at this; simp at this; omega
          have hm3 : 0 < m2 := by omega
          have hne : ns ≠ [] := by rw [hns]; exact List.cons_ne_nil _ _
          have hst2 : readOk s = if nameErr (mkL ns) = 0 then some (mkL ns) else none := by
            rw [hst, show nameO (some (ns, [])) = if ns ≠ [] ∧ nameErr (mkL ns) = 0 then some (mkL ns) else none from rfl]
            by_cases h0 : nameErr (mkL ns) = 0
            · rw [if_pos h0, if_pos ⟨hne, h0⟩]
            · rw [if_neg h0, if_neg fun h => h0 h.2]
          have HL2 := hid hl2
          clear hst hns hl2
          obtain ⟨L, hL⟩ : ∃ L, mkL ns = L := ⟨_, rfl⟩
          rw [hL] at hst2 CN HRD HL2
          obtain ⟨E, hE⟩ : ∃ E, nameErr L = E := ⟨_, rfl⟩
          rw [hE] at hst2 CN
          by_cases h0 : E = 0
          · subst h0
            have hfin := hid (show readOk s = some L by rw [hst2, if_pos rfl])
            clear hst2 hL hE hne
            go_wp2_with (go_at_call 16; have _t := tk1; refine (CN.out).mono ?_; rintro e w1 ⟨rfl, hw⟩; subst w1; clear tk1)
            go_ret2
            exact ⟨hlo, .inr ⟨L, m2, A2, c2, hfin.out, HL2.out, by first | rfl | simp, HRD.out⟩⟩
          · have hfin := hid (show readOk s = none by rw [hst2, if_neg h0])
            have hEb : (E == 0) = false := beq_eq_false_iff_ne.2 h0
            clear hst2 hL hE hne h0
            go_wp2_with (go_at_call 16; have _t := tk1; refine (CN.out).mono ?_; rintro e w1 ⟨rfl, hw⟩; subst w1; clear tk1)
            go_ret2
            exact ⟨hlo, .inl ⟨hfin.out, _, _, _, rfl⟩⟩
      | cons a lab =>
        have hfin := hid (show readOk s = none from hst)
        have hm4 : ((m4 : Int) == 0) = false := by rw [beq_eq_false_iff_ne]; have := LL.out; simp at this; omega
        clear hst hl2
        go_wp2
        go_ret2
        exact ⟨hlo, .inl ⟨hfin.out, _, _, _, rfl⟩⟩
theorem nameOf_any {w : World} (s : ByteArray) (hs : s.size ≤ 1048576) : Calls Tryd.prog 27 #[.string s] w (NameO2 w (readOk s)) := by
  by_cases h : s.data.toList = [46]
  · have e : s = ⟨#[46]⟩ := by
      cases s with
      | mk d => rw [show d = #[46] from Array.toList_inj.1 h]
    subst e
    refine (nameOf_dot w).mono ?_
    rintro e w' ⟨rfl, rfl⟩
    exact ⟨Below.refl _ _, .inr ⟨[], 0, none, 0, dot_read, rfl, rfl, rd_nil _ _⟩⟩
  · exact nameOf_main s hs h
end Go.Proofs.YtbjjmikiefgnaaaDoor
