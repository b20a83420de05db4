/- The document's answers on letters: Letter, Greats. -/
import Derived.Test.YtemgbfppdopfbaaDoorCapsF
import Derived.Test.YtemgbfppdopfbaaDoorCapsG
import Derived.Test.YtemgbfppdopfbaaDoorNameRef
import Derived.Test.YtemgbfppdopfbaaDoorOwnRow
namespace Go.Proofs.YtemgbfppdopfbaaDoor
open Go.RowKit
set_option linter.unusedVariables false
set_option linter.unusedSimpArgs false
namespace capsTells
theorem wpList_ownX {α : Type} {P : Program} {R : Rep α} {e t : TypeId} {bytes B base : Nat} {v : Value} {l m : List α} {w : World} {ops : Array Oper} {rest : List Oper} {o : Oper} {a : Act} {Q : Exit → Act → World → Prop} (E : El P t e R.k bytes) (hgd : o.guard = none) (s x : Operand) (hop : o.op = .call { callee := .builtin .append, args := #[s, x], argTypes := #[t, t] })
    (hs : a.eval s = v) (hv : OwnR R e B base w v l) {A : Option Addr} {n c : Nat} (hx : a.eval x = .slice A n c) (hm : SrcR R B w A n c m) (hbytes : (l.length + n) * bytes ≤ 140737488355328) (h63 : l.length + n ≤ maxLen)
    (h : ∀ v' w', OwnR R e B base w' v' (l ++ m) → Below base w w' → AppTo w w' v v' → wpList P ops Q rest (a.put o.dst v') w') : wpList P ops Q (o :: rest) a w := by
  obtain ⟨⟨xs, h1, h2⟩, h0, h3⟩ := hv
  obtain ⟨⟨ys, h4, h5⟩, rfl⟩ := hm
  exact wpList_appT hgd s x t hop base e R.k bytes E v l.length xs hs h1 A _ c ys hx h4 hbytes h63 h3 fun v' w' ho ha => h v' w' (OwnR.app h2 h1 h0 h3 h5 ho ha) (ha.below h1 h3) ha
def kindL (b : UInt8) : Int := if letterB b then (if greatB b then 1 else 2) else 0
theorem letter_num (b : UInt8) : (letterB b = decide ((65 ≤ b.toNat ∧ b.toNat ≤ 90) ∨ (97 ≤ b.toNat ∧ b.toNat ≤ 122))) := by
  refine byte_all (P := fun b => letterB b = decide ((65 ≤ b.toNat ∧ b.toNat ≤ 90) ∨ (97 ≤ b.toNat ∧ b.toNat ≤ 122))) ?_ b
  decide +kernel
theorem kind_num (b : UInt8) : kindL b = if 65 ≤ b.toNat ∧ b.toNat ≤ 90 then 1 else if 97 ≤ b.toNat ∧ b.toNat ≤ 122 then 2 else 0 := by
  unfold kindL greatB
  rw [letter_num]
  by_cases h1 : 65 ≤ b.toNat ∧ b.toNat ≤ 90
  · rw [if_pos h1, if_pos (by simp [h1]), if_pos (by simp; omega)]
  · rw [if_neg h1]
    by_cases h2 : 97 ≤ b.toNat ∧ b.toNat ≤ 122
    · rw [if_pos h2, if_pos (by simp [h2]), if_neg (by simp; omega)]
    · rw [if_neg h2, if_neg (by simp; omega)]
theorem letter_ref (b : UInt8) (w : World) : Calls Tryd.prog 29 #[.int .u8 (b.toNat : Int)] w fun e w' => e = .returned (.int .i64 (kindL b)) ∧ w' = w := by
  have hb := b.toNat_lt
  rw [kind_num]
  generalize b.toNat = x at *
  have hx : (x : Int) ≤ 255 := by omega
  have ways : (x < 65) ∨ (65 ≤ x ∧ x ≤ 90) ∨ (90 < x ∧ x < 97) ∨ (97 ≤ x ∧ x ≤ 122) ∨ 122 < x := by omega
  rcases ways with h | ⟨h, h'⟩ | ⟨h, h'⟩ | ⟨h, h'⟩ | h
  · rw [if_neg (by omega), if_neg (by omega)]
    go_enter Tryd.func29, Tryd.ntmps29
    go_wp2
    go_ret
    exact ⟨rfl, rfl⟩
  · rw [if_pos ⟨h, h'⟩]
    go_enter Tryd.func29, Tryd.ntmps29
    go_wp2
    go_ret
    exact ⟨rfl, rfl⟩
  · rw [if_neg (by omega), if_neg (by omega)]
    go_enter Tryd.func29, Tryd.ntmps29
    go_wp2
    go_ret
    exact ⟨rfl, rfl⟩
  · rw [if_neg (by omega), if_pos ⟨h, h'⟩]
    go_enter Tryd.func29, Tryd.ntmps29
    go_wp2
    go_ret
    exact ⟨rfl, rfl⟩
  · rw [if_neg (by omega), if_neg (by omega)]
    go_enter Tryd.func29, Tryd.ntmps29
    go_wp2
    go_ret
    exact ⟨rfl, rfl⟩
theorem bits_take {ns : List ByteArray} {s : ByteArray} {i : Nat} (hi : i < ns.length) (hs : ns[i] = s) : bitsN ((ns.take (i + 1)).map bytesOf) = bitsN ((ns.take i).map bytesOf) ++ bitsB (bytesOf s) := by
  rw [List.take_succ_eq_append_getElem hi, List.map_append, hs]
  unfold bitsN
  rw [List.flatMap_append]
  simp
theorem bits_len {ns : List ByteArray} {s : ByteArray} {i : Nat} (hi : i < ns.length) (hs : ns[i] = s) (j : Nat) : (bitsN ((ns.take i).map bytesOf) ++ bitsB ((bytesOf s).take j)).length ≤ lsum ns := by
  have h1 : bitsN (ns.map bytesOf) = bitsN ((ns.take (i + 1)).map bytesOf) ++ bitsN ((ns.drop (i + 1)).map bytesOf) := by
    unfold bitsN
    rw [← List.flatMap_append, ← List.map_append, List.take_append_drop]
  have h2 : bitsB (bytesOf s) = bitsB ((bytesOf s).take j) ++ bitsB ((bytesOf s).drop j) := by
    unfold bitsB
    rw [← List.map_append, ← List.filter_append, List.take_append_drop]
  have h3 := posN_lsum ns
  have h4 := posN_len ns
  rw [h1, bits_take hi hs, h2] at h4
  simp only [List.length_append] at h4 ⊢
  omega
theorem bits_yes {s : ByteArray} {j : Nat} (hj : j < s.size) {x : UInt8} (hx : s[j] = x) (hl : letterB x = true) : bitsB ((bytesOf s).take (j + 1)) = bitsB ((bytesOf s).take j) ++ [greatB x] := by
  have hjl : j < (bytesOf s).length := by rw [bytesOf_len]; exact hj
  have hg := bytesOf_get s j hj
  rw [List.getD_eq_getElem?_getD, List.getElem?_eq_getElem hjl, Option.getD_some] at hg
  rw [List.take_succ_eq_append_getElem hjl, bitsB_snoc, bitsB_one, hg, hx, if_pos hl]
theorem bits_no {s : ByteArray} {j : Nat} (hj : j < s.size) {x : UInt8} (hx : s[j] = x) (hl : letterB x = false) : bitsB ((bytesOf s).take (j + 1)) = bitsB ((bytesOf s).take j) := by
  have hjl : j < (bytesOf s).length := by rw [bytesOf_len]; exact hj
  have hg := bytesOf_get s j hj
  rw [List.getD_eq_getElem?_getD, List.getElem?_eq_getElem hjl, Option.getD_some] at hg
  rw [List.take_succ_eq_append_getElem hjl, bitsB_snoc, bitsB_one, hg, hx, if_neg (by rw [hl]; simp), List.append_nil]

set_option maxRecDepth 100000 in
set_option maxHeartbeats 4000000 in
theorem greats_ref (w : World) (A : Option Addr) (n c : Nat) (ns : List ByteArray) (hR : Rd strR w w.heap.size A n c ns) (hz : lsum ns ≤ 1048576) :
    Calls Tryd.prog 6 #[.slice A n c] w fun e w' => ∃ A' c', e = .returned (.slice A' (posN ns n).length c') ∧ Rd boolR w' w'.heap.size A' (posN ns n).length c' (bitsN (ns.map bytesOf)) ∧ Below w.heap.size w w' := by
  have hm := hR.max
  have hcap := hR.cap
  unfold maxLen at hm
  have HL := hid hR.len
  have HR := hid hR
  have HN := hid (show (bitsN (ns.map bytesOf)).length = (posN ns n).length from by rw [← HL.out]; exact (posN_len ns).symm)
  have hlim : (posN ns n).length ≤ 1048576 := by have := posN_lsum ns; rw [HL.out] at this; omega
  obtain ⟨N, hNN⟩ : ∃ N, (posN ns n).length = N := ⟨_, rfl⟩
  rw [hNN] at hlim HN ⊢
  have HZ := hid hz
  clear hR hNN hz
  have tk0 : True := trivial; have tk1 : True := trivial; have tk2 : True := trivial; have tk3 : True := trivial; have tk4 : True := trivial; have tk5 : True := trivial; have tk6 : True := trivial; have tk7 : True := trivial; have tk8 : True := trivial; have tk9 : True := trivial; have tk10 : True := trivial; have tk11 : True := trivial; have tk12 : True := trivial
  go_enter Tryd.func6, Tryd.ntmps6
  go_wp2
  go_loopg [3, 4] n (fun gk v3 v4 wi => ∃ (i : Nat) (rs : List Bool), i ≤ n ∧ gk = n - i ∧ v4 = .int .i64 (i : Int) ∧ Hid (rs = bitsN ((ns.take i).map bytesOf)) ∧ OwnR boolR 4 w.heap.size w.heap.size wi v3 rs ∧ Below w.heap.size w wi)
  case atStart => exact ⟨0, [], Nat.zero_le _, rfl, rfl, hid rfl, OwnR.nil (Nat.le_refl _) (Nat.le_refl _), Below.refl _ _⟩
  case round =>
    obtain ⟨i, rs, hi, rfl, rfl, hrs, hO, hlow⟩ := hrel
    have HO := hid hO
    have HLOW := hid hlow
    have hzw := hlow.size
    clear hO hlow
    by_cases hlt : i < n
    · obtain ⟨b, off, rfl, hb, hc, hsz⟩ := (HR.out.below HLOW.out).str i hlt
      have hil : i < ns.length := by rw [HL.out]; exact hlt
      obtain ⟨s, hs⟩ : ∃ s, ns[i] = s := ⟨_, rfl⟩
      rw [hs] at hc hsz
      have HS := hid hs
      have t0 : (i : Int) < (n : Int) := by omega
      clear hs
      go_wp2
      go_loopg [3, 5] s.size (fun gk v3 v5 wi => ∃ (j : Nat) (rs' : List Bool), j ≤ s.size ∧ gk = s.size - j ∧ v5 = .int .i64 (j : Int) ∧ Hid (rs' = rs ++ bitsB ((bytesOf s).take j)) ∧ OwnR boolR 4 w.heap.size w.heap.size wi v3 rs' ∧ Below w.heap.size w wi)
      case atStart => exact ⟨0, rs, Nat.zero_le _, rfl, rfl, hid (by simp [bitsB]), HO.out, HLOW.out⟩
      case round =>
        obtain ⟨j, rs', hj, rfl, rfl, hrs', hO2, hlow2⟩ := hrel
        have HO2 := hid hO2
        have HLOW2 := hid hlow2
        have hzw2 := hlow2.size
        have hc2 := (HR.out.below HLOW2.out).str i hlt
        obtain ⟨b', off', hA', hb', hcc, _⟩ := hc2
        cases hA'
        rw [HS.out] at hcc
        have bwr : b < wr.heap.size := by omega
        clear hO2 hlow2
        by_cases hjt : j < s.size
        · obtain ⟨x, hx⟩ : ∃ x, s[j] = x := ⟨_, rfl⟩
          have CL := hid (letter_ref x)
          have t1 : (j : Int) < (s.size : Int) := by omega
          have hbl := bits_len hil HS.out j
          rw [← hrs.out, ← hrs'.out] at hbl
          have ab1 : (rs'.length + 1) * 1 ≤ 140737488355328 := by have := HZ.out; omega
          have ab2 : rs'.length + 1 ≤ maxLen := by have := HZ.out; unfold maxLen; omega
          cases hlx : letterB x with
          | false =>
            have HN2 := hid (show rs' = rs ++ bitsB ((bytesOf s).take (j + 1)) by rw [bits_no hjt hx hlx]; exact hrs'.out)
            have hk : kindL x = 0 := by unfold kindL; rw [hlx]; rfl
            rw [hk] at CL
            clear hlx hbl hk
            go_wp2_with (go_at_call 29; have _t := tk0; (with_reducible refine (CL.out _).mono ?_); rintro e w1 ⟨rfl, hw⟩; subst w1; clear tk0)
            go_roundg (s.size - (j + 1))
            case measure => omega
            case rel => exact ⟨j + 1, rs', by omega, rfl, by go_num, HN2, HO2.out, HLOW2.out⟩
          | true =>
            have HN2 := hid (show rs' ++ [greatB x] = rs ++ bitsB ((bytesOf s).take (j + 1)) by rw [bits_yes hjt hx hlx, hrs'.out, List.append_assoc])
            cases hgx : greatB x with
            | true =>
              have hk : kindL x = 1 := by unfold kindL; rw [hlx, hgx]; rfl
              rw [hk] at CL
              rw [hgx] at HN2
              clear hlx hbl hk hgx
              go_wp2_with (first
                | (go_at_call 29; (with_reducible refine (CL.out _).mono ?_); rintro e w1 ⟨rfl, hw⟩; subst w1)
                | (at_builtin; have _t := tk4; refine wpList_ownX (R := boolR) (B := w.heap.size) (base := w.heap.size) (A := some ⟨wr.heap.size, 0, none⟩) (n := 1) (c := 1) (m := [true]) el_bool rfl (.tmp 29) (.tmp 38) rfl rfl (HO2.out.below (by (repeat' (first | (with_reducible exact Below.refl _ _) | (with_reducible assumption) | (with_reducible refine below_ext0 ?_ _ _) | (with_reducible refine below_alloc0 ?_ _) | (with_reducible refine Below.ext ?_ ?_ _ _) | (with_reducible refine Below.alloc ?_ ?_ _) | (with_reducible refine Below.setCell ?_ ?_ _) | (with_reducible refine Below.drew ?_) | (with_reducible refine below_draws ?_ _) | go_size | (simp [size_ext]; done) | (simp [size_ext]; omega))))) rfl (SrcR.lit (ty := 4) (cs := #[.bool true]) (by ((repeat' (first | (with_reducible assumption) | (with_reducible refine Blk.drew ?_) | exact Blk.new' _ _ (by first | rfl | (simp [size_ext]; done) | (simp [size_ext]; omega)) | (with_reducible refine Blk.ext ?_ _ _) | (with_reducible refine Blk.alloc ?_ _))); (all_goals fail))) rfl (by simp [Value.oneCell'])) ab1 ab2 ?_; intro v9 w9 ho9 hb9 ha9; have HO9 := hid ho9; have HB9 := hid (HLOW2.out.trans ((show Below w.heap.size wr _ from (by (repeat' (first | (with_reducible exact Below.refl _ _) | (with_reducible assumption) | (with_reducible refine below_ext0 ?_ _ _) | (with_reducible refine below_alloc0 ?_ _) | (with_reducible refine Below.ext ?_ ?_ _ _) | (with_reducible refine Below.alloc ?_ ?_ _) | (with_reducible refine Below.setCell ?_ ?_ _) | (with_reducible refine Below.drew ?_) | (with_reducible refine below_draws ?_ _) | go_size | (simp [size_ext]; done) | (simp [size_ext]; omega))))).trans hb9)); clear ho9 hb9 ha9 tk4))
              go_roundg (s.size - (j + 1))
              case measure => omega
              case rel => exact ⟨j + 1, _, by omega, rfl, by go_num, HN2, HO9.out, HB9.out⟩
            | false =>
              have hk : kindL x = 2 := by unfold kindL; rw [hlx, hgx]; rfl
              rw [hk] at CL
              rw [hgx] at HN2
              clear hlx hbl hk hgx
              go_wp2_with (first
                | (go_at_call 29; (with_reducible refine (CL.out _).mono ?_); rintro e w1 ⟨rfl, hw⟩; subst w1)
                | (at_builtin; have _t := tk4; refine wpList_ownX (R := boolR) (B := w.heap.size) (base := w.heap.size) (A := some ⟨wr.heap.size, 0, none⟩) (n := 1) (c := 1) (m := [false]) el_bool rfl (.tmp 29) (.tmp 38) rfl rfl (HO2.out.below (by (repeat' (first | (with_reducible exact Below.refl _ _) | (with_reducible assumption) | (with_reducible refine below_ext0 ?_ _ _) | (with_reducible refine below_alloc0 ?_ _) | (with_reducible refine Below.ext ?_ ?_ _ _) | (with_reducible refine Below.alloc ?_ ?_ _) | (with_reducible refine Below.setCell ?_ ?_ _) | (with_reducible refine Below.drew ?_) | (with_reducible refine below_draws ?_ _) | go_size | (simp [size_ext]; done) | (simp [size_ext]; omega))))) rfl (SrcR.lit (ty := 4) (cs := #[.bool false]) (by ((repeat' (first | (with_reducible assumption) | (with_reducible refine Blk.drew ?_) | exact Blk.new' _ _ (by first | rfl | (simp [size_ext]; done) | (simp [size_ext]; omega)) | (with_reducible refine Blk.ext ?_ _ _) | (with_reducible refine Blk.alloc ?_ _))); (all_goals fail))) rfl (by simp [Value.oneCell'])) ab1 ab2 ?_; intro v9 w9 ho9 hb9 ha9; have HO9 := hid ho9; have HB9 := hid (HLOW2.out.trans ((show Below w.heap.size wr _ from (by (repeat' (first | (with_reducible exact Below.refl _ _) | (with_reducible assumption) | (with_reducible refine below_ext0 ?_ _ _) | (with_reducible refine below_alloc0 ?_ _) | (with_reducible refine Below.ext ?_ ?_ _ _) | (with_reducible refine Below.alloc ?_ ?_ _) | (with_reducible refine Below.setCell ?_ ?_ _) | (with_reducible refine Below.drew ?_) | (with_reducible refine below_draws ?_ _) | go_size | (simp [size_ext]; done) | (simp [size_ext]; omega))))).trans hb9)); clear ho9 hb9 ha9 tk4))
              go_roundg (s.size - (j + 1))
              case measure => omega
              case rel => exact ⟨j + 1, _, by omega, rfl, by go_num, HN2, HO9.out, HB9.out⟩
        · obtain rfl : j = s.size := by omega
          have HN2 := hid (show rs' = bitsN ((ns.take (i + 1)).map bytesOf) by
            rw [bits_take hil HS.out, ← hrs.out, hrs'.out, List.take_of_length_le (by rw [bytesOf_len]; exact Nat.le_refl _)])
          go_wp2
          go_roundg (n - (i + 1))
          case measure => omega
          case rel => exact ⟨i + 1, rs', by omega, rfl, by go_num, HN2, HO2.out, HLOW2.out⟩
    · obtain rfl : i = n := by omega
      have hrs2 := hrs.out
      rw [List.take_of_length_le (by rw [HL.out]; exact Nat.le_refl _)] at hrs2
      subst hrs2
      obtain ⟨A9, c9, rfl⟩ := HO.out.slice' (n := N) HN.out
      go_wp2
      go_ret
      exact ⟨A9, c9, rfl, HO.out.rd' HN.out (by show N * 1 ≤ _; omega) (by decide), HLOW.out⟩
end capsTells
end Go.Proofs.YtemgbfppdopfbaaDoor
