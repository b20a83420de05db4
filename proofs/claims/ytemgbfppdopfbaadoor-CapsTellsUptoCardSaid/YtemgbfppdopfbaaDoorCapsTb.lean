/- The document's answers on letters: Mixed. -/
import Derived.Test.YtemgbfppdopfbaaDoorCapsTa
namespace Go.Proofs.YtemgbfppdopfbaaDoor
open Go.RowKit
set_option linter.unusedVariables false
set_option linter.unusedSimpArgs false
namespace capsTells
theorem kind_low (b : UInt8) : kindL (lowB b) = (if letterB b then 2 else 0) ∧ (letterB b = true → lowB b = mix1 b false ∧ 97 ≤ (lowB b).toNat ∧ ((mix1 b true).toNat : Int) = ((lowB b).toNat : Int) - 32) ∧ (letterB b = false → lowB b = b) := by
  refine byte_all (P := fun b => kindL (lowB b) = (if letterB b then 2 else 0) ∧ (letterB b = true → lowB b = mix1 b false ∧ 97 ≤ (lowB b).toNat ∧ ((mix1 b true).toNat : Int) = ((lowB b).toNat : Int) - 32) ∧ (letterB b = false → lowB b = b)) ?_ b
  decide +kernel
/-- the first so many bytes of a label, mixed -/
theorem mix_yes {s : ByteArray} {j : Nat} (hj : j < s.size) {x : UInt8} (hx : s[j] = x) (hl : letterB x = true) (bs : List Bool) {at_ : Nat} (ha : at_ = (bitsB ((bytesOf s).take j)).length) :
    mixB ((bytesOf s).take (j + 1)) bs = mixB ((bytesOf s).take j) bs ++ [mix1 x (bs.getD at_ false)] := by
  have hjl : j < (bytesOf s).length := by rw [bytesOf_len]; exact hj
  have hg := bytesOf_get s j hj
  rw [List.getD_eq_getElem?_getD, List.getElem?_eq_getElem hjl, Option.getD_some] at hg
  rw [List.take_succ_eq_append_getElem hjl, mixB_app, hg, hx, mixB, if_pos hl, mixB, ← ha]
  congr 2
  rw [List.headD_eq_head?_getD, List.head?_drop, List.getD_eq_getElem?_getD]
theorem mix_no {s : ByteArray} {j : Nat} (hj : j < s.size) {x : UInt8} (hx : s[j] = x) (hl : letterB x = false) (bs : List Bool) :
    mixB ((bytesOf s).take (j + 1)) bs = mixB ((bytesOf s).take j) bs ++ [x] := by
  have hjl : j < (bytesOf s).length := by rw [bytesOf_len]; exact hj
  have hg := bytesOf_get s j hj
  rw [List.getD_eq_getElem?_getD, List.getElem?_eq_getElem hjl, Option.getD_some] at hg
  rw [List.take_succ_eq_append_getElem hjl, mixB_app, hg, hx, mixB, if_neg (by rw [hl]; simp), mixB]
/-- the first so many labels of a name, mixed -/
def mixT (ns : List ByteArray) (bits : List Bool) (i : Nat) : List ByteArray := (mixN ((ns.take i).map bytesOf) bits).map fun l => ⟨l.toArray⟩
theorem mixT_succ {ns : List ByteArray} {s : ByteArray} {i : Nat} (hi : i < ns.length) (hs : ns[i] = s) (bits : List Bool) {at_ : Nat} (ha : at_ = (bitsN ((ns.take i).map bytesOf)).length) :
    mixT ns bits (i + 1) = mixT ns bits i ++ [⟨(mixB (bytesOf s) (bits.drop at_)).toArray⟩] := by
  unfold mixT
  rw [List.take_succ_eq_append_getElem hi, List.map_append, hs]
  show List.map _ (mixN (List.map bytesOf (List.take i ns) ++ [bytesOf s]) bits) = _
  rw [mixN_app, List.map_append, ← ha]
  rfl
theorem mixT_len (ns : List ByteArray) (bits : List Bool) {i : Nat} (hi : i ≤ ns.length) : (mixT ns bits i).length = i := by
  unfold mixT
  rw [List.length_map, mixN_len, List.length_map, List.length_take]
  omega
theorem mixT_all (ns : List ByteArray) (bits : List Bool) : mixT ns bits ns.length = mixS ns bits := by
  unfold mixT mixS
  rw [List.take_length]
theorem drop_getD (bits : List Bool) (a b : Nat) : (bits.drop a).getD b false = bits.getD (a + b) false := by
  rw [List.getD_eq_getElem?_getD, List.getD_eq_getElem?_getD, List.getElem?_drop]
theorem bitsB_all {s : ByteArray} : bitsB ((bytesOf s).take s.size) = bitsB (bytesOf s) := by rw [List.take_of_length_le (by rw [bytesOf_len]; exact Nat.le_refl _)]
theorem size_le_lsum {ns : List ByteArray} {s : ByteArray} {i : Nat} (hi : i < ns.length) (hs : ns[i] = s) : s.size ≤ lsum ns := by
  have h1 : ∀ (l : List ByteArray), ∀ q ∈ l, q.size ≤ lsum l := by
    intro l
    induction l with
    | nil => intro q hq; cases hq
    | cons a l ih =>
      intro q hq
      rw [lsum_cons]
      rcases List.mem_cons.1 hq with rfl | hq
      · omega
      · have := ih q hq; omega
  exact h1 ns s (by rw [← hs]; exact List.getElem_mem hi)

set_option maxRecDepth 100000 in
set_option maxHeartbeats 4000000 in
theorem mixed_ref (w : World) (A : Option Addr) (n c : Nat) (ns : List ByteArray) (hR : Rd strR w w.heap.size A n c ns) (hz : lsum ns ≤ 1048576) (A2 : Option Addr) (n2 c2 : Nat) (bl : List Bool) (hB : Rd boolR w w.heap.size A2 n2 c2 bl) (hs : (posN ns n).length ≤ n2) :
    Calls Tryd.prog 9 #[.slice A n c, .slice A2 n2 c2] w fun e w' => ∃ A' c', e = .returned (.slice A' n c') ∧ Rd strR w' w'.heap.size A' n c' (mixS ns bl) ∧ Below w.heap.size w w' := by
  have hm := hR.max
  have hcap := hR.cap
  unfold maxLen at hm
  have hn0 := lsum_len ns
  rw [hR.len] at hn0
  have HL := hid hR.len
  have HR := hid hR
  have HBL := hid hB
  have HN := hid (show (bitsN (ns.map bytesOf)).length ≤ n2 from by rw [← posN_len ns, HL.out]; exact hs)
  have HZ := hid hz
  have hn20 : n ≤ 1048576 := by omega
  clear hR hz hB hs
  have tk0 : True := trivial; have tk1 : True := trivial; have tk2 : True := trivial; have tk3 : True := trivial; have tk4 : True := trivial; have tk5 : True := trivial; have tk6 : True := trivial; have tk7 : True := trivial; have tk8 : True := trivial; have tk9 : True := trivial; have tk10 : True := trivial; have tk11 : True := trivial; have tk12 : True := trivial
  go_enter Tryd.func9, Tryd.ntmps9
  go_wp2
  go_loopg [5, 6, 7] n (fun gk v5 v6 v7 wi => ∃ (i k : Nat) (os : List ByteArray), i ≤ n ∧ gk = n - i ∧ v7 = .int .i64 (i : Int) ∧ v6 = .int .i64 (k : Int) ∧ k ≤ 1048576 ∧ Hid (k = (bitsN ((ns.take i).map bytesOf)).length) ∧ Hid (os = mixT ns bl i) ∧ OwnR strR 9 w.heap.size w.heap.size wi v5 os ∧ Below w.heap.size w wi)
  case atStart => exact ⟨0, 0, [], Nat.zero_le _, rfl, rfl, rfl, by omega, hid rfl, hid rfl, OwnR.nil (Nat.le_refl _) (Nat.le_refl _), Below.refl _ _⟩
  case round =>
    obtain ⟨i, k, os, hi, rfl, rfl, rfl, hk20, hk, hos, hO, hlow⟩ := hrel
    have HO := hid hO
    have HLOW := hid hlow
    have hzw := hlow.size
    clear hO hlow
    by_cases hlt : i < n
    · obtain ⟨b, off, rfl, hb, hc, hsz⟩ := (HR.out.below HLOW.out).str i hlt
      have hil : i < ns.length := by rw [HL.out]; exact hlt
      obtain ⟨s, hs⟩ : ∃ s, ns[i] = s := ⟨_, rfl⟩
      rw [hs] at hc hsz
      have HS := hid hs
      have hs20 : s.size ≤ 1048576 := by have := size_le_lsum hil hs; have := HZ.out; omega
      have t0 : (i : Int) < (n : Int) := by omega
      obtain ⟨wl, hwl⟩ : ∃ wl, wr = wl := ⟨_, rfl⟩
      rw [hwl] at HO HLOW hzw hc ⊢
      clear hs hwl
      go_wp2
      go_loopg [6, 8, 9, 10] s.size (fun gk v6 v8 v9 v10 wi => ∃ (j k' : Nat) (bs : List UInt8), j ≤ s.size ∧ gk = s.size - j ∧ v9 = .int .i64 (j : Int) ∧ v6 = .int .i64 (k' : Int) ∧ k' ≤ 1048576 ∧ bs.length = j ∧ Hid (k' = k + (bitsB ((bytesOf s).take j)).length) ∧ Hid (bs = mixB ((bytesOf s).take j) (bl.drop k)) ∧ OwnR u8R 5 wl.heap.size wl.heap.size wi v8 bs ∧ Below wl.heap.size wl wi)
      case atStart => exact ⟨0, k, [], Nat.zero_le _, rfl, rfl, rfl, hk20, rfl, hid (by simp [bitsB]), hid (by simp [mixB]), OwnR.nil (Nat.le_refl _) (Nat.le_refl _), Below.refl _ _⟩
      case round =>
        obtain ⟨j, k', bs, hj, rfl, rfl, rfl, hk'20, hbl, hk', hbs, hO2, hlow2⟩ := hrel
        have HO2 := hid hO2
        have HLOW2 := hid hlow2
        have hzw2 := hlow2.size
        have HLOW3 := hid (HLOW.out.trans (hlow2.mono hzw))
        have hc2 := (HR.out.below HLOW3.out).str i hlt
        obtain ⟨b', off', hA', hb', hcc, _⟩ := hc2
        cases hA'
        rw [HS.out] at hcc
        have bwr : b < wr.heap.size := by omega
        clear hO2 hlow2
        by_cases hjt : j < s.size
        · obtain ⟨x, hx⟩ : ∃ x, s[j] = x := ⟨_, rfl⟩
          obtain ⟨kl1, kl2, kl3⟩ := kind_low x
          have CS := hid (rsmall_any x)
          have t1 : (j : Int) < (s.size : Int) := by omega
          have ab1 : (bs.length + 1) * 1 ≤ 140737488355328 := by omega
          have ab2 : bs.length + 1 ≤ maxLen := by unfold maxLen; omega
          have CL := hid (letter_ref (lowB x))
          rw [kl1] at CL
          cases hlx : letterB x with
          | false =>
            rw [hlx] at CL
            rw [kl3 hlx] at CS CL
            have HN2 := hid (show bs ++ [x] = mixB ((bytesOf s).take (j + 1)) (bl.drop k) by rw [mix_no hjt hx hlx, hbs.out])
            have HK2 := hid (show k' = k + (bitsB ((bytesOf s).take (j + 1))).length by rw [bits_no hjt hx hlx]; exact hk'.out)
            have CL2 := hid (show ∀ w, Calls Tryd.prog 29 #[.int .u8 (x.toNat : Int)] w fun e w' => e = .returned (.int .i64 0) ∧ w' = w from CL.out)
            clear hlx kl1 kl2 kl3 CL
            go_wp2_with (first
              | (go_at_call 31; have _t := tk1; (with_reducible refine (CS.out _).mono ?_); rintro e w1 ⟨rfl, hw⟩; subst w1; clear tk1)
              | (go_at_call 29; have _t := tk2; (with_reducible refine (CL2.out _).mono ?_); rintro e w1 ⟨rfl, hw⟩; subst w1; clear tk2)
              | (at_builtin; have _t := tk4; refine wpList_ownX (R := u8R) (B := wl.heap.size) (base := wl.heap.size) (A := some ⟨wr.heap.size, 0, none⟩) (n := 1) (c := 1) (m := [x]) el_u8 rfl (.tmp 44) (.tmp 46) rfl rfl (HO2.out.below (by (repeat' (first | (with_reducible exact Below.refl _ _) | (with_reducible assumption) | (with_reducible refine below_ext0 ?_ _ _) | (with_reducible refine below_alloc0 ?_ _) | (with_reducible refine Below.ext ?_ ?_ _ _) | (with_reducible refine Below.alloc ?_ ?_ _) | (with_reducible refine Below.setCell ?_ ?_ _) | (with_reducible refine Below.drew ?_) | (with_reducible refine below_draws ?_ _) | go_size | (simp [size_ext]; done) | (simp [size_ext]; omega))))) rfl (SrcR.lit (ty := 5) (cs := #[.int .u8 (x.toNat : Int)]) (by ((repeat' (first | (with_reducible assumption) | (with_reducible refine Blk.drew ?_) | exact Blk.new' _ _ (by first | rfl | (simp [size_ext]; done) | (simp [size_ext]; omega)) | (with_reducible refine Blk.ext ?_ _ _) | (with_reducible refine Blk.alloc ?_ _))); (all_goals fail))) rfl (by simp [Value.oneCell'])) ab1 ab2 ?_; intro v9 w9 ho9 hb9 ha9; have HO9 := hid ho9; have HB9 := hid (HLOW2.out.trans ((show Below wl.heap.size wr _ from (by (repeat' (first | (with_reducible exact Below.refl _ _) | (with_reducible assumption) | (with_reducible refine below_ext0 ?_ _ _) | (with_reducible refine below_alloc0 ?_ _) | (with_reducible refine Below.ext ?_ ?_ _ _) | (with_reducible refine Below.alloc ?_ ?_ _) | (with_reducible refine Below.setCell ?_ ?_ _) | (with_reducible refine Below.drew ?_) | (with_reducible refine below_draws ?_ _) | go_size | (simp [size_ext]; done) | (simp [size_ext]; omega))))).trans hb9)); clear ho9 hb9 ha9 tk4))
            go_roundg (s.size - (j + 1))
            case measure => omega
            case rel => exact ⟨j + 1, k', _, by omega, rfl, by go_num, rfl, hk'20, by rw [List.length_append, hbl]; rfl, HK2, HN2, HO9.out, HB9.out⟩
          | true =>
            rw [hlx] at CL
            obtain ⟨kl4, kl5, kl6⟩ := kl2 hlx
            have CL2 := hid (show ∀ w, Calls Tryd.prog 29 #[.int .u8 ((lowB x).toNat : Int)] w fun e w' => e = .returned (.int .i64 2) ∧ w' = w from CL.out)
            have HK2 := hid (show k' + 1 = k + (bitsB ((bytesOf s).take (j + 1))).length by rw [bits_yes hjt hx hlx, List.length_append, hk'.out]; rfl)
            have hkn : k' < (bitsN (ns.map bytesOf)).length := by
              have h1 : bitsN (ns.map bytesOf) = bitsN ((ns.take (i + 1)).map bytesOf) ++ bitsN ((ns.drop (i + 1)).map bytesOf) := by
                unfold bitsN
                rw [← List.flatMap_append, ← List.map_append, List.take_append_drop]
              have h2 : bitsB (bytesOf s) = bitsB ((bytesOf s).take (j + 1)) ++ bitsB ((bytesOf s).drop (j + 1)) := by
                unfold bitsB
                rw [← List.map_append, ← List.filter_append, List.take_append_drop]
              rw [h1, bits_take hil HS.out, h2]
              have := HK2.out
              have := hk.out
              simp only [List.length_append]
              omega
            have hkb : (bitsN (ns.map bytesOf)).length ≤ 1048576 := by
              have := posN_lsum ns
              rw [posN_len] at this
              have := HZ.out
              omega
            have hk2 : k' < n2 := by have := HN.out; omega
            have hk'2 : k' + 1 ≤ 1048576 := by omega
            obtain ⟨q2, p2, hA2, l2, x2⟩ := (HBL.out.below HLOW3.out).boolD k' hk2
            subst hA2
            have HN2 := hid (show bs ++ [mix1 x (bl.getD k' false)] = mixB ((bytesOf s).take (j + 1)) (bl.drop k) by
              rw [mix_yes hjt hx hlx (bl.drop k) rfl, drop_getD, hbs.out, ← hk'.out])
            have q2wr : q2 < wr.heap.size := by omega
            have t2 : (k' : Int) < (n2 : Int) := by omega
            cases hg : bl.getD k' false with
            | true =>
              rw [hg] at x2 HN2
              have hlb := (lowB x).toNat_lt
              obtain ⟨y, hy⟩ : ∃ y : Nat, (lowB x).toNat = y := ⟨_, rfl⟩
              have CS2 := CS.out
              have CL3 := CL2.out
              rw [hy] at CS2 CL3 kl5 kl6 hlb
              have CS4 := hid CS2
              have CL4 := hid CL3
              have y32 : 32 ≤ y := by omega
              have y8 : y < 256 := hlb
              have HM1 := hid (show ((y : Int) - 32) = ((mix1 x true).toNat : Int) from kl6.symm)
              clear hlx kl1 kl2 kl3 kl4 kl5 kl6 CL CS CL2 hg hy hlb hkn hkb CS2 CL3
              go_wp2_with (first
                | (go_at_call 31; have _t := tk1; (with_reducible refine (CS4.out _).mono ?_); rintro e w1 ⟨rfl, hw⟩; subst w1; clear tk1)
                | (go_at_call 29; have _t := tk2; (with_reducible refine (CL4.out _).mono ?_); rintro e w1 ⟨rfl, hw⟩; subst w1; clear tk2)
                | (at_builtin; have _t := tk4; refine wpList_ownX (R := u8R) (B := wl.heap.size) (base := wl.heap.size) (A := some ⟨wr.heap.size, 0, none⟩) (n := 1) (c := 1) (m := [mix1 x true]) el_u8 rfl (.tmp 44) (.tmp 46) rfl rfl (HO2.out.below (by (repeat' (first | (with_reducible exact Below.refl _ _) | (with_reducible assumption) | (with_reducible refine below_ext0 ?_ _ _) | (with_reducible refine below_alloc0 ?_ _) | (with_reducible refine Below.ext ?_ ?_ _ _) | (with_reducible refine Below.alloc ?_ ?_ _) | (with_reducible refine Below.setCell ?_ ?_ _) | (with_reducible refine Below.drew ?_) | (with_reducible refine below_draws ?_ _) | go_size | (simp [size_ext]; done) | (simp [size_ext]; omega))))) rfl (SrcR.lit (ty := 5) (cs := #[.int .u8 ((y : Int) - 32)]) (by ((repeat' (first | (with_reducible assumption) | (with_reducible refine Blk.drew ?_) | exact Blk.new' _ _ (by first | rfl | (simp [size_ext]; done) | (simp [size_ext]; omega)) | (with_reducible refine Blk.ext ?_ _ _) | (with_reducible refine Blk.alloc ?_ _))); (all_goals fail))) (by rw [HM1.out]; rfl) (by simp [Value.oneCell'])) ab1 ab2 ?_; intro v9 w9 ho9 hb9 ha9; have HO9 := hid ho9; have HB9 := hid (HLOW2.out.trans ((show Below wl.heap.size wr _ from (by (repeat' (first | (with_reducible exact Below.refl _ _) | (with_reducible assumption) | (with_reducible refine below_ext0 ?_ _ _) | (with_reducible refine below_alloc0 ?_ _) | (with_reducible refine Below.ext ?_ ?_ _ _) | (with_reducible refine Below.alloc ?_ ?_ _) | (with_reducible refine Below.setCell ?_ ?_ _) | (with_reducible refine Below.drew ?_) | (with_reducible refine below_draws ?_ _) | go_size | (simp [size_ext]; done) | (simp [size_ext]; omega))))).trans hb9)); clear ho9 hb9 ha9 tk4))
              go_roundg (s.size - (j + 1))
              case measure => omega
              case rel => exact ⟨j + 1, k' + 1, _, by omega, rfl, by go_num, by go_num, hk'2, by rw [List.length_append, hbl]; rfl, HK2, HN2, HO9.out, HB9.out⟩
            | false =>
              rw [hg, ← kl4] at HN2
              rw [hg] at x2
              clear hlx kl1 kl2 kl3 kl4 kl5 kl6 CL hg hkn hkb
              go_wp2_with (first
                | (go_at_call 31; have _t := tk1; (with_reducible refine (CS.out _).mono ?_); rintro e w1 ⟨rfl, hw⟩; subst w1; clear tk1)
                | (go_at_call 29; have _t := tk2; (with_reducible refine (CL2.out _).mono ?_); rintro e w1 ⟨rfl, hw⟩; subst w1; clear tk2)
                | (at_builtin; have _t := tk4; refine wpList_ownX (R := u8R) (B := wl.heap.size) (base := wl.heap.size) (A := some ⟨wr.heap.size, 0, none⟩) (n := 1) (c := 1) (m := [lowB x]) el_u8 rfl (.tmp 44) (.tmp 46) rfl rfl (HO2.out.below (by (repeat' (first | (with_reducible exact Below.refl _ _) | (with_reducible assumption) | (with_reducible refine below_ext0 ?_ _ _) | (with_reducible refine below_alloc0 ?_ _) | (with_reducible refine Below.ext ?_ ?_ _ _) | (with_reducible refine Below.alloc ?_ ?_ _) | (with_reducible refine Below.setCell ?_ ?_ _) | (with_reducible refine Below.drew ?_) | (with_reducible refine below_draws ?_ _) | go_size | (simp [size_ext]; done) | (simp [size_ext]; omega))))) rfl (SrcR.lit (ty := 5) (cs := #[.int .u8 ((lowB x).toNat : Int)]) (by ((repeat' (first | (with_reducible assumption) | (with_reducible refine Blk.drew ?_) | exact Blk.new' _ _ (by first | rfl | (simp [size_ext]; done) | (simp [size_ext]; omega)) | (with_reducible refine Blk.ext ?_ _ _) | (with_reducible refine Blk.alloc ?_ _))); (all_goals fail))) rfl (by simp [Value.oneCell'])) ab1 ab2 ?_; intro v9 w9 ho9 hb9 ha9; have HO9 := hid ho9; have HB9 := hid (HLOW2.out.trans ((show Below wl.heap.size wr _ from (by (repeat' (first | (with_reducible exact Below.refl _ _) | (with_reducible assumption) | (with_reducible refine below_ext0 ?_ _ _) | (with_reducible refine below_alloc0 ?_ _) | (with_reducible refine Below.ext ?_ ?_ _ _) | (with_reducible refine Below.alloc ?_ ?_ _) | (with_reducible refine Below.setCell ?_ ?_ _) | (with_reducible refine Below.drew ?_) | (with_reducible refine below_draws ?_ _) | go_size | (simp [size_ext]; done) | (simp [size_ext]; omega))))).trans hb9)); clear ho9 hb9 ha9 tk4))
              go_roundg (s.size - (j + 1))
              case measure => omega
              case rel => exact ⟨j + 1, k' + 1, _, by omega, rfl, by go_num, by go_num, hk'2, by rw [List.length_append, hbl]; rfl, HK2, HN2, HO9.out, HB9.out⟩
        · obtain rfl : j = s.size := by omega
          have HN2 := hid (show k' = (bitsN ((ns.take (i + 1)).map bytesOf)).length by
            rw [bits_take hil HS.out, List.length_append, ← hk.out, hk'.out, bitsB_all])
          have HM2 := hid (show os ++ [⟨bs.toArray⟩] = mixT ns bl (i + 1) by
            rw [mixT_succ hil HS.out bl hk.out, hos.out, hbs.out, List.take_of_length_le (by rw [bytesOf_len]; exact Nat.le_refl _)])
          have hosl : os.length = i := by rw [hos.out]; exact mixT_len ns bl (by omega)
          have ab1 : (os.length + 1) * 16 ≤ 140737488355328 := by omega
          have ab2 : os.length + 1 ≤ maxLen := by unfold maxLen; omega
          obtain ⟨⟨xs, ho1, ho2⟩, _, _⟩ := HO2.out
          have hxs : xs = bytesV bs := rels_u8.1 ho2
          subst hxs
          have cv := conv_own ho1
          have HBS := hid hbl
          clear ho1 ho2
          go_wp2_with (at_builtin; have _t := tk5; refine wpList_ownX (R := strR) (B := w.heap.size) (base := w.heap.size) (A := some ⟨wr.heap.size, 0, none⟩) (n := 1) (c := 1) (m := [⟨bs.toArray⟩]) el_str rfl (.tmp 48) (.tmp 51) rfl rfl ((HO.out.below HLOW2.out).below (by (repeat' (first | (with_reducible exact Below.refl _ _) | (with_reducible assumption) | (with_reducible refine below_ext0 ?_ _ _) | (with_reducible refine below_alloc0 ?_ _) | (with_reducible refine Below.ext ?_ ?_ _ _) | (with_reducible refine Below.alloc ?_ ?_ _) | (with_reducible refine Below.setCell ?_ ?_ _) | (with_reducible refine Below.drew ?_) | (with_reducible refine below_draws ?_ _) | go_size | (simp [size_ext]; done) | (simp [size_ext]; omega))))) rfl (SrcR.lit (ty := 9) (cs := #[.string ⟨bs.toArray⟩]) (by ((repeat' (first | (with_reducible assumption) | (with_reducible refine Blk.drew ?_) | exact Blk.new' _ _ (by first | rfl | (simp [size_ext]; done) | (simp [size_ext]; omega)) | (with_reducible refine Blk.ext ?_ _ _) | (with_reducible refine Blk.alloc ?_ _))); (all_goals fail))) ⟨rfl, by show bs.length ≤ _; omega⟩ (by simp [Value.oneCell'])) ab1 ab2 ?_; intro v9 w9 ho9 hb9 ha9; have HO9 := hid ho9; have HB9 := hid (HLOW3.out.trans ((show Below w.heap.size wr _ from (by (repeat' (first | (with_reducible exact Below.refl _ _) | (with_reducible assumption) | (with_reducible refine below_ext0 ?_ _ _) | (with_reducible refine below_alloc0 ?_ _) | (with_reducible refine Below.ext ?_ ?_ _ _) | (with_reducible refine Below.alloc ?_ ?_ _) | (with_reducible refine Below.setCell ?_ ?_ _) | (with_reducible refine Below.drew ?_) | (with_reducible refine below_draws ?_ _) | go_size | (simp [size_ext]; done) | (simp [size_ext]; omega))))).trans hb9)); clear ho9 hb9 ha9 tk5)
          go_roundg (n - (i + 1))
          case measure => omega
          case rel => exact ⟨i + 1, k', _, by omega, rfl, by go_num, rfl, hk'20, HN2, HM2, HO9.out, HB9.out⟩
    · obtain rfl : i = n := by omega
      have hos2 := hos.out
      have hll : (mixT ns bl i).length = i := mixT_len ns bl (by rw [HL.out]; exact Nat.le_refl _)
      rw [← hos2] at hll
      rw [← HL.out, mixT_all] at hos2
      subst hos2
      obtain ⟨A9, c9, rfl⟩ := HO.out.slice' (n := i) hll
      go_wp2
      go_ret
      exact ⟨A9, c9, rfl, HO.out.rd' hll (by show i * 16 ≤ _; omega) (by decide), HLOW.out⟩
end capsTells
end Go.Proofs.YtemgbfppdopfbaaDoor
