/- Names' longest ends: the key of labels, the first label that is too long. -/
import Derived.Test.YtemgbfppdopfbaaDoorTailQ
import Derived.Test.YtemgbfppdopfbaaDoorWireC
namespace Go.Proofs.YtemgbfppdopfbaaDoor
open Go.RowKit
set_option linter.unusedVariables false
set_option linter.unusedSimpArgs false

theorem keyS_sent (l : List ByteArray) : keyS l = sentL (l.map smallS) := by
  unfold keyS
  induction l with
  | nil => rfl
  | cons s l ih =>
    rw [List.map_cons, keyB_cons, List.map_cons, sentL_cons, ih]
    have e : (smallS s).data.toList.length = (smallS s).size := by rw [Array.length_toList]; rfl
    rw [e]
    simp
theorem short_small {l : List ByteArray} (h : short l = true) : ∀ s ∈ l.map smallS, s.size ≤ 63 := by
  intro s hs
  obtain ⟨t, ht, rfl⟩ := List.mem_map.1 hs
  have := of_decide_eq_true (List.all_eq_true.1 h t ht)
  rw [smallS_size]
  exact this
theorem lsum_small (l : List ByteArray) : lsum (l.map smallS) = lsum l := by
  unfold lsum
  rw [List.map_map]
  congr 1
  apply List.map_congr_left
  intro s _
  simp [smallS_size]
theorem lsum_part (l : List ByteArray) (k : Nat) : lsum (l.take k) ≤ lsum l := by
  have h : lsum l = lsum (l.take k) + lsum (l.drop k) := by
    rw [← sentL_len, ← sentL_len, ← sentL_len, ← List.length_append, ← sentL_append, List.take_append_drop]
  omega
/-- 'string(b)' of a slice of bytes, a nil one too -/
theorem Rd.convN {w : World} {B n c : Nat} {A : Option Addr} {l : List UInt8} (h : Rd u8R w B A n c l) : (convert 51 9 (.slice A n c)).run Tryd.prog w = .ok (.string ⟨l.toArray⟩) w := by
  rcases A with _ | ad
  · have hc := h.nil rfl
    have hn := h.cap
    obtain rfl : n = 0 := by omega
    subst hc
    obtain rfl : l = [] := List.eq_nil_of_length_eq_zero h.len
    simp [convert, Conv.bytesToString, go_sem, Tryd.underlying51, Tryd.underlying5, Tryd.underlying9]
    rfl
  · have hl := h.len
    have hlist : ∀ j (hj : j < l.length), w.cell? (ad.add j) = some (.int .u8 (l[j].toNat : Int)) := by
      intro j hj
      obtain ⟨b0, o0, e, _, hc⟩ := h.u8 j (by rw [← h.len]; exact hj)
      cases e
      rw [add_none]
      exact hc
    have := run_convert_bytes_back w 51 9 5 ad c l Tryd.underlying51 Tryd.underlying5 Tryd.underlying9 hlist
    rwa [h.len] at this

set_option maxRecDepth 100000 in
set_option maxHeartbeats 4000000 in
theorem key_any (w : World) (A : Option Addr) (n c : Nat) (l : List ByteArray) (h : Rd strR w w.heap.size A n c l) (hs : short l = true) (hsz : lsum l ≤ 1073741824) :
    Calls Tryd.prog 34 #[.slice A n c] w fun e w' => e = .returned (.string ⟨(keyS l).toArray⟩) ∧ Below w.heap.size w w' := by
  have CF := hid (fold_any w A n c l h)
  have hS := short_small hs
  have hZ := lsum_small l
  have hml : l.map smallS = l.map smallS := rfl
  rw [keyS_sent]
  have hm := h.max
  have hcap := h.cap
  unfold maxLen at hm
  have hln : (l.map smallS).length = n := by rw [List.length_map, h.len]
  generalize l.map smallS = L at *
  have HS := hid hS
  have hsz2 : lsum L ≤ 1073741824 := by omega
  have HL := hid hln
  clear h hS hs hZ hml hln
  have tk0 : True := trivial; have tk1 : True := trivial; have tk2 : True := trivial; have tk3 : True := trivial; have tk4 : True := trivial; have tk5 : True := trivial; have tk6 : True := trivial; have tk7 : True := trivial; have tk8 : True := trivial; have tk9 : True := trivial; have tk10 : True := trivial; have tk11 : True := trivial; have tk12 : True := trivial
  go_enter Tryd.func34, Tryd.ntmps34
  go_wp2_with (go_at_call 51; refine (CF.out).mono ?_; rintro e w1 ⟨A1, n1, rfl, hr, hb⟩; have R1 := hid hr; have HB := hid hb; have hz1 := hb.size; clear hr hb)
  go_loopg [3, 9] n (fun gk v3 v9 wi => ∃ k : Nat, k ≤ n ∧ gk = n - k ∧ v9 = .int .i64 (k : Int) ∧ wi.ownsRow w1.heap.size 5 1 v3 (lsum (L.take k)) (bytesV (sentL (L.take k))) ∧ Below w1.heap.size w1 wi)
  case atStart => exact ⟨0, Nat.zero_le _, rfl, rfl, World.ownsRow_nil _ _ _ _, Below.refl _ _⟩
  case round =>
    obtain ⟨k, hk, rfl, rfl, hown, hlow⟩ := hrel
    have HO := hid hown
    have HLOW := hid hlow
    have hzw := hlow.size
    clear hown hlow
    by_cases hlt : k < n
    · obtain ⟨b, o, rfl, hb, hc, hz⟩ := R1.out.str k hlt
      replace hc := (HLOW.out.cell (p := ⟨b, o + k, none⟩) hb).trans hc
      have hkl : k < L.length := by rw [HL.out]; exact hlt
      have htk : L.take (k + 1) = L.take k ++ [L[k]] := List.take_succ_eq_append_getElem hkl
      have hlb : (L[k]).size ≤ 63 := HS.out _ (List.getElem_mem hkl)
      obtain ⟨x, hx⟩ : ∃ x, L[k] = x := ⟨_, rfl⟩
      rw [hx] at hc hz htk hlb
      have HTK := hid htk
      have hls : lsum (L.take (k + 1)) = lsum (L.take k) + (x.size + 1) := by rw [htk, lsum_snoc]
      have hsum := lsum_part L (k + 1)
      have ab1 : (lsum (L.take k) + 1) * 1 ≤ 140737488355328 := by omega
      have ab2 : lsum (L.take k) + 1 ≤ maxLen := by unfold maxLen; omega
      have ab3 : lsum (L.take k) + 1 + x.size ≤ 140737488355328 := by omega
      have HLS := hid hls
      have u8 : ((UInt8.ofNat x.size).toNat : Int) = (x.size : Int) := u8_size x hlb
      have HU := hid u8
      have cvt : IntKind.u8.wrap (x.size : Int) = (x.size : Int) := by simp [IntKind.wrap, IntKind.bits, IntKind.signed]; omega
      clear htk hx hls hsum u8
      go_wp2_with (first
        | (at_builtin; have _t := tk1; refine wpList_appT rfl _ _ 51 rfl w1.heap.size 5 1 1 el_u8 _ (lsum (L.take k)) _ rfl (HO.out.alloc _) _ 1 1 [.int .u8 (x.size : Int)] rfl (src_one _ rfl rfl) ab1 ab2 (by simp; omega) ?_; intro v1 w2 ho1 ha1; have HO1 := hid ho1; have HA1 := hid ha1; have hz2 := ha1.grown.size; clear ho1 ha1 tk1)
        | (at_builtin; have _t := tk2; refine wpList_app_str rfl _ _ 51 9 rfl w1.heap.size 5 el_u8 Tryd.underlying9 zero_u8 _ (lsum (L.take k) + 1) _ rfl HO1.out x rfl ab3 (by simp at hz2; omega) ?_; intro v2 w3 ho2 ha2; have HO2 := hid ho2; have HA2 := hid ha2; clear ho2 ha2 tk2))
      go_roundg (n - (k + 1))
      case measure => omega
      case rel =>
        have ha : AppTo wr w3 _ _ := AppTo.trans HA1.out.alloc HA2.out
        refine ⟨k + 1, by omega, rfl, by go_num, ?_, HLOW.out.trans (ha.below HO.out hzw)⟩
        have := HO2.out
        rw [HLS.out, HTK.out, sentL_snoc]
        rw [strCells_eq] at this
        have e8 : (x.size : Int) % 256 = x.size := by omega
        have e9 : (UInt8.ofNat x.size).toNat = x.size := by have := HU.out; omega
        simpa [bytesV, Nat.add_assoc, Nat.add_comm 1, e8, e9] using this
    · obtain rfl : k = n := by omega
      have ho := HO.out
      rw [List.take_of_length_le (by rw [HL.out]; exact Nat.le_refl _)] at ho
      obtain ⟨A2, c2, rfl, hr⟩ := own_rd_u8 ho hzw (by omega)
      have cv := hr.convN
      have hfin := hid (Below.trans HB.out (HLOW.out.mono hz1) : Below w.heap.size w wr)
      clear ho hr HO
      go_wp2
      go_ret
      exact ⟨rfl, hfin.out⟩

/-! slices.IndexFunc, ContainsFunc: a label that is too long -/
def long1 (s : ByteArray) : Bool := decide (63 < s.size)
theorem long_any (w : World) (s : ByteArray) (hs : s.size ≤ 140737488355328) : Calls Tryd.prog 37 #[.string s] w fun e w' => e = .returned (.bool (long1 s)) ∧ Below w.heap.size w w' := by
  by_cases h : 63 < s.size
  · have hb : (63 : Int) < (s.size : Int) := by omega
    have HB := hid h
    clear h
    go_enter Tryd.func37, Tryd.ntmps37
    go_wp2
    go_ret
    exact ⟨by unfold long1; rw [decide_eq_true HB.out]; first | rfl | simp, (by (repeat' (first | (with_reducible exact Below.refl _ _) | (with_reducible assumption) | (with_reducible refine below_ext0 ?_ _ _) | (with_reducible refine below_alloc0 ?_ _) | (with_reducible refine Below.ext ?_ ?_ _ _) | (with_reducible refine Below.alloc ?_ ?_ _) | (with_reducible refine Below.setCell ?_ ?_ _) | (with_reducible refine Below.drew ?_) | (with_reducible refine below_draws ?_ _) | go_size | (simp [size_ext]; done) | (simp [size_ext]; omega))))⟩
  · have hb : ¬ (63 : Int) < (s.size : Int) := by omega
    have HB := hid h
    clear h
    go_enter Tryd.func37, Tryd.ntmps37
    go_wp2
    go_ret
    exact ⟨by unfold long1; rw [decide_eq_false HB.out]; first | rfl | simp, (by (repeat' (first | (with_reducible exact Below.refl _ _) | (with_reducible assumption) | (with_reducible refine below_ext0 ?_ _ _) | (with_reducible refine below_alloc0 ?_ _) | (with_reducible refine Below.ext ?_ ?_ _ _) | (with_reducible refine Below.alloc ?_ ?_ _) | (with_reducible refine Below.setCell ?_ ?_ _) | (with_reducible refine Below.drew ?_) | (with_reducible refine below_draws ?_ _) | go_size | (simp [size_ext]; done) | (simp [size_ext]; omega))))⟩
def idxL : List ByteArray → Nat → Int
  | [], _ => -1
  | r :: rs, k => if long1 r then (k : Int) else idxL rs (k + 1)
theorem idxL_or (l : List ByteArray) : ∀ k, (idxL l k = -1 ∧ ∀ r ∈ l, long1 r = false) ∨ ∃ i, ∃ h : i < l.length, idxL l k = ((k + i : Nat) : Int) ∧ long1 l[i] = true := by
  induction l with
  | nil => intro k; exact .inl ⟨rfl, fun r hr => by cases hr⟩
  | cons r l ih =>
    intro k
    rw [idxL]
    by_cases h : long1 r = true
    · rw [if_pos h]
      exact .inr ⟨0, by simp, by simp, by simpa using h⟩
    · rw [if_neg h]
      have h' : long1 r = false := by simpa using h
      rcases ih (k + 1) with ⟨h1, h2⟩ | ⟨i, hi, h1, h2⟩
      · refine .inl ⟨h1, fun x hx => ?_⟩
        rcases List.mem_cons.1 hx with hx | hx
        · rw [hx]; exact h'
        · exact h2 x hx
      · exact .inr ⟨i + 1, by simp; omega, by rw [h1]; congr 1; omega, by simpa using h2⟩
theorem idxL_drop (l : List ByteArray) (k : Nat) : k ≤ l.length → (∀ j, ∀ hj : j < k, ∀ h : j < l.length, long1 l[j] = false) → idxL l 0 = idxL (l.drop k) k := by
  induction k with
  | zero => intro _ _; rfl
  | succ k ih =>
    intro hk h
    rw [ih (by omega) (fun j hj hl => h j (by omega) hl)]
    have hk' : k < l.length := by omega
    rw [List.drop_eq_getElem_cons hk', idxL, if_neg (by rw [h k (by omega) hk']; simp)]

set_option maxRecDepth 100000 in
set_option maxHeartbeats 4000000 in
theorem indexLong_any (w : World) (A : Option Addr) (n c : Nat) (l : List ByteArray) (hR : Rd strR w w.heap.size A n c l) :
    Calls Tryd.prog 54 #[.slice A n c, .func (Fn.func 37) #[] #[]] w fun e w' => e = .returned (.int .i64 (idxL l 0)) ∧ Below w.heap.size w w' := by
  have m1 := hR.max
  have k1 := hR.cap
  unfold maxLen at m1
  have HR := hid hR
  clear hR
  go_enter Tryd.func54, Tryd.ntmps54
  go_wp2
  go_loopg [8] n (fun g v wi => ∃ k : Nat, k ≤ n ∧ g = n - k ∧ v = .int .i64 k ∧ Below w.heap.size w wi ∧ Hid (∀ j, ∀ hj : j < k, ∀ h : j < l.length, long1 l[j] = false))
  case atStart => exact ⟨0, Nat.zero_le _, rfl, rfl, (by (repeat' (first | (with_reducible exact Below.refl _ _) | (with_reducible assumption) | (with_reducible refine below_ext0 ?_ _ _) | (with_reducible refine below_alloc0 ?_ _) | (with_reducible refine Below.ext ?_ ?_ _ _) | (with_reducible refine Below.alloc ?_ ?_ _) | (with_reducible refine Below.setCell ?_ ?_ _) | (with_reducible refine Below.drew ?_) | (with_reducible refine below_draws ?_ _) | go_size | (simp [size_ext]; done) | (simp [size_ext]; omega)))), hid fun j hj => by omega⟩
  case round =>
    obtain ⟨k, hk, rfl, rfl, hb, hno⟩ := hrel
    have HB := hid hb
    have hzb := hb.size
    clear hb
    by_cases hlt : k < n
    · obtain ⟨b1, o1, rfl, hb1, x0, z0⟩ := (HR.out.later HB.out).str k hlt
      have hk' : k < l.length := by rw [HR.out.len]; exact hlt
      obtain ⟨s, hs⟩ : ∃ s, l[k] = s := ⟨_, rfl⟩
      rw [hs] at x0 z0
      have CI := hid fun w' => long_any w' s z0
      have hdr := idxL_drop l k (by omega) hno.out
      rw [List.drop_eq_getElem_cons hk', idxL, hs] at hdr
      have t0 : (k : Int) < (n : Int) := by omega
      have t1 : decide ((k : Int) < (n : Int)) = true := decide_eq_true t0
      have t2 : (0 : Int) ≤ (k : Int) := by omega
      cases hT : long1 s with
      | true =>
        rw [hT] at CI hdr
        rw [if_pos rfl] at hdr
        have HD := hid hdr
        clear hdr hT hs
        have tk0 : True := trivial; have tk1 : True := trivial; have tk2 : True := trivial; have tk3 : True := trivial; have tk4 : True := trivial; have tk5 : True := trivial; have tk6 : True := trivial; have tk7 : True := trivial; have tk8 : True := trivial; have tk9 : True := trivial; have tk10 : True := trivial; have tk11 : True := trivial; have tk12 : True := trivial
        go_wp2_with (go_at_call 37; have _t := tk1; (with_reducible refine (CI.out _).mono ?_); rintro e w1 ⟨rfl, hb⟩; obtain ⟨otk1, dtk1, rfl⟩ := ext_of_below hb; clear hb tk1)
        go_ret
        have hlw := HB.out
        exact ⟨by rw [HD.out]; rfl, (by (repeat' (first | (with_reducible exact Below.refl _ _) | (with_reducible assumption) | (with_reducible refine below_ext0 ?_ _ _) | (with_reducible refine below_alloc0 ?_ _) | (with_reducible refine Below.ext ?_ ?_ _ _) | (with_reducible refine Below.alloc ?_ ?_ _) | (with_reducible refine Below.setCell ?_ ?_ _) | (with_reducible refine Below.drew ?_) | (with_reducible refine below_draws ?_ _) | go_size | (simp [size_ext]; done) | (simp [size_ext]; omega))))⟩
      | false =>
        rw [hT] at CI hdr
        have HN := hid (show ∀ j, ∀ hj : j < k + 1, ∀ h : j < l.length, long1 l[j] = false from fun j hj h => by
          rcases Nat.lt_succ_iff_lt_or_eq.1 hj with hj | rfl
          · exact hno.out j hj h
          · rw [hs]; exact hT)
        clear hdr hT hs
        have tk0 : True := trivial; have tk1 : True := trivial; have tk2 : True := trivial; have tk3 : True := trivial; have tk4 : True := trivial; have tk5 : True := trivial; have tk6 : True := trivial; have tk7 : True := trivial; have tk8 : True := trivial; have tk9 : True := trivial; have tk10 : True := trivial; have tk11 : True := trivial; have tk12 : True := trivial
        go_wp2_with (go_at_call 37; have _t := tk1; (with_reducible refine (CI.out _).mono ?_); rintro e w1 ⟨rfl, hb⟩; obtain ⟨otk1, dtk1, rfl⟩ := ext_of_below hb; clear hb tk1)
        go_roundg (n - (k + 1))
        case measure => omega
        case rel =>
          have hlw := HB.out
          exact ⟨k + 1, by omega, rfl, by go_num, (by (repeat' (first | (with_reducible exact Below.refl _ _) | (with_reducible assumption) | (with_reducible refine below_ext0 ?_ _ _) | (with_reducible refine below_alloc0 ?_ _) | (with_reducible refine Below.ext ?_ ?_ _ _) | (with_reducible refine Below.alloc ?_ ?_ _) | (with_reducible refine Below.setCell ?_ ?_ _) | (with_reducible refine Below.drew ?_) | (with_reducible refine below_draws ?_ _) | go_size | (simp [size_ext]; done) | (simp [size_ext]; omega)))), HN⟩
    · have t0 : ¬ (k : Int) < (n : Int) := by omega
      have t1 : decide ((k : Int) < (n : Int)) = false := decide_eq_false t0
      have hdr := idxL_drop l k (by rw [HR.out.len]; omega) hno.out
      rw [List.drop_eq_nil_of_le (by rw [HR.out.len]; omega), idxL] at hdr
      have HD := hid hdr
      clear hdr
      go_wp2
      go_ret
      exact ⟨by rw [HD.out]; rfl, HB.out⟩
theorem short_long (l : List ByteArray) : l.any long1 = !short l := by
  unfold short
  rw [List.not_all_eq_any_not]
  congr 1
  funext s
  unfold long1
  rw [Bool.eq_iff_iff]
  simp
set_option maxRecDepth 100000 in
theorem containsLong_any (w : World) (A : Option Addr) (n c : Nat) (l : List ByteArray) (hR : Rd strR w w.heap.size A n c l) :
    Calls Tryd.prog 36 #[.slice A n c, .func (Fn.func 37) #[] #[]] w fun e w' => e = .returned (.bool (!short l)) ∧ Below w.heap.size w w' := by
  have CI := hid (indexLong_any w A n c l hR)
  rw [← short_long]
  rcases idxL_or l 0 with ⟨h1, h2⟩ | ⟨i, hi, h1, h2⟩
  · rw [h1] at CI
    have ha : l.any long1 = false := by rw [List.any_eq_false]; intro x hx; rw [h2 x hx]; simp
    have HA := hid ha
    clear h1 h2 ha hR
    have tk0 : True := trivial; have tk1 : True := trivial; have tk2 : True := trivial; have tk3 : True := trivial; have tk4 : True := trivial; have tk5 : True := trivial; have tk6 : True := trivial; have tk7 : True := trivial; have tk8 : True := trivial; have tk9 : True := trivial; have tk10 : True := trivial; have tk11 : True := trivial; have tk12 : True := trivial
    go_enter Tryd.func36, Tryd.ntmps36
    go_wp2_with (go_at_call 54; have _t := tk1; (with_reducible refine (CI.out).mono ?_); rintro e w1 ⟨rfl, hb⟩; obtain ⟨otk1, dtk1, rfl⟩ := ext_of_below hb; clear hb tk1)
    go_ret
    exact ⟨by rw [HA.out]; rfl, (by (repeat' (first | (with_reducible exact Below.refl _ _) | (with_reducible assumption) | (with_reducible refine below_ext0 ?_ _ _) | (with_reducible refine below_alloc0 ?_ _) | (with_reducible refine Below.ext ?_ ?_ _ _) | (with_reducible refine Below.alloc ?_ ?_ _) | (with_reducible refine Below.setCell ?_ ?_ _) | (with_reducible refine Below.drew ?_) | (with_reducible refine below_draws ?_ _) | go_size | (simp [size_ext]; done) | (simp [size_ext]; omega))))⟩
  · rw [h1] at CI
    have ha : l.any long1 = true := List.any_eq_true.2 ⟨_, List.getElem_mem hi, h2⟩
    have HA := hid ha
    have t0 : (0 : Int) ≤ ((0 + i : Nat) : Int) := by omega
    have t1 : decide ((0 : Int) ≤ ((0 + i : Nat) : Int)) = true := decide_eq_true t0
    clear h1 h2 ha hR
    have tk0 : True := trivial; have tk1 : True := trivial; have tk2 : True := trivial; have tk3 : True := trivial; have tk4 : True := trivial; have tk5 : True := trivial; have tk6 : True := trivial; have tk7 : True := trivial; have tk8 : True := trivial; have tk9 : True := trivial; have tk10 : True := trivial; have tk11 : True := trivial; have tk12 : True := trivial
    go_enter Tryd.func36, Tryd.ntmps36
    go_wp2_with (go_at_call 54; have _t := tk1; (with_reducible refine (CI.out).mono ?_); rintro e w1 ⟨rfl, hb⟩; obtain ⟨otk1, dtk1, rfl⟩ := ext_of_below hb; clear hb tk1)
    go_ret
    exact ⟨by rw [HA.out]; rfl, (by (repeat' (first | (with_reducible exact Below.refl _ _) | (with_reducible assumption) | (with_reducible refine below_ext0 ?_ _ _) | (with_reducible refine below_alloc0 ?_ _) | (with_reducible refine Below.ext ?_ ?_ _ _) | (with_reducible refine Below.alloc ?_ ?_ _) | (with_reducible refine Below.setCell ?_ ?_ _) | (with_reducible refine Below.drew ?_) | (with_reducible refine below_draws ?_ _) | go_size | (simp [size_ext]; done) | (simp [size_ext]; omega))))⟩
end Go.Proofs.YtemgbfppdopfbaaDoor
