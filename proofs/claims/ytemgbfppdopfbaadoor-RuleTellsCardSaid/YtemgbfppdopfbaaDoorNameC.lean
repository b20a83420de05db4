/- Names: Fold, Under, strings.Compare, slices.CompareFunc, slices.Clone of texts. -/
import Derived.Test.YtemgbfppdopfbaaDoorNameB
namespace Go.Proofs.YtemgbfppdopfbaaDoor
open Go.RowKit
set_option linter.unusedVariables false
set_option linter.unusedSimpArgs false

theorem el_str : El Tryd.prog 22 9 1 16 := el_of (z := .string .empty) Tryd.underlying22 (by kernel_rfl) rfl (by decide)
@[reducible] def strsV (l : List ByteArray) : List Value := l.map Value.string
theorem rels_str {w : World} {B : Nat} {l : List ByteArray} (h : ∀ s ∈ l, s.size ≤ 140737488355328) : Rels strR w B l (strsV l) := by
  refine ⟨l.map fun s => [Value.string s], by simp, ?_, fun i hi hi' => ?_⟩
  · clear h
    induction l with
    | nil => rfl
    | cons a l ih => simp [ih]
  · simp only [List.getElem_map]
    exact ⟨rfl, h _ (List.getElem_mem _)⟩
theorem Rd.sizes {w : World} {B n c : Nat} {A : Option Addr} {l : List ByteArray} (h : Rd strR w B A n c l) : ∀ s ∈ l, s.size ≤ 140737488355328 := by
  intro s hs
  obtain ⟨i, hi, rfl⟩ := List.getElem_of_mem hs
  obtain ⟨_, _, _, _, _, hz⟩ := h.str i (by rw [← h.len]; exact hi)
  exact hz

/-! Fold -/
set_option maxRecDepth 100000 in
set_option maxHeartbeats 2000000 in
theorem fold_any (w : World) (A : Option Addr) (n c : Nat) (l : List ByteArray) (h : Rd strR w w.heap.size A n c l) :
    Calls Tryd.prog 51 #[.slice A n c] w fun e w' => ∃ A' c', e = .returned (.slice A' n c') ∧ Rd strR w' w'.heap.size A' n c' (l.map smallS) ∧ Below w.heap.size w w' := by
  have hm := h.max
  have hcap := h.cap
  have hlim := h.lim
  simp only [strR] at hlim
  unfold maxLen at hm
  have H := hid h
  clear h
  go_enter Tryd.func51, Tryd.ntmps51
  go_wp2
  go_loopg [3, 8] n (fun gk v3 v8 wi => ∃ k : Nat, k ≤ n ∧ gk = n - k ∧ v8 = .int .i64 (k : Int) ∧ wi.ownsRow w.heap.size 9 1 v3 k (strsV ((l.take k).map smallS)) ∧ Below w.heap.size w wi)
  case atStart => exact ⟨0, Nat.zero_le _, rfl, rfl, World.ownsRow_nil _ _ _ _, Below.refl _ _⟩
  case round =>
    obtain ⟨k, hk, rfl, rfl, hown, hlow⟩ := hrel
    have HO := hid hown
    have HLOW := hid hlow
    clear hown hlow
    by_cases hlt : k < n
    · obtain ⟨b, o, rfl, _, hc, hz⟩ := (H.out.below HLOW.out).str k hlt
      have hkl : k < l.length := by rw [H.out.len]; exact hlt
      have htk : l.take (k + 1) = l.take k ++ [l[k]] := List.take_succ_eq_append_getElem hkl
      have HTK := hid htk
      obtain ⟨x, hx⟩ : ∃ x, l[k] = x := ⟨_, rfl⟩
      rw [hx] at hc hz
      have HX := hid hx
      have CS := hid (small_any x hz)
      have hsz := HLOW.out.size
      have c4 : (k + 1) * 16 ≤ 140737488355328 := by omega
      have c3 : k + 1 ≤ maxLen := by unfold maxLen; omega
      clear htk hx
      go_wp2_with (first
        | (go_at_call 67; refine (CS.out _).mono ?_; rintro e w1 ⟨rfl, hb⟩; obtain ⟨os, d, rfl⟩ := ext_of_below hb; clear hb)
        | (at_builtin; refine wpList_app rfl _ _ 22 rfl w.heap.size 9 1 16 el_str _ k _ rfl ((own_ext HO.out os d).alloc _) _ 1 1 [.string (smallS x)] rfl (src_one _ rfl (by simp [size_ext])) c4 c3 (by simp [size_ext]; omega) ?_; intro v' w1 ho hg ha; have HO1 := hid ho; have HL1 := hid (Below.trans (Below.alloc (Below.ext HLOW.out hsz os d) (by simp [size_ext]; omega) _) (grown_below ((own_ext HO.out os d).alloc _) hg (by simp [size_ext]; omega))); clear ho hg ha))
      go_roundg (n - (k + 1))
      case measure => omega
      case rel => exact ⟨k + 1, by omega, rfl, by go_num, by rw [HTK.out, HX.out]; simpa [strsV] using HO1.out, HL1.out⟩
    · obtain rfl : k = n := by omega
      have ho := HO.out
      rw [List.take_of_length_le (by rw [H.out.len]; exact Nat.le_refl _)] at ho
      obtain ⟨A', c', rfl, hr⟩ := rd_of_own (R := strR) ho (rels_str (by
        intro s hs
        obtain ⟨t, ht, rfl⟩ := List.mem_map.1 hs
        rw [smallS_size]
        exact H.out.sizes t ht)) (by rw [List.length_map, H.out.len]) HLOW.out.size (by simpa [strR] using hlim) (by decide)
      have HR := hid hr
      clear hr ho HO
      go_wp2
      go_ret
      exact ⟨A', c', rfl, HR.out, HLOW.out⟩

/-! Under -/
def underL (a b : List ByteArray) : Bool := decide (b.length ≤ a.length) && sameL (a.drop (a.length - b.length)) b
theorem Rd.dropS {w : World} {B n c b o k : Nat} {l : List ByteArray} (h : Rd strR w B (some ⟨b, o, none⟩) n c l) (hk : k ≤ n) : Rd strR w B (some ⟨b, o + k, none⟩) (n - k) (c - k) (l.drop k) := by
  have hc := h.cap
  have hm := h.max
  have hl := h.lim
  refine ⟨by rw [List.length_drop, h.len], by omega, by omega, ?_, fun e => (by cases e), fun i hi => ?_⟩
  · simp only [strR] at hl ⊢; omega
  · have hi' : k + i < l.length := by rw [List.length_drop] at hi; omega
    obtain ⟨b', off, vs, e, hb, hr, hcell⟩ := h.at_ (k + i) hi'
    cases e
    refine ⟨b, o + k, vs, rfl, hb, by rw [List.getElem_drop]; exact hr, fun j u hu => ?_⟩
    have := hcell j u hu
    simpa [strR, Nat.add_assoc] using this

/-! strings.Compare -/
/-- two labels, folded -/
def cmpB (a b : ByteArray) : Int := Go.Lib.compareBytes (smallL a.data.toList) (smallL b.data.toList)
/-- from the first label on -/
def cmpL : List ByteArray → List ByteArray → Int
  | [], [] => 0
  | [], _ :: _ => -1
  | _ :: _, [] => 1
  | a :: l, b :: m => if cmpB a b = 0 then cmpL l m else cmpB a b
theorem cmpL_step {l m : List ByteArray} {k : Nat} (hl : k < l.length) (hm : k < m.length) : cmpL (l.drop k) (m.drop k) = if cmpB l[k] m[k] = 0 then cmpL (l.drop (k + 1)) (m.drop (k + 1)) else cmpB l[k] m[k] := by
  rw [List.drop_eq_getElem_cons hl, List.drop_eq_getElem_cons hm, cmpL]

/-! Under -/
set_option maxHeartbeats 2000000 in
theorem under_any (w : World) (A1 : Option Addr) (n1 c1 : Nat) (l1 : List ByteArray) (h1 : Rd strR w w.heap.size A1 n1 c1 l1) (A2 : Option Addr) (n2 c2 : Nat) (l2 : List ByteArray) (h2 : Rd strR w w.heap.size A2 n2 c2 l2) :
    Calls Tryd.prog 59 #[.slice A1 n1 c1, .slice A2 n2 c2] w fun e w' => e = .returned (.bool (underL l1 l2)) ∧ Below w.heap.size w w' := by
  have m1 := h1.max
  have k1 := h1.cap
  have m2 := h2.max
  have k2 := h2.cap
  unfold maxLen at m1 m2
  have e1 := h1.len
  have e2 := h2.len
  by_cases hle : n2 ≤ n1
  · have hu : underL l1 l2 = sameL (l1.drop (n1 - n2)) l2 := by unfold underL; rw [e1, e2, decide_eq_true hle]; rfl
    rw [hu]
    rcases A1 with _ | ad
    · have hc0 : c1 = 0 := h1.nil rfl
      obtain rfl : n1 = 0 := by omega
      obtain rfl : n2 = 0 := by omega
      subst hc0
      have hl : l1 = [] := List.eq_nil_of_length_eq_zero e1
      subst hl
      have C := hid fun w' (hb : Below w.heap.size w w') => same_any w' none 0 0 [] (rd_nil w' _) A2 0 c2 l2 (h2.later hb)
      clear h1 h2 e1 e2 hu
      go_enter Tryd.func59, Tryd.ntmps59
      go_wp2_with fail
      refine (C.out _ (by (repeat' (first | (with_reducible exact Below.refl _ _) | (with_reducible assumption) | (with_reducible refine below_ext0 ?_ _ _) | (with_reducible refine below_alloc0 ?_ _) | (with_reducible refine Below.ext ?_ ?_ _ _) | (with_reducible refine Below.alloc ?_ ?_ _) | (with_reducible refine Below.setCell ?_ ?_ _) | (with_reducible refine Below.drew ?_) | (with_reducible refine below_draws ?_ _) | go_size | (simp [size_ext]; done) | (simp [size_ext]; omega))))).mono ?_
      rintro e w1 ⟨rfl, hb⟩
      obtain ⟨os, d, rfl⟩ := ext_of_below hb
      clear hb
      go_wp2
      go_ret
      exact ⟨by simp, by (repeat' (first | (with_reducible exact Below.refl _ _) | (with_reducible assumption) | (with_reducible refine below_ext0 ?_ _ _) | (with_reducible refine below_alloc0 ?_ _) | (with_reducible refine Below.ext ?_ ?_ _ _) | (with_reducible refine Below.alloc ?_ ?_ _) | (with_reducible refine Below.setCell ?_ ?_ _) | (with_reducible refine Below.drew ?_) | (with_reducible refine below_draws ?_ _) | go_size | (simp [size_ext]; done) | (simp [size_ext]; omega)))⟩
    · have hd : ∃ ad', (if c1 = n1 - n2 then some ad else some (ad.add (n1 - n2))) = some ad' ∧ Rd strR w w.heap.size (some ad') (n1 - (n1 - n2)) (c1 - (n1 - n2)) (l1.drop (n1 - n2)) := by
        by_cases hc : c1 = n1 - n2
        · refine ⟨ad, if_pos hc, ?_⟩
          obtain rfl : n2 = 0 := by omega
          have hl : l1.drop (n1 - 0) = [] := List.drop_eq_nil_of_le (by omega)
          rw [hl, show n1 - (n1 - 0) = 0 by omega, show c1 - (n1 - 0) = 0 by omega]
          exact ⟨rfl, Nat.le_refl _, by simp [maxLen], by simp, fun e => (by cases e), fun i hi => by simp at hi⟩
        · rw [if_neg hc]
          refine ⟨_, rfl, ?_⟩
          by_cases h0 : n1 = 0
          · subst h0
            obtain rfl : n2 = 0 := by omega
            have hl : l1 = [] := List.eq_nil_of_length_eq_zero e1
            subst hl
            exact ⟨rfl, by omega, by unfold maxLen; omega, by simp, fun e => (by cases e), fun i hi => by simp at hi⟩
          · obtain ⟨b, o, e, _⟩ := h1.addr (by omega)
            cases e
            rw [add_none]
            exact h1.dropS (by omega)
      obtain ⟨ad', hA, hR⟩ := hd
      have C := hid fun w' (hb : Below w.heap.size w w') => same_any w' _ _ _ _ (hR.later hb) A2 n2 c2 l2 (h2.later hb)
      clear h1 h2 e1 e2 hu hR
      have hlez : (n2 : Int) ≤ (n1 : Int) := by omega
      go_enter Tryd.func59, Tryd.ntmps59
      go_wp2_with fail
      refine (C.out _ (by (repeat' (first | (with_reducible exact Below.refl _ _) | (with_reducible assumption) | (with_reducible refine below_ext0 ?_ _ _) | (with_reducible refine below_alloc0 ?_ _) | (with_reducible refine Below.ext ?_ ?_ _ _) | (with_reducible refine Below.alloc ?_ ?_ _) | (with_reducible refine Below.setCell ?_ ?_ _) | (with_reducible refine Below.drew ?_) | (with_reducible refine below_draws ?_ _) | go_size | (simp [size_ext]; done) | (simp [size_ext]; omega))))).mono ?_
      rintro e w1 ⟨rfl, hb⟩
      obtain ⟨os, d, rfl⟩ := ext_of_below hb
      clear hb
      go_wp2
      go_ret
      exact ⟨by simp, by (repeat' (first | (with_reducible exact Below.refl _ _) | (with_reducible assumption) | (with_reducible refine below_ext0 ?_ _ _) | (with_reducible refine below_alloc0 ?_ _) | (with_reducible refine Below.ext ?_ ?_ _ _) | (with_reducible refine Below.alloc ?_ ?_ _) | (with_reducible refine Below.setCell ?_ ?_ _) | (with_reducible refine Below.drew ?_) | (with_reducible refine below_draws ?_ _) | go_size | (simp [size_ext]; done) | (simp [size_ext]; omega)))⟩
  · have hu : underL l1 l2 = false := by unfold underL; rw [e1, e2, decide_eq_false hle]; rfl
    rw [hu]
    have hlt : (n1 : Int) < (n2 : Int) := by omega
    clear h1 h2 e1 e2 hu hle
    go_enter Tryd.func59, Tryd.ntmps59
    go_wp2
    go_ret
    exact ⟨rfl, Below.refl _ _⟩

/-! slices.Clone -/
theorem flat_one (l : List ByteArray) : (l.map fun s => [Value.string s]).flatten = strsV l := by
  induction l with
  | nil => rfl
  | cons a l ih => simp only [strsV] at ih; simp [ih]
set_option maxHeartbeats 1000000 in
theorem clone_strs (w : World) (A : Option Addr) (n c : Nat) (l : List ByteArray) (B : Nat) (h : Rd strR w B A n c l) :
    Calls Tryd.prog 61 #[.slice A n c] w fun e w' => ∃ v, e = .returned v ∧ w'.ownsRow w.heap.size 9 1 v n (strsV l) ∧ Below w.heap.size w w' := by
  have hm := h.lim
  simp only [strR] at hm
  have he := fun w a n c => Lib.run_eql_slice_nil (P := Tryd.prog) w 22 9 a n c 0 0 Tryd.underlying22
  obtain ⟨ys, hr, hs⟩ := h.src (R := strR) fun a vs (hv : vs = _ ∧ _) u hu => by
    rw [hv.1] at hu
    simp at hu
    subst hu
    rfl
  have hys : ys = strsV l := by
    obtain ⟨vss, h1, rfl, hv⟩ := hr
    have : vss = l.map fun s => [Value.string s] := by
      apply List.ext_getElem (by simpa using h1)
      intro i hi hi'
      simp only [List.getElem_map]
      exact (hv i (by omega) hi).1
    rw [this]
    exact flat_one l
  subst hys
  have HS := hid hs
  rcases A with _ | ad
  · have hn : n = 0 ∧ c = 0 := hs.nil rfl
    obtain ⟨rfl, rfl⟩ := hn
    have hl : l = [] := List.eq_nil_of_length_eq_zero h.len
    subst hl
    clear h hr hs
    go_enter Tryd.func61, Tryd.ntmps61
    go_wp2
    go_ret
    exact ⟨_, rfl, World.ownsRow_nil _ _ _ _, Below.refl _ _⟩
  · clear h hr hs
    go_enter Tryd.func61, Tryd.ntmps61
    go_wp2_with (at_builtin; refine wpList_app rfl _ _ 22 rfl w.heap.size 9 1 16 el_str (.slice (some ⟨w.heap.size, 0, none⟩) 0 0) 0 [] rfl (own_lit #[] [] rfl (Nat.le_refl _) rfl (by decide) rfl) _ n c (strsV l) rfl (HS.out.later ((Below.refl _ _).alloc (Nat.le_refl _) _)) (by omega) (by unfold maxLen; omega) (by simp) ?_; intro v' w1 ho hg _)
    go_ret
    refine ⟨_, rfl, by simpa using ho, ?_⟩
    exact ((Below.refl _ w).alloc (Nat.le_refl _) _).grown hg (by simp) (by simp [Value.ownBlock])
end Go.Proofs.YtemgbfppdopfbaaDoor
