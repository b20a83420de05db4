/- name.Text and name.Read, of whatever comes in. -/
import Derived.Test.YtbjjmikiefgnaaaDoorReadT
namespace Go.Proofs.YtbjjmikiefgnaaaDoor
open Go.RowKit
set_option linter.unusedVariables false
set_option linter.unusedSimpArgs false

theorem err_small {l : List ByteArray} (h : nameErr l = 0) : (∀ s ∈ l, 1 ≤ s.size ∧ s.size ≤ 63) ∧ l.length ≤ 255 := by
  unfold nameErr at h
  split at h
  · rename_i hall
    split at h
    · rename_i hn
      constructor
      · intro s hs
        have := List.all_eq_true.1 hall s hs
        unfold labelOk at this
        rw [Bool.and_eq_true, decide_eq_true_iff, decide_eq_true_iff] at this
        exact this
      · have hlen : ∀ l : List ByteArray, l.length ≤ (l.map fun s => s.size + 1).sum := by
          intro l
          induction l with
          | nil => simp
          | cons a l ih => simp at ih ⊢; omega
        have := hlen l
        unfold nsize at hn
        omega
    · cases h
  · cases h
def textR (l : List ByteArray) : ByteArray := if nameErr l = 0 then textS l else .empty
theorem text_any {w : World} {A : Option Addr} {n c : Nat} {l : List ByteArray} (h : Rd strR w w.heap.size A n c l) :
    Calls Tryd.prog 25 #[.slice A n c] w fun e w' => e = .returned (.tuple #[.string (textR l), errV (nameErr l)]) ∧ Below w.heap.size w w' := by
  by_cases h0 : nameErr l = 0
  · obtain ⟨h1, h2⟩ := err_small h0
    unfold textR
    rw [if_pos h0, h0, show errV 0 = .nilIface from rfl]
    by_cases hn : n = 0
    · subst hn
      have hl : l = [] := List.eq_nil_of_length_eq_zero h.len
      subst hl
      refine (text_nil h).mono ?_
      rintro e w' ⟨rfl, rfl⟩
      exact ⟨rfl, Below.refl _ _⟩
    · exact text_ok h h0 hn (by rw [← h.len]; exact h2) fun s hs => (h1 s hs).2
  · unfold textR
    rw [if_neg h0]
    refine (text_bad h rfl h0).mono ?_
    rintro e w' ⟨rfl, rfl⟩
    exact ⟨rfl, Below.refl _ _⟩
theorem read_all {w : World} (s : ByteArray) (hs : s.size ≤ 1048576) : Calls Tryd.prog 56 #[.string s] w (ReadO w (readT s.data.toList)) := by
  unfold readT
  by_cases h : s.data.toList = [46]
  · rw [if_pos h]
    have e : s = ⟨#[46]⟩ := by
      cases s with
      | mk d => rw [show d = #[46] from Array.toList_inj.1 h]
    subst e
    refine (read_dot w).mono ?_
    rintro e w' ⟨rfl, rfl⟩
    exact ⟨Below.refl _ _, .inr ⟨[], true, none, 0, rfl, rfl, rd_nil _ _⟩⟩
  · rw [if_neg h]
    exact read_main s hs h
def mkL (ns : List (List UInt8)) : List ByteArray := ns.map fun l => ⟨l.toArray⟩
/-- the name of a text; none: it is of none -/
def readOk (s : ByteArray) : Option (List ByteArray) :=
  match readT s.data.toList with
  | some (ns, true) => if nameErr (mkL ns) = 0 ∧ textS (mkL ns) = s then some (mkL ns) else none
  | _ => none
/-- what Read hands back -/
def ReadN (w : World) (r : Option (List ByteArray)) (e : Ending) (w' : World) : Prop :=
  Below w.heap.size w w' ∧ ((r = none ∧ e = .returned (.tuple #[.slice none 0 0, .iface 25 (.int .i64 1)])) ∨
      ∃ l n A c, r = some l ∧ l.length = n ∧ e = .returned (.tuple #[.slice A n c, .nilIface]) ∧ Rd strR w' w'.heap.size A n c l)

set_option maxRecDepth 100000 in
set_option maxHeartbeats 4000000 in
theorem readN_any {w : World} (s : ByteArray) (hs : s.size ≤ 1048576) : Calls Tryd.prog 28 #[.string s] w (ReadN w (readOk s)) := by
  have CR := hid (fun w' => read_all (w := w') s hs)
  obtain ⟨r, hr⟩ : ∃ r, readT s.data.toList = r := ⟨_, rfl⟩
  rw [hr] at CR
  have HR := hid hr
  clear hr
  have tk0 : True := trivial; have tk1 : True := trivial; have tk2 : True := trivial; have tk3 : True := trivial; have tk4 : True := trivial; have tk5 : True := trivial; have tk6 : True := trivial; have tk7 : True := trivial; have tk8 : True := trivial; have tk9 : True := trivial; have tk10 : True := trivial; have tk11 : True := trivial; have tk12 : True := trivial
  go_enter Tryd.func28, Tryd.ntmps28
  go_wp2_with fail
  refine (CR.out _).mono ?_
  rintro e w1 ⟨hb1, (⟨rfl, rfl⟩ | ⟨ns, b, A, c, rfl, rfl, hrd⟩)⟩
  · have hfin := hid (show readOk s = none by unfold readOk; rw [HR.out])
    have HB1 := hid hb1
    have CT := hid (text_any (rd_nil (R := strR) w1 w1.heap.size))
    clear hb1
    go_wp2_with (go_at_call 25; have _t := tk1; (with_reducible refine (CT.out).mono ?_); rintro e w1 ⟨rfl, hb⟩; obtain ⟨otk1, dtk1, rfl⟩ := ext_of_below hb; clear hb tk1)
    go_ret2
    exact ⟨by have := HB1.out; have := HB1.out.size; (repeat' (first | (with_reducible exact Below.refl _ _) | (with_reducible assumption) | (with_reducible refine below_ext0 ?_ _ _) | (with_reducible refine below_alloc0 ?_ _) | (with_reducible refine Below.ext ?_ ?_ _ _) | (with_reducible refine Below.alloc ?_ ?_ _) | (with_reducible refine Below.setCell ?_ ?_ _) | (with_reducible refine Below.drew ?_) | (with_reducible refine below_draws ?_ _) | go_size | (simp [size_ext]; done) | (simp [size_ext]; omega))), .inl ⟨hfin.out, rfl⟩⟩
  · have HB1 := hid hb1
    have HRD := hid hrd
    have CT := text_any hrd
    obtain ⟨l, hl⟩ : ∃ l, mkL ns = l := ⟨_, rfl⟩
    rw [show (ns.map fun l => (⟨l.toArray⟩ : ByteArray)) = l from hl] at CT HRD
    have HL := hid hl
    obtain ⟨nn, hnn⟩ : ∃ nn, ns.length = nn := ⟨_, rfl⟩
    rw [hnn] at CT HRD ⊢
    have HNN := hid (show l.length = nn by rw [← hl, ← hnn]; simp [mkL])
    clear hb1 hrd hl hnn
    by_cases h0 : nameErr l = 0
    · have ht : textR l = textS l := if_pos h0
      rw [ht, h0, show errV 0 = .nilIface from rfl] at CT
      obtain ⟨t, hts⟩ : ∃ t, textS l = t := ⟨_, rfl⟩
      rw [hts] at CT
      have HC := hid CT
      have H0 := hid h0
      have HTS := hid hts
      clear CT h0 ht hts
      cases b with
      | false =>
        have hfin := hid (show readOk s = none by unfold readOk; rw [HR.out])
        go_wp2_with (go_at_call 25; have _t := tk1; (with_reducible refine (HC.out).mono ?_); rintro e w1 ⟨rfl, hb⟩; obtain ⟨otk1, dtk1, rfl⟩ := ext_of_below hb; clear hb tk1)
        go_ret2
        exact ⟨by have := HB1.out; have := HB1.out.size; (repeat' (first | (with_reducible exact Below.refl _ _) | (with_reducible assumption) | (with_reducible refine below_ext0 ?_ _ _) | (with_reducible refine below_alloc0 ?_ _) | (with_reducible refine Below.ext ?_ ?_ _ _) | (with_reducible refine Below.alloc ?_ ?_ _) | (with_reducible refine Below.setCell ?_ ?_ _) | (with_reducible refine Below.drew ?_) | (with_reducible refine below_draws ?_ _) | go_size | (simp [size_ext]; done) | (simp [size_ext]; omega))), .inl ⟨hfin.out, rfl⟩⟩
      | true =>
        have hro : readOk s = if nameErr (mkL ns) = 0 ∧ textS (mkL ns) = s then some (mkL ns) else none := by unfold readOk; rw [HR.out]
        rw [HL.out, HTS.out] at hro
        by_cases hst : t = s
        · subst hst
          have hfin := hid (show readOk t = some l by rw [hro, if_pos ⟨H0.out, rfl⟩])
          clear hro
          go_wp2_with (go_at_call 25; have _t := tk1; (with_reducible refine (HC.out).mono ?_); rintro e w1 ⟨rfl, hb⟩; obtain ⟨otk1, dtk1, rfl⟩ := ext_of_below hb; clear hb tk1)
          go_ret2
          exact ⟨by have := HB1.out; have := HB1.out.size; (repeat' (first | (with_reducible exact Below.refl _ _) | (with_reducible assumption) | (with_reducible refine below_ext0 ?_ _ _) | (with_reducible refine below_alloc0 ?_ _) | (with_reducible refine Below.ext ?_ ?_ _ _) | (with_reducible refine Below.alloc ?_ ?_ _) | (with_reducible refine Below.setCell ?_ ?_ _) | (with_reducible refine Below.drew ?_) | (with_reducible refine below_draws ?_ _) | go_size | (simp [size_ext]; done) | (simp [size_ext]; omega))), .inr ⟨l, nn, A, c, hfin.out, HNN.out, rfl, HRD.out.later (by (repeat' (first | (with_reducible exact Below.refl _ _) | (with_reducible assumption) | (with_reducible refine below_ext0 ?_ _ _) | (with_reducible refine below_alloc0 ?_ _) | (with_reducible refine Below.ext ?_ ?_ _ _) | (with_reducible refine Below.alloc ?_ ?_ _) | (with_reducible refine Below.setCell ?_ ?_ _) | (with_reducible refine Below.drew ?_) | (with_reducible refine below_draws ?_ _) | go_size | (simp [size_ext]; done) | (simp [size_ext]; omega))))⟩⟩
        · have hfin := hid (show readOk s = none by rw [hro, if_neg fun h => hst h.2])
          have hne : (t.toList == s.toList) = false := by rw [str_beq, decide_eq_false hst]
          have hne2 : (!t.toList == s.toList) = true := by rw [hne]; rfl
          clear hro hst
          go_wp2_with (go_at_call 25; have _t := tk1; (with_reducible refine (HC.out).mono ?_); rintro e w1 ⟨rfl, hb⟩; obtain ⟨otk1, dtk1, rfl⟩ := ext_of_below hb; clear hb tk1)
          go_ret2
          exact ⟨by have := HB1.out; have := HB1.out.size; (repeat' (first | (with_reducible exact Below.refl _ _) | (with_reducible assumption) | (with_reducible refine below_ext0 ?_ _ _) | (with_reducible refine below_alloc0 ?_ _) | (with_reducible refine Below.ext ?_ ?_ _ _) | (with_reducible refine Below.alloc ?_ ?_ _) | (with_reducible refine Below.setCell ?_ ?_ _) | (with_reducible refine Below.drew ?_) | (with_reducible refine below_draws ?_ _) | go_size | (simp [size_ext]; done) | (simp [size_ext]; omega))), .inl ⟨hfin.out, rfl⟩⟩
    · have hfin := hid (show readOk s = none by
        unfold readOk
        rw [HR.out]
        cases b with
        | false => rfl
        | true => simp only; rw [HL.out, if_neg fun h => h0 h.1])
      obtain ⟨E, hE⟩ : ∃ E, nameErr l = E := ⟨_, rfl⟩
      rw [hE] at CT h0
      rw [show errV E = .iface 25 (.int .i64 E) from if_neg h0] at CT
      have HC := hid CT
      clear CT h0 hE
      cases b with
      | false =>
        go_wp2_with (go_at_call 25; have _t := tk1; (with_reducible refine (HC.out).mono ?_); rintro e w1 ⟨rfl, hb⟩; obtain ⟨otk1, dtk1, rfl⟩ := ext_of_below hb; clear hb tk1)
        go_ret2
        exact ⟨by have := HB1.out; have := HB1.out.size; (repeat' (first | (with_reducible exact Below.refl _ _) | (with_reducible assumption) | (with_reducible refine below_ext0 ?_ _ _) | (with_reducible refine below_alloc0 ?_ _) | (with_reducible refine Below.ext ?_ ?_ _ _) | (with_reducible refine Below.alloc ?_ ?_ _) | (with_reducible refine Below.setCell ?_ ?_ _) | (with_reducible refine Below.drew ?_) | (with_reducible refine below_draws ?_ _) | go_size | (simp [size_ext]; done) | (simp [size_ext]; omega))), .inl ⟨hfin.out, rfl⟩⟩
      | true =>
        go_wp2_with (go_at_call 25; have _t := tk1; (with_reducible refine (HC.out).mono ?_); rintro e w1 ⟨rfl, hb⟩; obtain ⟨otk1, dtk1, rfl⟩ := ext_of_below hb; clear hb tk1)
        go_ret2
        exact ⟨by have := HB1.out; have := HB1.out.size; (repeat' (first | (with_reducible exact Below.refl _ _) | (with_reducible assumption) | (with_reducible refine below_ext0 ?_ _ _) | (with_reducible refine below_alloc0 ?_ _) | (with_reducible refine Below.ext ?_ ?_ _ _) | (with_reducible refine Below.alloc ?_ ?_ _) | (with_reducible refine Below.setCell ?_ ?_ _) | (with_reducible refine Below.drew ?_) | (with_reducible refine below_draws ?_ _) | go_size | (simp [size_ext]; done) | (simp [size_ext]; omega))), .inl ⟨hfin.out, rfl⟩⟩
end Go.Proofs.YtbjjmikiefgnaaaDoor
