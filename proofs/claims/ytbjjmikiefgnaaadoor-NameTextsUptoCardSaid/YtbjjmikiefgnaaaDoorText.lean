/- name.Text: a name as a text. -/
import Derived.Test.YtbjjmikiefgnaaaDoorBld
import Derived.Test.YtbjjmikiefgnaaaDoorTextP
import Derived.Test.YtbjjmikiefgnaaaDoorNameB
namespace Go.Proofs.YtbjjmikiefgnaaaDoor
open Go.RowKit
set_option linter.unusedVariables false
set_option linter.unusedSimpArgs false

def namL (l : List ByteArray) : List (List UInt8) := l.map fun s => s.data.toList
def textS (l : List ByteArray) : ByteArray := ⟨(textT (namL l)).toArray⟩
/-- a text's bytes, laid -/
theorem conv_any (s : ByteArray) (hs : s.size ≤ 140737488355328) (w : World) : ∃ (C : Array Value) (N : Nat), (convert 9 24 (.string s)).run Tryd.prog w = .ok (.slice (some ⟨w.heap.size, 0, none⟩) s.size N) (w.drew.alloc (.cells C 5 (N, N + 1))) ∧ C.size = N ∧ s.size ≤ N ∧ N ≤ maxLen ∧ C.toList.take s.size = s.data.toList.map fun x => Value.int .u8 (x.toNat : Int) := by
  have conv := run_bytes_of_string w 9 24 5 s Tryd.underlying9 Tryd.underlying24 Tryd.underlying5
  have hge := grownCap_ge w s.size 0 5
  have hle := grownCap_le_maxLen w s.size 0 5 (by unfold maxLen; omega)
  have hsz : s.data.toList.length = s.size := by rw [Array.length_toList]; rfl
  have hcs : (bytesRow s (grownCap w s.size 0 5)).size = grownCap w s.size 0 5 := by
    unfold bytesRow
    simp only [Array.size_append, Array.size_map, Array.size_replicate]
    have : s.data.size = s.size := rfl
    omega
  rw [hcs] at conv
  refine ⟨_, _, conv, hcs, hge, hle, ?_⟩
  unfold bytesRow
  rw [Array.toList_append, List.take_append_of_le_length (by rw [Array.toList_map, List.length_map, hsz]; exact Nat.le_refl _), List.take_of_length_le (by rw [Array.toList_map, List.length_map, hsz]; exact Nat.le_refl _)]
  simp
/-- the bytes of the first labels' texts -/
def accT (l : List ByteArray) (k : Nat) : List UInt8 := ((namL l).take k).flatMap labelT
theorem accT_succ {l : List ByteArray} {k : Nat} (hk : k < l.length) : accT l (k + 1) = accT l k ++ l[k].data.toList.flatMap escB ++ [46] := by
  unfold accT
  rw [List.take_succ_eq_append_getElem (by simp [namL]; exact hk)]
  simp [namL, labelT]
theorem escs_len (l : List UInt8) : (l.flatMap escB).length ≤ 4 * l.length := by
  induction l with
  | nil => simp
  | cons b l ih => have := escB_len b; simp at ih ⊢; omega
theorem accT_len {l : List ByteArray} (h : ∀ s ∈ l, s.size ≤ 63) : ∀ k, k ≤ l.length → (accT l k).length ≤ 253 * k := by
  intro k
  induction k with
  | zero => intro _; simp [accT]
  | succ k ih =>
    intro hk
    have h1 := ih (by omega)
    have h2 := escs_len (l[k]'(by omega)).data.toList
    have h3 := h (l[k]'(by omega)) (List.getElem_mem _)
    have h4 : (l[k]'(by omega)).data.toList.length = (l[k]'(by omega)).size := by rw [Array.length_toList]; rfl
    rw [accT_succ (by omega)]
    simp only [List.length_append, List.length_cons, List.length_nil]
    omega
section
variable {w wi w' : World} {B b gR N : Nat} {C : Array Value} {acc acc' : List UInt8}
theorem Bld.later (h : Bld B b acc w) (hb : Below w.heap.size w w') : Bld B b acc w' := by
  have hlt : b < w.heap.size := by
    rcases h with h | h
    · exact h.lt
    · exact h.lt
  rcases h with ⟨h1, v, h2, h3, h4⟩ | ⟨h1, v, h2, h3, h4⟩
  · exact .inl ⟨h1, v, (hb.block b hlt).trans h2, own_low h3 hb (Nat.le_refl _), h4⟩
  · exact .inr ⟨h1, v, (hb.block b hlt).trans h2, own_low h3 hb (Nat.le_refl _), h4⟩
theorem Bld.apart (h : Bld B b acc w) (hb : Below w.heap.size w w') {g : Nat} (hg : w.heap.size ≤ g) : ApartB w' b g := by
  intro p u hu e
  have hlt : b < w.heap.size := by
    rcases h with h | h
    · exact h.lt
    · exact h.lt
  rw [hb.block b hlt] at hu
  rcases h with ⟨h1, v, h2, h3, h4⟩ | ⟨h1, v, h2, h3, h4⟩
  all_goals
    rw [h2] at hu
    injection hu with hu
    injection hu with hu
    simp only [Array.mk.injEq, List.cons.injEq, and_true] at hu
    obtain ⟨_, rfl⟩ := hu
    have := (h3.lt g e).2
    omega
/-- in the middle of a label: the builder, and the label's bytes beside it -/
structure InT (w : World) (B b gR N : Nat) (C : Array Value) (acc : List UInt8) (wi : World) : Prop where
  bld : Bld B b acc wi
  blk : wi.heap[gR]? = some (.cells C 5 (N, N + 1))
  ap : ApartB wi b gR
  ne : gR ≠ b
  low : Below B w wi
theorem InT.lt (h : InT w B b gR N C acc wi) : gR < wi.heap.size := (Array.getElem?_eq_some_iff.1 h.blk).1
theorem InT.step (h : InT w B b gR N C acc wi) (hb : Bld B b acc' w') (hl : Below B wi w') (hk : KeepB wi w' b) : InT w B b gR N C acc' w' := by
  obtain ⟨h1, h2⟩ := hk gR h.lt h.ne h.ap
  exact ⟨hb, h1.trans h.blk, h2, h.ne, h.low.trans hl⟩
theorem InT.byte (h : InT w B b gR N C acc wi) (c : UInt8) (hlen : acc.length + 1 ≤ 140737488355328) (hB : B ≤ w.heap.size) {y : Int} (hy : y = (c.toNat : Int)) :
    Calls Tryd.prog 52 #[.pointer (some ⟨b, 0, none⟩), .int .u8 y] wi fun e w' => e = .returned .nilIface ∧ InT w B b gR N C (acc ++ [c]) w' := by
  refine (wbyte_any h.bld c hlen (Nat.le_trans hB h.low.size) hy).mono ?_
  rintro e w' ⟨rfl, h1, h2, h3⟩
  exact ⟨rfl, h.step h1 h2 h3⟩
theorem InT.lit (h : InT w B b gR N C acc wi) (T : TypeId) (cs : Array Value) (m : List UInt8) (hm : cs.toList = m.map fun x => Value.int .u8 (x.toNat : Int)) {n : Nat} (hn : m.length = n) (hlen : acc.length + n ≤ 140737488355328) (hB : B ≤ w.heap.size) :
    Calls Tryd.prog 53 #[.pointer (some ⟨b, 0, none⟩), .slice (some ⟨wi.heap.size, 0, none⟩) n n] (wi.alloc (.cells cs T)) fun e w' => e = .returned (.tuple #[.int .i64 (n : Int), .nilIface]) ∧ InT w B b gR N C (acc ++ m) w' := by
  have hz := h.low.size
  have hb := (Below.refl _ wi).alloc (Nat.le_refl _) (.cells cs T)
  have h' : InT w B b gR N C acc (wi.alloc (.cells cs T)) := ⟨h.bld.later hb, (hb.block gR h.lt).trans h.blk, fun p v e => by
    have hlt : b < wi.heap.size := by
      rcases h.bld with h | h
      · exact h.lt
      · exact h.lt
    rw [hb.block b hlt] at e
    exact h.ap p v e, h.ne, h.low.trans (hb.mono (by omega))⟩
  have hlt : b < wi.heap.size := by
    rcases h.bld with h | h
    · exact h.lt
    · exact h.lt
  refine (write_lit h'.bld m (Blk.new wi T cs) (by omega) hm hn hlen (by simp; omega)).mono ?_
  rintro e w' ⟨rfl, h1, h2, h3⟩
  exact ⟨rfl, h'.step h1 h2 h3⟩
end
theorem textT_ne (n : List (List UInt8)) : textT n ≠ [] := by
  unfold textT
  split
  · simp
  · cases n with
    | nil => rename_i h; exact absurd rfl h
    | cons a n => simp [labelT]
theorem text_bad {w : World} {A : Option Addr} {n c : Nat} {l : List ByteArray} {B : Nat} (h : Rd strR w B A n c l) {E : Int} (hE : nameErr l = E) (h0 : E ≠ 0) :
    Calls Tryd.prog 25 #[.slice A n c] w fun e w' => e = .returned (.tuple #[.string .empty, errV E]) ∧ w' = w := by
  have CK := name_check w A n c l B h
  rw [hE, show errV E = .iface 25 (.int .i64 E) from if_neg h0] at CK
  rw [show errV E = .iface 25 (.int .i64 E) from if_neg h0]
  replace CK := hid CK
  clear h hE h0
  go_enter Tryd.func25, Tryd.ntmps25
  go_wp2_with (go_at_call 15; (with_reducible refine CK.out.mono ?_); rintro e w1 ⟨rfl, hw⟩; subst w1)
  go_ret2
  exact ⟨rfl, rfl⟩
theorem text_nil {w : World} {A : Option Addr} {c : Nat} (h : Rd strR w w.heap.size A 0 c []) :
    Calls Tryd.prog 25 #[.slice A 0 c] w fun e w' => e = .returned (.tuple #[.string ⟨#[46]⟩, .nilIface]) ∧ w' = w := by
  have CK := name_check w A 0 c [] w.heap.size h
  rw [show errV (nameErr []) = .nilIface from rfl] at CK
  replace CK := hid CK
  clear h
  go_enter Tryd.func25, Tryd.ntmps25
  go_wp2_with (go_at_call 15; (with_reducible refine CK.out.mono ?_); rintro e w1 ⟨rfl, hw⟩; subst w1)
  go_ret2
  exact ⟨rfl, rfl⟩

set_option maxRecDepth 100000 in
set_option maxHeartbeats 8000000 in
theorem text_ok {w : World} {A : Option Addr} {n c : Nat} {l : List ByteArray} (h : Rd strR w w.heap.size A n c l) (hE : nameErr l = 0) (hn0 : n ≠ 0) (hn : n ≤ 255) (hs63 : ∀ s ∈ l, s.size ≤ 63) :
    Calls Tryd.prog 25 #[.slice A n c] w fun e w' => e = .returned (.tuple #[.string (textS l), .nilIface]) ∧ Below w.heap.size w w' := by
  have CK := name_check w A n c l _ h
  rw [hE, show errV 0 = .nilIface from rfl] at CK
  have HCK := hid CK
  have H := hid h
  have HL := hid h.len
  have HS := hid hs63
  have tk0 : True := trivial; have tk1 : True := trivial; have tk2 : True := trivial; have tk3 : True := trivial; have tk4 : True := trivial; have tk5 : True := trivial; have tk6 : True := trivial; have tk7 : True := trivial; have tk8 : True := trivial; have tk9 : True := trivial; have tk10 : True := trivial; have tk11 : True := trivial; have tk12 : True := trivial
  have hn1 : ((n : Int) == 0) = false := by rw [beq_eq_false_iff_ne]; omega
  clear CK h hE hs63 hn0
  go_enter Tryd.func25, Tryd.ntmps25
  go_wp2_with (go_at_call 15; (with_reducible refine HCK.out.mono ?_); rintro e w1 ⟨rfl, hw⟩; subst w1)
  have hb0 := hid (Lib.fresh_isBuilder 87 5 w)
  go_loopg [20] n (fun gk v20 wi => ∃ k : Nat, k ≤ n ∧ gk = n - k ∧ v20 = .int .i64 (k : Int) ∧ Bld w.heap.size w.heap.size (accT l k) wi ∧ Below w.heap.size w wi)
  case atStart => exact ⟨0, Nat.zero_le _, rfl, rfl, hb0.out, by (repeat' (first | (with_reducible exact Below.refl _ _) | (with_reducible assumption) | (with_reducible refine below_ext0 ?_ _ _) | (with_reducible refine below_alloc0 ?_ _) | (with_reducible refine Below.ext ?_ ?_ _ _) | (with_reducible refine Below.alloc ?_ ?_ _) | (with_reducible refine Below.setCell ?_ ?_ _) | (with_reducible refine Below.drew ?_) | (with_reducible refine below_draws ?_ _) | go_size | (simp [size_ext]; done) | (simp [size_ext]; omega)))⟩
  case round =>
    obtain ⟨k, hk, rfl, rfl, hbl, hlow⟩ := hrel
    have HB := hid hbl
    have HLOW := hid hlow
    have zw := hlow.size
    have hal := accT_len HS.out k (by rw [HL.out]; exact hk)
    clear hbl hlow hb0
    by_cases hlt : k < n
    · have g0 : (k : Int) < (n : Int) := by omega
      obtain ⟨b1, o1, rfl, lb1, cc1, z1⟩ := (H.out.below HLOW.out).str k hlt
      have hkl : k < l.length := by rw [HL.out]; exact hlt
      have hsm := HS.out (l[k]'hkl) (List.getElem_mem _)
      have HSU := hid (accT_succ hkl)
      obtain ⟨s, hs⟩ : ∃ s, l[k]'hkl = s := ⟨_, rfl⟩
      rw [hs] at cc1 hsm HSU
      obtain ⟨C, N, hconv, hCN, hN, hNm, hCt⟩ := conv_any s (by omega) wr
      have HC := hid (And.intro hCN hCt)
      have lb1' : b1 < wr.heap.size := by omega
      have hslen := hid (show s.data.toList.length = s.size by rw [Array.length_toList]; rfl)
      clear hs hCN hCt z1
      go_wp2
      have hbl0 := (Below.refl _ wr).alloc (Nat.le_refl _) (.cells C 5 (N, N + 1))
      have hI0 := hid (show InT w w.heap.size w.heap.size wr.heap.size N C (accT l k) (wr.alloc (.cells C 5 (N, N + 1))).drew from
        ⟨HB.out.later (hbl0.drew), heap_alloc_new wr _, HB.out.apart hbl0.drew (Nat.le_refl _), by
          have : w.heap.size < wr.heap.size := by
            rcases HB.out with h | h
            · exact h.lt
            · exact h.lt
          omega, (HLOW.out.trans (hbl0.mono zw)).drew⟩)
      obtain ⟨gR, hgR⟩ : ∃ g, wr.heap.size = g := ⟨_, rfl⟩
      rw [hgR] at hI0 ⊢
      clear hgR hbl0 hconv lb1'
      go_loopg [27] s.size (fun gk v27 wi => ∃ j : Nat, j ≤ s.size ∧ gk = s.size - j ∧ v27 = .int .i64 (j : Int) ∧ InT w w.heap.size w.heap.size gR N C (accT l k ++ (s.data.toList.take j).flatMap escB) wi)
      case atStart => exact ⟨0, Nat.zero_le _, rfl, rfl, by simpa using hI0.out⟩
      case round =>
        obtain ⟨j, hj, rfl, rfl, hI⟩ := hrel
        have HI := hid hI
        have hel := escs_len (s.data.toList.take j)
        have htl : (s.data.toList.take j).length ≤ j := List.length_take_le _ _
        obtain ⟨acc, hacc⟩ : ∃ acc, accT l k ++ (s.data.toList.take j).flatMap escB = acc := ⟨_, rfl⟩
        have hacl : acc.length ≤ 253 * k + 4 * j := by rw [← hacc, List.length_append]; omega
        rw [hacc] at HI
        have HACC := hid hacc
        clear hI hI0 hacc hel htl
        by_cases hjlt : j < s.size
        · have g1 : (j : Int) < (s.size : Int) := by omega
          have hjl : j < s.data.toList.length := by rw [hslen.out]; exact hjlt
          obtain ⟨x, hx⟩ : ∃ x, s.data.toList[j]'hjl = x := ⟨_, rfl⟩
          have cx : wr.cell? ⟨gR, j, none⟩ = some (.int .u8 (x.toNat : Int)) := by
            rw [Lib.cell_of_heap HI.out.blk]
            have h1 : (C.toList.take s.size)[j]? = some (.int .u8 (x.toNat : Int)) := by rw [HC.out.2, List.getElem?_map, List.getElem?_eq_getElem hjl, hx]; rfl
            rw [List.getElem?_take_of_lt hjlt] at h1
            rw [← Array.getElem?_toList]; exact h1
          have HTK := hid (show (s.data.toList.take (j + 1)).flatMap escB = (s.data.toList.take j).flatMap escB ++ escB x by rw [List.take_succ_eq_append_getElem hjl, hx]; simp)
          have xlt := x.toNat_lt
          have hcap : j < N := by omega
          clear hx hjl
          have fin := hid (fun wz (hz : InT w w.heap.size w.heap.size gR N C (acc ++ escB x) wz) => (show InT w w.heap.size w.heap.size gR N C (accT l k ++ (s.data.toList.take (j + 1)).flatMap escB) wz by rw [HTK.out, ← List.append_assoc, HACC.out]; exact hz))
          have x0 : (0 : Int) ≤ (x.toNat : Int) := by omega
          have x1 : (x.toNat : Int) ≤ 255 := by omega
          by_cases hsp : x.toNat = 46 ∨ x.toNat = 92
          · have he := hid (show escB x = [92, x] by unfold escB; rw [if_pos hsp])
            have CW := hid (HI.out.byte 92 (by omega) (Nat.le_refl _) (y := 92) rfl)
            have CW2 := hid (fun wz (hz : InT w w.heap.size w.heap.size gR N C (acc ++ [92]) wz) => hz.byte x (by simp; omega) (Nat.le_refl _) (y := (x.toNat : Int)) rfl)
            have hx2 : ((x.toNat : Int) == 46) = true ∨ (((x.toNat : Int) == 46) = false ∧ ((x.toNat : Int) == 92) = true) := by
              rw [beq_eq_false_iff_ne, beq_iff_eq, beq_iff_eq]
              omega
            clear hsp
            generalize (x.toNat : Int) = X at *
            rcases hx2 with y1 | ⟨y1, y2⟩
            all_goals
              go_wp2_with (first
                | (go_at_call 52; have _t := tk1; (with_reducible refine CW.out.mono ?_); rintro e w2 ⟨rfl, hI2⟩; have HI2 := hid hI2; clear hI2 tk1)
                | (go_at_call 52; have _t := tk2; (with_reducible refine (CW2.out _ HI2.out).mono ?_); rintro e w3 ⟨rfl, hI3⟩; have HI3 := hid hI3; clear hI3 tk2))
              go_roundg (s.size - (j + 1))
              case measure => omega
              case rel => exact ⟨j + 1, by omega, rfl, by go_num, fin.out _ (by rw [he.out]; simpa using HI3.out)⟩
          · by_cases hnp : x.toNat < 33 ∨ 126 < x.toNat
            · have he := hid (show escB x = [92, UInt8.ofNat (48 + x.toNat / 100), UInt8.ofNat (48 + x.toNat / 10 % 10), UInt8.ofNat (48 + x.toNat % 10)] by unfold escB; rw [if_neg hsp, if_pos hnp])
              have y1 : ((x.toNat : Int) == 46) = false := by rw [beq_eq_false_iff_ne]; omega
              have y2 : ((x.toNat : Int) == 92) = false := by rw [beq_eq_false_iff_ne]; omega
              have hways : (x.toNat : Int) < 33 ∨ (¬ (x.toNat : Int) < 33 ∧ (126 : Int) < (x.toNat : Int)) := by omega
              have e1 : ((UInt8.ofNat (48 + x.toNat / 100)).toNat : Int) = 48 + (x.toNat : Int) / 100 := by rw [UInt8.toNat_ofNat']; omega
              have e2 : ((UInt8.ofNat (48 + x.toNat / 10 % 10)).toNat : Int) = 48 + (x.toNat : Int) / 10 % 10 := by rw [UInt8.toNat_ofNat']; omega
              have e3 : ((UInt8.ofNat (48 + x.toNat % 10)).toNat : Int) = 48 + (x.toNat : Int) % 10 := by rw [UInt8.toNat_ofNat']; omega
              have CL := hid (HI.out.lit 5 #[.int .u8 92, .int .u8 (48 + (x.toNat : Int) / 100), .int .u8 (48 + (x.toNat : Int) / 10 % 10), .int .u8 (48 + (x.toNat : Int) % 10)] [92, UInt8.ofNat (48 + x.toNat / 100), UInt8.ofNat (48 + x.toNat / 10 % 10), UInt8.ofNat (48 + x.toNat % 10)] (by simp only [List.map_cons, List.map_nil, e1, e2, e3]; rfl) (n := 4) rfl (by omega) (Nat.le_refl _))
              clear hsp hnp e1 e2 e3
              generalize (x.toNat : Int) = X at *
              have d1 : X / 100 ≤ 2 := by omega
              have d0 : 0 ≤ X / 100 := by omega
              have d2 : X / 10 % 10 ≤ 9 := by omega
              have d3 : 0 ≤ X / 10 % 10 := by omega
              have d4 : X % 10 ≤ 9 := by omega
              have d5 : 0 ≤ X % 10 := by omega
              rcases hways with y3 | ⟨y3, y4⟩
              all_goals
                go_wp2_with (go_at_call 53; (with_reducible refine CL.out.mono ?_); rintro e w2 ⟨rfl, hI2⟩; have HI2 := hid hI2; clear hI2)
                go_roundg (s.size - (j + 1))
                case measure => omega
                case rel => exact ⟨j + 1, by omega, rfl, by go_num, fin.out _ (by rw [he.out]; exact HI2.out)⟩
            · have he := hid (show escB x = [x] by unfold escB; rw [if_neg hsp, if_neg hnp])
              have y1 : ((x.toNat : Int) == 46) = false := by rw [beq_eq_false_iff_ne]; omega
              have y2 : ((x.toNat : Int) == 92) = false := by rw [beq_eq_false_iff_ne]; omega
              have y3 : ¬ (x.toNat : Int) < 33 := by omega
              have y4 : ¬ (126 : Int) < (x.toNat : Int) := by omega
              have CW := hid (HI.out.byte x (by omega) (Nat.le_refl _) (y := (x.toNat : Int)) rfl)
              clear hsp hnp
              generalize (x.toNat : Int) = X at *
              go_wp2_with (go_at_call 52; (with_reducible refine CW.out.mono ?_); rintro e w2 ⟨rfl, hI2⟩; have HI2 := hid hI2; clear hI2)
              go_roundg (s.size - (j + 1))
              case measure => omega
              case rel => exact ⟨j + 1, by omega, rfl, by go_num, fin.out _ (by rw [he.out]; exact HI2.out)⟩
        · obtain rfl : j = s.size := by omega
          have hfull : accT l k ++ s.data.toList.flatMap escB = acc := by
            rw [← HACC.out, List.take_of_length_le (by rw [hslen.out]; exact Nat.le_refl _)]
          have CW := hid (HI.out.byte 46 (by omega) (Nat.le_refl _) (y := 46) rfl)
          have HF := hid hfull
          clear hfull
          go_wp2_with (go_at_call 52; (with_reducible refine CW.out.mono ?_); rintro e w2 ⟨rfl, hI2⟩; have HI2 := hid hI2; clear hI2)
          go_roundg (n - (k + 1))
          case measure => omega
          case rel => exact ⟨k + 1, by omega, rfl, by go_num, by rw [HSU.out, HF.out]; exact HI2.out.bld, HI2.out.low⟩
    · obtain rfl : k = n := by omega
      have hfin : accT l k = textT (namL l) := by
        unfold accT textT
        have hne : namL l ≠ [] := by
          intro e
          have := congrArg List.length e
          simp only [namL, List.length_map, List.length_nil, HL.out] at this
          have := beq_eq_false_iff_ne.1 hn1
          omega
        rw [if_neg hne, List.take_of_length_le (by simp [namL, HL.out])]
      have hb := HB.out
      rw [hfin] at hb hal
      have hne2 : textT (namL l) ≠ [] := textT_ne _
      have CS := hid (string_some hb hne2 (by omega))
      clear hb hfin hne2
      go_wp2_with (go_at_call 54; (with_reducible refine CS.out.mono ?_); rintro e w2 ⟨rfl, hb2⟩; have HB2 := hid hb2; clear hb2)
      go_ret2
      exact ⟨rfl, HLOW.out.trans HB2.out⟩
end Go.Proofs.YtbjjmikiefgnaaaDoor
