/- A region that draws its order and whose calls may lay new blocks, but hand back values that do not hang on where: walked once. No function of the program. -/
import Derived.Test.YtfihedcobopbcaaDoorK1
import Derived.Deep.QuietTactic
import Derived.BigQuiet
import Derived.Test.YtfihedcobopbcaaDoorK18
import Derived.Laws.BytesArg
import Derived.Test.YtfihedcobopbcaaDoorK4
namespace Go.Proofs.YtfihedcobopbcaaDoor
open Go.RowKit
set_option linter.unusedVariables false
set_option linter.unusedSimpArgs false

/-- the world with more behind -/
structure Behind where
  os : Array Obj
  d : Nat
instance : Nonempty Behind := ⟨⟨#[], 0⟩⟩
def exts (w : World) (x : Behind) : World := ext w x.os x.d
theorem exts_below {B : Nat} {w0 w : World} (h : Below B w0 w) (hB : B ≤ w.heap.size) (x : Behind) : Below B w0 (exts w x) := Below.ext h hB x.os x.d
@[go_sem] theorem cell_exts (w : World) (x : Behind) (n i : Nat) (h : n < w.heap.size) : (exts w x).cell? ⟨n, i, none⟩ = w.cell? ⟨n, i, none⟩ := cell_ext w x.os x.d n i h
@[go_sem] theorem frozen_exts (w : World) (x : Behind) (n i : Nat) (h : n < w.heap.size) : (exts w x).frozen? ⟨n, i, none⟩ = w.frozen? ⟨n, i, none⟩ := frozen_ext w x.os x.d n i h

theorem wp_region_ext {P : Program} {id : Nat} {Q : Exit → Act → World → Prop} {a : Act} {w : World} {l : List Oper} (hm : P.follows .mixedOrders = true) (hB : Region.lexB .any l.toArray = true)
    (h : wpQuiet P l.toArray (fun w' => ∃ x, w' = exts w x) (fun a' => ∀ w', (∃ x, w' = exts w x) → Q .normal a' w') l a) : (Code.region id l.toArray true).wp P Q a w :=
  wp_region_quiet (C := fun w' => ∃ x, w' = exts w x) hm hB ⟨⟨#[], w.drawn + 1⟩, by simp [exts, ext]⟩ (by simpa using h)
theorem Calls.quiet_ext {P : Program} {f : FuncId} {args : Array Value} {w : World} {x : Behind} {v : Value}
    (h : Calls P f args (exts w x) fun e w' => e = .returned v ∧ Below (exts w x).heap.size (exts w x) w') : Calls P f args (exts w x) fun e w'' => e = .returned v ∧ ∃ y, w'' = exts w y :=
  h.mono fun _ _ ⟨he, hb⟩ => ⟨he, by
    obtain ⟨os, d, h⟩ := ext_of_below ((below_ext w x.os x.d).trans (hb.mono (by simp [exts, ext])))
    exact ⟨⟨os, d⟩, h⟩⟩
end Go.Proofs.YtfihedcobopbcaaDoor
/- The document's answers of names: NameFault, Small, Folded, Numbers, Labels. -/
namespace Go.Proofs.YtfihedcobopbcaaDoor
open Go.RowKit
set_option linter.unusedVariables false
set_option linter.unusedSimpArgs false

set_option maxRecDepth 100000 in
set_option maxHeartbeats 1000000 in
theorem nfault_any (w : World) (A : Option Addr) (n c : Nat) (l : List ByteArray) (B : Nat) (h : Rd strR w B A n c l) :
    Calls Tryd.prog 36 #[.slice A n c] w fun e w' => e = .returned (.int .i64 (nameErr l)) ∧ w' = w := by
  have hm := h.max
  have hcap := h.cap
  unfold maxLen at hm
  have H := hid h
  clear h
  go_enter Tryd.func36, Tryd.ntmps36
  go_wp2
  go_loop [3, 4] (fun v3 v4 => ∃ (k : Nat) (s : Int), k ≤ n ∧ v4 = .int .i64 (k : Int) ∧ v3 = .int .i64 s ∧ s ≤ 400 ∧ 0 ≤ s ∧ (s ≤ 255 → s = (nsize (l.take k) : Int)) ∧ (255 < s → 255 < (nsize (l.take k) : Int)) ∧ (l.take k).all labelOk = true) (fun _ v => n - (intOf v).toNat)
  case atStart => exact ⟨0, 1, by omega, rfl, rfl, by omega, by omega, by simp [nsize], by omega, by simp⟩
  case round =>
    obtain ⟨k, s, hk, rfl, rfl, s1, s0, hs, hs', hall⟩ := hrel
    have HS := hid (And.intro hs hs')
    have HALL := hid hall
    clear hs hs' hall
    by_cases hlt : k < n
    · obtain ⟨b, off, rfl, _, hc, hsz⟩ := H.out.str k hlt
      have hkl : k < l.length := by rw [H.out.len]; exact hlt
      have htk : l.take (k + 1) = l.take k ++ [l[k]] := List.take_succ_eq_append_getElem hkl
      have HTK := hid htk
      obtain ⟨x, hx⟩ : ∃ x, l[k] = x := ⟨_, rfl⟩
      rw [hx] at hc hsz
      have HX := hid hx
      clear htk hx
      have hkz : (k : Int) < (n : Int) := by omega
      have ways : x.size < 1 ∨ (1 ≤ x.size ∧ 63 < x.size) ∨ (1 ≤ x.size ∧ x.size ≤ 63) := by omega
      rcases ways with hb | ⟨hb, hb'⟩ | ⟨hb, hb'⟩
      · have hr : nameErr l = 3 := by
          unfold nameErr
          rw [if_neg]
          intro h
          have := List.all_eq_true.1 h x (by rw [← HX.out]; exact List.getElem_mem _)
          unfold labelOk at this
          simp at this
          omega
        have HR := hid hr
        have hz : ((x.size : Int) == 0) = true := by rw [beq_iff_eq]; omega
        have hz' : (x.size == 0) = true := by rw [beq_iff_eq]; omega
        clear hr hb
        go_wp2
        go_ret
        exact ⟨by rw [HR.out]; rfl, rfl⟩
      · have hr : nameErr l = 3 := by
          unfold nameErr
          rw [if_neg]
          intro h
          have := List.all_eq_true.1 h x (by rw [← HX.out]; exact List.getElem_mem _)
          unfold labelOk at this
          simp at this
          omega
        have HR := hid hr
        have hz : ((x.size : Int) == 0) = false := by rw [beq_eq_false_iff_ne]; omega
        have hz' : (x.size == 0) = false := by rw [beq_eq_false_iff_ne]; omega
        clear hr
        go_wp2
        go_ret
        exact ⟨by rw [HR.out]; rfl, rfl⟩
      · have hall' : (l.take (k + 1)).all labelOk = true := by
          rw [HTK.out, List.all_append, HALL.out, HX.out]
          unfold labelOk
          simp [hb, hb']
        have hsn : nsize (l.take (k + 1)) = nsize (l.take k) + (x.size + 1) := by rw [HTK.out, nsize_snoc, HX.out]
        have HALL' := hid hall'
        have HSN := hid hsn
        have hz : ((x.size : Int) == 0) = false := by rw [beq_eq_false_iff_ne]; omega
        have hz' : (x.size == 0) = false := by rw [beq_eq_false_iff_ne]; omega
        clear hall' hsn
        by_cases hbig : s ≤ 255
        · go_wp2
          go_round
          case rel => exact ⟨k + 1, s + ((x.size : Int) + 1), by omega, by go_num, rfl, by omega, by omega, fun _ => by rw [HSN.out]; have := HS.out.1 hbig; omega, fun _ => by rw [HSN.out]; have := HS.out.1 hbig; omega, HALL'.out⟩
          case measure => simp [intOf]; omega
        · go_wp2
          go_round
          case rel => exact ⟨k + 1, s, by omega, by go_num, rfl, by omega, by omega, fun _ => by omega, fun _ => by rw [HSN.out]; have := HS.out.2 (by omega); omega, HALL'.out⟩
          case measure => simp [intOf]; omega
    · have hkn : l.take k = l := List.take_of_length_le (by rw [H.out.len]; omega)
      have hS := HS.out
      rw [hkn] at hS
      have hA : l.all labelOk = true := by have := HALL.out; rwa [hkn] at this
      by_cases hbig : 255 < s
      · have hr : nameErr l = 5 := by unfold nameErr; rw [if_pos hA, if_neg (by have := hS.2 hbig; omega)]
        have HR := hid hr
        clear hr hkn hS hA
        go_wp2
        go_ret
        exact ⟨by rw [HR.out]; rfl, rfl⟩
      · have hr : nameErr l = 0 := by unfold nameErr; rw [if_pos hA, if_pos (by have := hS.1 (by omega); omega)]
        have HR := hid hr
        clear hr hkn hS hA
        go_wp2
        go_ret
        exact ⟨by rw [HR.out]; rfl, rfl⟩

/-! Folded -/
/-- 'string(b)', b a row of the call's own -/
theorem conv_own {w : World} {base n : Nat} {v : Value} {l : List UInt8} (h : w.ownsRow base 5 1 v n (bytesV l)) : (convert 22 9 v).run Tryd.prog w = .ok (.string ⟨l.toArray⟩) w := by
  have hl : l.length = n := by have := h.1; simpa [bytesV] using this
  rcases h.2 with ⟨rfl, rfl⟩ | ⟨g, cap, cur, rfl, hb, hh, hnc, hcm, hcs, ht⟩
  · have : l = [] := List.eq_nil_of_length_eq_zero hl
    subst this
    exact run_convert_bytes_nil _ 22 5 Tryd.underlying22 Tryd.underlying5 0 0 9 Tryd.underlying9
  · have := run_convert_bytes_back w 22 9 5 ⟨g, 0, none⟩ cap l Tryd.underlying22 Tryd.underlying5 Tryd.underlying9 (by
      intro j hj
      have := h.cells (g := g) rfl j (.int .u8 (l[j].toNat : Int)) (by rw [bytesV, List.getElem?_map, List.getElem?_eq_getElem hj]; rfl)
      simpa using this)
    rwa [hl] at this

/-! Labels -/
theorem lex_byte_nil (a : List UInt8) (k : Nat) (b : List UInt8) (ha : a.length = k ∨ b.length = k) (hk : k ≤ a.length) (hk' : k ≤ b.length) : lex cmpByte (a.drop k) (b.drop k) = if a.length < b.length then -1 else if b.length < a.length then 1 else 0 := by
  rcases ha with h | h
  · rw [List.drop_eq_nil_of_le (by omega)]
    by_cases e : b.length = k
    · rw [List.drop_eq_nil_of_le (by omega), if_neg (by omega), if_neg (by omega)]; rfl
    · rw [List.drop_eq_getElem_cons (by omega), if_pos (by omega)]; rfl
  · rw [show b.drop k = [] from List.drop_eq_nil_of_le (by omega)]
    by_cases e : a.length = k
    · rw [List.drop_eq_nil_of_le (by omega), if_neg (by omega), if_neg (by omega)]; rfl
    · rw [List.drop_eq_getElem_cons (by omega), if_neg (by omega), if_pos (by omega)]; rfl
theorem cmpB_lex (a b : ByteArray) : cmpB a b = lex cmpByte (smallL a.data.toList) (smallL b.data.toList) := by unfold cmpB; exact compareBytes_lex _ _

theorem lex_step {x y : UInt8} {l m : List UInt8} {k : Nat} (hl : k < l.length) (hm : k < m.length) (hx : l[k] = x) (hy : m[k] = y) : lex cmpByte (l.drop k) (m.drop k) = if cmpByte x y = 0 then lex cmpByte (l.drop (k + 1)) (m.drop (k + 1)) else cmpByte x y := by
  rw [List.drop_eq_getElem_cons hl, List.drop_eq_getElem_cons hm, lex, hx, hy]

end Go.Proofs.YtfihedcobopbcaaDoor
/- The document's answers of records: two bytes, RecordFault, RecordAt. -/
namespace Go.Proofs.YtfihedcobopbcaaDoor
open Go.RowKit
set_option linter.unusedVariables false
set_option linter.unusedSimpArgs false

theorem rpair_any {w : World} (x : Int) (h0 : 0 ≤ x) (h1 : x ≤ 65535) :
    Calls Tryd.prog 35 #[.int .i64 x] w fun e w' => ∃ A' c', e = .returned (.slice A' 2 c') ∧ Rd u8R w' w'.heap.size A' 2 c' (two2 x) ∧ Below w.heap.size w w' := by
  have hc : Rd u8R (w.alloc (.cells #[.int .u8 (x / 256), .int .u8 (x % 256)] 5)) (w.alloc (.cells #[.int .u8 (x / 256), .int .u8 (x % 256)] 5)).heap.size (some ⟨w.heap.size, 0, none⟩) 2 2 (two2 x) := by
    refine rd_lit 5 _ (two2 x) 2 rfl ?_ rfl (by omega)
    simp only [two2, List.map_cons, List.map_nil, UInt8.toNat_ofNat']
    congr 2 <;> (try congr 1) <;> omega
  have HC := hid hc
  clear hc
  go_enter Tryd.func35, Tryd.ntmps35
  go_wp2
  go_ret
  exact ⟨_, _, rfl, HC.out, (by (repeat' (first | (with_reducible exact Below.refl _ _) | (with_reducible assumption) | (with_reducible refine below_ext0 ?_ _ _) | (with_reducible refine below_alloc0 ?_ _) | (with_reducible refine Below.ext ?_ ?_ _ _) | (with_reducible refine Below.alloc ?_ ?_ _) | (with_reducible refine Below.setCell ?_ ?_ _) | (with_reducible refine Below.drew ?_) | (with_reducible refine below_draws ?_ _) | go_size | (simp [size_ext]; done) | (simp [size_ext]; omega))))⟩
theorem rpair_at {w : World} {B b o n c : Nat} {m : List UInt8} (hM : Rd u8R w B (some ⟨b, o, none⟩) n c m) (p : Nat) {x : Int} (hx : x = (p : Int)) (hp : p + 2 ≤ n) {k : Nat} (hk : at2 m p = k) :
    Calls Tryd.prog 22 #[.slice (some ⟨b, o, none⟩) n c, .int .i64 x] w fun e w' => e = .returned (.int .i64 (k : Int)) ∧ Below w.heap.size w w' := by
  obtain ⟨x0, x1, hxy, c0, c1, lb⟩ := hM.two p hp
  subst hx
  rw [hk] at hxy
  have hc := hM.cap
  have hm := hM.max
  have hl := hM.lim
  simp only [u8R, Nat.mul_one] at hl
  unfold maxLen at hm
  have hx := x0.toNat_lt
  have hy := x1.toNat_lt
  have hkk : (x0.toNat : Int) * 256 + (x1.toNat : Int) = (k : Int) := by omega
  have p0 : (0 : Int) ≤ (x0.toNat : Int) := by omega
  have p1 : (0 : Int) ≤ (x1.toNat : Int) := by omega
  have p2 : (x0.toNat : Int) ≤ 255 := by omega
  have p3 : (x1.toNat : Int) ≤ 255 := by omega
  clear hM hxy hk hx hy
  generalize (x0.toNat : Int) = y0 at *
  generalize (x1.toNat : Int) = y1 at *
  have v0 : IntKind.i64.wrap y0 = y0 := IntWalk.i64_in _ (by omega)
  have v01 : IntKind.i64.wrap (y0 * 256) = y0 * 256 := IntWalk.i64_in _ (by omega)
  have v1 : IntKind.i64.wrap y1 = y1 := IntWalk.i64_in _ (by omega)
  have vk : IntKind.i64.wrap (k : Int) = (k : Int) := IntWalk.i64_in _ (by omega)
  have v3 : IntKind.i64.wrap ((p : Int) + 1) = (p : Int) + 1 := IntWalk.i64_in _ (by omega)
  have j0 : (p : Int) < (n : Int) := by omega
  have j1 : (p : Int) + 1 < (n : Int) := by omega
  have j2 : p < n := by omega
  have j3 : p + 1 < n := by omega
  have j4 : (0 : Int) ≤ (p : Int) := by omega
  have j5 : (0 : Int) ≤ (p : Int) + 1 := by omega
  rw [Nat.add_assoc] at c1
  have c1' : w.cell? ⟨b, o + ((p : Int) + 1).toNat, none⟩ = some (.int .u8 y1) := by rw [show ((p : Int) + 1).toNat = p + 1 by omega]; exact c1
  go_enter Tryd.func22, Tryd.ntmps22
  go_wp2_with fail
  go_region_held3 (fun w' => w'.cell? ⟨b, o + p, none⟩ = some (.int .u8 y0) ∧ w'.cell? ⟨b, o + (p + 1), none⟩ = some (.int .u8 y1)) (go_keep) (fail)
  all_goals go_wp2
  all_goals go_ret
  all_goals exact ⟨by first | rfl | (rw [vk]; rfl) | (simp [vk]; done), by (repeat' (first | (with_reducible exact Below.refl _ _) | (with_reducible assumption) | (with_reducible refine below_ext0 ?_ _ _) | (with_reducible refine below_alloc0 ?_ _) | (with_reducible refine Below.ext ?_ ?_ _ _) | (with_reducible refine Below.alloc ?_ ?_ _) | (with_reducible refine Below.setCell ?_ ?_ _) | (with_reducible refine Below.drew ?_) | (with_reducible refine below_draws ?_ _) | go_size | (simp [size_ext]; done) | (simp [size_ext]; omega)))⟩
theorem rword_any (w : World) (x : Int) (hx : I64 x) : Calls Tryd.prog 37 #[.int .i64 x] w fun e w' => e = .returned (.bool (decide (0 ≤ x) && decide (x ≤ 65535))) ∧ Below w.heap.size w w' := by
  by_cases h0 : 0 ≤ x
  · have e0 : decide (0 ≤ x) = true := decide_eq_true h0
    by_cases h1 : x ≤ 65535
    · have e1 : decide (x ≤ 65535) = true := decide_eq_true h1
      go_enter Tryd.func37, Tryd.ntmps37
      go_wp2
      go_ret
      exact ⟨by simp [h0, h1], (by (repeat' (first | (with_reducible exact Below.refl _ _) | (with_reducible assumption) | (with_reducible refine below_ext0 ?_ _ _) | (with_reducible refine below_alloc0 ?_ _) | (with_reducible refine Below.ext ?_ ?_ _ _) | (with_reducible refine Below.alloc ?_ ?_ _) | (with_reducible refine Below.setCell ?_ ?_ _) | (with_reducible refine Below.drew ?_) | (with_reducible refine below_draws ?_ _) | go_size | (simp [size_ext]; done) | (simp [size_ext]; omega))))⟩
    · have e1 : decide (x ≤ 65535) = false := decide_eq_false h1
      have h2 : 65535 < x := by omega
      go_enter Tryd.func37, Tryd.ntmps37
      go_wp2
      go_ret
      exact ⟨by simp [h0, h1], (by (repeat' (first | (with_reducible exact Below.refl _ _) | (with_reducible assumption) | (with_reducible refine below_ext0 ?_ _ _) | (with_reducible refine below_alloc0 ?_ _) | (with_reducible refine Below.ext ?_ ?_ _ _) | (with_reducible refine Below.alloc ?_ ?_ _) | (with_reducible refine Below.setCell ?_ ?_ _) | (with_reducible refine Below.drew ?_) | (with_reducible refine below_draws ?_ _) | go_size | (simp [size_ext]; done) | (simp [size_ext]; omega))))⟩
  · have e0 : decide (0 ≤ x) = false := decide_eq_false h0
    have h2 : x < 0 := by omega
    go_enter Tryd.func37, Tryd.ntmps37
    go_wp2
    go_ret
    exact ⟨by simp [h0], (by (repeat' (first | (with_reducible exact Below.refl _ _) | (with_reducible assumption) | (with_reducible refine below_ext0 ?_ _ _) | (with_reducible refine below_alloc0 ?_ _) | (with_reducible refine Below.ext ?_ ?_ _ _) | (with_reducible refine Below.alloc ?_ ?_ _) | (with_reducible refine Below.setCell ?_ ?_ _) | (with_reducible refine Below.drew ?_) | (with_reducible refine below_draws ?_ _) | go_size | (simp [size_ext]; done) | (simp [size_ext]; omega))))⟩
end Go.Proofs.YtfihedcobopbcaaDoor
