/- The program's trie: Get and Len. -/
import Derived.Test.YtbpflpmhnmdeoaaDoorTrieA
namespace Go.Proofs.YtbpflpmhnmdeoaaDoor
open Go.RowKit
set_option linter.unusedVariables false

theorem bestV_stop {V : Vals} {bs : List Bool} {k m : Nat} (hk : k ≤ m) (h : ∀ j, k < j → j ≤ m → V (bs.take j) = none) : bestV V bs m = bestV V bs k := by
  induction m with
  | zero => obtain rfl : k = 0 := by omega
            rfl
  | succ m ih =>
    by_cases e : k = m + 1
    · rw [e]
    · rw [bestV, h (m + 1) (by omega) (Nat.le_refl _), ih (by omega) fun j h1 h2 => h j h1 (by omega)]
      rfl
/-- the best one of fewer bits -/
def bestP (V : Vals) (bs : List Bool) : Nat → Option Nat
  | 0 => none
  | k + 1 => bestV V bs k
theorem bestV_yes {V : Vals} {bs : List Bool} {k : Nat} {v : Int} (h : V (bs.take k) = some v) : bestV V bs k = some k := by
  cases k with
  | zero => rw [List.take_zero] at h; rw [bestV, h]; rfl
  | succ k => rw [bestV, h]; rfl
theorem bestV_no {V : Vals} {bs : List Bool} {k : Nat} (h : V (bs.take k) = none) : bestV V bs k = bestP V bs k := by
  cases k with
  | zero => rw [List.take_zero] at h; rw [bestV, h]; rfl
  | succ k => rw [bestV, h]; rfl

theorem len_any {w : World} {base g : Nat} {N : Nodes} {V : Vals} {cnt : Int} (ht : TrieAt w base g N V cnt) :
    Calls Tryd.prog 16 #[.pointer (some ⟨g, 0, none⟩)] w fun e w' => e = .returned (.int .i64 cnt) ∧ w' = w := by
  have e4 := ht.c4
  clear ht
  go_enter Tryd.func16, Tryd.ntmps16
  go_wp2
  go_ret
  exact ⟨rfl, rfl⟩

set_option maxRecDepth 100000 in
set_option maxHeartbeats 4000000 in
theorem get_ok {w : World} {base g : Nat} {N : Nodes} {V : Vals} {cnt : Int} (ht : TrieAt w base g N V cnt) {B : Nat} (hB : B ≤ w.heap.size)
    {A : Option Addr} {n c : Nat} {l : List UInt8} (h : Rd u8R w B A n c l) :
    Calls Tryd.prog 18 #[.pointer (some ⟨g, 0, none⟩), .slice A n c] w fun e w' =>
      e = .returned (.tuple #[.int .i64 (getV V (bitsL l)).1, .int .i64 ((getV V (bitsL l)).2.1 : Int), .bool (getV V (bitsL l)).2.2]) ∧ Below w.heap.size w w' := by
  have hl := h.lim
  simp only [u8R, Nat.mul_one] at hl
  have HT := hid ht
  have H := hid h
  have hlen := hid h.len
  have HG := hid (show getV V (bitsL l) = tellV V (bitsL l) (bestV V (bitsL l) (8 * n)) by unfold getV; rw [bitsL_len, h.len])
  generalize getV V (bitsL l) = G at *
  obtain ⟨G1, G2, G3⟩ := G
  clear ht h
  go_enter Tryd.func18, Tryd.ntmps18
  go_wp2
  go_loopg [4, 5, 6, 7, 8] (8 * n) (fun gk v4 v5 v6 v7 v8 wi => ∃ (k b : Nat) (T1 : Int) (T2 : Nat) (T3 : Bool), k ≤ 8 * n ∧ gk = 8 * n - k ∧ v8 = .int .i64 (k : Int) ∧ v7 = .pointer (some ⟨b, 0, none⟩) ∧ N ((bitsL l).take k) = some b ∧ v4 = .int .i64 T1 ∧ v5 = .int .i64 (T2 : Int) ∧ v6 = .bool T3 ∧ tellV V (bitsL l) (bestP V (bitsL l) k) = (T1, T2, T3) ∧ Below w.heap.size w wi)
  case atStart => exact ⟨0, g, 0, 0, false, Nat.zero_le _, rfl, rfl, rfl, HT.out.root, rfl, rfl, rfl, rfl, Below.refl _ _⟩
  case round =>
    obtain ⟨k, b, T1, T2, T3, hk, rfl, rfl, rfl, hb, rfl, rfl, rfl, hT, hlow⟩ := hrel
    have HLOW := hid hlow
    have HTW := hid (HT.out.later hlow)
    have HB := hid hb
    have HTT := hid hT
    have e0 := HTW.out.c0 HB.out
    have e1 := HTW.out.c1 HB.out
    have lb := HTW.out.lt HB.out
    have hsz := hlow.size
    clear hlow hb hT
    obtain ⟨S1, S2, S3, hv, hS⟩ : ∃ (S1 : Int) (S2 : Nat) (S3 : Bool), (V ((bitsL l).take k) = none ∧ S1 = T1 ∧ S2 = T2 ∧ S3 = T3 ∨ ∃ v, V ((bitsL l).take k) = some v ∧ S1 = v ∧ k = S2 ∧ S3 = true) ∧ tellV V (bitsL l) (bestV V (bitsL l) k) = (S1, S2, S3) := by
      cases hv : V ((bitsL l).take k) with
      | none => exact ⟨T1, T2, T3, .inl ⟨rfl, rfl, rfl, rfl⟩, by rw [bestV_no hv, HTT.out]⟩
      | some v => exact ⟨v, k, true, .inr ⟨v, rfl, rfl, rfl, rfl⟩, by rw [bestV_yes hv, tellV, hv]; rfl⟩
    have HS := hid hS
    clear hS
    have fin : ∀ m, k ≤ m → m = 8 * n → (∀ j, k < j → j ≤ m → V ((bitsL l).take j) = none) → (G1, G2, G3) = (S1, S2, S3) := by
      rintro m h1 rfl h2
      rw [HG.out, bestV_stop h1 h2, HS.out]
    have FIN := hid fin
    clear fin
    by_cases hlt : k < 8 * n
    · have HTK := hid (bitsL_take (l := l) (k := k) (by rw [hlen.out]; omega))
      have CB := fun w' (hb : Below wr.heap.size wr w') => bit_below ((H.out.below (HLOW.out.mono hB)).below (hb.mono (Nat.le_trans hB hsz))) k (by omega)
      have C2 := HTW.out.c2 HB.out (bitB l k)
      cases hx : N ((bitsL l).take k ++ [bitB l k]) with
      | none =>
        have HF := FIN.out (8 * n) hk rfl fun j h1 h2 => by
          cases hv' : V ((bitsL l).take j) with
          | none => rfl
          | some u =>
            exfalso
            have hj : N ((bitsL l).take j) ≠ none := fun e => by rw [HT.out.val _ e] at hv'; cases hv'
            have := HT.out.above hj (k + 1)
            rw [List.take_take, Nat.min_eq_left (by omega), HTK.out] at this
            exact this hx
        have HFF := hid HF
        clear HF
        rcases hv with ⟨hv, rfl, rfl, rfl⟩ | ⟨v, hv, rfl, rfl, rfl⟩
        all_goals
          cases hcb : bitB l k
          all_goals
            rw [hx] at C2
            rw [hcb] at CB C2
            rw [hv] at e0 e1
            have HC := hid CB
            have HV := hid hv
            have HX := hid hx
            have HCB := hid hcb
            clear CB hx hcb hv
            simp only [Bool.toNat_false, Bool.toNat_true, Nat.add_zero, Nat.reduceAdd, ptrV, Option.isSome_none, Option.isSome_some, Option.getD_some, Option.getD_none] at C2 e0 e1
            go_wp2
            refine wp_region_ext (by kernel_rfl) (by kernel_rfl) ?_
            repeat (go_big_quiet_step ((go_at_call 34; with_reducible exact Calls.quiet_ext (HC.out _ (by ((first | (with_reducible refine exts_below ?_ ?_ _) | skip); (repeat' (first | (with_reducible exact Below.refl _ _) | (with_reducible assumption) | (with_reducible refine below_ext0 ?_ _ _) | (with_reducible refine below_alloc0 ?_ _) | (with_reducible refine Below.ext ?_ ?_ _ _) | (with_reducible refine Below.alloc ?_ ?_ _) | (with_reducible refine Below.setCell ?_ ?_ _) | (with_reducible refine Below.drew ?_) | (with_reducible refine below_draws ?_ _) | go_size | (simp [size_ext]; done) | (simp [size_ext]; omega)))))))))
            refine wpQuiet_nil ?_
            rintro _ ⟨⟨os, d⟩, rfl⟩
            simp only [exts]
            go_wp2
            go_ret3
            have hf := HFF.out
            simp only [Prod.mk.injEq] at hf
            obtain ⟨rfl, rfl, rfl⟩ := hf
            have hl := HLOW.out
            exact ⟨rfl, by (repeat' (first | (with_reducible exact Below.refl _ _) | (with_reducible assumption) | (with_reducible refine below_ext0 ?_ _ _) | (with_reducible refine below_alloc0 ?_ _) | (with_reducible refine Below.ext ?_ ?_ _ _) | (with_reducible refine Below.alloc ?_ ?_ _) | (with_reducible refine Below.setCell ?_ ?_ _) | (with_reducible refine Below.drew ?_) | (with_reducible refine below_draws ?_ _) | go_size | (simp [size_ext]; done) | (simp [size_ext]; omega)))⟩
      | some b2 =>
        rcases hv with ⟨hv, rfl, rfl, rfl⟩ | ⟨v, hv, rfl, rfl, rfl⟩
        all_goals
          cases hcb : bitB l k
          all_goals
            rw [hx] at C2
            rw [hcb] at CB C2
            rw [hv] at e0 e1
            have HC := hid CB
            have HV := hid hv
            have HX := hid hx
            have HCB := hid hcb
            clear CB hx hcb hv
            simp only [Bool.toNat_false, Bool.toNat_true, Nat.add_zero, Nat.reduceAdd, ptrV, Option.isSome_none, Option.isSome_some, Option.getD_some, Option.getD_none] at C2 e0 e1
            go_wp2
            refine wp_region_ext (by kernel_rfl) (by kernel_rfl) ?_
            repeat (go_big_quiet_step ((go_at_call 34; with_reducible exact Calls.quiet_ext (HC.out _ (by ((first | (with_reducible refine exts_below ?_ ?_ _) | skip); (repeat' (first | (with_reducible exact Below.refl _ _) | (with_reducible assumption) | (with_reducible refine below_ext0 ?_ _ _) | (with_reducible refine below_alloc0 ?_ _) | (with_reducible refine Below.ext ?_ ?_ _ _) | (with_reducible refine Below.alloc ?_ ?_ _) | (with_reducible refine Below.setCell ?_ ?_ _) | (with_reducible refine Below.drew ?_) | (with_reducible refine below_draws ?_ _) | go_size | (simp [size_ext]; done) | (simp [size_ext]; omega)))))))))
            refine wpQuiet_nil ?_
            rintro _ ⟨⟨os, d⟩, rfl⟩
            simp only [exts]
            go_wp2
            go_roundg (8 * n - (k + 1))
            case measure => omega
            case rel =>
              have hl := HLOW.out
              exact ⟨k + 1, b2, _, _, _, by omega, rfl, by go_num, rfl, by rw [HTK.out, HCB.out]; rw [HCB.out] at HX; exact HX.out, rfl, rfl, rfl, HS.out, by (repeat' (first | (with_reducible exact Below.refl _ _) | (with_reducible assumption) | (with_reducible refine below_ext0 ?_ _ _) | (with_reducible refine below_alloc0 ?_ _) | (with_reducible refine Below.ext ?_ ?_ _ _) | (with_reducible refine Below.alloc ?_ ?_ _) | (with_reducible refine Below.setCell ?_ ?_ _) | (with_reducible refine Below.drew ?_) | (with_reducible refine below_draws ?_ _) | go_size | (simp [size_ext]; done) | (simp [size_ext]; omega)))⟩
    · obtain rfl : k = 8 * n := by omega
      have HF := FIN.out (8 * n) hk rfl fun j h1 h2 => by omega
      have HFF := hid HF
      clear HF
      rcases hv with ⟨hv, rfl, rfl, rfl⟩ | ⟨v, hv, rfl, rfl, rfl⟩
      all_goals
        rw [hv] at e0 e1
        have HV := hid hv
        clear hv
        simp only [Option.isSome_none, Option.isSome_some, Option.getD_some, Option.getD_none] at e0 e1
        go_wp2
        go_ret3
        have hf := HFF.out
        simp only [Prod.mk.injEq] at hf
        obtain ⟨rfl, rfl, rfl⟩ := hf
        exact ⟨rfl, HLOW.out⟩
end Go.Proofs.YtbpflpmhnmdeoaaDoor
