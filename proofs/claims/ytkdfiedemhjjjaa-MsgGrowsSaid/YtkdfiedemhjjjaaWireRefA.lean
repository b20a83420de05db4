/- The document's answers of names as they are sent: NameAt. -/
import Derived.Test.YtkdfiedemhjjjaaWireRef
import Derived.Test.YtkdfiedemhjjjaaNameD
namespace Go.Proofs.Ytkdfiedemhjjjaa
open Go.RowKit
set_option linter.unusedVariables false

/-! NameAt -/
def toldV (t : Int × List ByteArray × Int) (A : Option Addr) (c : Nat) : Value := .agg #[.slice A t.2.1.length c, .int .i64 t.2.2, .int .i64 t.1]
def NaE (w : World) (t : Int × List ByteArray × Int) (e : Ending) (w' : World) : Prop :=
  Below w.heap.size w w' ∧ ∃ A' c', e = .returned (.agg #[.slice A' t.2.1.length c', .int .i64 t.2.2, .int .i64 t.1]) ∧ Rd strR w' w'.heap.size A' t.2.1.length c' t.2.1
set_option maxRecDepth 100000 in
set_option maxHeartbeats 4000000 in
theorem nameAt_any (w : World) (A : Option Addr) (n c : Nat) (m : List UInt8) (hM : Rd u8R w w.heap.size A n c m) (at_ : Int) (hat : at_ ≤ 9223372036854775807) :
    Calls Try.prog 24 #[.slice A n c, .int .i64 at_] w (NaE w (rdN m at_)) := by
  by_cases h0 : at_ < 0
  · have hr : rdN m at_ = (6, [], 0) := by unfold rdN; rw [if_pos h0]
    have HR := hid hr
    clear hr hM
    go_enter Try.func24, Try.ntmps24
    go_wp2_with fail
    refine bodyPost_ret (v := .agg #[.slice none 0 0, .int .i64 0, .int .i64 6]) (by simp [results, Try.results24, go_sem]) rfl ?_
    refine ⟨by (repeat' (first | (with_reducible exact Below.refl _ _) | (with_reducible assumption) | (with_reducible refine below_ext0 ?_ _ _) | (with_reducible refine below_alloc0 ?_ _) | (with_reducible refine Below.ext ?_ ?_ _ _) | (with_reducible refine Below.alloc ?_ ?_ _) | (with_reducible refine Below.setCell ?_ ?_ _) | (with_reducible refine Below.drew ?_) | (with_reducible refine below_draws ?_ _) | go_size | (simp [size_ext]; done) | (simp [size_ext]; omega))), ?_⟩
    rw [HR.out]
    exact ⟨none, 0, rfl, rd_nil _ _⟩
  · obtain ⟨a, rfl⟩ : ∃ a : Nat, at_ = (a : Int) := ⟨at_.toNat, by omega⟩
    have hr : rdN m (a : Int) = if (nm m a a 1).1 = 0 then (0, (nm m a a 1).2.1, ((nm m a a 1).2.2 : Int)) else ((nm m a a 1).1, [], 0) := by
      unfold rdN
      rw [if_neg h0, Int.toNat_natCast]
    have HR := hid hr
    have hok := of_nm m a a 1 (by omega)
    obtain ⟨t, ht⟩ : ∃ t, nm m a a 1 = t := ⟨_, rfl⟩
    have CF : ∀ w', Below w.heap.size w w' → Calls Try.prog 50 #[.slice A n c, .int .i64 (a : Int), .int .i64 (a : Int), .int .i64 1] w' (NfE w' t) := fun w' hb => by
      have := nameFrom_any A n c m _ a a 1 w' (hM.later hb) (Nat.lt_succ_self _) (fun h => by omega) hat (by omega)
      rw [ht] at this
      exact this
    replace CF := hid CF
    rw [ht] at hr hok
    replace HR := hid hr
    have HOK := hid hok
    clear hr hM ht hok
    by_cases hf : t.1 = 0
    · have e0 : (t.1 == 0) = true := by rw [hf]; rfl
      have e1 : (t.1 != 0) = false := by rw [hf]; rfl
      go_enter Try.func24, Try.ntmps24
      go_wp2_with (go_at_call 50; (with_reducible refine (CF.out _ (by (repeat' (first | (with_reducible exact Below.refl _ _) | (with_reducible assumption) | (with_reducible refine below_ext0 ?_ _ _) | (with_reducible refine below_alloc0 ?_ _) | (with_reducible refine Below.ext ?_ ?_ _ _) | (with_reducible refine Below.alloc ?_ ?_ _) | (with_reducible refine Below.setCell ?_ ?_ _) | (with_reducible refine Below.drew ?_) | (with_reducible refine below_draws ?_ _) | go_size | (simp [size_ext]; done) | (simp [size_ext]; omega))))).mono ?_); rintro e w1 ⟨hb, v, rfl, ho⟩; obtain ⟨os, d, rfl⟩ := ext_of_below hb; obtain ⟨A', c', rfl, _, _, _⟩ := own_slice ho; have HO := hid ho; clear hb ho)
      have hl := (HOK.out hf).2
      have hll := lsum_len t.2.1
      have r := HR.out
      rw [if_pos hf] at r
      refine bodyPost_ret (v := .agg #[.slice A' t.2.1.length c', .int .i64 (t.2.2 : Int), .int .i64 0]) (by simp [results, Try.results24, go_sem, hf]) rfl ?_
      have key : ∀ o2 o3, Rd strR ((ext (w.alloc o2) os d).alloc o3) ((ext (w.alloc o2) os d).alloc o3).heap.size A' t.2.1.length c' t.2.1 := by
        intro o2 o3
        have ho := (own_swap (o2 := o2) HO.out (by simp)).alloc o3
        obtain ⟨A3, c3, he, hrd⟩ := own_rd_str (own_less (base' := w.heap.size) ho (by simp)) (fun s hs => by have := lsum_mem hs; omega) (by simp [size_ext]; omega) (by omega)
        cases he
        exact hrd
      refine ⟨by (repeat' (first | (with_reducible exact Below.refl _ _) | (with_reducible assumption) | (with_reducible refine below_ext0 ?_ _ _) | (with_reducible refine below_alloc0 ?_ _) | (with_reducible refine Below.ext ?_ ?_ _ _) | (with_reducible refine Below.alloc ?_ ?_ _) | (with_reducible refine Below.setCell ?_ ?_ _) | (with_reducible refine Below.drew ?_) | (with_reducible refine below_draws ?_ _) | go_size | (simp [size_ext]; done) | (simp [size_ext]; omega))), ?_⟩
      rw [r]
      exact ⟨A', c', rfl, key _ _⟩
    · have e0 : (t.1 == 0) = false := by rw [beq_eq_false_iff_ne]; exact hf
      have e1 : (t.1 != 0) = true := by rw [bne_iff_ne]; exact hf
      go_enter Try.func24, Try.ntmps24
      go_wp2_with (go_at_call 50; (with_reducible refine (CF.out _ (by (repeat' (first | (with_reducible exact Below.refl _ _) | (with_reducible assumption) | (with_reducible refine below_ext0 ?_ _ _) | (with_reducible refine below_alloc0 ?_ _) | (with_reducible refine Below.ext ?_ ?_ _ _) | (with_reducible refine Below.alloc ?_ ?_ _) | (with_reducible refine Below.setCell ?_ ?_ _) | (with_reducible refine Below.drew ?_) | (with_reducible refine below_draws ?_ _) | go_size | (simp [size_ext]; done) | (simp [size_ext]; omega))))).mono ?_); rintro e w1 ⟨hb, v, rfl, ho⟩; obtain ⟨os, d, rfl⟩ := ext_of_below hb; obtain ⟨A', c', rfl, _, _, _⟩ := own_slice ho; have HO := hid ho; clear hb ho)
      have r := HR.out
      rw [if_neg hf] at r
      refine bodyPost_ret (v := .agg #[.slice none 0 0, .int .i64 0, .int .i64 t.1]) (by simp [results, Try.results24, go_sem]) rfl ?_
      refine ⟨by (repeat' (first | (with_reducible exact Below.refl _ _) | (with_reducible assumption) | (with_reducible refine below_ext0 ?_ _ _) | (with_reducible refine below_alloc0 ?_ _) | (with_reducible refine Below.ext ?_ ?_ _ _) | (with_reducible refine Below.alloc ?_ ?_ _) | (with_reducible refine Below.setCell ?_ ?_ _) | (with_reducible refine Below.drew ?_) | (with_reducible refine below_draws ?_ _) | go_size | (simp [size_ext]; done) | (simp [size_ext]; omega))), ?_⟩
      rw [r]
      exact ⟨none, 0, rfl, rd_nil _ _⟩
end Go.Proofs.Ytkdfiedemhjjjaa
