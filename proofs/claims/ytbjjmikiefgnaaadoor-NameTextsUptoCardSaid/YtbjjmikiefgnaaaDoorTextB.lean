/- The document's byte of a text at a place: ByteOf. -/
import Derived.Test.YtbjjmikiefgnaaaDoorTextD
namespace Go.Proofs.YtbjjmikiefgnaaaDoor
open Go.RowKit
set_option linter.unusedVariables false
set_option linter.unusedSimpArgs false

/-- what ByteOf hands back -/
def ByteO (w : World) (rest : List UInt8) (p : Nat) (e : Ending) (w' : World) : Prop :=
  Below w.heap.size w w' ∧ ((e = .returned (.tuple #[.int .u8 0, .int .i64 (-1)]) ∧ ∀ b q, rest ≠ escB b ++ q) ∨
    ∃ (b : UInt8) (q : List UInt8) (N : Nat), rest = escB b ++ q ∧ (escB b).length = N ∧ e = .returned (.tuple #[.int .u8 (b.toNat : Int), .int .i64 ((p + N : Nat) : Int)]))
theorem escB_size (b : UInt8) : 1 ≤ (escB b).length ∧ (escB b).length ≤ 4 := by
  unfold escB
  split
  · simp
  · split <;> simp
theorem one_rd {w : World} {g : Nat} (t : TypeId) (s : ByteArray) (hs : s.size ≤ 140737488355328) (hg : g = w.heap.size) : Rd strR (w.alloc (.cells #[.string s] t)) (w.alloc (.cells #[.string s] t)).heap.size (some ⟨g, 0, none⟩) 1 1 [s] := by
  refine ⟨rfl, Nat.le_refl _, by unfold maxLen; omega, by simp [strR], fun e => (by cases e), fun i hi => ?_⟩
  have : i = 0 := by simpa using hi
  subst this
  refine ⟨g, 0, _, rfl, (Blk.new' t _ hg).lt, ⟨rfl, hs⟩, fun j u hu => ?_⟩
  have hj : j = 0 := by
    cases j with
    | zero => rfl
    | succ j => simp at hu
  subst hj
  simp at hu
  subst hu
  exact (Blk.new' t _ hg).cell 0
theorem textS_one (x : UInt8) : (textS [⟨#[x]⟩]).data.toList = escB x ++ [46] := by
  unfold textS textT namL labelT
  simp
theorem ext_list (s : ByteArray) (a b : Nat) : (s.extract a b).toList = (s.data.toList.drop a).take (b - a) := by
  rw [ByteArray.toList_eq, ByteArray.data_extract, Array.toList_extract]
theorem sz_toList (s : ByteArray) : s.size = s.data.toList.length := by rw [Array.length_toList]; rfl

set_option maxRecDepth 100000 in
set_option maxHeartbeats 4000000 in
theorem byteOf_any {w : World} (s : ByteArray) (p : Nat) (hp : p < s.size) (hs : s.size ≤ 1048576) :
    Calls Tryd.prog 55 #[.string s, .int .i64 (p : Int)] w (ByteO w (s.data.toList.drop p) p) := by
  have tk0 : True := trivial; have tk1 : True := trivial; have tk2 : True := trivial; have tk3 : True := trivial; have tk4 : True := trivial; have tk5 : True := trivial; have tk6 : True := trivial; have tk7 : True := trivial; have tk8 : True := trivial; have tk9 : True := trivial; have tk10 : True := trivial; have tk11 : True := trivial; have tk12 : True := trivial
  go_enter Tryd.func55, Tryd.ntmps55
  go_wp2
  go_loopg [6] 256 (fun gk v6 wi => ∃ k : Nat, k ≤ 256 ∧ gk = 256 - k ∧ v6 = .int .i64 (k : Int) ∧ Hid (∀ b : UInt8, b.toNat < k → b.toNat ≠ 46 → ∀ q, s.data.toList.drop p ≠ escB b ++ q) ∧ Below w.heap.size w wi)
  case atStart => exact ⟨0, by omega, rfl, rfl, hid (fun b hb => absurd hb (Nat.not_lt_zero _)), Below.refl _ _⟩
  case round =>
    obtain ⟨k, hk, rfl, rfl, hno, hlow⟩ := hrel
    have HNO := hid hno.out
    have HLOW := hid hlow
    have hww := hlow.size
    clear hno hlow
    by_cases hlt : k < 256
    · have g0 : (k : Int) < 256 := by omega
      obtain ⟨x, hx⟩ : ∃ x : UInt8, x.toNat = k := ⟨UInt8.ofNat k, by rw [UInt8.toNat_ofNat']; omega⟩
      have hcv : (convert 24 9 (.slice (some ⟨wr.heap.size, 0, none⟩) 1 1)).run Tryd.prog (wr.alloc (.cells #[.int .u8 (k : Int)] 5)) = .ok (.string ⟨#[x]⟩) (wr.alloc (.cells #[.int .u8 (k : Int)] 5)) := by
        rw [← hx]
        refine run_convert_bytes_back _ 24 9 5 ⟨wr.heap.size, 0, none⟩ 1 [x] Tryd.underlying24 Tryd.underlying5 Tryd.underlying9 fun j hj => ?_
        have : j = 0 := by simpa using hj
        subst this
        exact (Blk.new wr _ _).cell 0
      have hs1 : (⟨#[x]⟩ : ByteArray).size ≤ 140737488355328 := by simp [ByteArray.size]
      have hts := textS_one x
      obtain ⟨T, hT⟩ : ∃ T, textS [(⟨#[x]⟩ : ByteArray)] = T := ⟨_, rfl⟩
      have CT := hid (fun (w' : World) g c (h : Rd strR w' w'.heap.size (some ⟨g, 0, none⟩) 1 c [⟨#[x]⟩]) => (show Calls Tryd.prog 26 #[.slice (some ⟨g, 0, none⟩) 1 c] w' fun e w2 => e = .returned (.string T) ∧ Below w'.heap.size w' w2 by
        have := nametext_any h (by decide) (by decide) (by intro s hs; simp at hs; subst hs; simp [ByteArray.size])
        rwa [hT] at this))
      rw [hT] at hts
      have HTS := hid hts
      have hz := escB_size x
      obtain ⟨N, hN⟩ : ∃ N, (escB x).length = N := ⟨_, rfl⟩
      rw [hN] at hz
      have hTz : T.size = N + 1 := by rw [sz_toList, hts, List.length_append, hN]; rfl
      have HTZ := hid hTz
      have HN := hid hN
      have HX := hid hx
      obtain ⟨z1, z2⟩ := hz
      have u1 : 1 ≤ T.size := by omega
      have u2 : T.size ≤ 5 := by omega
      have hTe : (T.extract 0 (T.size - 1)).toList = escB x := by
        rw [ext_list, hts, hTz]
        simp only [List.drop_zero, Nat.sub_zero, Nat.add_sub_cancel]
        rw [← hN, List.take_left]
      have hh : (s.extract p (p + (T.size - 1))).toList = (T.extract 0 (T.size - 1)).toList → ∃ q, s.data.toList.drop p = escB x ++ q := fun h => by
        rw [hTe, ext_list] at h
        exact ⟨(s.data.toList.drop p).drop (p + (T.size - 1) - p), by rw [← h, List.take_append_drop]⟩
      have hm : ∀ q, s.data.toList.drop p = escB x ++ q → (N ≤ s.size - p) ∧ (s.extract p (p + (T.size - 1))).toList = (T.extract 0 (T.size - 1)).toList := fun q e => by
        constructor
        · have := congrArg List.length e
          rw [List.length_drop, ← sz_toList, List.length_append, hN] at this
          omega
        · rw [hTe, ext_list, e, show p + (T.size - 1) - p = N by omega, ← hN, List.take_left]
      have HH := hid hh
      have HM := hid hm
      clear hts hT hN hTz hx hTe hh hm
      go_wp2_with (go_at_call 26; have _t := tk1; (with_reducible refine (CT.out _ _ _ (one_rd _ _ hs1 (by first | rfl | (simp [size_ext]; done) | (simp [size_ext]; omega)))).mono ?_); rintro e w1 ⟨rfl, hb⟩; obtain ⟨otk1, dtk1, rfl⟩ := ext_of_below hb; clear hb tk1)
      · have heq : (s.extract p (p + (T.size - 1))).toList = (T.extract 0 (T.size - 1)).toList := by assumption
        obtain ⟨q, hq⟩ := HH.out heq
        have hi : (p : Int) + ((T.size - 1 : Nat) : Int) = ((p + N : Nat) : Int) := by have := HTZ.out; omega
        go_ret2
        exact ⟨HLOW.out.trans (by (repeat' (first | (with_reducible exact Below.refl _ _) | (with_reducible assumption) | (with_reducible refine below_ext0 ?_ _ _) | (with_reducible refine below_alloc0 ?_ _) | (with_reducible refine Below.ext ?_ ?_ _ _) | (with_reducible refine Below.alloc ?_ ?_ _) | (with_reducible refine Below.setCell ?_ ?_ _) | (with_reducible refine Below.drew ?_) | (with_reducible refine below_draws ?_ _) | go_size | (simp [size_ext]; done) | (simp [size_ext]; omega)))), .inr ⟨x, q, N, hq, HN.out, by rw [HX.out, ← hi]; rfl⟩⟩
      all_goals
        go_roundg (256 - (k + 1))
        case measure => omega
        case rel =>
          refine ⟨k + 1, by omega, rfl, by go_num, hid (fun b hb h46 q e => ?_), by have := HLOW.out; (repeat' (first | (with_reducible exact Below.refl _ _) | (with_reducible assumption) | (with_reducible refine below_ext0 ?_ _ _) | (with_reducible refine below_alloc0 ?_ _) | (with_reducible refine Below.ext ?_ ?_ _ _) | (with_reducible refine Below.alloc ?_ ?_ _) | (with_reducible refine Below.setCell ?_ ?_ _) | (with_reducible refine Below.drew ?_) | (with_reducible refine below_draws ?_ _) | go_size | (simp [size_ext]; done) | (simp [size_ext]; omega)))⟩
          rcases Nat.lt_or_ge b.toNat k with h | h
          · exact HNO.out b h h46 q e
          · have hbx : b = x := UInt8.toNat_inj.1 (by rw [HX.out]; omega)
            subst hbx
            obtain ⟨m1, m2⟩ := HM.out q e
            have htz := HTZ.out
            first
              | (exfalso; have h3 : ((k : Int) != 46) = false := by assumption
                 rw [bne_eq_false_iff_eq] at h3
                 have := HX.out
                 omega)
              | (exfalso; have h3 : ¬ (s.extract p (p + (T.size - 1))).toList = (T.extract 0 (T.size - 1)).toList := by assumption
                 exact h3 m2)
              | (exfalso; omega)
    · obtain rfl : k = 256 := by omega
      have hno2 : ∀ b q, b.toNat ≠ 46 → s.data.toList.drop p ≠ escB b ++ q := fun b q h => HNO.out b b.toNat_lt h q
      have HN2 := hid hno2
      have HE := hid (ext_list s p (p + 2))
      clear hno2
      go_wp2
      · have heq : (s.extract p (p + 2)).toList = [92, 46] := by first | assumption | exact eq_of_beq (by assumption)
        have hq := HE.out
        rw [heq] at hq
        go_ret2
        refine ⟨HLOW.out, .inr ⟨46, (s.data.toList.drop p).drop 2, 2, ?_, rfl, by first | rfl | simp⟩⟩
        have h2 : escB 46 = [92, 46] := rfl
        rw [h2, show [92, 46] = (s.data.toList.drop p).take 2 by rw [hq]; congr 1; omega, List.take_append_drop]
      all_goals
        go_ret2
        refine ⟨HLOW.out, .inl ⟨rfl, fun b q e => ?_⟩⟩
        by_cases h46 : b.toNat = 46
        · have hb : b = 46 := UInt8.toNat_inj.1 h46
          subst hb
          have h2 : escB 46 = [92, 46] := rfl
          rw [h2] at e
          have hl := congrArg List.length e
          rw [List.length_drop, ← sz_toList, List.length_append] at hl
          simp only [List.length_cons, List.length_nil] at hl
          first
            | (have h3 : ¬ (s.extract p (p + 2)).toList = [92, 46] := by first | assumption | exact ne_of_beq_false (by assumption) | (intro h; simp_all; done)
               apply h3
               rw [HE.out, e]
               have : p + 2 - p = 2 := by omega
               rw [this]
               rfl)
            | omega
        · exact HN2.out b q h46 e
end Go.Proofs.YtbjjmikiefgnaaaDoor
