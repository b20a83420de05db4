/- The document's answers of names as they are sent: nameFrom, NameAt. -/
import Derived.Test.YtfihedcobopbcaaDoorK3
import Derived.Test.YtfihedcobopbcaaDoorK7
import Derived.BigRegion
import Derived.Deep.RegionLaw
namespace Go.Proofs.YtfihedcobopbcaaDoor
open Go.RowKit
set_option linter.unusedVariables false
set_option linter.unusedSimpArgs false

theorem nm_len (m : List UInt8) (low at_ size : Nat) (hs : size ≤ 255) : size + (nm m low at_ size).2.1.length ≤ 255 := by
  induction low, at_, size using nm.induct (m := m) with
  | case1 low at_ size h h0 => rw [nm, dif_pos h, if_pos h0]; exact hs
  | case2 low at_ size h h0 h1 h2 h3 ih => rw [nm, dif_pos h, if_neg h0, if_pos h1, dif_pos h2, if_pos h3]; exact ih hs
  | case3 low at_ size h h0 h1 h2 h3 => rw [nm, dif_pos h, if_neg h0, if_pos h1, dif_pos h2, if_neg h3]; exact hs
  | case4 low at_ size h h0 h1 h2 => rw [nm, dif_pos h, if_neg h0, if_pos h1, dif_neg h2]; exact hs
  | case5 low at_ size h h0 h1 h2 => rw [nm, dif_pos h, if_neg h0, if_neg h1, if_pos h2]; exact hs
  | case6 low at_ size h h0 h1 h2 h3 h4 ih =>
    rw [nm, dif_pos h, if_neg h0, if_neg h1, if_neg h2, if_pos h3, if_pos h4]
    have := ih h4
    simp only [List.length_cons]
    omega
  | case7 low at_ size h h0 h1 h2 h3 h4 => rw [nm, dif_pos h, if_neg h0, if_neg h1, if_neg h2, if_pos h3, if_neg h4]; exact hs
  | case8 low at_ size h h0 h1 h2 h3 => rw [nm, dif_pos h, if_neg h0, if_neg h1, if_neg h2, if_neg h3]; exact hs
  | case9 low at_ size h => rw [nm, dif_neg h]; exact hs
/-- what a Told holds -/
@[reducible] def toldC (v : Value) (next e : Int) : Array Value := #[v, .int .i64 next, .int .i64 e]
def NfE (w : World) (t : Int × List ByteArray × Nat) (e : Ending) (w' : World) : Prop :=
  Below w.heap.size w w' ∧ ∃ v, e = .returned (.agg (toldC v (t.2.2 : Int) t.1)) ∧ w'.ownsRow w.heap.size 9 1 v t.2.1.length (strsV t.2.1)
theorem nfE_nil {w w' : World} {t : Int × List ByteArray × Nat} {k : Int} {nx : Nat} (h : t = (k, [], nx)) (hb : Below w.heap.size w w') : NfE w t (.returned (.agg (toldC (.slice none 0 0) (nx : Int) k))) w' := by
  subst h
  exact ⟨hb, _, rfl, World.ownsRow_nil _ _ _ _⟩
section
variable {w w0 : World} {base : Nat} {e : TypeId} {size : Nat} {v : Value} {n : Nat} {xs : List Value}
theorem own_swap {o1 o2 : Obj} {os : Array Obj} {d : Nat} (h : (ext (w.alloc o1) os d).ownsRow base e size v n xs) (hb : w.heap.size < base) : (ext (w.alloc o2) os d).ownsRow base e size v n xs := by
  refine h.kept (row := some w.heap.size) ⟨rfl, rfl, rfl, by simp [size_ext], fun k hk hne => ?_⟩ ?_
  · have hne' : k ≠ w.heap.size := fun e => hne (by rw [e])
    simp only [ext, World.alloc, Array.getElem?_append, Array.size_push, Array.getElem?_push]
    by_cases c : k < w.heap.size + 1
    · rw [if_pos c, if_pos c, if_neg hne', if_neg hne']
    · rw [if_neg c, if_neg c]
  · cases ev : v.ownBlock with
    | none => exact .inl rfl
    | some g =>
      right
      have := (h.lt g ev).1
      intro e
      cases e
      omega
theorem own_src {A : Option Addr} {c : Nat} (h : w.ownsRow base e size (.slice A n c) n xs) (h1 : ∀ u ∈ xs, u.oneCell' = true) : Src w A n c size xs := by
  refine ⟨h.1, fun ad ha j u hu => ?_, fun ha => ?_, h1⟩
  · subst ha
    rcases h.2 with ⟨e, _⟩ | ⟨g, cap, cur, e, hb, hh, hr⟩
    · cases e
    · cases e
      exact h.cells (g := g) rfl j u hu
  · subst ha
    rcases h.2 with ⟨e, h0⟩ | ⟨g, cap, cur, e, hb, hh, hr⟩
    · cases e; exact ⟨rfl, rfl⟩
    · cases e
theorem one_strs (l : List ByteArray) : ∀ u ∈ strsV l, u.oneCell' = true := by
  intro u hu
  obtain ⟨b, _, rfl⟩ := List.mem_map.1 hu
  rfl
end

theorem step_appB {P : Program} {w : World} {ops : Array Oper} {o : Oper} {a : Act} {Q : Exit → Act → World → Prop} {K : Act → World → Prop} {F : Prop} (hgd : o.guard = none) (s x : Operand) (t : TypeId)
    (ho : o.op = .call { callee := .builtin .append, args := #[s, x], argTypes := #[t, t] }) (base : Nat) (e : TypeId) (size bytes : Nat) (E : El P t e size bytes)
    (v : Value) (n : Nat) (xs : List Value) (hs : a.eval s = v) (hown : w.ownsRow base e size v n xs) (A : Option Addr) (m c : Nat) (ys : List Value) (hx : a.eval x = .slice A m c) (hsrc : Src w A m c size ys)
    (hbytes : (n + m) * bytes ≤ 140737488355328) (h63 : n + m ≤ maxLen) (hbase : base ≤ w.heap.size)
    (h : ∀ v' w', w'.ownsRow base e size v' (n + m) (xs ++ ys) → Below base w w' → K (a.put o.dst v') w') :
    if Region.wanted o (yielded ops a.tmps) = true then Oper.wp P o a w K Q else F :=
  step_app hgd s x t ho base e size bytes E v n xs hs hown A m c ys hx hsrc hbytes h63 hbase fun v' w' h1 h2 _ => h v' w' h1 (grown_below hown h2 hbase)
/-- behind the append: what both Tolds hold -/
theorem told9 {w W w9 : World} {os : Array Obj} {d : Nat} {T : TypeId} {c1 c2 : Array Value} {o : Obj} (hb : Below (w.heap.size + 1 + os.size + 1) W w9) (hW : W.heap = (((ext (w.alloc (.cells c1 T)) os d).alloc (.cells c2 T)).alloc o).heap) :
    Blk w9 w.heap.size T c1 ∧ Blk w9 (w.heap.size + 1 + os.size) T c2 ∧ w.heap.size + 1 + os.size < w9.heap.size := by
  have h1 : Blk (((ext (w.alloc (.cells c1 T)) os d).alloc (.cells c2 T)).alloc o) w.heap.size T c1 := (((Blk.new _ _ _).ext os d).alloc _).alloc _
  have h2 : Blk (((ext (w.alloc (.cells c1 T)) os d).alloc (.cells c2 T)).alloc o) (w.heap.size + 1 + os.size) T c2 := (Blk.new' _ _ (by simp [size_ext])).alloc _
  have hs : W.heap.size = w.heap.size + 1 + os.size + 1 + 1 := by rw [hW]; simp [size_ext]
  have := hb.size
  refine ⟨(hb.block _ (by omega)).trans ?_, (hb.block _ (by omega)).trans ?_, by omega⟩
  · rw [hW]; exact h1
  · rw [hW]; exact h2

set_option maxRecDepth 100000 in
set_option maxHeartbeats 8000000 in
theorem nameFrom_any (A : Option Addr) (n c : Nat) (m : List UInt8) (K : Nat) : ∀ (low at_ size : Nat) (w : World) (hM : Rd u8R w w.heap.size A n c m) (hk : low * (n + 1) + (n - at_) < K) (hlow : at_ < n → low ≤ n) (hat : (at_ : Int) ≤ 9223372036854775807) (hsz : size ≤ 255),
    Calls Tryd.prog 56 #[.slice A n c, .int .i64 at_, .int .i64 low, .int .i64 size] w (NfE w (nm m low at_ size)) := by
  induction K with
  | zero => intro low at_ size w hM hk; omega
  | succ K ih =>
    intro low at_ size w hM hk hlow hat hsz
    have hcap := hM.cap
    have hm := hM.max
    unfold maxLen at hm
    have hln := hid hM.len
    have hnl := hM.lim
    simp only [u8R, Nat.mul_one] at hnl
    by_cases hend : n ≤ at_
    · have hr : nm m low at_ size = (2, [], 0) := nm_end (by rw [hln.out]; exact hend)
      have HR := hid hr
      have h1 : (n : Int) ≤ (at_ : Int) := by omega
      clear hr hM hlow hk
      go_enter Tryd.func56, Tryd.ntmps56
      go_wp2_with fail
      refine bodyPost_ret (v := .agg (toldC (.slice none 0 0) ((0 : Nat) : Int) 2)) (by simp [results, Tryd.results56, go_sem]) rfl ?_
      exact nfE_nil HR.out (by (repeat' (first | (with_reducible exact Below.refl _ _) | (with_reducible assumption) | (with_reducible refine below_ext0 ?_ _ _) | (with_reducible refine below_alloc0 ?_ _) | (with_reducible refine Below.ext ?_ ?_ _ _) | (with_reducible refine Below.alloc ?_ ?_ _) | (with_reducible refine Below.setCell ?_ ?_ _) | (with_reducible refine Below.drew ?_) | (with_reducible refine below_draws ?_ _) | go_size | (simp [size_ext]; done) | (simp [size_ext]; omega))))
    · have hat' : at_ < n := by omega
      replace hlow := hlow hat'
      obtain ⟨b, o, rfl, hb0⟩ := hM.addr (by omega)
      obtain ⟨x, hx, cx, _⟩ := hM.get at_ hat'
      have hx1 := x.toNat_lt
      have hx2 : (x.toNat : Int) ≤ 255 := by omega
      have q1 : (at_ : Int) < (n : Int) := by omega
      have HX := hid hx
      have HM := hid hM
      clear hx hM hat
      have ways : x.toNat = 0 ∨ (192 ≤ x.toNat ∧ n ≤ at_ + 1) ∨ (192 ≤ x.toNat ∧ at_ + 1 < n) ∨ (63 < x.toNat ∧ x.toNat < 192) ∨ (1 ≤ x.toNat ∧ x.toNat ≤ 63) := by omega
      rcases ways with h0 | ⟨h1, h2⟩ | ⟨h1, h2⟩ | ⟨h1, h2⟩ | ⟨h1, h2⟩
      · have hr : nm m low at_ size = (0, [], at_ + 1) := nm_zero HX.out h0
        have HR := hid hr
        have e0 : ((x.toNat : Int) == 0) = true := by rw [beq_iff_eq]; omega
        clear hr
        go_enter Tryd.func56, Tryd.ntmps56
        go_wp2_with fail
        refine bodyPost_ret (v := .agg (toldC (.slice none 0 0) ((at_ + 1 : Nat) : Int) 0)) (by simp [results, Tryd.results56, go_sem]) rfl ?_
        exact nfE_nil HR.out (by (repeat' (first | (with_reducible exact Below.refl _ _) | (with_reducible assumption) | (with_reducible refine below_ext0 ?_ _ _) | (with_reducible refine below_alloc0 ?_ _) | (with_reducible refine Below.ext ?_ ?_ _ _) | (with_reducible refine Below.alloc ?_ ?_ _) | (with_reducible refine Below.setCell ?_ ?_ _) | (with_reducible refine Below.drew ?_) | (with_reducible refine below_draws ?_ _) | go_size | (simp [size_ext]; done) | (simp [size_ext]; omega))))
      · have hr : nm m low at_ size = (2, [], 0) := nm_ptr_short HX.out h1 (by rw [hln.out]; exact h2)
        have HR := hid hr
        have e0 : ((x.toNat : Int) == 0) = false := by rw [beq_eq_false_iff_ne]; omega
        have e1 : (192 : Int) ≤ (x.toNat : Int) := by omega
        have e2 : (n : Int) ≤ (at_ : Int) + 1 := by omega
        clear hr
        go_enter Tryd.func56, Tryd.ntmps56
        go_wp2_with fail
        refine bodyPost_ret (v := .agg (toldC (.slice none 0 0) ((0 : Nat) : Int) 2)) (by simp [results, Tryd.results56, go_sem]) rfl ?_
        exact nfE_nil HR.out (by (repeat' (first | (with_reducible exact Below.refl _ _) | (with_reducible assumption) | (with_reducible refine below_ext0 ?_ _ _) | (with_reducible refine below_alloc0 ?_ _) | (with_reducible refine Below.ext ?_ ?_ _ _) | (with_reducible refine Below.alloc ?_ ?_ _) | (with_reducible refine Below.setCell ?_ ?_ _) | (with_reducible refine Below.drew ?_) | (with_reducible refine below_draws ?_ _) | go_size | (simp [size_ext]; done) | (simp [size_ext]; omega))))
      · obtain ⟨y, hy, cy, _⟩ := HM.out.get (at_ + 1) h2
        have hy1 := y.toNat_lt
        have hy2 : (y.toNat : Int) ≤ 255 := by omega
        obtain ⟨tgt, hto⟩ : ∃ tgt : Nat, (x.toNat - 192) * 256 + y.toNat = tgt := ⟨_, rfl⟩
        have t0 := nm_ptr (low := low) (size := size) HX.out h1 hy hto
        have hto' : ((x.toNat : Int) - 192) * 256 + (y.toNat : Int) = (tgt : Int) := by omega
        have HT := hid t0
        have e0 : ((x.toNat : Int) == 0) = false := by rw [beq_eq_false_iff_ne]; omega
        have e1 : (192 : Int) ≤ (x.toNat : Int) := by omega
        have e2 : (at_ : Int) + 1 < (n : Int) := by omega
        have hto16 : (tgt : Int) ≤ 16383 := by omega
        clear hy t0 hto
        by_cases hlt : tgt < low
        · have hlt' : (tgt : Int) < (low : Int) := by omega
          have CI := hid fun w' (hb : Below w.heap.size w w') => ih tgt tgt size w' (HM.out.later hb) (by
            have : (tgt + 1) * (n + 1) ≤ low * (n + 1) := Nat.mul_le_mul_right _ hlt
            rw [Nat.succ_mul] at this
            omega) (fun _ => by omega) (by omega) hsz
          go_enter Tryd.func56, Tryd.ntmps56
          go_wp2_with (go_at_call 56; (with_reducible refine (CI.out _ (by (repeat' (first | (with_reducible exact Below.refl _ _) | (with_reducible assumption) | (with_reducible refine below_ext0 ?_ _ _) | (with_reducible refine below_alloc0 ?_ _) | (with_reducible refine Below.ext ?_ ?_ _ _) | (with_reducible refine Below.alloc ?_ ?_ _) | (with_reducible refine Below.setCell ?_ ?_ _) | (with_reducible refine Below.drew ?_) | (with_reducible refine below_draws ?_ _) | go_size | (simp [size_ext]; done) | (simp [size_ext]; omega))))).mono ?_); rintro e w1 ⟨hb, v, rfl, ho⟩; obtain ⟨os, d, rfl⟩ := ext_of_below hb; obtain ⟨A', c', rfl, _, _, _⟩ := own_slice ho; have HO := hid ho; clear hb ho)
          have ht := HT.out
          rw [if_pos hlt] at ht
          refine bodyPost_ret (v := .agg (toldC (.slice A' (nm m tgt tgt size).2.1.length c') ((at_ + 2 : Nat) : Int) (nm m tgt tgt size).1)) (by simp [results, Tryd.results56, go_sem]) rfl ?_
          rw [ht]
          exact ⟨by (repeat' (first | (with_reducible exact Below.refl _ _) | (with_reducible assumption) | (with_reducible refine below_ext0 ?_ _ _) | (with_reducible refine below_alloc0 ?_ _) | (with_reducible refine Below.ext ?_ ?_ _ _) | (with_reducible refine Below.alloc ?_ ?_ _) | (with_reducible refine Below.setCell ?_ ?_ _) | (with_reducible refine Below.drew ?_) | (with_reducible refine below_draws ?_ _) | go_size | (simp [size_ext]; done) | (simp [size_ext]; omega))), _, rfl, own_less ((own_swap HO.out (by simp)).alloc _) (by simp)⟩
        · have hlt' : (low : Int) ≤ (tgt : Int) := by omega
          have hr : nm m low at_ size = (4, [], 0) := by rw [HT.out, if_neg hlt]
          have HR := hid hr
          clear hr
          go_enter Tryd.func56, Tryd.ntmps56
          go_wp2_with fail
          refine bodyPost_ret (v := .agg (toldC (.slice none 0 0) ((0 : Nat) : Int) 4)) (by simp [results, Tryd.results56, go_sem]) rfl ?_
          exact nfE_nil HR.out (by (repeat' (first | (with_reducible exact Below.refl _ _) | (with_reducible assumption) | (with_reducible refine below_ext0 ?_ _ _) | (with_reducible refine below_alloc0 ?_ _) | (with_reducible refine Below.ext ?_ ?_ _ _) | (with_reducible refine Below.alloc ?_ ?_ _) | (with_reducible refine Below.setCell ?_ ?_ _) | (with_reducible refine Below.drew ?_) | (with_reducible refine below_draws ?_ _) | go_size | (simp [size_ext]; done) | (simp [size_ext]; omega))))
      · have hr : nm m low at_ size = (3, [], 0) := nm_big HX.out h1 h2
        have HR := hid hr
        have e0 : ((x.toNat : Int) == 0) = false := by rw [beq_eq_false_iff_ne]; omega
        have e1 : (x.toNat : Int) < 192 := by omega
        have e2 : (63 : Int) < (x.toNat : Int) := by omega
        clear hr
        go_enter Tryd.func56, Tryd.ntmps56
        go_wp2_with fail
        refine bodyPost_ret (v := .agg (toldC (.slice none 0 0) ((0 : Nat) : Int) 3)) (by simp [results, Tryd.results56, go_sem]) rfl ?_
        exact nfE_nil HR.out (by (repeat' (first | (with_reducible exact Below.refl _ _) | (with_reducible assumption) | (with_reducible refine below_ext0 ?_ _ _) | (with_reducible refine below_alloc0 ?_ _) | (with_reducible refine Below.ext ?_ ?_ _ _) | (with_reducible refine Below.alloc ?_ ?_ _) | (with_reducible refine Below.setCell ?_ ?_ _) | (with_reducible refine Below.drew ?_) | (with_reducible refine below_draws ?_ _) | go_size | (simp [size_ext]; done) | (simp [size_ext]; omega))))
      · have e0 : ((x.toNat : Int) == 0) = false := by rw [beq_eq_false_iff_ne]; omega
        have e1 : (x.toNat : Int) < 192 := by omega
        have e2 : (x.toNat : Int) ≤ 63 := by omega
        have e3 : (1 : Int) ≤ (x.toNat : Int) := by omega
        by_cases hs1 : n < at_ + 1 + x.toNat
        · have hr : nm m low at_ size = (2, [], 0) := nm_lab_short HX.out h1 h2 (by rw [hln.out]; exact hs1)
          have HR := hid hr
          have e4 : (n : Int) < (at_ : Int) + 1 + (x.toNat : Int) := by omega
          clear hr
          go_enter Tryd.func56, Tryd.ntmps56
          go_wp2_with fail
          refine bodyPost_ret (v := .agg (toldC (.slice none 0 0) ((0 : Nat) : Int) 2)) (by simp [results, Tryd.results56, go_sem]) rfl ?_
          exact nfE_nil HR.out (by (repeat' (first | (with_reducible exact Below.refl _ _) | (with_reducible assumption) | (with_reducible refine below_ext0 ?_ _ _) | (with_reducible refine below_alloc0 ?_ _) | (with_reducible refine Below.ext ?_ ?_ _ _) | (with_reducible refine Below.alloc ?_ ?_ _) | (with_reducible refine Below.setCell ?_ ?_ _) | (with_reducible refine Below.drew ?_) | (with_reducible refine below_draws ?_ _) | go_size | (simp [size_ext]; done) | (simp [size_ext]; omega))))
        · have e4 : (at_ : Int) + 1 + (x.toNat : Int) ≤ (n : Int) := by omega
          by_cases hbig : 255 < size + x.toNat + 1
          · have hr : nm m low at_ size = (5, [], 0) := nm_lab_long HX.out h1 h2 (by rw [hln.out]; omega) hbig
            have HR := hid hr
            have e5 : (255 : Int) < (size : Int) + (x.toNat : Int) + 1 := by omega
            clear hr
            go_enter Tryd.func56, Tryd.ntmps56
            go_wp2_with fail
            refine bodyPost_ret (v := .agg (toldC (.slice none 0 0) ((0 : Nat) : Int) 5)) (by simp [results, Tryd.results56, go_sem]) rfl ?_
            exact nfE_nil HR.out (by (repeat' (first | (with_reducible exact Below.refl _ _) | (with_reducible assumption) | (with_reducible refine below_ext0 ?_ _ _) | (with_reducible refine below_alloc0 ?_ _) | (with_reducible refine Below.ext ?_ ?_ _ _) | (with_reducible refine Below.alloc ?_ ?_ _) | (with_reducible refine Below.setCell ?_ ?_ _) | (with_reducible refine Below.drew ?_) | (with_reducible refine below_draws ?_ _) | go_size | (simp [size_ext]; done) | (simp [size_ext]; omega))))
          · have e5 : (size : Int) + (x.toNat : Int) + 1 ≤ 255 := by omega
            have hr := nm_lab (low := low) (size := size) HX.out h1 h2 (by rw [hln.out]; omega) (by omega)
            have CI := fun w' (hb : Below w.heap.size w w') => ih low (at_ + 1 + x.toNat) (size + x.toNat + 1) w' (HM.out.later hb) (by omega) (fun _ => hlow) (by omega) (by omega)
            have HR := hid hr
            rw [show ((at_ + 1 + x.toNat : Nat) : Int) = (at_ : Int) + 1 + (x.toNat : Int) by omega, show ((size + x.toNat + 1 : Nat) : Int) = (size : Int) + (x.toNat : Int) + 1 by omega] at CI
            replace CI := hid CI
            clear hr
            go_enter Tryd.func56, Tryd.ntmps56
            go_wp2_with (go_at_call 56; (with_reducible refine (CI.out _ (by (repeat' (first | (with_reducible exact Below.refl _ _) | (with_reducible assumption) | (with_reducible refine below_ext0 ?_ _ _) | (with_reducible refine below_alloc0 ?_ _) | (with_reducible refine Below.ext ?_ ?_ _ _) | (with_reducible refine Below.alloc ?_ ?_ _) | (with_reducible refine Below.setCell ?_ ?_ _) | (with_reducible refine Below.drew ?_) | (with_reducible refine below_draws ?_ _) | go_size | (simp [size_ext]; done) | (simp [size_ext]; omega))))).mono ?_); rintro e w1 ⟨hb, v, rfl, ho⟩; obtain ⟨os, d, rfl⟩ := ext_of_below hb; obtain ⟨A', c', rfl, _, _, _⟩ := own_slice ho; have HO := hid ho; clear hb ho)
            have w1' : IntKind.i64.wrap ((at_ : Int) + 1) = (at_ : Int) + 1 := IntWalk.i64_in _ (by omega)
            have w2' : IntKind.i64.wrap ((at_ : Int) + 1 + (x.toNat : Int)) = (at_ : Int) + 1 + (x.toNat : Int) := IntWalk.i64_in _ (by omega)
            have p0 : (0 : Int) ≤ (at_ : Int) + 1 := by omega
            have p1 : (at_ : Int) + 1 ≤ (at_ : Int) + 1 + (x.toNat : Int) := by omega
            have p2 : (at_ : Int) + 1 + (x.toNat : Int) ≤ (c : Int) := by omega
            have p3 : ¬ c = at_ + 1 := by omega
            have t1 : ((at_ : Int) + 1).toNat = at_ + 1 := by omega
            have t2 : ((at_ : Int) + 1 + (x.toNat : Int)).toNat = at_ + 1 + x.toNat := by omega
            have hconv : ∀ W, Below w.heap.size w W → (convert 22 9 (.slice (some ⟨b, o + (at_ + 1), none⟩) x.toNat (c - (at_ + 1)))).run Tryd.prog W = .ok (.string (segB m (at_ + 1) x.toNat)) W := by
              intro W hW
              exact (((HM.out.below hW).dropB (k := at_ + 1) (by omega)).take (k := x.toNat) (by omega)).conv
            have CV := hid hconv
            obtain ⟨sg, hsg⟩ : ∃ sg, segB m (at_ + 1) x.toNat = sg := ⟨_, rfl⟩
            have HSG := hid hsg
            rw [hsg] at CV
            obtain ⟨t, ht⟩ : ∃ t, nm m low (at_ + 1 + x.toNat) (size + x.toNat + 1) = t := ⟨_, rfl⟩
            have HTT := hid ht
            have htl := nm_len m low (at_ + 1 + x.toNat) (size + x.toNat + 1) (by omega)
            rw [ht] at HO htl
            simp only [ht]
            clear hconv hsg ht
            have cvd := CV.out ((ext (w.alloc (.cells #[.slice none 0 0, .int .i64 0, .int .i64 0] 62)) os d).alloc (.cells #[.slice A' t.2.1.length c', .int .i64 (t.2.2 : Int), .int .i64 t.1] 62)).drew (by (repeat' (first | (with_reducible exact Below.refl _ _) | (with_reducible assumption) | (with_reducible refine below_ext0 ?_ _ _) | (with_reducible refine below_alloc0 ?_ _) | (with_reducible refine Below.ext ?_ ?_ _ _) | (with_reducible refine Below.alloc ?_ ?_ _) | (with_reducible refine Below.setCell ?_ ?_ _) | (with_reducible refine Below.drew ?_) | (with_reducible refine below_draws ?_ _) | go_size | (simp [size_ext]; done) | (simp [size_ext]; omega))))
            go_region_law ((refine step_appB rfl (.tmp 96) (.tmp 98) 60 rfl (w.heap.size + 1 + os.size + 1) 9 1 16 el_str _ 1 [.string sg] rfl (own_lit _ _ (by simp [size_ext]) (by simp [size_ext]) rfl (by decide) rfl) _ t.2.1.length _ _ rfl (own_src ((((HO.out).alloc _).alloc _)) (one_strs _)) (by omega) (by unfold maxLen; omega) (by simp [size_ext]) ?_; intro v9 w9 ho9 hb9; obtain ⟨A9, c9, rfl, _, _, _⟩ := own_slice ho9; have HO9 := hid ho9; obtain ⟨B1, B2, hs9⟩ := told9 (w := w) (os := os) (d := d) (T := 62) (c1 := #[.slice none 0 0, .int .i64 0, .int .i64 0]) (c2 := #[.slice A' t.2.1.length c', .int .i64 (t.2.2 : Int), .int .i64 t.1]) (o := .cells #[.string sg] 9) hb9 rfl; have z0 : w9.cell? ⟨w.heap.size + 1 + os.size, 0, none⟩ = _ := B2.cell 0; have z1 : w9.cell? ⟨w.heap.size + 1 + os.size, 1, none⟩ = _ := B2.cell 1; have z2 : w9.cell? ⟨w.heap.size + 1 + os.size, 2, none⟩ = _ := B2.cell 2; have y0 : w9.cell? ⟨w.heap.size, 0, none⟩ = _ := B1.cell 0; have y1 : w9.cell? ⟨w.heap.size, 1, none⟩ = _ := B1.cell 1; have y2 : w9.cell? ⟨w.heap.size, 2, none⟩ = _ := B1.cell 2; have zf0 : w9.frozen? ⟨w.heap.size + 1 + os.size, 0, none⟩ = false := B2.frozen 0; have yf0 : w9.frozen? ⟨w.heap.size, 0, none⟩ = false := B1.frozen 0; have yf1 : w9.frozen? ⟨w.heap.size, 1, none⟩ = false := B1.frozen 1; have yf2 : w9.frozen? ⟨w.heap.size, 2, none⟩ = false := B1.frozen 2; have HBB := hid (And.intro B1 B2); have hbw9 : Below w.heap.size w w9 := Below.trans (by (repeat' (first | (with_reducible exact Below.refl _ _) | (with_reducible assumption) | (with_reducible refine below_ext0 ?_ _ _) | (with_reducible refine below_alloc0 ?_ _) | (with_reducible refine Below.ext ?_ ?_ _ _) | (with_reducible refine Below.alloc ?_ ?_ _) | (with_reducible refine Below.setCell ?_ ?_ _) | (with_reducible refine Below.drew ?_) | (with_reducible refine below_draws ?_ _) | go_size | (simp [size_ext]; done) | (simp [size_ext]; omega)))) (hb9.mono (by omega)); have hs9' : w.heap.size < w9.heap.size := (by omega); have HB9 := hid hb9; clear ho9 hb9 B1 B2))
            all_goals
              go_wp2_with fail
              refine bodyPost_ret (v := .agg (toldC (.slice A9 (1 + t.2.1.length) c9) (t.2.2 : Int) t.1)) (by simp [results, Tryd.results56, go_sem, y0, y1, y2]) rfl ?_
              have ho := HO9.out
              have hr := HR.out
              rw [HTT.out, HSG.out] at hr
              rw [hr]
              refine ⟨by (repeat' (first | (with_reducible exact Below.refl _ _) | (with_reducible assumption) | (with_reducible refine below_ext0 ?_ _ _) | (with_reducible refine below_alloc0 ?_ _) | (with_reducible refine Below.ext ?_ ?_ _ _) | (with_reducible refine Below.alloc ?_ ?_ _) | (with_reducible refine Below.setCell ?_ ?_ _) | (with_reducible refine Below.drew ?_) | (with_reducible refine below_draws ?_ _) | go_size | (simp [size_ext]; done) | (simp [size_ext]; omega))), .slice A9 (1 + t.2.1.length) c9, rfl, ?_⟩
              · show World.ownsRow _ _ _ _ _ (sg :: t.2.1).length (strsV (sg :: t.2.1))
                rw [show (sg :: t.2.1).length = 1 + t.2.1.length from by simp [Nat.add_comm]]
                refine own_less (base := w.heap.size + 1 + os.size + 1) ?_ (by omega)
                repeat (first | exact ho | refine own_far ?_ (by first | (simp; done) | (simp; omega)) _)
end Go.Proofs.YtfihedcobopbcaaDoor
/- The document's answers of names as they are sent: NameAt. -/
namespace Go.Proofs.YtfihedcobopbcaaDoor
open Go.RowKit
set_option linter.unusedVariables false
set_option linter.unusedSimpArgs false

/-! NameAt -/
def toldV (t : Int × List ByteArray × Int) (A : Option Addr) (c : Nat) : Value := .agg #[.slice A t.2.1.length c, .int .i64 t.2.2, .int .i64 t.1]
def NaE (w : World) (t : Int × List ByteArray × Int) (e : Ending) (w' : World) : Prop :=
  Below w.heap.size w w' ∧ ∃ A' c', e = .returned (.agg #[.slice A' t.2.1.length c', .int .i64 t.2.2, .int .i64 t.1]) ∧ Rd strR w' w'.heap.size A' t.2.1.length c' t.2.1
set_option maxRecDepth 100000 in
set_option maxHeartbeats 4000000 in
theorem nameAt_any (w : World) (A : Option Addr) (n c : Nat) (m : List UInt8) (hM : Rd u8R w w.heap.size A n c m) (at_ : Int) (hat : at_ ≤ 9223372036854775807) :
    Calls Tryd.prog 23 #[.slice A n c, .int .i64 at_] w (NaE w (rdN m at_)) := by
  by_cases h0 : at_ < 0
  · have hr : rdN m at_ = (6, [], 0) := by unfold rdN; rw [if_pos h0]
    have HR := hid hr
    clear hr hM
    go_enter Tryd.func23, Tryd.ntmps23
    go_wp2_with fail
    refine bodyPost_ret (v := .agg #[.slice none 0 0, .int .i64 0, .int .i64 6]) (by simp [results, Tryd.results23, go_sem]) rfl ?_
    refine ⟨by (repeat' (first | (with_reducible exact Below.refl _ _) | (with_reducible assumption) | (with_reducible refine below_ext0 ?_ _ _) | (with_reducible refine below_alloc0 ?_ _) | (with_reducible refine Below.ext ?_ ?_ _ _) | (with_reducible refine Below.alloc ?_ ?_ _) | (with_reducible refine Below.setCell ?_ ?_ _) | (with_reducible refine Below.drew ?_) | (with_reducible refine below_draws ?_ _) | go_size | (simp [size_ext]; done) | (simp [size_ext]; omega))), ?_⟩
    rw [HR.out]
    exact ⟨none, 0, rfl, rd_nil _ _⟩
  · obtain ⟨a, rfl⟩ : ∃ a : Nat, at_ = (a : Int) := ⟨at_.toNat, by omega⟩
    have hr : rdN m (a : Int) = if (nm m a a 1).1 = 0 then (0, (nm m a a 1).2.1, ((nm m a a 1).2.2 : Int)) else ((nm m a a 1).1, [], 0) := by
      unfold rdN
      rw [if_neg h0, Int.toNat_natCast]
    have HR := hid hr
    have hok := of_nm m a a 1 (by omega)
    obtain ⟨t, ht⟩ : ∃ t, nm m a a 1 = t := ⟨_, rfl⟩
    have CF : ∀ w', Below w.heap.size w w' → Calls Tryd.prog 56 #[.slice A n c, .int .i64 (a : Int), .int .i64 (a : Int), .int .i64 1] w' (NfE w' t) := fun w' hb => by
      have := nameFrom_any A n c m _ a a 1 w' (hM.later hb) (Nat.lt_succ_self _) (fun h => by omega) hat (by omega)
      rw [ht] at this
      exact this
    replace CF := hid CF
    rw [ht] at hr hok
    replace HR := hid hr
    have HOK := hid hok
    clear hr hM ht hok
    by_cases hf : t.1 = 0
    · have e0 : (t.1 == 0) = true := by rw [hf]; rfl
      have e1 : (t.1 != 0) = false := by rw [hf]; rfl
      go_enter Tryd.func23, Tryd.ntmps23
      go_wp2_with (go_at_call 56; (with_reducible refine (CF.out _ (by (repeat' (first | (with_reducible exact Below.refl _ _) | (with_reducible assumption) | (with_reducible refine below_ext0 ?_ _ _) | (with_reducible refine below_alloc0 ?_ _) | (with_reducible refine Below.ext ?_ ?_ _ _) | (with_reducible refine Below.alloc ?_ ?_ _) | (with_reducible refine Below.setCell ?_ ?_ _) | (with_reducible refine Below.drew ?_) | (with_reducible refine below_draws ?_ _) | go_size | (simp [size_ext]; done) | (simp [size_ext]; omega))))).mono ?_); rintro e w1 ⟨hb, v, rfl, ho⟩; obtain ⟨os, d, rfl⟩ := ext_of_below hb; obtain ⟨A', c', rfl, _, _, _⟩ := own_slice ho; have HO := hid ho; clear hb ho)
      have hl := (HOK.out hf).2
      have hll := lsum_len t.2.1
      have r := HR.out
      rw [if_pos hf] at r
      refine bodyPost_ret (v := .agg #[.slice A' t.2.1.length c', .int .i64 (t.2.2 : Int), .int .i64 0]) (by simp [results, Tryd.results23, go_sem, hf]) rfl ?_
      have key : ∀ o2 o3, Rd strR ((ext (w.alloc o2) os d).alloc o3) ((ext (w.alloc o2) os d).alloc o3).heap.size A' t.2.1.length c' t.2.1 := by
        intro o2 o3
        have ho := (own_swap (o2 := o2) HO.out (by simp)).alloc o3
        obtain ⟨A3, c3, he, hrd⟩ := own_rd_str (own_less (base' := w.heap.size) ho (by simp)) (fun s hs => by have := lsum_mem hs; omega) (by simp [size_ext]; omega) (by omega)
        cases he
        exact hrd
      refine ⟨by (repeat' (first | (with_reducible exact Below.refl _ _) | (with_reducible assumption) | (with_reducible refine below_ext0 ?_ _ _) | (with_reducible refine below_alloc0 ?_ _) | (with_reducible refine Below.ext ?_ ?_ _ _) | (with_reducible refine Below.alloc ?_ ?_ _) | (with_reducible refine Below.setCell ?_ ?_ _) | (with_reducible refine Below.drew ?_) | (with_reducible refine below_draws ?_ _) | go_size | (simp [size_ext]; done) | (simp [size_ext]; omega))), ?_⟩
      rw [r]
      exact ⟨A', c', rfl, key _ _⟩
    · have e0 : (t.1 == 0) = false := by rw [beq_eq_false_iff_ne]; exact hf
      have e1 : (t.1 != 0) = true := by rw [bne_iff_ne]; exact hf
      go_enter Tryd.func23, Tryd.ntmps23
      go_wp2_with (go_at_call 56; (with_reducible refine (CF.out _ (by (repeat' (first | (with_reducible exact Below.refl _ _) | (with_reducible assumption) | (with_reducible refine below_ext0 ?_ _ _) | (with_reducible refine below_alloc0 ?_ _) | (with_reducible refine Below.ext ?_ ?_ _ _) | (with_reducible refine Below.alloc ?_ ?_ _) | (with_reducible refine Below.setCell ?_ ?_ _) | (with_reducible refine Below.drew ?_) | (with_reducible refine below_draws ?_ _) | go_size | (simp [size_ext]; done) | (simp [size_ext]; omega))))).mono ?_); rintro e w1 ⟨hb, v, rfl, ho⟩; obtain ⟨os, d, rfl⟩ := ext_of_below hb; obtain ⟨A', c', rfl, _, _, _⟩ := own_slice ho; have HO := hid ho; clear hb ho)
      have r := HR.out
      rw [if_neg hf] at r
      refine bodyPost_ret (v := .agg #[.slice none 0 0, .int .i64 0, .int .i64 t.1]) (by simp [results, Tryd.results23, go_sem]) rfl ?_
      refine ⟨by (repeat' (first | (with_reducible exact Below.refl _ _) | (with_reducible assumption) | (with_reducible refine below_ext0 ?_ _ _) | (with_reducible refine below_alloc0 ?_ _) | (with_reducible refine Below.ext ?_ ?_ _ _) | (with_reducible refine Below.alloc ?_ ?_ _) | (with_reducible refine Below.setCell ?_ ?_ _) | (with_reducible refine Below.drew ?_) | (with_reducible refine below_draws ?_ _) | go_size | (simp [size_ext]; done) | (simp [size_ext]; omega))), ?_⟩
      rw [r]
      exact ⟨none, 0, rfl, rd_nil _ _⟩
end Go.Proofs.YtfihedcobopbcaaDoor
/- The document's answers of names as they are sent: Texts, Sent, Start. -/
namespace Go.Proofs.YtfihedcobopbcaaDoor
open Go.RowKit
set_option linter.unusedVariables false
set_option linter.unusedSimpArgs false

set_option maxHeartbeats 2000000 in
theorem rtexts_any (w : World) (A1 : Option Addr) (n1 c1 : Nat) (l1 : List ByteArray) (B1 : Nat) (h1 : Rd strR w B1 A1 n1 c1 l1) (A2 : Option Addr) (n2 c2 : Nat) (l2 : List ByteArray) (B2 : Nat) (h2 : Rd strR w B2 A2 n2 c2 l2) :
    Calls Tryd.prog 76 #[.slice A1 n1 c1, .slice A2 n2 c2] w fun e w' => e = .returned (.bool (decide (l1 = l2))) ∧ Below w.heap.size w w' := by
  have m1 := h1.max
  have k1 := h1.cap
  have m2 := h2.max
  have k2 := h2.cap
  unfold maxLen at m1 m2
  have H1 := hid h1
  have H2 := hid h2
  clear h1 h2
  by_cases hn : n1 = n2
  · subst hn
    go_enter Tryd.func76, Tryd.ntmps76
    go_wp2
    go_loopg [5] n1 (fun g v wi => ∃ k m : Nat, k ≤ n1 ∧ g = n1 - k ∧ v = .int .i64 k ∧ wi = w.drewN m ∧ l1.take k = l2.take k)
    case atStart => exact ⟨0, 0, Nat.zero_le _, rfl, rfl, rfl, rfl⟩
    case round =>
      obtain ⟨k, m, hk, rfl, rfl, rfl, ht⟩ := hrel
      have HT := hid ht
      clear ht
      by_cases hlt : k < n1
      · obtain ⟨b1, o1, rfl, _, hc1, _⟩ := H1.out.str k hlt
        obtain ⟨b2, o2, rfl, _, hc2, _⟩ := H2.out.str k hlt
        have q1 : k < l1.length := by rw [H1.out.len]; exact hlt
        have q2 : k < l2.length := by rw [H2.out.len]; exact hlt
        have hkz : (k : Int) < (n1 : Int) := by omega
        obtain ⟨x, hx⟩ : ∃ x, l1[k] = x := ⟨_, rfl⟩
        obtain ⟨y, hy⟩ : ∃ y, l2[k] = y := ⟨_, rfl⟩
        rw [hx] at hc1
        rw [hy] at hc2
        have HXY := hid (And.intro hx hy)
        clear hx hy
        by_cases he : x = y
        · subst he
          have hv : (x.toList != x.toList) = false := by simp
          have hv' : (x.toList == x.toList) = true := by simp
          go_wp2_with fail
          go_quiet (fail)
          go_wp2
          go_roundg (n1 - (k + 1))
          case measure => omega
          case rel => exact ⟨k + 1, _, by omega, rfl, by go_num, rfl, by rw [List.take_succ_eq_append_getElem q1, List.take_succ_eq_append_getElem q2, HT.out, HXY.out.1, HXY.out.2]⟩
        · have hv' : (x.toList == y.toList) = false := by rw [str_beq]; simp [he]
          have hv : (x.toList != y.toList) = true := by rw [bne, hv']; rfl
          have hr : decide (l1 = l2) = false := decide_eq_false fun h => he (by rw [← HXY.out.1, ← HXY.out.2]; simp [h])
          clear he
          go_wp2_with fail
          go_quiet (fail)
          go_wp2
          go_ret
          exact ⟨by first | rfl | (rw [hr]; rfl), by first | exact below_drawsN (below_drawsN (Below.refl _ _) _) _ | exact below_drawsN (Below.refl _ _) _⟩
      · have hr : decide (l1 = l2) = true := decide_eq_true (by
          have h := HT.out
          rwa [List.take_of_length_le (by have := H1.out.len; omega), List.take_of_length_le (by have := H2.out.len; omega)] at h)
        go_wp2
        go_ret
        exact ⟨by first | rfl | (rw [hr]; rfl), below_drawsN (Below.refl _ _) _⟩
  · have hv : ((n1 : Int) != (n2 : Int)) = true := by rw [bne_iff_ne]; omega
    have hr : decide (l1 = l2) = false := decide_eq_false fun h => hn (by rw [← H1.out.len, ← H2.out.len, h])
    go_enter Tryd.func76, Tryd.ntmps76
    go_wp2
    go_ret
    exact ⟨by first | rfl | (rw [hr]; rfl), Below.refl _ _⟩


/-! '[]byte(s)' -/
theorem bytes_of (w : World) (s : ByteArray) (hs : s.size ≤ 140737488355328) : ∃ cap o, (convert 9 22 (.string s)).run Tryd.prog w = .ok (.slice (some ⟨w.heap.size, 0, none⟩) s.size cap) (w.drew.alloc o) ∧
    Rd u8R (w.drew.alloc o) (w.drew.alloc o).heap.size (some ⟨w.heap.size, 0, none⟩) s.size cap s.data.toList := by
  have hge := grownCap_ge w s.size 0 5
  have hle := grownCap_le_maxLen w s.size 0 5 (by unfold maxLen; omega)
  refine ⟨_, _, run_bytes_of_string w 9 22 5 s Tryd.underlying9 Tryd.underlying22 Tryd.underlying5, ?_⟩
  have hsz : s.data.toList.length = s.size := by rw [Array.length_toList]; rfl
  refine ⟨hsz, hge, hle, by simpa [u8R] using hs, fun e => (by cases e), fun i hi => ?_⟩
  refine ⟨w.heap.size, 0, _, rfl, by simp, rfl, fun j u hu => ?_⟩
  have hj : j = 0 := by
    cases j with
    | zero => rfl
    | succ j => simp at hu
  subst hj
  simp at hu
  subst hu
  have hb := BlkM.new w.drew 5 (bytesRow s (grownCap w s.size 0 5))
  have hc := hb.cell i
  have e : (bytesRow s (grownCap w s.size 0 5))[i]? = some (.int .u8 (s.data.toList[i].toNat : Int)) := by
    have hi' : i < s.data.size := by rw [← Array.length_toList]; exact hi
    unfold bytesRow
    rw [Array.getElem?_append_left (by simpa using hi'), Array.getElem?_map, Array.getElem?_eq_getElem hi']
    simp
  rw [e] at hc
  simpa [u8R] using hc

theorem own_drewA {w : World} {base : Nat} {e : TypeId} {size : Nat} {v : Value} {n : Nat} {xs : List Value} {o : Obj} (h : w.ownsRow base e size v n xs) : ((w.alloc o).drew).ownsRow base e size v n xs := (h.alloc o).drew
/-! Sent -/
set_option maxRecDepth 100000 in
set_option maxHeartbeats 4000000 in
theorem rsent_any (w : World) (A : Option Addr) (n c : Nat) (l : List ByteArray) (hR : Rd strR w w.heap.size A n c l) (hall : l.all labelOk = true) (hsz : lsum l ≤ 254) :
    Calls Tryd.prog 67 #[.slice A n c] w fun e w' => ∃ A' c', e = .returned (.slice A' (lsum l + 1) c') ∧ Rd u8R w' w'.heap.size A' (lsum l + 1) c' (sentL l ++ [0]) ∧ Below w.heap.size w w' := by
  have hm := hR.max
  have hcap := hR.cap
  unfold maxLen at hm
  have H := hid hR
  have HALL := hid hall
  clear hR hall
  have tk0 : True := trivial; have tk1 : True := trivial; have tk2 : True := trivial; have tk3 : True := trivial; have tk4 : True := trivial; have tk5 : True := trivial; have tk6 : True := trivial; have tk7 : True := trivial; have tk8 : True := trivial; have tk9 : True := trivial; have tk10 : True := trivial; have tk11 : True := trivial; have tk12 : True := trivial
  go_enter Tryd.func67, Tryd.ntmps67
  go_wp2
  go_loopg [3, 4] n (fun gk v0 v9 wi => ∃ k : Nat, k ≤ n ∧ gk = n - k ∧ v9 = .int .i64 (k : Int) ∧ wi.ownsRow w.heap.size 5 1 v0 (lsum (l.take k)) (bytesV (sentL (l.take k))) ∧ Below w.heap.size w wi)
  case atStart => exact ⟨0, Nat.zero_le _, rfl, rfl, World.ownsRow_nil _ _ _ _, Below.refl _ _⟩
  case round =>
    obtain ⟨k, hk, rfl, rfl, hown, hlow⟩ := hrel
    have HO := hid hown
    have HLOW := hid hlow
    have hzw := hlow.size
    clear hown hlow
    by_cases hlt : k < n
    · obtain ⟨b, o, rfl, hb, hc0, hz⟩ := H.out.str k hlt
      have hkl : k < l.length := by rw [H.out.len]; exact hlt
      have htk : l.take (k + 1) = l.take k ++ [l[k]] := List.take_succ_eq_append_getElem hkl
      have hlb : labelOk l[k] = true := List.all_eq_true.1 HALL.out _ (List.getElem_mem hkl)
      obtain ⟨x, hx⟩ : ∃ x, l[k] = x := ⟨_, rfl⟩
      rw [hx] at hc0 hz htk hlb
      have hc := (HLOW.out.cell (p := ⟨b, o + k, none⟩) hb).trans hc0
      have HC0 := hid hc0
      unfold labelOk at hlb
      simp only [Bool.and_eq_true, decide_eq_true_eq] at hlb
      obtain ⟨hx1, hx2⟩ := hlb
      have HTK := hid htk
      have hls : lsum (l.take (k + 1)) = lsum (l.take k) + (x.size + 1) := by rw [htk, lsum_snoc]
      have hsum := lsum_take l (k + 1)
      have ab1 : (lsum (l.take k) + 1) * 1 ≤ 140737488355328 := by omega
      have ab2 : lsum (l.take k) + 1 ≤ maxLen := by unfold maxLen; omega
      have ab3 : (lsum (l.take k) + 1 + x.size) * 1 ≤ 140737488355328 := by omega
      have ab5 : lsum (l.take k) + 1 + x.size ≤ maxLen := by unfold maxLen; omega
      have HLS := hid hls
      have cvt : IntKind.u8.wrap (x.size : Int) = (x.size : Int) := by simp [IntKind.wrap, IntKind.bits, IntKind.signed]; omega
      clear htk hx hls hsum hc0
      go_wp2_with (first
        | (at_builtin; have _t := tk1; refine wpList_appT rfl _ _ 22 rfl w.heap.size 5 1 1 el_u8 _ (lsum (l.take k)) _ rfl (HO.out.alloc _) _ 1 1 [.int .u8 (x.size : Int)] rfl (src_one _ rfl rfl) ab1 ab2 (by simp; omega) ?_; intro v1 w1 ho1 ha1; have HO1 := hid ho1; have hz1 := ha1.grown.size; have HB1 := hid ((HLOW.out.alloc hzw _).trans (ha1.below (HO.out.alloc _) (by simp; omega))); have hc1 := (HB1.out.cell (p := ⟨b, o + k, none⟩) hb).trans HC0.out; obtain ⟨cap1, o1, cv1, hrd1⟩ := bytes_of w1 x hz; have hzz := HB1.out.size; have HRD1 := hid hrd1; clear hrd1; clear ho1 ha1 tk1)
        | (at_builtin; have _t := tk2; refine wpList_appT rfl _ _ 22 rfl w.heap.size 5 1 1 el_u8 _ (lsum (l.take k) + 1) _ rfl (own_drewA HO1.out) _ x.size _ _ rfl (HRD1.out.src_u8) ab3 ab5 (by simp; omega) ?_; intro v2 w2 ho2 ha2; have HO2 := hid ho2; have HB2 := hid (ha2.below (own_drewA HO1.out) (by simp; omega)); clear ho2 ha2 tk2))
      go_roundg (n - (k + 1))
      case measure => omega
      case rel =>
        refine ⟨k + 1, by omega, rfl, by go_num, ?_, ?_⟩
        · have := HO2.out
          rw [HLS.out, HTK.out, sentL_snoc]
          have e8 : (x.size : Int) % 256 = x.size := by omega
          simpa [bytesV, Nat.add_assoc, Nat.add_comm 1, e8] using this
        · exact ((HB1.out.alloc HB1.out.size _).drew).trans HB2.out
    · obtain rfl : k = n := by omega
      have ho := HO.out
      rw [List.take_of_length_le (by rw [H.out.len]; exact Nat.le_refl _)] at ho
      have HO' := hid ho
      have ab1 : (lsum l + 1) * 1 ≤ 140737488355328 := by omega
      have ab2 : lsum l + 1 ≤ maxLen := by unfold maxLen; omega
      clear ho
      go_wp2_with (at_builtin; refine wpList_appT rfl _ _ 22 rfl w.heap.size 5 1 1 el_u8 _ (lsum l) _ rfl (HO'.out.alloc _) _ 1 1 [.int .u8 0] rfl (src_one _ rfl rfl) ab1 ab2 (by simp; omega) ?_; intro v3 w3 ho3 ha3; have HB3 := hid ((HLOW.out.alloc hzw _).trans (ha3.below (HO'.out.alloc _) (by simp; omega))); have HO3 := hid ho3; clear ho3 ha3)
      go_ret
      obtain ⟨A', c', rfl, hr⟩ := own_rd_u8 (l := sentL l ++ [0]) (by simpa [bytesV] using HO3.out) HB3.out.size (by omega)
      exact ⟨A', c', rfl, hr, HB3.out⟩
end Go.Proofs.YtfihedcobopbcaaDoor
/- The document's answers of names as they are sent: Start, Packed. -/
namespace Go.Proofs.YtfihedcobopbcaaDoor
open Go.RowKit
set_option linter.unusedVariables false
set_option linter.unusedSimpArgs false

set_option maxRecDepth 100000 in
set_option maxHeartbeats 4000000 in
theorem rstart_any (w : World) (A : Option Addr) (n c : Nat) (m : List UInt8) (hM : Rd u8R w w.heap.size A n c m) (A1 : Option Addr) (n1 c1 : Nat) (ss : List Int) (hS : Rd intR w w.heap.size A1 n1 c1 ss) (A2 : Option Addr) (n2 c2 : Nat) (l : List ByteArray) (hL : Rd strR w w.heap.size A2 n2 c2 l) :
    Calls Tryd.prog 66 #[.slice A n c, .slice A1 n1 c1, .slice A2 n2 c2] w fun e w' => e = .returned (.int .i64 (findS m l ss)) ∧ Below w.heap.size w w' := by
  have m1 := hS.max
  have k1 := hS.cap
  unfold maxLen at m1
  have HM := hid hM
  have HS := hid hS
  have HL := hid hL
  clear hM hS hL
  have tk0 : True := trivial; have tk1 : True := trivial; have tk2 : True := trivial; have tk3 : True := trivial; have tk4 : True := trivial; have tk5 : True := trivial; have tk6 : True := trivial; have tk7 : True := trivial; have tk8 : True := trivial; have tk9 : True := trivial; have tk10 : True := trivial; have tk11 : True := trivial; have tk12 : True := trivial
  go_enter Tryd.func66, Tryd.ntmps66
  go_wp2
  go_loopg [7] n1 (fun g v wi => ∃ k : Nat, k ≤ n1 ∧ g = n1 - k ∧ v = .int .i64 k ∧ Below w.heap.size w wi ∧ findS m l ss = findS m l (ss.drop k))
  case atStart => exact ⟨0, Nat.zero_le _, rfl, rfl, Below.refl _ _, rfl⟩
  case round =>
    obtain ⟨k, hk, rfl, rfl, hlow, ht⟩ := hrel
    have HT := hid ht
    have HLOW := hid hlow
    have hzw := hlow.size
    clear ht hlow
    by_cases hlt : k < n1
    · obtain ⟨b1, o1, rfl, hb1, hc0, z1, z2⟩ := HS.out.int k hlt
      have q1 : k < ss.length := by rw [HS.out.len]; exact hlt
      have st := findS_step (m := m) (n := l) q1
      obtain ⟨s, hs⟩ : ∃ s, ss[k] = s := ⟨_, rfl⟩
      rw [hs] at hc0 z1 z2
      rw [hs] at st
      have HST := hid st
      have hkz : (k : Int) < (n1 : Int) := by omega
      have hc1 := (HLOW.out.cell (p := ⟨b1, o1 + k, none⟩) hb1).trans hc0
      have HC0 := hid hc0
      have hb1r : b1 < wr.heap.size := by omega
      clear st hs hc0
      by_cases hbig : 16383 < s
      · go_wp2
        go_roundg (n1 - (k + 1))
        case measure => omega
        case rel => exact ⟨k + 1, by omega, rfl, by go_num, HLOW.out, by rw [HT.out, HST.out, if_neg (fun h => by have := h.1; omega)]⟩
      · have hbig' : s ≤ 16383 := by omega
        have CN := nameAt_any wr A n c m (HM.out.keep hzw (fun p hp => HLOW.out.cell hp)) s z2
        by_cases hf : (rdN m s).1 = 0
        · have CN' : Calls Tryd.prog 23 #[.slice A n c, .int .i64 s] wr fun e w2 => ∃ A' c', e = .returned (.agg #[.slice A' (rdN m s).2.1.length c', .int .i64 (rdN m s).2.2, .int .i64 0]) ∧ Rd strR w2 w2.heap.size A' (rdN m s).2.1.length c' (rdN m s).2.1 ∧ Below wr.heap.size wr w2 := by
            refine CN.mono ?_
            rintro e w2 ⟨hb2, A', c', he, hrd⟩
            rw [hf] at he
            exact ⟨A', c', he, hrd, hb2⟩
          have C1 := hid CN'
          have CE := hid fun w1 (hb : Below wr.heap.size wr w1) A' c' (hr : Rd strR w1 w1.heap.size A' (rdN m s).2.1.length c' (rdN m s).2.1) => rtexts_any w1 A' _ c' _ _ hr A2 n2 c2 l _ (HL.out.below (HLOW.out.trans (hb.mono hzw)))
          clear CN CN'
          by_cases he : (rdN m s).2.1 = l
          · have hd : decide ((rdN m s).2.1 = l) = true := decide_eq_true he
            have HD := hid hd
            have hfin : findS m l ss = s := by rw [HT.out, HST.out, if_pos ⟨hbig', hf, he⟩]
            have HF := hid hfin
            clear hfin he hd
            go_wp2_with (first
              | (go_at_call 23; (with_reducible refine C1.out.mono ?_); rintro e w1 ⟨A', c', rfl, hr, hb⟩; obtain ⟨oo, dd, rfl⟩ := ext_of_below hb; have HR1 := hid hr; clear hr hb)
              | (go_at_call 76; (with_reducible refine (CE.out _ (by (repeat' (first | (with_reducible exact Below.refl _ _) | (with_reducible assumption) | (with_reducible refine below_ext0 ?_ _ _) | (with_reducible refine below_alloc0 ?_ _) | (with_reducible refine Below.ext ?_ ?_ _ _) | (with_reducible refine Below.alloc ?_ ?_ _) | (with_reducible refine Below.setCell ?_ ?_ _) | (with_reducible refine Below.drew ?_) | (with_reducible refine below_draws ?_ _) | go_size | (simp [size_ext]; done) | (simp [size_ext]; omega)))) _ _ (HR1.out.later (by (repeat' (first | (with_reducible exact Below.refl _ _) | (with_reducible assumption) | (with_reducible refine below_ext0 ?_ _ _) | (with_reducible refine below_alloc0 ?_ _) | (with_reducible refine Below.ext ?_ ?_ _ _) | (with_reducible refine Below.alloc ?_ ?_ _) | (with_reducible refine Below.setCell ?_ ?_ _) | (with_reducible refine Below.drew ?_) | (with_reducible refine below_draws ?_ _) | go_size | (simp [size_ext]; done) | (simp [size_ext]; omega)))))).mono ?_); rw [HD.out]; rintro e w2 ⟨rfl, hb2⟩; obtain ⟨oo2, dd2, rfl⟩ := ext_of_below hb2; clear hb2))
            go_ret
            exact ⟨by rw [HF.out]; rfl, HLOW.out.trans ((show Below wr.heap.size wr _ by (repeat' (first | (with_reducible exact Below.refl _ _) | (with_reducible assumption) | (with_reducible refine below_ext0 ?_ _ _) | (with_reducible refine below_alloc0 ?_ _) | (with_reducible refine Below.ext ?_ ?_ _ _) | (with_reducible refine Below.alloc ?_ ?_ _) | (with_reducible refine Below.setCell ?_ ?_ _) | (with_reducible refine Below.drew ?_) | (with_reducible refine below_draws ?_ _) | go_size | (simp [size_ext]; done) | (simp [size_ext]; omega)))).mono hzw)⟩
          · have hd : decide ((rdN m s).2.1 = l) = false := decide_eq_false he
            have HD := hid hd
            have hfin : findS m l ss = findS m l (ss.drop (k + 1)) := by rw [HT.out, HST.out, if_neg fun h => he h.2.2]
            have HF := hid hfin
            clear hfin he hd
            go_wp2_with (first
              | (go_at_call 23; (with_reducible refine C1.out.mono ?_); rintro e w1 ⟨A', c', rfl, hr, hb⟩; obtain ⟨oo, dd, rfl⟩ := ext_of_below hb; have HR1 := hid hr; clear hr hb)
              | (go_at_call 76; (with_reducible refine (CE.out _ (by (repeat' (first | (with_reducible exact Below.refl _ _) | (with_reducible assumption) | (with_reducible refine below_ext0 ?_ _ _) | (with_reducible refine below_alloc0 ?_ _) | (with_reducible refine Below.ext ?_ ?_ _ _) | (with_reducible refine Below.alloc ?_ ?_ _) | (with_reducible refine Below.setCell ?_ ?_ _) | (with_reducible refine Below.drew ?_) | (with_reducible refine below_draws ?_ _) | go_size | (simp [size_ext]; done) | (simp [size_ext]; omega)))) _ _ (HR1.out.later (by (repeat' (first | (with_reducible exact Below.refl _ _) | (with_reducible assumption) | (with_reducible refine below_ext0 ?_ _ _) | (with_reducible refine below_alloc0 ?_ _) | (with_reducible refine Below.ext ?_ ?_ _ _) | (with_reducible refine Below.alloc ?_ ?_ _) | (with_reducible refine Below.setCell ?_ ?_ _) | (with_reducible refine Below.drew ?_) | (with_reducible refine below_draws ?_ _) | go_size | (simp [size_ext]; done) | (simp [size_ext]; omega)))))).mono ?_); rw [HD.out]; rintro e w2 ⟨rfl, hb2⟩; obtain ⟨oo2, dd2, rfl⟩ := ext_of_below hb2; clear hb2))
            go_roundg (n1 - (k + 1))
            case measure => omega
            case rel => exact ⟨k + 1, by omega, rfl, by go_num, HLOW.out.trans ((show Below wr.heap.size wr _ by (repeat' (first | (with_reducible exact Below.refl _ _) | (with_reducible assumption) | (with_reducible refine below_ext0 ?_ _ _) | (with_reducible refine below_alloc0 ?_ _) | (with_reducible refine Below.ext ?_ ?_ _ _) | (with_reducible refine Below.alloc ?_ ?_ _) | (with_reducible refine Below.setCell ?_ ?_ _) | (with_reducible refine Below.drew ?_) | (with_reducible refine below_draws ?_ _) | go_size | (simp [size_ext]; done) | (simp [size_ext]; omega)))).mono hzw), HF.out⟩
        · have hfin : findS m l ss = findS m l (ss.drop (k + 1)) := by rw [HT.out, HST.out, if_neg fun h => hf h.2.1]
          have HF := hid hfin
          obtain ⟨e0, he0⟩ : ∃ e0, (rdN m s).1 = e0 := ⟨_, rfl⟩
          have hne : (e0 == 0) = false := by rw [beq_eq_false_iff_ne, ← he0]; exact hf
          have CN' : Calls Tryd.prog 23 #[.slice A n c, .int .i64 s] wr fun e w2 => ∃ A' c', e = .returned (.agg #[.slice A' (rdN m s).2.1.length c', .int .i64 (rdN m s).2.2, .int .i64 e0]) ∧ Below wr.heap.size wr w2 := by
            refine CN.mono ?_
            rintro e w2 ⟨hb2, A', c', he, hrd⟩
            rw [he0] at he
            exact ⟨A', c', he, hb2⟩
          have C1 := hid CN'
          clear hfin CN CN' he0 hf
          go_wp2_with (go_at_call 23; (with_reducible refine C1.out.mono ?_); rintro e w1 ⟨A', c', rfl, hb⟩; obtain ⟨oo, dd, rfl⟩ := ext_of_below hb; clear hb)
          go_roundg (n1 - (k + 1))
          case measure => omega
          case rel => exact ⟨k + 1, by omega, rfl, by go_num, HLOW.out.trans ((show Below wr.heap.size wr _ by (repeat' (first | (with_reducible exact Below.refl _ _) | (with_reducible assumption) | (with_reducible refine below_ext0 ?_ _ _) | (with_reducible refine below_alloc0 ?_ _) | (with_reducible refine Below.ext ?_ ?_ _ _) | (with_reducible refine Below.alloc ?_ ?_ _) | (with_reducible refine Below.setCell ?_ ?_ _) | (with_reducible refine Below.drew ?_) | (with_reducible refine below_draws ?_ _) | go_size | (simp [size_ext]; done) | (simp [size_ext]; omega)))).mono hzw), HF.out⟩
    · have hfin : findS m l ss = -1 := by
        rw [HT.out, List.drop_eq_nil_of_le (by rw [HS.out.len]; omega)]; rfl
      have HF := hid hfin
      clear hfin
      go_wp2
      go_ret
      exact ⟨by rw [HF.out]; rfl, HLOW.out⟩
end Go.Proofs.YtfihedcobopbcaaDoor
/- The document's answers of names as they are sent: Packed. -/
namespace Go.Proofs.YtfihedcobopbcaaDoor
open Go.RowKit
set_option linter.unusedVariables false
set_option linter.unusedSimpArgs false

theorem packL_skip (m : List UInt8) (ss : List Int) (l : List ByteArray) : ∃ K, K ≤ l.length ∧ (∀ j, j < K → findS m (l.drop j) ss < 0) ∧ (K = l.length ∨ 0 ≤ findS m (l.drop K) ss) := by
  have key : ∀ d K, K ≤ l.length → l.length - K ≤ d → (∀ j, j < K → findS m (l.drop j) ss < 0) → ∃ K, K ≤ l.length ∧ (∀ j, j < K → findS m (l.drop j) ss < 0) ∧ (K = l.length ∨ 0 ≤ findS m (l.drop K) ss) := by
    intro d
    induction d with
    | zero => intro K h1 h2 h3; exact ⟨K, h1, h3, .inl (by omega)⟩
    | succ d ih =>
      intro K h1 h2 h3
      by_cases h4 : 0 ≤ findS m (l.drop K) ss
      · exact ⟨K, h1, h3, .inr h4⟩
      · by_cases h5 : K = l.length
        · exact ⟨K, h1, h3, .inl h5⟩
        · exact ih (K + 1) (by omega) (by omega) (fun j hj => by
            by_cases c : j = K
            · subst c; omega
            · exact h3 j (by omega))
  exact key l.length 0 (Nat.zero_le _) (by omega) (fun j hj => by omega)
theorem sent_take {l : List ByteArray} {X : List UInt8} {r : Nat} (hr : (sentL l).length = r) : (sentL l ++ X).take r = sentL l := by
  subst hr
  simp
theorem Rd.src_int {w : World} {B n c : Nat} {A : Option Addr} {l : List Int} (h : Rd intR w B A n c l) : Src w A n c 1 (intsV l) := by
  obtain ⟨ys, hr, hs⟩ := h.src (R := intR) fun a vs (hv : vs = _ ∧ _) u hu => by
    rw [hv.1] at hu
    simp at hu
    subst hu
    rfl
  obtain ⟨vss, h1, rfl, hv⟩ := hr
  have : vss = l.map fun s => [Value.int .i64 s] := by
    apply List.ext_getElem (by simpa using h1)
    intro i hi hi'
    simp only [List.getElem_map]
    exact (hv i (by omega) hi).1
  rw [this] at hs
  rw [flat_int] at hs
  exact hs
theorem rptr_cells (p : Int) (h0 : 0 ≤ p) (h1 : p ≤ 16383) : [Value.int .u8 (192 + p / 256), Value.int .u8 (p % 256)] = bytesV (ptrB p) := by
  obtain ⟨q, rfl⟩ : ∃ q : Nat, p = (q : Int) := ⟨p.toNat, by omega⟩
  simp only [bytesV, ptrB, List.map_cons, List.map_nil, Int.toNat_natCast, UInt8.toNat_ofNat']
  congr 2 <;> (try congr 1) <;> omega
theorem pkR_ok {w w' : World} {m : List UInt8} {ss : List Int} {l : List ByteArray} {v v' : Value} {X : List UInt8} {Y : List Int} (hp : packL m ss l m ss = (X, Y)) (ho : w'.ownsRow w.heap.size 5 1 v X.length (bytesV X)) (ha : w'.ownsRow w.heap.size 3 1 v' Y.length (intsV Y)) (hap : Apart v v')
    (hi : ∀ s ∈ Y, I64 s) (hb : Below w.heap.size w w') (hX : X.length ≤ 140737488355328) (hY : Y.length * 8 ≤ 140737488355328) :
    ∃ u u', Ending.returned (.tuple #[v, v']) = .returned (.tuple #[u, u']) ∧ OwnP w w' m ss l u u' ∧ Below w.heap.size w w' :=
  ⟨v, v', rfl, ownP_of hp ho ha hap hi hX hY, hb⟩
theorem rsrc_ptr {w1 : World} {t : TypeId} (p : Int) (h0 : 0 ≤ p) (h1 : p ≤ 16383) : Src (w1.alloc (.cells #[.int .u8 (192 + p / 256), .int .u8 (p % 256)] t)) (some ⟨w1.heap.size, 0, none⟩) 2 2 1 (bytesV (ptrB p)) := by
  rw [← rptr_cells p h0 h1]
  exact src_lit (w := w1) (t := t) #[.int .u8 (192 + p / 256), .int .u8 (p % 256)] rfl (by simp [Value.oneCell']) rfl

set_option maxRecDepth 100000 in
set_option maxHeartbeats 8000000 in
theorem packed_all (w : World) (A : Option Addr) (n c : Nat) (m : List UInt8) (hM : Rd u8R w w.heap.size A n c m) (A1 : Option Addr) (n1 c1 : Nat) (ss : List Int) (hS : Rd intR w w.heap.size A1 n1 c1 ss) (A2 : Option Addr) (n2 c2 : Nat) (l : List ByteArray) (hL : Rd strR w w.heap.size A2 n2 c2 l)
    (hlim : n + 256 ≤ 140737488355328) (hlim1 : n1 * 8 + 4096 ≤ 140737488355328) (hf : nameErr l = 0) (K : Nat) (hK : K = n2) (hKn : ∀ j, j < K → findS m (l.drop j) ss < 0) :
    Calls Tryd.prog 38 #[.slice A n c, .slice A1 n1 c1, .slice A2 n2 c2] w fun e w' => ∃ v v', e = .returned (.tuple #[v, v']) ∧ OwnP w w' m ss l v v' ∧ Below w.heap.size w w' := by
  have c2m := hL.max
  have c2c := hL.cap
  unfold maxLen at c2m
  have hok := nameErr_zero.1 hf
  have hls : lsum l ≤ 254 := by have := hok.2; rw [nsize_lsum] at this; omega
  have hll := lsum_len l
  have hln : l.length = n2 := hL.len
  have hn2 : n2 ≤ 254 := by omega
  have hmn : m.length = n := hM.len
  have hsn : ss.length = n1 := hS.len
  have S1 := hid hM.src_u8
  have S2 := hid (hS.src_int)
  have CF := hid fun w' (hb : Below w.heap.size w w') A' n' c' l' (hr : Rd strR w' w'.heap.size A' n' c' l') => rstart_any w' A n c m (hM.later hb) A1 n1 c1 ss (hS.later hb) A' n' c' l' hr
  have HL := hid hL
  have HOK := hid hok
  have HLN := hid hln
  have HMN := hid hmn
  have HSN := hid hsn
  have HI := hid hS.i64s
  have HKN := hid hKn
  have ab1 : (0 + n) * 1 ≤ 140737488355328 := by omega
  have ab2 : 0 + n ≤ maxLen := by unfold maxLen; omega
  have ab3 : (0 + n1) * 8 ≤ 140737488355328 := by omega
  have ab4 : 0 + n1 ≤ maxLen := by unfold maxLen; omega
  subst hK
  clear hM hL hS hok hf hln hmn hsn hKn
  have tk0 : True := trivial; have tk1 : True := trivial; have tk2 : True := trivial; have tk3 : True := trivial; have tk4 : True := trivial; have tk5 : True := trivial; have tk6 : True := trivial; have tk7 : True := trivial; have tk8 : True := trivial; have tk9 : True := trivial; have tk10 : True := trivial; have tk11 : True := trivial; have tk12 : True := trivial
  go_enter Tryd.func38, Tryd.ntmps38
  go_wp2
  go_loopg [8] K (fun gk u8 wi => ∃ k : Nat, k ≤ K ∧ gk = K - k ∧ u8 = .int .i64 (k : Int) ∧ Below w.heap.size w wi)
  case atStart => exact ⟨0, Nat.zero_le _, rfl, rfl, Below.refl _ _⟩
  case round =>
    obtain ⟨k, hk, rfl, rfl, hlow⟩ := hrel
    have hzw : w.heap.size ≤ wr.heap.size := hlow.size
    have HLOW := hid hlow
    clear hlow
    by_cases hlt : k < K
    · obtain ⟨b, o, rfl, lb⟩ := HL.out.addr (by omega)
      have CFK := CF.out wr HLOW.out _ _ _ _ ((HL.out.dropS (k := k) (by omega)).keep hzw fun p hp => HLOW.out.cell hp)
      obtain ⟨p0, hp0⟩ : ∃ p0, findS m (l.drop k) ss = p0 := ⟨_, rfl⟩
      have hneg := HKN.out k hlt
      rw [hp0] at CFK hneg
      replace CFK := hid CFK
      have hc0 : (k : Int) < (K : Int) := by omega
      have hcc : ¬ c2 = k := by omega
      clear hp0
      go_wp2_with (go_at_call 66; (with_reducible refine CFK.out.mono ?_); rintro e w1 ⟨rfl, hb1⟩; have HB1 := hid hb1; clear hb1)
      go_roundg (K - (k + 1))
      case measure => omega
      case rel => exact ⟨k + 1, by omega, rfl, by go_num, HLOW.out.trans (HB1.out.mono hzw)⟩
    · obtain rfl : k = K := by omega
      have w0 : w.heap.size ≤ wr.heap.size := hzw
      go_wp2_with (first
        | (at_builtin; have _t := tk2; refine wpList_appT rfl _ _ 22 rfl w.heap.size 5 1 1 el_u8 (.slice (some ⟨wr.heap.size, 0, none⟩) 0 0) 0 [] rfl (own_empty HLOW.out.size) _ n c _ rfl ((S1.out.later HLOW.out).later ((Below.refl _ _).alloc (Nat.le_refl _) _)) ab1 ab2 (by have := HLOW.out.size; simp; omega) ?_; intro v2 w2 ho2 ha2; have HO2 := hid ho2; have HB2 := hid ((HLOW.out.alloc HLOW.out.size _).trans (ha2.below (own_empty HLOW.out.size) (by have := HLOW.out.size; simp; omega))); clear ho2 ha2 tk2)
        | (at_builtin; have _t := tk3; refine wpList_appT rfl _ _ 88 rfl w.heap.size 3 1 8 el_int (.slice (some ⟨w2.heap.size, 0, none⟩) 0 0) 0 [] rfl (own_empty HB2.out.size) _ n1 c1 _ rfl ((S2.out.later HB2.out).later ((Below.refl _ _).alloc (Nat.le_refl _) _)) ab3 ab4 (by have := HB2.out.size; simp; omega) ?_; intro v3 w3 ho3 ha3; have HO3 := hid ho3; have HA3 := hid (ha3.other ((HO2.out).alloc _) (apart_of (m := w2.heap.size) (fun g e => (HO2.out.lt g e).2) (fun g e => by cases e; exact Nat.le_refl _))); have HB3 := hid ((HB2.out.alloc HB2.out.size _).trans (ha3.below (own_empty HB2.out.size) (by have := HB2.out.size; simp; omega))); clear ho3 ha3 tk3))
      go_loopg [9, 10, 11] k (fun gk u9 u10 u11 wi => ∃ (i : Nat) (al : List Int), i ≤ k ∧ gk = k - i ∧ u11 = .int .i64 (i : Int) ∧ PkS w m ss l k i wi u9 u10 al)
      case atStart =>
        refine ⟨0, ss, Nat.zero_le _, rfl, rfl, ?_, ?_, ?_, HB3.out, HI.out, by omega, ?_⟩
        · have := HA3.out.1
          rw [HMN.out]
          simpa [sentL, lsum] using this
        · rw [HSN.out]
          simpa using HO3.out
        · exact HA3.out.2
        · simp [sentL]
      case round =>
        obtain ⟨i, al, hi, rfl, rfl, hs⟩ := hrel
        have hzi : w.heap.size ≤ wr.heap.size := hs.bel.size
        have hal := hs.len
        have hlk := lsum_take l i
        have PS := hid hs
        clear hs
        by_cases hlti : i < k
        · obtain ⟨bi, oi, hA2, lbi⟩ := HL.out.addr (by omega)
          cases hA2
          have hkl : i < l.length := by rw [HLN.out]; omega
          have hdr : l.drop i = l[i] :: l.drop (i + 1) := List.drop_eq_getElem_cons hkl
          have htk : l.take (i + 1) = l.take i ++ [l[i]] := List.take_succ_eq_append_getElem hkl
          have hstep := PS.out.pack
          rw [hdr, packL, ← hdr, if_neg (by have := HKN.out i hlti; omega)] at hstep
          have hlx : labelOk l[i] = true := List.all_eq_true.1 HOK.out.1 _ (List.getElem_mem hkl)
          obtain ⟨x, hx⟩ : ∃ x, l[i] = x := ⟨_, rfl⟩
          rw [hx] at htk hlx hstep
          obtain ⟨r, hr⟩ : ∃ r, x.size + 1 = r := ⟨_, rfl⟩
          have hls1 : lsum (l.take (i + 1)) = lsum (l.take i) + r := by rw [htk, lsum_snoc, hr]
          have hle1 := lsum_take l (i + 1)
          have hxs : lsum [x] = r := by simp [lsum, hr]
          have hsl : (sentL [x]).length = r := by rw [sentL_len, hxs]
          obtain ⟨N, hN⟩ : ∃ N, m.length + lsum (l.take i) = N := ⟨_, rfl⟩
          have hlen : (m ++ sentL (l.take i)).length = N := by rw [List.length_append, sentL_len, hN]
          rw [hlen, List.append_assoc, ← sentL_append, ← htk] at hstep
          have ho10 := PS.out.out
          rw [hN] at ho10
          obtain ⟨A', cap', rfl, _, _, _⟩ := own_slice ho10
          have HO10 := hid ho10
          have hNb : N ≤ n + 254 := by have := HMN.out; omega
          have hXb : N + r ≤ n + 254 := by have := HMN.out; omega
          have HN := hid hN
          have HST := hid hstep
          have HTK := hid htk
          have HLS1 := hid hls1
          have HSL := hid hsl
          have hR1 : Rd strR w w.heap.size (some ⟨bi, oi + i, none⟩) 1 (c2 - i) [x] := by
            have := (HL.out.dropS (k := i) (by omega)).take (k := 1) (by omega)
            rw [List.drop_eq_getElem_cons hkl, hx] at this
            simpa using this
          have CS := fun W (hb : Below w.heap.size w W) => rsent_any W _ _ _ [x] (hR1.later hb) (by simp [hlx]) (by omega)
          rw [hxs] at CS
          replace CS := hid CS
          have q1 : (i : Int) < (k : Int) := by omega
          have q2 : (i : Int) + 1 ≤ (c2 : Int) := by omega
          have q3 : ¬ c2 = i := by omega
          have ab5 : (N + r) * 1 ≤ 140737488355328 := by omega
          have ab6 : N + r ≤ maxLen := by unfold maxLen; omega
          clear ho10 hN hstep htk hls1 hsl hxs hR1 hlx hx hdr hr hlen
          by_cases hbig : N ≤ 16383
          · have ab7 : (al.length + 1) * 8 ≤ 140737488355328 := by have := HSN.out; omega
            have ab8 : al.length + 1 ≤ maxLen := by unfold maxLen; omega
            go_wp2_with (first
              | (at_builtin; have _t := tk4; refine wpList_appT rfl _ _ 88 rfl w.heap.size 3 1 8 el_int u10 al.length _ rfl (PS.out.all.alloc _) _ 1 1 [.int .i64 (N : Int)] rfl (src_one _ rfl rfl) ab7 ab8 (by simp; omega) ?_; intro v5 w5 ho5 ha5; have HO5 := hid ho5; have HOUT := hid (ha5.other (HO10.out.alloc _) PS.out.apart); have HB5 := hid ((PS.out.bel.alloc hzi _).trans (ha5.below (PS.out.all.alloc _) (by simp; omega))); clear ho5 ha5 tk4)
              | (go_at_call 67; (with_reducible refine (CS.out _ HB5.out).mono ?_); rintro e w6 ⟨A6, c6, rfl, hr6, hb6⟩; obtain ⟨b6, o6, rfl, _⟩ := hr6.addr (by omega); have hc6 := hr6.cap; have HB6 := hid (HB5.out.trans (hb6.mono HB5.out.size)); have HO6 := hid (own_low HOUT.out.1 hb6 (Nat.le_refl _)); have HAL6 := hid (own_low HO5.out hb6 (Nat.le_refl _)); have hs6 := (hr6.take (k := r) (by omega)).src_u8; rw [sent_take HSL.out] at hs6; have HS6 := hid hs6; have q4 : (r : Int) ≤ (c6 : Int) := (by omega); clear hr6 hb6 hs6)
              | (at_builtin; have _t := tk5; refine wpList_appT rfl _ _ 22 rfl w.heap.size 5 1 1 el_u8 _ N _ rfl HO6.out _ r c6 _ rfl HS6.out ab5 ab6 HB6.out.size ?_; intro v7 w7 ho7 ha7; have HO7 := hid ho7; have HA7 := hid ha7; clear ho7 ha7 tk5))
            go_roundg (k - (i + 1))
            case measure => omega
            case rel =>
              obtain ⟨hall, hap⟩ := HA7.out.other HAL6.out (Apart.symm HOUT.out.2)
              have hst := HST.out
              rw [if_pos hbig] at hst
              refine ⟨i + 1, al ++ [(N : Int)], by omega, rfl, by go_num, ?_, by simpa [intsV] using hall, Apart.symm hap, HB6.out.trans (HA7.out.below HO6.out HB6.out.size), ?_, by simp; omega, hst⟩
              · have := HO7.out
                rw [HLS1.out, ← Nat.add_assoc, HN.out, HTK.out, sentL_append, ← List.append_assoc]
                simpa [bytesV] using this
              · intro s hs
                rcases List.mem_append.1 hs with h | h
                · exact PS.out.ints s h
                · obtain rfl := List.mem_singleton.1 h
                  unfold I64; omega
          · have hbig' : 16383 < N := by omega
            go_wp2_with (first
              | (go_at_call 67; (with_reducible refine (CS.out _ PS.out.bel).mono ?_); rintro e w6 ⟨A6, c6, rfl, hr6, hb6⟩; obtain ⟨b6, o6, rfl, _⟩ := hr6.addr (by omega); have hc6 := hr6.cap; have HB6 := hid (PS.out.bel.trans (hb6.mono hzi)); have HO6 := hid (own_low HO10.out hb6 (Nat.le_refl _)); have HAL6 := hid (own_low PS.out.all hb6 (Nat.le_refl _)); have hs6 := (hr6.take (k := r) (by omega)).src_u8; rw [sent_take HSL.out] at hs6; have HS6 := hid hs6; have q4 : (r : Int) ≤ (c6 : Int) := (by omega); clear hr6 hb6 hs6)
              | (at_builtin; have _t := tk5; refine wpList_appT rfl _ _ 22 rfl w.heap.size 5 1 1 el_u8 _ N _ rfl HO6.out _ r c6 _ rfl HS6.out ab5 ab6 HB6.out.size ?_; intro v7 w7 ho7 ha7; have HO7 := hid ho7; have HA7 := hid ha7; clear ho7 ha7 tk5))
            go_roundg (k - (i + 1))
            case measure => omega
            case rel =>
              obtain ⟨hall, hap⟩ := HA7.out.other HAL6.out (Apart.symm PS.out.apart)
              have hst := HST.out
              rw [if_neg hbig] at hst
              refine ⟨i + 1, al, by omega, rfl, by go_num, ?_, hall, Apart.symm hap, HB6.out.trans (HA7.out.below HO6.out HB6.out.size), PS.out.ints, by omega, hst⟩
              have := HO7.out
              rw [HLS1.out, ← Nat.add_assoc, HN.out, HTK.out, sentL_append, ← List.append_assoc]
              simpa [bytesV] using this
        · obtain rfl : i = k := by omega
          have hdr : l.drop i = [] := List.drop_eq_nil_of_le (by rw [HLN.out]; exact Nat.le_refl _)
          have hst := PS.out.pack
          rw [hdr, packL] at hst
          have HST := hid hst
          have ab5 : (m.length + lsum (l.take i) + 1) * 1 ≤ 140737488355328 := by have := HMN.out; omega
          have ab6 : m.length + lsum (l.take i) + 1 ≤ maxLen := by unfold maxLen; have := HMN.out; omega
          clear hst hdr
          go_wp2_with (at_builtin; refine wpList_appT rfl _ _ 22 rfl w.heap.size 5 1 1 el_u8 u9 (m.length + lsum (l.take i)) _ rfl (PS.out.out.alloc _) _ 1 1 [.int .u8 0] rfl (src_one _ rfl rfl) ab5 ab6 (by simp; omega) ?_; intro v5 w5 ho5 ha5; have HO5 := hid ho5; have HA5 := hid ha5; clear ho5 ha5)
          go_ret2
          obtain ⟨hall, hap⟩ := HA5.out.other (PS.out.all.alloc _) PS.out.apart.symm
          have hb5 := HA5.out.below (PS.out.out.alloc _) (by simp; omega)
          have hXl : (m ++ sentL (l.take i) ++ [0]).length = m.length + lsum (l.take i) + 1 := by rw [List.length_append, List.length_append, sentL_len]; rfl
          refine pkR_ok HST.out ?_ hall (Apart.symm hap) PS.out.ints ((PS.out.bel.alloc (by omega) _).trans hb5) (by omega) (by have := HSN.out; omega)
          rw [hXl]
          simpa [bytesV] using HO5.out
set_option maxRecDepth 100000 in
set_option maxHeartbeats 8000000 in
theorem packed_ptr (w : World) (A : Option Addr) (n c : Nat) (m : List UInt8) (hM : Rd u8R w w.heap.size A n c m) (A1 : Option Addr) (n1 c1 : Nat) (ss : List Int) (hS : Rd intR w w.heap.size A1 n1 c1 ss) (A2 : Option Addr) (n2 c2 : Nat) (l : List ByteArray) (hL : Rd strR w w.heap.size A2 n2 c2 l)
    (hlim : n + 256 ≤ 140737488355328) (hlim1 : n1 * 8 + 4096 ≤ 140737488355328) (hf : nameErr l = 0) (K : Nat) (hK : K < n2) (hKn : ∀ j, j < K → findS m (l.drop j) ss < 0) (hp : 0 ≤ findS m (l.drop K) ss) :
    Calls Tryd.prog 38 #[.slice A n c, .slice A1 n1 c1, .slice A2 n2 c2] w fun e w' => ∃ v v', e = .returned (.tuple #[v, v']) ∧ OwnP w w' m ss l v v' ∧ Below w.heap.size w w' := by
  have c2m := hL.max
  have c2c := hL.cap
  unfold maxLen at c2m
  have hok := nameErr_zero.1 hf
  have hls : lsum l ≤ 254 := by have := hok.2; rw [nsize_lsum] at this; omega
  have hll := lsum_len l
  have hln : l.length = n2 := hL.len
  have hn2 : n2 ≤ 254 := by omega
  have hmn : m.length = n := hM.len
  have hsn : ss.length = n1 := hS.len
  have S1 := hid hM.src_u8
  have S2 := hid (hS.src_int)
  have CF := hid fun w' (hb : Below w.heap.size w w') A' n' c' l' (hr : Rd strR w' w'.heap.size A' n' c' l') => rstart_any w' A n c m (hM.later hb) A1 n1 c1 ss (hS.later hb) A' n' c' l' hr
  have HL := hid hL
  have HOK := hid hok
  have HLN := hid hln
  have HMN := hid hmn
  have HSN := hid hsn
  have HI := hid hS.i64s
  have HKN := hid hKn
  have ab1 : (0 + n) * 1 ≤ 140737488355328 := by omega
  have ab2 : 0 + n ≤ maxLen := by unfold maxLen; omega
  have ab3 : (0 + n1) * 8 ≤ 140737488355328 := by omega
  have ab4 : 0 + n1 ≤ maxLen := by unfold maxLen; omega
  obtain ⟨p, hpp⟩ : ∃ p, findS m (l.drop K) ss = p := ⟨_, rfl⟩
  have hfo := findS_or m (l.drop K) ss
  rw [hpp] at hp hfo
  have hp1 : p ≤ 16383 := by rcases hfo with h | h <;> omega
  have HPP := hid hpp
  clear hfo hpp
  clear hM hL hS hok hf hln hmn hsn hKn
  have tk0 : True := trivial; have tk1 : True := trivial; have tk2 : True := trivial; have tk3 : True := trivial; have tk4 : True := trivial; have tk5 : True := trivial; have tk6 : True := trivial; have tk7 : True := trivial; have tk8 : True := trivial; have tk9 : True := trivial; have tk10 : True := trivial; have tk11 : True := trivial; have tk12 : True := trivial
  go_enter Tryd.func38, Tryd.ntmps38
  go_wp2
  go_loopg [8] K (fun gk u8 wi => ∃ k : Nat, k ≤ K ∧ gk = K - k ∧ u8 = .int .i64 (k : Int) ∧ Below w.heap.size w wi)
  case atStart => exact ⟨0, Nat.zero_le _, rfl, rfl, Below.refl _ _⟩
  case round =>
    obtain ⟨k, hk, rfl, rfl, hlow⟩ := hrel
    have hzw : w.heap.size ≤ wr.heap.size := hlow.size
    have HLOW := hid hlow
    clear hlow
    by_cases hlt : k < K
    · obtain ⟨b, o, rfl, lb⟩ := HL.out.addr (by omega)
      have CFK := CF.out wr HLOW.out _ _ _ _ ((HL.out.dropS (k := k) (by omega)).keep hzw fun p hp => HLOW.out.cell hp)
      obtain ⟨p0, hp0⟩ : ∃ p0, findS m (l.drop k) ss = p0 := ⟨_, rfl⟩
      have hneg := HKN.out k hlt
      rw [hp0] at CFK hneg
      replace CFK := hid CFK
      have hc0 : (k : Int) < (n2 : Int) := by omega
      have hcc : ¬ c2 = k := by omega
      clear hp0
      go_wp2_with (go_at_call 66; (with_reducible refine CFK.out.mono ?_); rintro e w1 ⟨rfl, hb1⟩; have HB1 := hid hb1; clear hb1)
      go_roundg (K - (k + 1))
      case measure => omega
      case rel => exact ⟨k + 1, by omega, rfl, by go_num, HLOW.out.trans (HB1.out.mono hzw)⟩
    · obtain rfl : k = K := by omega
      obtain ⟨b, o, rfl, lb⟩ := HL.out.addr (by omega)
      have CFK := CF.out wr HLOW.out _ _ _ _ ((HL.out.dropS (k := k) (by omega)).keep hzw fun p hp => HLOW.out.cell hp)
      rw [HPP.out] at CFK
      replace CFK := hid CFK
      have hc0 : (k : Int) < (n2 : Int) := by omega
      have hcc : ¬ c2 = k := by omega
      go_wp2_with (first
        | (go_at_call 66; have _t := tk1; (with_reducible refine CFK.out.mono ?_); rintro e w0 ⟨rfl, hb0⟩; have HB0 := hid (HLOW.out.trans (hb0.mono hzw)); clear hb0 tk1)
        | (at_builtin; have _t := tk2; refine wpList_appT rfl _ _ 22 rfl w.heap.size 5 1 1 el_u8 (.slice (some ⟨w0.heap.size, 0, none⟩) 0 0) 0 [] rfl (own_empty HB0.out.size) _ n c _ rfl ((S1.out.later HB0.out).later ((Below.refl _ _).alloc (Nat.le_refl _) _)) ab1 ab2 (by have := HB0.out.size; simp; omega) ?_; intro v2 w2 ho2 ha2; have HO2 := hid ho2; have HB2 := hid ((HB0.out.alloc HB0.out.size _).trans (ha2.below (own_empty HB0.out.size) (by have := HB0.out.size; simp; omega))); clear ho2 ha2 tk2)
        | (at_builtin; have _t := tk3; refine wpList_appT rfl _ _ 88 rfl w.heap.size 3 1 8 el_int (.slice (some ⟨w2.heap.size, 0, none⟩) 0 0) 0 [] rfl (own_empty HB2.out.size) _ n1 c1 _ rfl ((S2.out.later HB2.out).later ((Below.refl _ _).alloc (Nat.le_refl _) _)) ab3 ab4 (by have := HB2.out.size; simp; omega) ?_; intro v3 w3 ho3 ha3; have HO3 := hid ho3; have HA3 := hid (ha3.other ((HO2.out).alloc _) (apart_of (m := w2.heap.size) (fun g e => (HO2.out.lt g e).2) (fun g e => by cases e; exact Nat.le_refl _))); have HB3 := hid ((HB2.out.alloc HB2.out.size _).trans (ha3.below (own_empty HB2.out.size) (by have := HB2.out.size; simp; omega))); clear ho3 ha3 tk3))
      go_loopg [9, 10, 11] k (fun gk u9 u10 u11 wi => ∃ (i : Nat) (al : List Int), i ≤ k ∧ gk = k - i ∧ u11 = .int .i64 (i : Int) ∧ PkS w m ss l n2 i wi u9 u10 al)
      case atStart =>
        refine ⟨0, ss, Nat.zero_le _, rfl, rfl, ?_, ?_, ?_, HB3.out, HI.out, by omega, ?_⟩
        · have := HA3.out.1
          rw [HMN.out]
          simpa [sentL, lsum] using this
        · rw [HSN.out]
          simpa using HO3.out
        · exact HA3.out.2
        · simp [sentL]
      case round =>
        obtain ⟨i, al, hi, rfl, rfl, hs⟩ := hrel
        have hzi : w.heap.size ≤ wr.heap.size := hs.bel.size
        have hal := hs.len
        have hlk := lsum_take l i
        have PS := hid hs
        clear hs
        by_cases hlti : i < k
        · have hkl : i < l.length := by rw [HLN.out]; omega
          have hdr : l.drop i = l[i] :: l.drop (i + 1) := List.drop_eq_getElem_cons hkl
          have htk : l.take (i + 1) = l.take i ++ [l[i]] := List.take_succ_eq_append_getElem hkl
          have hstep := PS.out.pack
          rw [hdr, packL, ← hdr, if_neg (by have := HKN.out i hlti; omega)] at hstep
          have hlx : labelOk l[i] = true := List.all_eq_true.1 HOK.out.1 _ (List.getElem_mem hkl)
          obtain ⟨x, hx⟩ : ∃ x, l[i] = x := ⟨_, rfl⟩
          rw [hx] at htk hlx hstep
          obtain ⟨r, hr⟩ : ∃ r, x.size + 1 = r := ⟨_, rfl⟩
          have hls1 : lsum (l.take (i + 1)) = lsum (l.take i) + r := by rw [htk, lsum_snoc, hr]
          have hle1 := lsum_take l (i + 1)
          have hxs : lsum [x] = r := by simp [lsum, hr]
          have hsl : (sentL [x]).length = r := by rw [sentL_len, hxs]
          obtain ⟨N, hN⟩ : ∃ N, m.length + lsum (l.take i) = N := ⟨_, rfl⟩
          have hlen : (m ++ sentL (l.take i)).length = N := by rw [List.length_append, sentL_len, hN]
          rw [hlen, List.append_assoc, ← sentL_append, ← htk] at hstep
          have ho10 := PS.out.out
          rw [hN] at ho10
          obtain ⟨A', cap', rfl, _, _, _⟩ := own_slice ho10
          have HO10 := hid ho10
          have hNb : N ≤ n + 254 := by have := HMN.out; omega
          have hXb : N + r ≤ n + 254 := by have := HMN.out; omega
          have HN := hid hN
          have HST := hid hstep
          have HTK := hid htk
          have HLS1 := hid hls1
          have HSL := hid hsl
          have hR1 : Rd strR w w.heap.size (some ⟨b, o + i, none⟩) 1 (c2 - i) [x] := by
            have := (HL.out.dropS (k := i) (by omega)).take (k := 1) (by omega)
            rw [List.drop_eq_getElem_cons hkl, hx] at this
            simpa using this
          have CS := fun W (hb : Below w.heap.size w W) => rsent_any W _ _ _ [x] (hR1.later hb) (by simp [hlx]) (by omega)
          rw [hxs] at CS
          replace CS := hid CS
          have q1 : (i : Int) < (k : Int) := by omega
          have q2 : (i : Int) + 1 ≤ (c2 : Int) := by omega
          have q3 : ¬ c2 = i := by omega
          have ab5 : (N + r) * 1 ≤ 140737488355328 := by omega
          have ab6 : N + r ≤ maxLen := by unfold maxLen; omega
          clear ho10 hN hstep htk hls1 hsl hxs hR1 hlx hx hdr hr hlen
          by_cases hbig : N ≤ 16383
          · have ab7 : (al.length + 1) * 8 ≤ 140737488355328 := by have := HSN.out; omega
            have ab8 : al.length + 1 ≤ maxLen := by unfold maxLen; omega
            go_wp2_with (first
              | (at_builtin; have _t := tk4; refine wpList_appT rfl _ _ 88 rfl w.heap.size 3 1 8 el_int u10 al.length _ rfl (PS.out.all.alloc _) _ 1 1 [.int .i64 (N : Int)] rfl (src_one _ rfl rfl) ab7 ab8 (by simp; omega) ?_; intro v5 w5 ho5 ha5; have HO5 := hid ho5; have HOUT := hid (ha5.other (HO10.out.alloc _) PS.out.apart); have HB5 := hid ((PS.out.bel.alloc hzi _).trans (ha5.below (PS.out.all.alloc _) (by simp; omega))); clear ho5 ha5 tk4)
              | (go_at_call 67; (with_reducible refine (CS.out _ HB5.out).mono ?_); rintro e w6 ⟨A6, c6, rfl, hr6, hb6⟩; obtain ⟨b6, o6, rfl, _⟩ := hr6.addr (by omega); have hc6 := hr6.cap; have HB6 := hid (HB5.out.trans (hb6.mono HB5.out.size)); have HO6 := hid (own_low HOUT.out.1 hb6 (Nat.le_refl _)); have HAL6 := hid (own_low HO5.out hb6 (Nat.le_refl _)); have hs6 := (hr6.take (k := r) (by omega)).src_u8; rw [sent_take HSL.out] at hs6; have HS6 := hid hs6; have q4 : (r : Int) ≤ (c6 : Int) := (by omega); clear hr6 hb6 hs6)
              | (at_builtin; have _t := tk5; refine wpList_appT rfl _ _ 22 rfl w.heap.size 5 1 1 el_u8 _ N _ rfl HO6.out _ r c6 _ rfl HS6.out ab5 ab6 HB6.out.size ?_; intro v7 w7 ho7 ha7; have HO7 := hid ho7; have HA7 := hid ha7; clear ho7 ha7 tk5))
            go_roundg (k - (i + 1))
            case measure => omega
            case rel =>
              obtain ⟨hall, hap⟩ := HA7.out.other HAL6.out (Apart.symm HOUT.out.2)
              have hst := HST.out
              rw [if_pos hbig] at hst
              refine ⟨i + 1, al ++ [(N : Int)], by omega, rfl, by go_num, ?_, by simpa [intsV] using hall, Apart.symm hap, HB6.out.trans (HA7.out.below HO6.out HB6.out.size), ?_, by simp; omega, hst⟩
              · have := HO7.out
                rw [HLS1.out, ← Nat.add_assoc, HN.out, HTK.out, sentL_append, ← List.append_assoc]
                simpa [bytesV] using this
              · intro s hs
                rcases List.mem_append.1 hs with h | h
                · exact PS.out.ints s h
                · obtain rfl := List.mem_singleton.1 h
                  unfold I64; omega
          · have hbig' : 16383 < N := by omega
            go_wp2_with (first
              | (go_at_call 67; (with_reducible refine (CS.out _ PS.out.bel).mono ?_); rintro e w6 ⟨A6, c6, rfl, hr6, hb6⟩; obtain ⟨b6, o6, rfl, _⟩ := hr6.addr (by omega); have hc6 := hr6.cap; have HB6 := hid (PS.out.bel.trans (hb6.mono hzi)); have HO6 := hid (own_low HO10.out hb6 (Nat.le_refl _)); have HAL6 := hid (own_low PS.out.all hb6 (Nat.le_refl _)); have hs6 := (hr6.take (k := r) (by omega)).src_u8; rw [sent_take HSL.out] at hs6; have HS6 := hid hs6; have q4 : (r : Int) ≤ (c6 : Int) := (by omega); clear hr6 hb6 hs6)
              | (at_builtin; have _t := tk5; refine wpList_appT rfl _ _ 22 rfl w.heap.size 5 1 1 el_u8 _ N _ rfl HO6.out _ r c6 _ rfl HS6.out ab5 ab6 HB6.out.size ?_; intro v7 w7 ho7 ha7; have HO7 := hid ho7; have HA7 := hid ha7; clear ho7 ha7 tk5))
            go_roundg (k - (i + 1))
            case measure => omega
            case rel =>
              obtain ⟨hall, hap⟩ := HA7.out.other HAL6.out (Apart.symm PS.out.apart)
              have hst := HST.out
              rw [if_neg hbig] at hst
              refine ⟨i + 1, al, by omega, rfl, by go_num, ?_, hall, Apart.symm hap, HB6.out.trans (HA7.out.below HO6.out HB6.out.size), PS.out.ints, by omega, hst⟩
              have := HO7.out
              rw [HLS1.out, ← Nat.add_assoc, HN.out, HTK.out, sentL_append, ← List.append_assoc]
              simpa [bytesV] using this
        · obtain rfl : i = k := by omega
          have CFK2 := CF.out wr PS.out.bel _ _ _ _ ((HL.out.dropS (k := i) (by omega)).keep hzi fun p hp => PS.out.bel.cell hp)
          rw [HPP.out] at CFK2
          replace CFK2 := hid CFK2
          have hst := PS.out.pack
          rw [List.drop_eq_getElem_cons (show i < l.length by rw [HLN.out]; omega), packL, ← List.drop_eq_getElem_cons, HPP.out, if_pos hp] at hst
          have HST := hid hst
          have e0 : ((i : Int) == (n2 : Int)) = false := by rw [beq_eq_false_iff_ne]; omega
          have ab5 : (m.length + lsum (l.take i) + 2) * 1 ≤ 140737488355328 := by have := HMN.out; omega
          have ab6 : m.length + lsum (l.take i) + 2 ≤ maxLen := by unfold maxLen; have := HMN.out; omega
          clear hst
          go_wp2_with (first
            | (go_at_call 66; have _t := tk6; (with_reducible refine CFK2.out.mono ?_); rintro e w8 ⟨rfl, hb8⟩; have HB8 := hid hb8; have hz8 := hb8.size; clear hb8 tk6)
            | (at_builtin; have _t := tk7; refine wpList_appT rfl _ _ 22 rfl w.heap.size 5 1 1 el_u8 u9 (m.length + lsum (l.take i)) _ rfl ((own_low PS.out.out HB8.out (Nat.le_refl _)).alloc _) _ 2 2 (bytesV (ptrB p)) rfl (rsrc_ptr p hp hp1) ab5 ab6 (by simp; omega) ?_; intro v5 w5 ho5 ha5; have HO5 := hid ho5; have HA5 := hid ha5; clear ho5 ha5 tk7))
          go_ret2
          obtain ⟨hall, hap⟩ := HA5.out.other ((own_low PS.out.all HB8.out (Nat.le_refl _)).alloc _) PS.out.apart.symm
          have hb5 := HA5.out.below ((own_low PS.out.out HB8.out (Nat.le_refl _)).alloc _) (by simp; omega)
          have hXl : (m ++ sentL (l.take i) ++ ptrB p).length = m.length + lsum (l.take i) + 2 := by rw [List.length_append, List.length_append, sentL_len]; rfl
          refine pkR_ok HST.out ?_ hall (Apart.symm hap) PS.out.ints (((PS.out.bel.trans (HB8.out.mono hzi)).alloc (by omega) _).trans hb5) (by omega) (by have := HSN.out; omega)
          rw [hXl]
          simpa [bytesV] using HO5.out
end Go.Proofs.YtfihedcobopbcaaDoor
/- The document's Packed, whichever way it goes. -/
namespace Go.Proofs.YtfihedcobopbcaaDoor
open Go.RowKit
set_option linter.unusedVariables false
set_option linter.unusedSimpArgs false

theorem packed_own (w : World) (A : Option Addr) (n c : Nat) (m : List UInt8) (hM : Rd u8R w w.heap.size A n c m) (A1 : Option Addr) (n1 c1 : Nat) (ss : List Int) (hS : Rd intR w w.heap.size A1 n1 c1 ss) (A2 : Option Addr) (n2 c2 : Nat) (l : List ByteArray) (hL : Rd strR w w.heap.size A2 n2 c2 l)
    (hlim : n + 256 ≤ 140737488355328) (hlim1 : n1 * 8 + 4096 ≤ 140737488355328) (hf : nameErr l = 0) :
    Calls Tryd.prog 38 #[.slice A n c, .slice A1 n1 c1, .slice A2 n2 c2] w fun e w' => ∃ v v', e = .returned (.tuple #[v, v']) ∧ OwnP w w' m ss l v v' ∧ Below w.heap.size w w' := by
  obtain ⟨K, h1, h2, h3⟩ := packL_skip m ss l
  have hl := hL.len
  by_cases hk : K = l.length
  · exact packed_all w A n c m hM A1 n1 c1 ss hS A2 n2 c2 l hL hlim hlim1 hf K (by omega) h2
  · rcases h3 with h3 | h3
    · exact absurd h3 hk
    · exact packed_ptr w A n c m hM A1 n1 c1 ss hS A2 n2 c2 l hL hlim hlim1 hf K (by omega) h2 h3
theorem packed_ok {w : World} {A : Option Addr} {n c : Nat} {m : List UInt8} {A1 : Option Addr} {n1 c1 : Nat} {ss : List Int} {A2 : Option Addr} {n2 c2 : Nat} {l : List ByteArray} (hM : Rd u8R w w.heap.size A n c m) (hS : Rd intR w w.heap.size A1 n1 c1 ss) (hL : Rd strR w w.heap.size A2 n2 c2 l) (hlim : n + 256 ≤ 140737488355328) (hlim1 : n1 * 8 + 4096 ≤ 140737488355328) (hf : nameErr l = 0) {X : List UInt8} {Y : List Int} (hX : m ++ packT m ss l = X) (hY : ss ++ packN m ss l m.length = Y) {k k2 : Nat} (hk : X.length = k) (hk2 : Y.length = k2) :
    Calls Tryd.prog 38 #[.slice A n c, .slice A1 n1 c1, .slice A2 n2 c2] w fun e w' => ∃ A' c' A2 c2, e = .returned (.tuple #[.slice A' k c', .slice A2 k2 c2]) ∧ (Rd u8R w' w'.heap.size A' k c' X ∧ Rd intR w' w'.heap.size A2 k2 c2 Y) ∧ Below w.heap.size w w' := by
  refine (packed_own w A n c m hM A1 n1 c1 ss hS A2 n2 c2 l hL hlim hlim1 hf).mono ?_
  rintro e w' ⟨v, v', rfl, ho, hb⟩
  obtain ⟨A', c', A2, c2, rfl, rfl, hr, hr2⟩ := ho.rd hb.size
  rw [hX] at hr
  rw [hY] at hr2
  rw [hX, hY, hk, hk2]
  rw [hk] at hr
  rw [hk2] at hr2
  exact ⟨A', c', A2, c2, rfl, ⟨hr, hr2⟩, hb⟩
end Go.Proofs.YtfihedcobopbcaaDoor
/- Plain laws of names in a row: three-way comparison, one behind the other; ends of names. No walk. -/
namespace Go.Proofs.YtfihedcobopbcaaDoor
open Go.RowKit
set_option linter.unusedVariables false
set_option linter.unusedSimpArgs false

structure Ord3 {α : Type} (c : α → α → Int) : Prop where
  tri : ∀ x y, c x y = -1 ∨ c x y = 0 ∨ c x y = 1
  anti : ∀ x y, c y x = - c x y
  trans : ∀ x y z, c x y ≤ 0 → c y z ≤ 0 → c x z ≤ 0
def lex {α : Type} (c : α → α → Int) : List α → List α → Int
  | [], [] => 0
  | [], _ :: _ => -1
  | _ :: _, [] => 1
  | a :: l, b :: m => if c a b = 0 then lex c l m else c a b
theorem Ord3.zero_trans {α : Type} {c : α → α → Int} (h : Ord3 c) {x y z : α} (h1 : c x y = 0) (h2 : c y z = 0) : c x z = 0 := by
  have a := h.trans x y z (by omega) (by omega)
  have b := h.trans z y x (by rw [h.anti]; omega) (by rw [h.anti]; omega)
  rw [h.anti] at b
  omega
theorem Ord3.lt_of {α : Type} {c : α → α → Int} (h : Ord3 c) {x y z : α} (h1 : c x y ≤ 0) (h2 : c y z ≤ 0) (h3 : c x z = 0) : c x y = 0 ∧ c y z = 0 := by
  have a := h.trans y z x h2 (by rw [h.anti]; omega)
  have b := h.trans z x y (by rw [h.anti]; omega) h1
  rw [h.anti] at a b
  omega
theorem lex_ord {α : Type} {c : α → α → Int} (h : Ord3 c) : Ord3 (lex c) := by
  refine ⟨?_, ?_, ?_⟩
  · intro x
    induction x with
    | nil => intro y; cases y <;> simp [lex]
    | cons a l ih =>
      intro y
      cases y with
      | nil => simp [lex]
      | cons b m =>
        unfold lex
        split
        · exact ih m
        · exact h.tri a b
  · intro x
    induction x with
    | nil => intro y; cases y <;> simp [lex]
    | cons a l ih =>
      intro y
      cases y with
      | nil => simp [lex]
      | cons b m =>
        unfold lex
        have := h.anti a b
        by_cases e : c a b = 0
        · rw [if_pos e, if_pos (by omega)]; exact ih m
        · rw [if_neg e, if_neg (by omega)]; exact this
  · intro x
    induction x with
    | nil => intro y z _ _; cases z <;> simp [lex]
    | cons a l ih =>
      intro y z h1 h2
      cases y with
      | nil => simp [lex] at h1
      | cons b m =>
        cases z with
        | nil => simp [lex] at h2
        | cons d r =>
          unfold lex at h1 h2 ⊢
          by_cases e1 : c a b = 0
          · rw [if_pos e1] at h1
            by_cases e2 : c b d = 0
            · rw [if_pos e2] at h2
              rw [if_pos (h.zero_trans e1 e2)]
              exact ih m r h1 h2
            · rw [if_neg e2] at h2
              have ht := h.trans a b d (by omega) h2
              have hne : c a d ≠ 0 := fun e3 => e2 (h.lt_of (by omega) h2 e3).2
              rw [if_neg hne]; exact ht
          · rw [if_neg e1] at h1
            by_cases e2 : c b d = 0
            · rw [if_pos e2] at h2
              have ht := h.trans a b d h1 (by omega)
              have hne : c a d ≠ 0 := fun e3 => e1 (h.lt_of h1 (by omega) e3).1
              rw [if_neg hne]; exact ht
            · rw [if_neg e2] at h2
              have ht := h.trans a b d h1 h2
              have hne : c a d ≠ 0 := fun e3 => e1 (h.lt_of h1 h2 e3).1
              rw [if_neg hne]; exact ht
theorem lex_zero {α β : Type} {c : α → α → Int} {f : α → β} (h : ∀ x y, c x y = 0 ↔ f x = f y) : ∀ x y, lex c x y = 0 ↔ x.map f = y.map f := by
  intro x
  induction x with
  | nil => intro y; cases y <;> simp [lex]
  | cons a l ih =>
    intro y
    cases y with
    | nil => simp [lex]
    | cons b m =>
      unfold lex
      simp only [List.map_cons, List.cons.injEq, ← h, ← ih]
      by_cases e : c a b = 0
      · simp [e]
      · simp [e]
/-- what begins with another one is not ahead of it -/
theorem lex_prefix {α β : Type} {c : α → α → Int} {f : α → β} (h : ∀ x y, c x y = 0 ↔ f x = f y) : ∀ x y : List α, y.map f <+: x.map f → 0 ≤ lex c x y := by
  intro x
  induction x with
  | nil =>
    intro y hp
    cases y with
    | nil => simp [lex]
    | cons b m => have := hp.length_le; simp at this
  | cons a l ih =>
    intro y hp
    cases y with
    | nil => simp [lex]
    | cons b m =>
      simp only [List.map_cons, List.cons_prefix_cons] at hp
      unfold lex
      rw [if_pos ((h a b).2 hp.1.symm)]
      exact ih m hp.2

def cmpByte (a b : UInt8) : Int := if a < b then -1 else if b < a then 1 else 0
theorem cmpByte_ord : Ord3 cmpByte := by
  refine ⟨fun x y => ?_, fun x y => ?_, fun x y z h1 h2 => ?_⟩
  · unfold cmpByte; split <;> (try split) <;> simp
  · unfold cmpByte
    simp only [UInt8.lt_iff_toNat_lt]
    split <;> split <;> (try split) <;> (try omega) <;> simp
  · unfold cmpByte at *
    simp only [UInt8.lt_iff_toNat_lt] at *
    split at h1 <;> (try split at h1) <;> split at h2 <;> (try split at h2) <;> (try omega) <;> (split <;> (try split) <;> omega)
theorem cmpByte_zero (x y : UInt8) : cmpByte x y = 0 ↔ id x = id y := by
  unfold cmpByte
  simp only [UInt8.lt_iff_toNat_lt, id]
  constructor
  · intro h
    split at h
    · cases h
    · split at h
      · cases h
      · exact UInt8.toNat_inj.1 (by omega)
  · rintro rfl; simp
theorem compareBytes_lex : ∀ a b : List UInt8, Go.Lib.compareBytes a b = lex cmpByte a b := by
  intro a
  induction a with
  | nil => intro b; cases b <;> rfl
  | cons x l ih =>
    intro b
    cases b with
    | nil => rfl
    | cons y m =>
      rw [Go.Lib.compareBytes, lex, ih m]
      unfold cmpByte
      by_cases h1 : x < y
      · simp [h1]
      · by_cases h2 : y < x
        · simp [h1, h2]
        · simp [h1, h2]
theorem smallS_inj (a b : ByteArray) : smallL a.data.toList = smallL b.data.toList ↔ smallS a = smallS b := by
  unfold smallS
  constructor
  · intro h; rw [h]
  · intro h
    injection h with h
    have := congrArg Array.toList h
    simpa using this
theorem cmpB_ord : Ord3 cmpB := by
  have h := lex_ord cmpByte_ord
  refine ⟨fun x y => ?_, fun x y => ?_, fun x y z => ?_⟩
  · unfold cmpB; rw [compareBytes_lex]; exact h.tri _ _
  · unfold cmpB; rw [compareBytes_lex, compareBytes_lex]; exact h.anti _ _
  · unfold cmpB; rw [compareBytes_lex, compareBytes_lex, compareBytes_lex]; exact h.trans _ _ _
theorem cmpB_zero (x y : ByteArray) : cmpB x y = 0 ↔ smallS x = smallS y := by
  unfold cmpB
  rw [compareBytes_lex, lex_zero cmpByte_zero, ← smallS_inj]
  simp
theorem cmpL_lex : ∀ a b : List ByteArray, cmpL a b = lex cmpB a b := by
  intro a
  induction a with
  | nil => intro b; cases b <;> rfl
  | cons x l ih =>
    intro b
    cases b with
    | nil => rfl
    | cons y m => rw [cmpL, lex, ih m]
theorem cmpL_ord : Ord3 cmpL := by
  have h := lex_ord cmpB_ord
  refine ⟨fun x y => ?_, fun x y => ?_, fun x y z => ?_⟩
  · rw [cmpL_lex]; exact h.tri _ _
  · rw [cmpL_lex, cmpL_lex]; exact h.anti _ _
  · rw [cmpL_lex, cmpL_lex, cmpL_lex]; exact h.trans _ _ _
theorem cmpL_zero (x y : List ByteArray) : cmpL x y = 0 ↔ x.map smallS = y.map smallS := by
  rw [cmpL_lex]; exact lex_zero cmpB_zero x y

/-- which one is ahead, as Compare has it -/
def cmpN (a b : List ByteArray) : Int := cmpL a.reverse b.reverse
theorem cmpN_zero (a b : List ByteArray) : cmpN a b = 0 ↔ a.map smallS = b.map smallS := by
  unfold cmpN
  rw [cmpL_zero, List.map_reverse, List.map_reverse]
  exact List.reverse_inj
theorem sameL_iff (a b : List ByteArray) : sameL a b = decide (cmpN a b = 0) := by
  unfold sameL
  rw [decide_eq_decide]
  exact (cmpN_zero a b).symm
theorem underL_iff (a b : List ByteArray) : underL a b = true ↔ b.map smallS <:+ a.map smallS := by
  unfold underL sameL
  simp only [Bool.and_eq_true, decide_eq_true_eq]
  constructor
  · rintro ⟨_, h⟩
    rw [← h, List.map_drop]
    exact List.drop_suffix _ _
  · intro h
    have hl := h.length_le
    simp only [List.length_map] at hl
    refine ⟨hl, ?_⟩
    have := List.suffix_iff_eq_drop.1 h
    rw [List.map_drop, this]
    simp
theorem under_ge {a b : List ByteArray} (h : underL a b = true) : 0 ≤ cmpN a b := by
  unfold cmpN
  rw [cmpL_lex]
  refine lex_prefix cmpB_zero _ _ ?_
  rw [List.map_reverse, List.map_reverse, List.reverse_prefix]
  exact (underL_iff a b).1 h
theorem under_both (a b : List ByteArray) : (underL a b && underL b a) = decide (cmpN a b = 0) := by
  rw [Bool.eq_iff_iff, Bool.and_eq_true, underL_iff, underL_iff, decide_eq_true_iff, cmpN_zero]
  constructor
  · rintro ⟨h1, h2⟩
    exact (h2.eq_of_length (Nat.le_antisymm h2.length_le h1.length_le))
  · intro h
    rw [h]
    exact ⟨List.suffix_refl _, List.suffix_refl _⟩
theorem under_trans {a b c : List ByteArray} (h1 : underL a b = true) (h2 : underL b c = true) : underL a c = true := by
  rw [underL_iff] at *
  exact h2.trans h1
theorem under_self (a : List ByteArray) : underL a a = true := (underL_iff a a).2 (List.suffix_refl _)
theorem under_nil (a : List ByteArray) : underL a [] = true := (underL_iff a []).2 (List.nil_suffix)
theorem lowB_lowB (b : UInt8) : lowB (lowB b) = lowB b := by
  unfold lowB
  have := b.toNat_lt
  by_cases h : 65 ≤ b.toNat ∧ b.toNat ≤ 90
  · rw [if_pos h, UInt8.toNat_ofNat', Nat.mod_eq_of_lt (by omega), if_neg (by omega)]
  · rw [if_neg h, if_neg h]
theorem smallS_smallS (s : ByteArray) : smallS (smallS s) = smallS s := by
  unfold smallS smallL
  simp [lowB_lowB]
theorem fold_fold (a : List ByteArray) : (a.map smallS).map smallS = a.map smallS := by
  rw [List.map_map]
  exact List.map_congr_left fun s _ => smallS_smallS s
end Go.Proofs.YtfihedcobopbcaaDoor
