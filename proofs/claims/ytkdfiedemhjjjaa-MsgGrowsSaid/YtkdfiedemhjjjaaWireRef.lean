/- The document's answers of names as they are sent: nameFrom, NameAt. -/
import Derived.Test.YtkdfiedemhjjjaaWireL
import Derived.Test.YtkdfiedemhjjjaaNameD
import Derived.BigRegion
import Derived.Deep.RegionLaw
namespace Go.Proofs.Ytkdfiedemhjjjaa
open Go.RowKit
set_option linter.unusedVariables false

theorem nm_len (m : List UInt8) (low at_ size : Nat) (hs : size ≤ 255) : size + (nm m low at_ size).2.1.length ≤ 255 := by
  induction low, at_, size using nm.induct (m := m) with
  | case1 low at_ size h h0 => rw [nm, dif_pos h, if_pos h0]; exact hs
  | case2 low at_ size h h0 h1 h2 h3 ih => rw [nm, dif_pos h, if_neg h0, if_pos h1, dif_pos h2, if_pos h3]; exact ih hs
  | case3 low at_ size h h0 h1 h2 h3 => rw [nm, dif_pos h, if_neg h0, if_pos h1, dif_pos h2, if_neg h3]; exact hs
  | case4 low at_ size h h0 h1 h2 => rw [nm, dif_pos h, if_neg h0, if_pos h1, dif_neg h2]; exact hs
  | case5 low at_ size h h0 h1 h2 => rw [nm, dif_pos h, if_neg h0, if_neg h1, if_pos h2]; exact hs
  | case6 low at_ size h h0 h1 h2 h3 h4 ih =>
    rw [nm, dif_pos h, if_neg h0, if_neg h1, if_neg h2, if_pos h3, if_pos h4]
    have := ih h4
    simp only [List.length_cons]
    omega
  | case7 low at_ size h h0 h1 h2 h3 h4 => rw [nm, dif_pos h, if_neg h0, if_neg h1, if_neg h2, if_pos h3, if_neg h4]; exact hs
  | case8 low at_ size h h0 h1 h2 h3 => rw [nm, dif_pos h, if_neg h0, if_neg h1, if_neg h2, if_neg h3]; exact hs
  | case9 low at_ size h => rw [nm, dif_neg h]; exact hs
/-- what a Told holds -/
@[reducible] def toldC (v : Value) (next e : Int) : Array Value := #[v, .int .i64 next, .int .i64 e]
def NfE (w : World) (t : Int × List ByteArray × Nat) (e : Ending) (w' : World) : Prop :=
  Below w.heap.size w w' ∧ ∃ v, e = .returned (.agg (toldC v (t.2.2 : Int) t.1)) ∧ w'.ownsRow w.heap.size 9 1 v t.2.1.length (strsV t.2.1)
theorem nfE_nil {w w' : World} {t : Int × List ByteArray × Nat} {k : Int} {nx : Nat} (h : t = (k, [], nx)) (hb : Below w.heap.size w w') : NfE w t (.returned (.agg (toldC (.slice none 0 0) (nx : Int) k))) w' := by
  subst h
  exact ⟨hb, _, rfl, World.ownsRow_nil _ _ _ _⟩
section
variable {w w0 : World} {base : Nat} {e : TypeId} {size : Nat} {v : Value} {n : Nat} {xs : List Value}
theorem own_swap {o1 o2 : Obj} {os : Array Obj} {d : Nat} (h : (ext (w.alloc o1) os d).ownsRow base e size v n xs) (hb : w.heap.size < base) : (ext (w.alloc o2) os d).ownsRow base e size v n xs := by
  refine h.kept (row := some w.heap.size) ⟨rfl, rfl, rfl, by simp [size_ext], fun k hk hne => ?_⟩ ?_
  · have hne' : k ≠ w.heap.size := fun e => hne (by rw [e])
    simp only [ext, World.alloc, Array.getElem?_append, Array.size_push, Array.getElem?_push]
    by_cases c : k < w.heap.size + 1
    · rw [if_pos c, if_pos c, if_neg hne', if_neg hne']
    · rw [if_neg c, if_neg c]
  · cases ev : v.ownBlock with
    | none => exact .inl rfl
    | some g =>
      right
      have := (h.lt g ev).1
      intro e
      cases e
      omega
theorem own_src {A : Option Addr} {c : Nat} (h : w.ownsRow base e size (.slice A n c) n xs) (h1 : ∀ u ∈ xs, u.oneCell' = true) : Src w A n c size xs := by
  refine ⟨h.1, fun ad ha j u hu => ?_, fun ha => ?_, h1⟩
  · subst ha
    rcases h.2 with ⟨e, _⟩ | ⟨g, cap, cur, e, hb, hh, hr⟩
    · cases e
    · cases e
      exact h.cells (g := g) rfl j u hu
  · subst ha
    rcases h.2 with ⟨e, h0⟩ | ⟨g, cap, cur, e, hb, hh, hr⟩
    · cases e; exact ⟨rfl, rfl⟩
    · cases e
theorem one_strs (l : List ByteArray) : ∀ u ∈ strsV l, u.oneCell' = true := by
  intro u hu
  obtain ⟨b, _, rfl⟩ := List.mem_map.1 hu
  rfl
end

theorem step_appB {P : Program} {w : World} {ops : Array Oper} {o : Oper} {a : Act} {Q : Exit → Act → World → Prop} {K : Act → World → Prop} {F : Prop} (hgd : o.guard = none) (s x : Operand) (t : TypeId)
    (ho : o.op = .call { callee := .builtin .append, args := #[s, x], argTypes := #[t, t] }) (base : Nat) (e : TypeId) (size bytes : Nat) (E : El P t e size bytes)
    (v : Value) (n : Nat) (xs : List Value) (hs : a.eval s = v) (hown : w.ownsRow base e size v n xs) (A : Option Addr) (m c : Nat) (ys : List Value) (hx : a.eval x = .slice A m c) (hsrc : Src w A m c size ys)
    (hbytes : (n + m) * bytes ≤ 140737488355328) (h63 : n + m ≤ maxLen) (hbase : base ≤ w.heap.size)
    (h : ∀ v' w', w'.ownsRow base e size v' (n + m) (xs ++ ys) → Below base w w' → K (a.put o.dst v') w') :
    if Region.wanted o (yielded ops a.tmps) = true then Oper.wp P o a w K Q else F :=
  step_app hgd s x t ho base e size bytes E v n xs hs hown A m c ys hx hsrc hbytes h63 hbase fun v' w' h1 h2 _ => h v' w' h1 (grown_below hown h2 hbase)
/-- behind the append: what both Tolds hold -/
theorem told9 {w W w9 : World} {os : Array Obj} {d : Nat} {T : TypeId} {c1 c2 : Array Value} {o : Obj} (hb : Below (w.heap.size + 1 + os.size + 1) W w9) (hW : W.heap = (((ext (w.alloc (.cells c1 T)) os d).alloc (.cells c2 T)).alloc o).heap) :
    Blk w9 w.heap.size T c1 ∧ Blk w9 (w.heap.size + 1 + os.size) T c2 ∧ w.heap.size + 1 + os.size < w9.heap.size := by
  have h1 : Blk (((ext (w.alloc (.cells c1 T)) os d).alloc (.cells c2 T)).alloc o) w.heap.size T c1 := (((Blk.new _ _ _).ext os d).alloc _).alloc _
  have h2 : Blk (((ext (w.alloc (.cells c1 T)) os d).alloc (.cells c2 T)).alloc o) (w.heap.size + 1 + os.size) T c2 := (Blk.new' _ _ (by simp [size_ext])).alloc _
  have hs : W.heap.size = w.heap.size + 1 + os.size + 1 + 1 := by rw [hW]; simp [size_ext]
  have := hb.size
  refine ⟨(hb.block _ (by omega)).trans ?_, (hb.block _ (by omega)).trans ?_, by omega⟩
  · rw [hW]; exact h1
  · rw [hW]; exact h2

set_option maxRecDepth 100000 in
set_option maxHeartbeats 8000000 in
theorem nameFrom_any (A : Option Addr) (n c : Nat) (m : List UInt8) (K : Nat) : ∀ (low at_ size : Nat) (w : World) (hM : Rd u8R w w.heap.size A n c m) (hk : low * (n + 1) + (n - at_) < K) (hlow : at_ < n → low ≤ n) (hat : (at_ : Int) ≤ 9223372036854775807) (hsz : size ≤ 255),
    Calls Try.prog 50 #[.slice A n c, .int .i64 at_, .int .i64 low, .int .i64 size] w (NfE w (nm m low at_ size)) := by
  induction K with
  | zero => intro low at_ size w hM hk; omega
  | succ K ih =>
    intro low at_ size w hM hk hlow hat hsz
    have hcap := hM.cap
    have hm := hM.max
    unfold maxLen at hm
    have hln := hid hM.len
    have hnl := hM.lim
    simp only [u8R, Nat.mul_one] at hnl
    by_cases hend : n ≤ at_
    · have hr : nm m low at_ size = (2, [], 0) := nm_end (by rw [hln.out]; exact hend)
      have HR := hid hr
      have h1 : (n : Int) ≤ (at_ : Int) := by omega
      clear hr hM hlow hk
      go_enter Try.func50, Try.ntmps50
      go_wp2_with fail
      refine bodyPost_ret (v := .agg (toldC (.slice none 0 0) ((0 : Nat) : Int) 2)) (by simp [results, Try.results50, go_sem]) rfl ?_
      exact nfE_nil HR.out (by (repeat' (first | (with_reducible exact Below.refl _ _) | (with_reducible assumption) | (with_reducible refine below_ext0 ?_ _ _) | (with_reducible refine below_alloc0 ?_ _) | (with_reducible refine Below.ext ?_ ?_ _ _) | (with_reducible refine Below.alloc ?_ ?_ _) | (with_reducible refine Below.setCell ?_ ?_ _) | (with_reducible refine Below.drew ?_) | (with_reducible refine below_draws ?_ _) | go_size | (simp [size_ext]; done) | (simp [size_ext]; omega))))
    · have hat' : at_ < n := by omega
      replace hlow := hlow hat'
      obtain ⟨b, o, rfl, hb0⟩ := hM.addr (by omega)
      obtain ⟨x, hx, cx, _⟩ := hM.get at_ hat'
      have hx1 := x.toNat_lt
      have hx2 : (x.toNat : Int) ≤ 255 := by omega
      have q1 : (at_ : Int) < (n : Int) := by omega
      have HX := hid hx
      have HM := hid hM
      clear hx hM hat
      have ways : x.toNat = 0 ∨ (192 ≤ x.toNat ∧ n ≤ at_ + 1) ∨ (192 ≤ x.toNat ∧ at_ + 1 < n) ∨ (63 < x.toNat ∧ x.toNat < 192) ∨ (1 ≤ x.toNat ∧ x.toNat ≤ 63) := by omega
      rcases ways with h0 | ⟨h1, h2⟩ | ⟨h1, h2⟩ | ⟨h1, h2⟩ | ⟨h1, h2⟩
      · have hr : nm m low at_ size = (0, [], at_ + 1) := nm_zero HX.out h0
        have HR := hid hr
        have e0 : ((x.toNat : Int) == 0) = true := by rw [beq_iff_eq]; omega
        clear hr
        go_enter Try.func50, Try.ntmps50
        go_wp2_with fail
        refine bodyPost_ret (v := .agg (toldC (.slice none 0 0) ((at_ + 1 : Nat) : Int) 0)) (by simp [results, Try.results50, go_sem]) rfl ?_
        exact nfE_nil HR.out (by (repeat' (first | (with_reducible exact Below.refl _ _) | (with_reducible assumption) | (with_reducible refine below_ext0 ?_ _ _) | (with_reducible refine below_alloc0 ?_ _) | (with_reducible refine Below.ext ?_ ?_ _ _) | (with_reducible refine Below.alloc ?_ ?_ _) | (with_reducible refine Below.setCell ?_ ?_ _) | (with_reducible refine Below.drew ?_) | (with_reducible refine below_draws ?_ _) | go_size | (simp [size_ext]; done) | (simp [size_ext]; omega))))
      · have hr : nm m low at_ size = (2, [], 0) := nm_ptr_short HX.out h1 (by rw [hln.out]; exact h2)
        have HR := hid hr
        have e0 : ((x.toNat : Int) == 0) = false := by rw [beq_eq_false_iff_ne]; omega
        have e1 : (192 : Int) ≤ (x.toNat : Int) := by omega
        have e2 : (n : Int) ≤ (at_ : Int) + 1 := by omega
        clear hr
        go_enter Try.func50, Try.ntmps50
        go_wp2_with fail
        refine bodyPost_ret (v := .agg (toldC (.slice none 0 0) ((0 : Nat) : Int) 2)) (by simp [results, Try.results50, go_sem]) rfl ?_
        exact nfE_nil HR.out (by (repeat' (first | (with_reducible exact Below.refl _ _) | (with_reducible assumption) | (with_reducible refine below_ext0 ?_ _ _) | (with_reducible refine below_alloc0 ?_ _) | (with_reducible refine Below.ext ?_ ?_ _ _) | (with_reducible refine Below.alloc ?_ ?_ _) | (with_reducible refine Below.setCell ?_ ?_ _) | (with_reducible refine Below.drew ?_) | (with_reducible refine below_draws ?_ _) | go_size | (simp [size_ext]; done) | (simp [size_ext]; omega))))
      · obtain ⟨y, hy, cy, _⟩ := HM.out.get (at_ + 1) h2
        have hy1 := y.toNat_lt
        have hy2 : (y.toNat : Int) ≤ 255 := by omega
        obtain ⟨to, hto⟩ : ∃ to : Nat, (x.toNat - 192) * 256 + y.toNat = to := ⟨_, rfl⟩
        have t0 := nm_ptr (low := low) (size := size) HX.out h1 hy hto
        have hto' : ((x.toNat : Int) - 192) * 256 + (y.toNat : Int) = (to : Int) := by omega
        have HT := hid t0
        have e0 : ((x.toNat : Int) == 0) = false := by rw [beq_eq_false_iff_ne]; omega
        have e1 : (192 : Int) ≤ (x.toNat : Int) := by omega
        have e2 : (at_ : Int) + 1 < (n : Int) := by omega
        have hto16 : (to : Int) ≤ 16383 := by omega
        clear hy t0 hto
        by_cases hlt : to < low
        · have hlt' : (to : Int) < (low : Int) := by omega
          have CI := hid fun w' (hb : Below w.heap.size w w') => ih to to size w' (HM.out.later hb) (by
            have : (to + 1) * (n + 1) ≤ low * (n + 1) := Nat.mul_le_mul_right _ hlt
            rw [Nat.succ_mul] at this
            omega) (fun _ => by omega) (by omega) hsz
          go_enter Try.func50, Try.ntmps50
          go_wp2_with (go_at_call 50; (with_reducible refine (CI.out _ (by (repeat' (first | (with_reducible exact Below.refl _ _) | (with_reducible assumption) | (with_reducible refine below_ext0 ?_ _ _) | (with_reducible refine below_alloc0 ?_ _) | (with_reducible refine Below.ext ?_ ?_ _ _) | (with_reducible refine Below.alloc ?_ ?_ _) | (with_reducible refine Below.setCell ?_ ?_ _) | (with_reducible refine Below.drew ?_) | (with_reducible refine below_draws ?_ _) | go_size | (simp [size_ext]; done) | (simp [size_ext]; omega))))).mono ?_); rintro e w1 ⟨hb, v, rfl, ho⟩; obtain ⟨os, d, rfl⟩ := ext_of_below hb; obtain ⟨A', c', rfl, _, _, _⟩ := own_slice ho; have HO := hid ho; clear hb ho)
          have ht := HT.out
          rw [if_pos hlt] at ht
          refine bodyPost_ret (v := .agg (toldC (.slice A' (nm m to to size).2.1.length c') ((at_ + 2 : Nat) : Int) (nm m to to size).1)) (by simp [results, Try.results50, go_sem]) rfl ?_
          rw [ht]
          exact ⟨by (repeat' (first | (with_reducible exact Below.refl _ _) | (with_reducible assumption) | (with_reducible refine below_ext0 ?_ _ _) | (with_reducible refine below_alloc0 ?_ _) | (with_reducible refine Below.ext ?_ ?_ _ _) | (with_reducible refine Below.alloc ?_ ?_ _) | (with_reducible refine Below.setCell ?_ ?_ _) | (with_reducible refine Below.drew ?_) | (with_reducible refine below_draws ?_ _) | go_size | (simp [size_ext]; done) | (simp [size_ext]; omega))), _, rfl, own_less ((own_swap HO.out (by simp)).alloc _) (by simp)⟩
        · have hlt' : (low : Int) ≤ (to : Int) := by omega
          have hr : nm m low at_ size = (4, [], 0) := by rw [HT.out, if_neg hlt]
          have HR := hid hr
          clear hr
          go_enter Try.func50, Try.ntmps50
          go_wp2_with fail
          refine bodyPost_ret (v := .agg (toldC (.slice none 0 0) ((0 : Nat) : Int) 4)) (by simp [results, Try.results50, go_sem]) rfl ?_
          exact nfE_nil HR.out (by (repeat' (first | (with_reducible exact Below.refl _ _) | (with_reducible assumption) | (with_reducible refine below_ext0 ?_ _ _) | (with_reducible refine below_alloc0 ?_ _) | (with_reducible refine Below.ext ?_ ?_ _ _) | (with_reducible refine Below.alloc ?_ ?_ _) | (with_reducible refine Below.setCell ?_ ?_ _) | (with_reducible refine Below.drew ?_) | (with_reducible refine below_draws ?_ _) | go_size | (simp [size_ext]; done) | (simp [size_ext]; omega))))
      · have hr : nm m low at_ size = (3, [], 0) := nm_big HX.out h1 h2
        have HR := hid hr
        have e0 : ((x.toNat : Int) == 0) = false := by rw [beq_eq_false_iff_ne]; omega
        have e1 : (x.toNat : Int) < 192 := by omega
        have e2 : (63 : Int) < (x.toNat : Int) := by omega
        clear hr
        go_enter Try.func50, Try.ntmps50
        go_wp2_with fail
        refine bodyPost_ret (v := .agg (toldC (.slice none 0 0) ((0 : Nat) : Int) 3)) (by simp [results, Try.results50, go_sem]) rfl ?_
        exact nfE_nil HR.out (by (repeat' (first | (with_reducible exact Below.refl _ _) | (with_reducible assumption) | (with_reducible refine below_ext0 ?_ _ _) | (with_reducible refine below_alloc0 ?_ _) | (with_reducible refine Below.ext ?_ ?_ _ _) | (with_reducible refine Below.alloc ?_ ?_ _) | (with_reducible refine Below.setCell ?_ ?_ _) | (with_reducible refine Below.drew ?_) | (with_reducible refine below_draws ?_ _) | go_size | (simp [size_ext]; done) | (simp [size_ext]; omega))))
      · have e0 : ((x.toNat : Int) == 0) = false := by rw [beq_eq_false_iff_ne]; omega
        have e1 : (x.toNat : Int) < 192 := by omega
        have e2 : (x.toNat : Int) ≤ 63 := by omega
        have e3 : (1 : Int) ≤ (x.toNat : Int) := by omega
        by_cases hs1 : n < at_ + 1 + x.toNat
        · have hr : nm m low at_ size = (2, [], 0) := nm_lab_short HX.out h1 h2 (by rw [hln.out]; exact hs1)
          have HR := hid hr
          have e4 : (n : Int) < (at_ : Int) + 1 + (x.toNat : Int) := by omega
          clear hr
          go_enter Try.func50, Try.ntmps50
          go_wp2_with fail
          refine bodyPost_ret (v := .agg (toldC (.slice none 0 0) ((0 : Nat) : Int) 2)) (by simp [results, Try.results50, go_sem]) rfl ?_
          exact nfE_nil HR.out (by (repeat' (first | (with_reducible exact Below.refl _ _) | (with_reducible assumption) | (with_reducible refine below_ext0 ?_ _ _) | (with_reducible refine below_alloc0 ?_ _) | (with_reducible refine Below.ext ?_ ?_ _ _) | (with_reducible refine Below.alloc ?_ ?_ _) | (with_reducible refine Below.setCell ?_ ?_ _) | (with_reducible refine Below.drew ?_) | (with_reducible refine below_draws ?_ _) | go_size | (simp [size_ext]; done) | (simp [size_ext]; omega))))
        · have e4 : (at_ : Int) + 1 + (x.toNat : Int) ≤ (n : Int) := by omega
          by_cases hbig : 255 < size + x.toNat + 1
          · have hr : nm m low at_ size = (5, [], 0) := nm_lab_long HX.out h1 h2 (by rw [hln.out]; omega) hbig
            have HR := hid hr
            have e5 : (255 : Int) < (size : Int) + (x.toNat : Int) + 1 := by omega
            clear hr
            go_enter Try.func50, Try.ntmps50
            go_wp2_with fail
            refine bodyPost_ret (v := .agg (toldC (.slice none 0 0) ((0 : Nat) : Int) 5)) (by simp [results, Try.results50, go_sem]) rfl ?_
            exact nfE_nil HR.out (by (repeat' (first | (with_reducible exact Below.refl _ _) | (with_reducible assumption) | (with_reducible refine below_ext0 ?_ _ _) | (with_reducible refine below_alloc0 ?_ _) | (with_reducible refine Below.ext ?_ ?_ _ _) | (with_reducible refine Below.alloc ?_ ?_ _) | (with_reducible refine Below.setCell ?_ ?_ _) | (with_reducible refine Below.drew ?_) | (with_reducible refine below_draws ?_ _) | go_size | (simp [size_ext]; done) | (simp [size_ext]; omega))))
          · have e5 : (size : Int) + (x.toNat : Int) + 1 ≤ 255 := by omega
            have hr := nm_lab (low := low) (size := size) HX.out h1 h2 (by rw [hln.out]; omega) (by omega)
            have CI := fun w' (hb : Below w.heap.size w w') => ih low (at_ + 1 + x.toNat) (size + x.toNat + 1) w' (HM.out.later hb) (by omega) (fun _ => hlow) (by omega) (by omega)
            have HR := hid hr
            rw [show ((at_ + 1 + x.toNat : Nat) : Int) = (at_ : Int) + 1 + (x.toNat : Int) by omega, show ((size + x.toNat + 1 : Nat) : Int) = (size : Int) + (x.toNat : Int) + 1 by omega] at CI
            replace CI := hid CI
            clear hr
            go_enter Try.func50, Try.ntmps50
            go_wp2_with (go_at_call 50; (with_reducible refine (CI.out _ (by (repeat' (first | (with_reducible exact Below.refl _ _) | (with_reducible assumption) | (with_reducible refine below_ext0 ?_ _ _) | (with_reducible refine below_alloc0 ?_ _) | (with_reducible refine Below.ext ?_ ?_ _ _) | (with_reducible refine Below.alloc ?_ ?_ _) | (with_reducible refine Below.setCell ?_ ?_ _) | (with_reducible refine Below.drew ?_) | (with_reducible refine below_draws ?_ _) | go_size | (simp [size_ext]; done) | (simp [size_ext]; omega))))).mono ?_); rintro e w1 ⟨hb, v, rfl, ho⟩; obtain ⟨os, d, rfl⟩ := ext_of_below hb; obtain ⟨A', c', rfl, _, _, _⟩ := own_slice ho; have HO := hid ho; clear hb ho)
            have w1' : IntKind.i64.wrap ((at_ : Int) + 1) = (at_ : Int) + 1 := IntWalk.i64_in _ (by omega)
            have w2' : IntKind.i64.wrap ((at_ : Int) + 1 + (x.toNat : Int)) = (at_ : Int) + 1 + (x.toNat : Int) := IntWalk.i64_in _ (by omega)
            have p0 : (0 : Int) ≤ (at_ : Int) + 1 := by omega
            have p1 : (at_ : Int) + 1 ≤ (at_ : Int) + 1 + (x.toNat : Int) := by omega
            have p2 : (at_ : Int) + 1 + (x.toNat : Int) ≤ (c : Int) := by omega
            have p3 : ¬ c = at_ + 1 := by omega
            have t1 : ((at_ : Int) + 1).toNat = at_ + 1 := by omega
            have t2 : ((at_ : Int) + 1 + (x.toNat : Int)).toNat = at_ + 1 + x.toNat := by omega
            have hconv : ∀ W, Below w.heap.size w W → (convert 22 9 (.slice (some ⟨b, o + (at_ + 1), none⟩) x.toNat (c - (at_ + 1)))).run Try.prog W = .ok (.string (segB m (at_ + 1) x.toNat)) W := by
              intro W hW
              exact (((HM.out.below hW).dropB (k := at_ + 1) (by omega)).take (k := x.toNat) (by omega)).conv
            have CV := hid hconv
            obtain ⟨sg, hsg⟩ : ∃ sg, segB m (at_ + 1) x.toNat = sg := ⟨_, rfl⟩
            have HSG := hid hsg
            rw [hsg] at CV
            obtain ⟨t, ht⟩ : ∃ t, nm m low (at_ + 1 + x.toNat) (size + x.toNat + 1) = t := ⟨_, rfl⟩
            have HTT := hid ht
            have htl := nm_len m low (at_ + 1 + x.toNat) (size + x.toNat + 1) (by omega)
            rw [ht] at HO htl
            simp only [ht]
            clear hconv hsg ht
            have cvd := CV.out ((ext (w.alloc (.cells #[.slice none 0 0, .int .i64 0, .int .i64 0] 67)) os d).alloc (.cells #[.slice A' t.2.1.length c', .int .i64 (t.2.2 : Int), .int .i64 t.1] 67)).drew (by (repeat' (first | (with_reducible exact Below.refl _ _) | (with_reducible assumption) | (with_reducible refine below_ext0 ?_ _ _) | (with_reducible refine below_alloc0 ?_ _) | (with_reducible refine Below.ext ?_ ?_ _ _) | (with_reducible refine Below.alloc ?_ ?_ _) | (with_reducible refine Below.setCell ?_ ?_ _) | (with_reducible refine Below.drew ?_) | (with_reducible refine below_draws ?_ _) | go_size | (simp [size_ext]; done) | (simp [size_ext]; omega))))
            go_region_law ((refine step_appB rfl (.tmp 96) (.tmp 98) 24 rfl (w.heap.size + 1 + os.size + 1) 9 1 16 el_str _ 1 [.string sg] rfl (own_lit _ _ (by simp [size_ext]) (by simp [size_ext]) rfl (by decide) rfl) _ t.2.1.length _ _ rfl (own_src ((((HO.out).alloc _).alloc _)) (one_strs _)) (by omega) (by unfold maxLen; omega) (by simp [size_ext]) ?_; intro v9 w9 ho9 hb9; obtain ⟨A9, c9, rfl, _, _, _⟩ := own_slice ho9; have HO9 := hid ho9; obtain ⟨B1, B2, hs9⟩ := told9 (w := w) (os := os) (d := d) (T := 67) (c1 := #[.slice none 0 0, .int .i64 0, .int .i64 0]) (c2 := #[.slice A' t.2.1.length c', .int .i64 (t.2.2 : Int), .int .i64 t.1]) (o := .cells #[.string sg] 9) hb9 rfl; have z0 : w9.cell? ⟨w.heap.size + 1 + os.size, 0, none⟩ = _ := B2.cell 0; have z1 : w9.cell? ⟨w.heap.size + 1 + os.size, 1, none⟩ = _ := B2.cell 1; have z2 : w9.cell? ⟨w.heap.size + 1 + os.size, 2, none⟩ = _ := B2.cell 2; have y0 : w9.cell? ⟨w.heap.size, 0, none⟩ = _ := B1.cell 0; have y1 : w9.cell? ⟨w.heap.size, 1, none⟩ = _ := B1.cell 1; have y2 : w9.cell? ⟨w.heap.size, 2, none⟩ = _ := B1.cell 2; have zf0 : w9.frozen? ⟨w.heap.size + 1 + os.size, 0, none⟩ = false := B2.frozen 0; have yf0 : w9.frozen? ⟨w.heap.size, 0, none⟩ = false := B1.frozen 0; have yf1 : w9.frozen? ⟨w.heap.size, 1, none⟩ = false := B1.frozen 1; have yf2 : w9.frozen? ⟨w.heap.size, 2, none⟩ = false := B1.frozen 2; have HBB := hid (And.intro B1 B2); have hbw9 : Below w.heap.size w w9 := Below.trans (by (repeat' (first | (with_reducible exact Below.refl _ _) | (with_reducible assumption) | (with_reducible refine below_ext0 ?_ _ _) | (with_reducible refine below_alloc0 ?_ _) | (with_reducible refine Below.ext ?_ ?_ _ _) | (with_reducible refine Below.alloc ?_ ?_ _) | (with_reducible refine Below.setCell ?_ ?_ _) | (with_reducible refine Below.drew ?_) | (with_reducible refine below_draws ?_ _) | go_size | (simp [size_ext]; done) | (simp [size_ext]; omega)))) (hb9.mono (by omega)); have hs9' : w.heap.size < w9.heap.size := (by omega); have HB9 := hid hb9; clear ho9 hb9 B1 B2))
            all_goals
              go_wp2_with fail
              refine bodyPost_ret (v := .agg (toldC (.slice A9 (1 + t.2.1.length) c9) (t.2.2 : Int) t.1)) (by simp [results, Try.results50, go_sem, y0, y1, y2]) rfl ?_
              have ho := HO9.out
              have hr := HR.out
              rw [HTT.out, HSG.out] at hr
              rw [hr]
              refine ⟨by (repeat' (first | (with_reducible exact Below.refl _ _) | (with_reducible assumption) | (with_reducible refine below_ext0 ?_ _ _) | (with_reducible refine below_alloc0 ?_ _) | (with_reducible refine Below.ext ?_ ?_ _ _) | (with_reducible refine Below.alloc ?_ ?_ _) | (with_reducible refine Below.setCell ?_ ?_ _) | (with_reducible refine Below.drew ?_) | (with_reducible refine below_draws ?_ _) | go_size | (simp [size_ext]; done) | (simp [size_ext]; omega))), .slice A9 (1 + t.2.1.length) c9, rfl, ?_⟩
              · show World.ownsRow _ _ _ _ _ (sg :: t.2.1).length (strsV (sg :: t.2.1))
                rw [show (sg :: t.2.1).length = 1 + t.2.1.length from by simp [Nat.add_comm]]
                refine own_less (base := w.heap.size + 1 + os.size + 1) ?_ (by omega)
                repeat (first | exact ho | refine own_far ?_ (by first | (simp; done) | (simp; omega)) _)
end Go.Proofs.Ytkdfiedemhjjjaa
