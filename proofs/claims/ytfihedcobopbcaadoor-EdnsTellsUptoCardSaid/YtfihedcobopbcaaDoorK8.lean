/- edns: records copied, that share nothing. -/
import Derived.Test.YtfihedcobopbcaaDoorK7
import Derived.Deep.RegionHeld3
import Derived.Deep.DeepCutAuto
import Derived.Laws.IdiomCopy
import Derived.Deep.Upon
namespace Go.Proofs.YtfihedcobopbcaaDoor
open Go.RowKit
set_option linter.unusedVariables false
set_option linter.unusedSimpArgs false

/-- one element more onto a row that was met in an earlier world, in a plain region -/
theorem wpList_row {α : Type} {P : Program} {R : Rep α} (hR : Near IsD R) {t e : TypeId} {bytes : Nat} (E : El P t e R.k bytes) (hz : ∀ z, (P.info? e).bind (·.zero) = some z → ∀ u ∈ z.cells.toList, ¬ IsD u) {wr w : World} {base : Nat} {V : Value} {l : List α} {cs : List Value} (ho : wr.ownsRow base e R.k V l.length cs) (hr : Rels R wr wr.heap.size l cs) (hf : FreeV IsD wr V)
    {ops : Array Oper} {rest : List Oper} {o : Oper} {a : Act} {Q : Exit → Act → World → Prop} (a' : α) (ys : List Value) (hgd : o.guard = none) (s x : Operand) (hop : o.op = .call { callee := .builtin .append, args := #[s, x], argTypes := #[t, t] }) {A : Option Addr} {c : Nat} (hs : a.eval s = V) (hx : a.eval x = .slice A 1 c)
    (hb : Below wr.heap.size wr w) (hsrc : Src w A 1 c R.k ys) (hrel : R.rel w w.heap.size a' ys) (hy : ∀ u ∈ ys, ¬ IsD u) (hbytes : (l.length + 1) * bytes ≤ 140737488355328) (h63 : l.length + 1 ≤ maxLen) (hbase : base ≤ wr.heap.size)
    (h : ∀ v' w', Row R e w' base v' (l ++ [a']) → AppTo w w' V v' → wpList P ops Q rest (a.put o.dst v') w') : wpList P ops Q (o :: rest) a w :=
  wpList_appF (K := IsD) hgd s x t hop base e R.k bytes E hz V l.length cs hs (own_low ho hb (Nat.le_refl _)) (hf.below ho hb) A 1 c ys hx hsrc hy hbytes h63 (Nat.le_trans hbase hb.size) fun v' w' h1 h2 h3 => h v' w' (app_row h2 h3 hR ho hr hf hb h1 hrel) h2
theorem rd_own_str {w : World} {base n c : Nat} {A : Option Addr} {l : List ByteArray} (h : w.ownsRow base 9 1 (.slice A n c) n (strsV l)) (hs : ∀ s ∈ l, s.size ≤ 140737488355328) (hb : base ≤ w.heap.size) (hn : n * 16 ≤ 140737488355328) : Rd strR w w.heap.size A n c l := by
  obtain ⟨A', c', e, hr⟩ := own_rd_str h hs hb hn
  cases e
  exact hr
theorem rd_own_u8 {w : World} {base n c : Nat} {A : Option Addr} {l : List UInt8} (h : w.ownsRow base 5 1 (.slice A n c) n (bytesV l)) (hb : base ≤ w.heap.size) (hn : n ≤ 140737488355328) : Rd u8R w w.heap.size A n c l := by
  obtain ⟨A', c', e, hr⟩ := own_rd_u8 h hb hn
  cases e
  exact hr
theorem Rd.strs {w : World} {B n c : Nat} {A : Option Addr} {l : List ByteArray} (h : Rd strR w B A n c l) : ∀ s ∈ l, s.size ≤ 140737488355328 := by
  intro s hs
  obtain ⟨i, hi, rfl⟩ := List.getElem_of_mem hs
  obtain ⟨b, o, vs, e, hb, hr, hc⟩ := h.at_ i hi
  exact hr.2

set_option maxRecDepth 100000 in
set_option maxHeartbeats 6000000 in
theorem copied_any {w : World} {A : Option Addr} {n c : Nat} {zs : List RecT} (hR : Rd recR w w.heap.size A n c zs) :
    Calls Tryd.prog 51 #[.slice A n c] w fun e w' => ∃ A' c', e = .returned (.slice A' n c') ∧ Row recR 67 w' w.heap.size (.slice A' n c') zs ∧ Below w.heap.size w w' := by
  have m1 := hR.max
  have k1 := hR.cap
  have lim := hR.lim
  rw [show recR.bs = 72 from rfl] at lim
  unfold maxLen at m1
  have HR := hid hR
  clear hR
  go_enter Tryd.func51, Tryd.ntmps51
  go_wp2
  go_loopg [3, 8] n (fun g s3 s8 wi => ∃ (k : Nat) (V : Value), k ≤ n ∧ g = n - k ∧ s3 = V ∧ s8 = .int .i64 k ∧ Row recR 67 wi w.heap.size V (zs.take k) ∧ Below w.heap.size w wi)
  case atStart => exact ⟨0, _, Nat.zero_le _, rfl, rfl, rfl, Row.nil _ _ _ _, (by (repeat' (first | (with_reducible exact Below.refl _ _) | (with_reducible assumption) | (with_reducible refine below_ext0 ?_ _ _) | (with_reducible refine below_alloc0 ?_ _) | (with_reducible refine Below.ext ?_ ?_ _ _) | (with_reducible refine Below.alloc ?_ ?_ _) | (with_reducible refine Below.setCell ?_ ?_ _) | (with_reducible refine Below.drew ?_) | (with_reducible refine below_draws ?_ _) | go_size | (simp [size_ext]; done) | (simp [size_ext]; omega))))⟩
  case round =>
    obtain ⟨k, V, hk, rfl, rfl, rfl, hrow, hb⟩ := hrel
    have hlen : (zs.take k).length = k := by rw [List.length_take, HR.out.len]; omega
    obtain ⟨AV, cV, hV⟩ := hrow.slice
    rw [hlen] at hV
    subst hV
    have HB := hid hb
    have hsz := hb.size
    by_cases hlt : k < n
    · obtain ⟨b1, o1, A3, n3, c3, A4, n4, c4, l1, T, C, L, d, rfl, hb1, e1, x0, x1, x2, x3, x4, r1, hi64, s1⟩ := (HR.out.later hb).recd k hlt
      have hk' : k < zs.length := by rw [HR.out.len]; exact hlt
      have ht : zs.take (k + 1) = zs.take k ++ [(l1, T, C, L, d, ())] := by rw [List.take_succ_eq_append_getElem hk', e1]
      have HT := hid ht
      have CS := hid fun w' (hb : Below wr.heap.size wr w') => clone_strs w' A3 n3 c3 l1 _ (r1.later hb)
      have CB := hid fun w' (hb : Below wr.heap.size wr w') => clone_bytes w' A4 n4 c4 d _ (s1.later hb)
      have HS := hid r1.strs
      have lim3 := r1.lim
      have lim4 := s1.lim
      rw [show strR.bs = 16 from rfl] at lim3
      rw [show u8R.bs = 1 from rfl] at lim4
      have HI := hid hi64
      obtain ⟨cs, hro, hrr, hrf⟩ := hrow
      have HRO := hid hro
      have HRR := hid hrr
      have HRF := hid hrf
      have HLEN := hid hlen
      have ab1 : ((zs.take k).length + 1) * 72 ≤ 140737488355328 := by rw [hlen]; omega
      have ab2 : (zs.take k).length + 1 ≤ maxLen := by rw [hlen]; unfold maxLen; omega
      clear hb e1 ht r1 s1 hi64 hro hrr hrf hlen
      have t0 : (k : Int) < (n : Int) := by omega
      have t1 : decide ((k : Int) < (n : Int)) = true := decide_eq_true t0
      have t2 : (0 : Int) ≤ (k : Int) := by omega
      have v3 : IntKind.i64.wrap ((k : Int) + 1) = (k : Int) + 1 := IntWalk.i64_in _ (by omega)
      have tk0 : True := trivial; have tk1 : True := trivial; have tk2 : True := trivial; have tk3 : True := trivial; have tk4 : True := trivial; have tk5 : True := trivial; have tk6 : True := trivial; have tk7 : True := trivial; have tk8 : True := trivial; have tk9 : True := trivial; have tk10 : True := trivial; have tk11 : True := trivial; have tk12 : True := trivial
      go_upto_region 5 with fail
      go_cut [5] (fun s5 wx => ∃ A1' c1' A2' c2', s5 = .pointer (some ⟨wr.heap.size, 0, none⟩) ∧ Below wr.heap.size wr wx ∧ Blk wx wr.heap.size 67 #[.slice A1' n3 c1', .int .i64 T, .int .i64 C, .int .i64 L, .slice A2' n4 c2'] ∧ Rd strR wx wx.heap.size A1' n3 c1' l1 ∧ Rd u8R wx wx.heap.size A2' n4 c2' d)
      case first =>
        go_region_with (first
          | (go_at_call 50; have _t := tk1; (with_reducible refine (CS.out _ (by (repeat' (first | (with_reducible exact Below.refl _ _) | (with_reducible assumption) | (with_reducible refine below_ext0 ?_ _ _) | (with_reducible refine below_alloc0 ?_ _) | (with_reducible refine Below.ext ?_ ?_ _ _) | (with_reducible refine Below.alloc ?_ ?_ _) | (with_reducible refine Below.setCell ?_ ?_ _) | (with_reducible refine Below.drew ?_) | (with_reducible refine below_draws ?_ _) | go_size | (simp [size_ext]; done) | (simp [size_ext]; omega))))).mono ?_); rintro e w1 ⟨v1, rfl, ho, hb⟩; obtain ⟨A1', c1', rfl, _⟩ := own_slice ho; obtain ⟨os1, d1, rfl⟩ := ext_of_below hb; have ON := hid ho; clear ho hb tk1)
          | (go_at_call 62; have _t := tk2; (with_reducible refine (CB.out _ (by (repeat' (first | (with_reducible exact Below.refl _ _) | (with_reducible assumption) | (with_reducible refine below_ext0 ?_ _ _) | (with_reducible refine below_alloc0 ?_ _) | (with_reducible refine Below.ext ?_ ?_ _ _) | (with_reducible refine Below.alloc ?_ ?_ _) | (with_reducible refine Below.setCell ?_ ?_ _) | (with_reducible refine Below.drew ?_) | (with_reducible refine below_draws ?_ _) | go_size | (simp [size_ext]; done) | (simp [size_ext]; omega))))).mono ?_); rintro e w2 ⟨v2, rfl, ho, hb⟩; obtain ⟨A2', c2', rfl, _⟩ := own_slice ho; obtain ⟨os2, d2, rfl⟩ := ext_of_below hb; have OD := hid ho; clear ho hb tk2)
          | fail)
        all_goals
          have rn := rd_own_str ON.out HS.out (by first | omega | (simp [size_ext]; done) | (simp [size_ext]; omega)) (by omega)
          have rd := rd_own_u8 OD.out (by first | omega | (simp [size_ext]; done) | (simp [size_ext]; omega)) (by omega)
          go_wp2_with fail
          go_meet
          refine ⟨A1', c1', A2', c2', rfl, (by (repeat' (first | (with_reducible exact Below.refl _ _) | (with_reducible assumption) | (with_reducible refine below_ext0 ?_ _ _) | (with_reducible refine below_alloc0 ?_ _) | (with_reducible refine Below.ext ?_ ?_ _ _) | (with_reducible refine Below.alloc ?_ ?_ _) | (with_reducible refine Below.setCell ?_ ?_ _) | (with_reducible refine Below.drew ?_) | (with_reducible refine below_draws ?_ _) | go_size | (simp [size_ext]; done) | (simp [size_ext]; omega)))), ?_, ?_, ?_⟩
          · ((repeat' (first | (with_reducible assumption) | (with_reducible refine Blk.drew ?_) | exact Blk.new' _ _ (by first | rfl | (simp [size_ext]; done) | (simp [size_ext]; omega)) | (with_reducible refine Blk.ext ?_ _ _) | (with_reducible refine Blk.alloc ?_ _))); (all_goals fail))
          · exact rn.near_str (by (repeat' (first | ((with_reducible refine NearP.of_sim ?_); (repeat' (first | (with_reducible exact SimP.refl _ _) | (with_reducible refine SimP.ext ?_ _ _ _) | (with_reducible refine SimP.alloc ?_ _) | (with_reducible refine SimP.allocs ?_ _ _ _ ?_) | (with_reducible refine SimP.set ?_ _ _ _) | (with_reducible assumption) | (with_reducible refine FreeB.far ?_ ?_ _) | (with_reducible refine SimP.drew ?_) | (with_reducible refine SimP.drew' ?_) | (simp [IsStr, IsU8, IsI64]; done))); done) | (with_reducible refine NearP.ext ?_ _ _) | (with_reducible refine NearP.alloc ?_ _) | (with_reducible refine NearP.drew ?_))))
          · exact rd.near_u8 (by (repeat' (first | ((with_reducible refine NearP.of_sim ?_); (repeat' (first | (with_reducible exact SimP.refl _ _) | (with_reducible refine SimP.ext ?_ _ _ _) | (with_reducible refine SimP.alloc ?_ _) | (with_reducible refine SimP.allocs ?_ _ _ _ ?_) | (with_reducible refine SimP.set ?_ _ _ _) | (with_reducible assumption) | (with_reducible refine FreeB.far ?_ ?_ _) | (with_reducible refine SimP.drew ?_) | (with_reducible refine SimP.drew' ?_) | (simp [IsStr, IsU8, IsI64]; done))); done) | (with_reducible refine NearP.ext ?_ _ _) | (with_reducible refine NearP.alloc ?_ _) | (with_reducible refine NearP.drew ?_))))
      case rest =>
        obtain ⟨A1', c1', A2', c2', rfl, hlow, hblk, rn, rd⟩ := hcut
        have HLOW := hid hlow
        have HBK := hid hblk
        have RN := hid rn
        have RD := hid rd
        have zc := hlow.size
        have q0 : wc.cell? ⟨wr.heap.size, 0, none⟩ = some (.slice A1' n3 c1') := hblk.cell 0
        have q1 : wc.cell? ⟨wr.heap.size, 1, none⟩ = some (.int .i64 T) := hblk.cell 1
        have q2 : wc.cell? ⟨wr.heap.size, 2, none⟩ = some (.int .i64 C) := hblk.cell 2
        have q3 : wc.cell? ⟨wr.heap.size, 3, none⟩ = some (.int .i64 L) := hblk.cell 3
        have q4 : wc.cell? ⟨wr.heap.size, 4, none⟩ = some (.slice A2' n4 c2') := hblk.cell 4
        clear hlow hblk rn rd
        go_wp2_with (at_builtin; go_must (refine wpList_row near_rec el_r zr_d HRO.out HRR.out HRF.out ((l1, T, C, L, d, ()) : RecT) [.slice A1' n3 c1', .int .i64 T, .int .i64 C, .int .i64 L, .slice A2' n4 c2'] rfl _ _ rfl rfl rfl (by have := HLOW.out; (repeat' (first | (with_reducible exact Below.refl _ _) | (with_reducible assumption) | (with_reducible refine below_ext0 ?_ _ _) | (with_reducible refine below_alloc0 ?_ _) | (with_reducible refine Below.ext ?_ ?_ _ _) | (with_reducible refine Below.alloc ?_ ?_ _) | (with_reducible refine Below.setCell ?_ ?_ _) | (with_reducible refine Below.drew ?_) | (with_reducible refine below_draws ?_ _) | go_size | (simp [size_ext]; done) | (simp [size_ext]; omega)))) (src_blk (m := 1) (size := 5) (t := 67) (cs := #[.slice A1' n3 c1', .int .i64 T, .int .i64 C, .int .i64 L, .slice A2' n4 c2']) (Blk.new' _ _ (by first | rfl | (simp [size_ext]; done) | (simp [size_ext]; omega))) rfl (by simp [Value.oneCell'])) (rel_r (RN.out.later (by (repeat' (first | (with_reducible exact Below.refl _ _) | (with_reducible assumption) | (with_reducible refine below_ext0 ?_ _ _) | (with_reducible refine below_alloc0 ?_ _) | (with_reducible refine Below.ext ?_ ?_ _ _) | (with_reducible refine Below.alloc ?_ ?_ _) | (with_reducible refine Below.setCell ?_ ?_ _) | (with_reducible refine Below.drew ?_) | (with_reducible refine below_draws ?_ _) | go_size | (simp [size_ext]; done) | (simp [size_ext]; omega))))) HI.out.1 HI.out.2.1 HI.out.2.2 (RD.out.later (by (repeat' (first | (with_reducible exact Below.refl _ _) | (with_reducible assumption) | (with_reducible refine below_ext0 ?_ _ _) | (with_reducible refine below_alloc0 ?_ _) | (with_reducible refine Below.ext ?_ ?_ _ _) | (with_reducible refine Below.alloc ?_ ?_ _) | (with_reducible refine Below.setCell ?_ ?_ _) | (with_reducible refine Below.drew ?_) | (with_reducible refine below_draws ?_ _) | go_size | (simp [size_ext]; done) | (simp [size_ext]; omega)))))) (by simp [not_d_slice, not_d_int]) ab1 ab2 (by omega) ?_); intro v9 w9 row9 ha9)
        have hl9 := app_low HRO.out ha9 (by have := HLOW.out; (repeat' (first | (with_reducible exact Below.refl _ _) | (with_reducible assumption) | (with_reducible refine below_ext0 ?_ _ _) | (with_reducible refine below_alloc0 ?_ _) | (with_reducible refine Below.ext ?_ ?_ _ _) | (with_reducible refine Below.alloc ?_ ?_ _) | (with_reducible refine Below.setCell ?_ ?_ _) | (with_reducible refine Below.drew ?_) | (with_reducible refine below_draws ?_ _) | go_size | (simp [size_ext]; done) | (simp [size_ext]; omega)))) HB.out (Nat.le_refl _) hsz
        go_roundg (n - (k + 1))
        case measure => omega
        case rel => exact ⟨k + 1, v9, by omega, rfl, rfl, by go_num, by rw [HT.out]; exact row9, hl9⟩
    · have t0 : ¬ (k : Int) < (n : Int) := by omega
      have t1 : decide ((k : Int) < (n : Int)) = false := decide_eq_false t0
      obtain rfl : k = n := by omega
      have ht : zs.take k = zs := List.take_of_length_le (by rw [HR.out.len]; exact Nat.le_refl _)
      have HT := hid ht
      have HW := hid hrow
      clear ht hrow hb hlen
      go_wp2
      go_ret
      exact ⟨AV, cV, rfl, by have := HW.out; rw [HT.out] at this; exact this, HB.out⟩
end Go.Proofs.YtfihedcobopbcaaDoor
/- Rows of the call's own: an element stored in its place, a row cut at its end. -/
namespace Go.Proofs.YtfihedcobopbcaaDoor
open Go.RowKit
set_option linter.unusedVariables false
set_option linter.unusedSimpArgs false

theorem flat_set {α : Type} {k : Nat} {ys : List α} (hy : ys.length = k) : ∀ (vss : List (List α)) (i : Nat), (∀ vs ∈ vss, vs.length = k) → i < vss.length → (vss.set i ys).flatten = vss.flatten.take (i * k) ++ (ys ++ vss.flatten.drop (i * k + k))
  | [], i, _, h => by simp at h
  | v :: vs, 0, hk, _ => by
    have hv : v.length = k := hk v (by simp)
    simp only [List.set_cons_zero, List.flatten_cons, Nat.zero_mul, List.take_zero, List.nil_append, Nat.zero_add]
    rw [List.drop_left' hv]
  | v :: vs, i + 1, hk, h => by
    have hv : v.length = k := hk v (by simp)
    simp only [List.length_cons] at h
    have ih := flat_set hy vs i (fun x hx => hk x (by simp [hx])) (by omega)
    have e : (i + 1) * k = v.length + i * k := by rw [hv, Nat.add_mul, Nat.one_mul, Nat.add_comm]
    simp only [List.set_cons_succ, List.flatten_cons, ih, e]
    rw [List.take_append, List.drop_append]
    have e1 : v.length + i * k - v.length = i * k := by omega
    have e2 : v.length + i * k + k - v.length = i * k + k := by omega
    have t0 : v.take (v.length + i * k) = v := List.take_of_length_le (by omega)
    have d0 : v.drop (v.length + i * k + k) = [] := List.drop_eq_nil_of_le (by omega)
    rw [e1, e2, t0, d0]
    simp
theorem take_mid {α : Type} (L ys : List α) (p k N : Nat) (hy : ys.length = k) (h1 : p + k ≤ N) (h2 : N ≤ L.length) : (L.take p ++ (ys ++ L.drop (p + k))).take N = (L.take N).take p ++ (ys ++ (L.take N).drop (p + k)) := by
  have hp : (L.take p).length = p := by rw [List.length_take]; omega
  have a1 : (L.take p).take N = L.take p := List.take_of_length_le (by omega)
  have a2 : ys.take (N - p) = ys := List.take_of_length_le (by omega)
  have a3 : (L.take N).take p = L.take p := by rw [List.take_take, Nat.min_eq_left (by omega)]
  rw [List.take_append, hp, a1, List.take_append, hy, a2, a3, List.drop_take]
  congr 3
  omega
theorem Blk.setCells {g : Nat} {t : TypeId} : ∀ (vs : List Value) (o : Nat) (w : World) (cur : List Value), Blk w g t cur.toArray → o + vs.length ≤ cur.length → Blk (w.setCells g o vs) g t (cur.take o ++ (vs ++ cur.drop (o + vs.length))).toArray
  | [], o, w, cur, h, hl => by
    have e : cur.take o ++ ([] ++ cur.drop (o + ([] : List Value).length)) = cur := by simp
    rw [e]; exact h
  | v :: vs, o, w, cur, h, hl => by
    simp only [List.length_cons] at hl
    have h1 := h.set o v
    have h2 : Blk (w.setCell ⟨g, o, none⟩ v) g t (cur.set o v).toArray := by simpa using h1
    have h3 := Blk.setCells vs (o + 1) _ _ h2 (by rw [List.length_set]; omega)
    have e : (cur.set o v).take (o + 1) ++ (vs ++ (cur.set o v).drop (o + 1 + vs.length)) = cur.take o ++ (v :: vs ++ cur.drop (o + (v :: vs).length)) := by
      have ho : o < (cur.set o v).length := by rw [List.length_set]; omega
      rw [List.take_succ_eq_append_getElem ho, List.getElem_set_self, List.take_set_of_le (Nat.le_refl _), List.drop_set_of_lt (by omega)]
      simp [Nat.add_assoc, Nat.add_comm]
      omega
    rw [e] at h3
    exact h3
theorem grown_setCells (g o : Nat) (vs : List Value) (w : World) : w.grownBy (w.setCells g o vs) (some g) := by
  have hk := World.keptBut_setCells g (may := fun _ => True) vs o w (fun _ _ => trivial)
  refine ⟨World.os_setCells w g o vs, ?_, World.output_setCells w g o vs, ?_, fun k hk hne => World.heap_setCells_other w g o vs hk (fun e => hne (by rw [e]))⟩
  · induction vs generalizing o w with
    | nil => rfl
    | cons v vs ih => exact (ih (o + 1) (w.setCell ⟨g, o, none⟩ v) (World.keptBut_setCells g (may := fun _ => True) vs (o + 1) _ (fun _ _ => trivial))).trans rfl
  · clear hk
    induction vs generalizing o w with
    | nil => exact Nat.le_refl _
    | cons v vs ih => exact Nat.le_trans (by simp) (ih (o + 1) (w.setCell ⟨g, o, none⟩ v))
section
variable {α : Type} {R : Rep α} {t : TypeId} {w : World} {base g n c : Nat} {l : List α}
theorem FreeB.of_list {K : Value → Prop} {w : World} {g : Nat} {t : TypeId} {cs : List Value} (hb : Blk w g t cs.toArray) (hc : ∀ v ∈ cs, ¬ K v) : FreeB K w g := FreeB.of_blk hb (by simpa using hc)
theorem FreeB.cells {K : Value → Prop} {w : World} {g : Nat} {t : TypeId} {cs : List Value} (hb : Blk w g t cs.toArray) (hf : FreeB K w g) : ∀ v ∈ cs, ¬ K v := by
  intro v hv
  obtain ⟨i, hi, rfl⟩ := List.getElem_of_mem hv
  exact hf i _ (by rw [hb.cell]; simp)
/-- an element stored in its place -/
theorem Row.store (hR : Near IsD R) (h : Row R t w base (.slice (some ⟨g, 0, none⟩) n c) l) (hl : l.length = n) {i : Nat} (hi : i < n) {a : α} {ys : List Value} (ha : R.rel w w.heap.size a ys) (hy : ∀ u ∈ ys, ¬ IsD u) :
    Row R t (w.setCells g (i * R.k) ys) base (.slice (some ⟨g, 0, none⟩) n c) (l.set i a) := by
  subst hl
  obtain ⟨cs, h1, ⟨vss, v1, rfl, v2⟩, h3⟩ := h
  have hyl := R.len ha
  rcases h1.2 with ⟨e, _⟩ | ⟨g', cap', cur, e, hb, hh, hn, hc, hs, ht⟩
  · cases e
  · cases e
    have hk : Blk w g t cur.toList.toArray := by rw [Array.toArray_toList]; exact hh
    have hkk : ∀ vs ∈ vss, vs.length = R.k := by
      intro vs hvs
      obtain ⟨j, hj, rfl⟩ := List.getElem_of_mem hvs
      exact R.len (v2 j (by omega) hj)
    have hlen : cur.toList.length = c * R.k := by simpa using hs
    have hle : l.length * R.k ≤ c * R.k := Nat.mul_le_mul_right _ hn
    have hile : i * R.k + R.k ≤ l.length * R.k := by rw [← Nat.succ_mul]; exact Nat.mul_le_mul_right _ hi
    have hk2 := Blk.setCells ys (i * R.k) w cur.toList hk (by rw [hyl]; omega)
    have hg := grown_setCells g (i * R.k) ys w
    have hnear : NearP IsD w (w.setCells g (i * R.k) ys) := near_grown hg (h3 g rfl)
    have hflat := flat_set hyl vss i hkk (by rw [v1]; exact hi)
    refine ⟨(vss.set i ys).flatten, ⟨?_, .inr ⟨g, c, _, by rw [List.length_set], hb, hk2, by rw [List.length_set]; exact hn, hc, ?_, ?_⟩⟩, ⟨vss.set i ys, by rw [List.length_set, List.length_set, v1], rfl, fun j hj hj' => ?_⟩, fun k e => ?_⟩
    · rw [flat_len (fun vs hvs => by
        rcases List.mem_or_eq_of_mem_set hvs with h | h
        · exact hkk vs h
        · rw [h]; exact hyl), List.length_set, List.length_set, v1]
    · simp only [List.size_toArray, List.length_append, List.length_take, List.length_drop, hyl, hlen]; omega
    · rw [List.length_set, hflat, ← ht, hyl]
      exact take_mid _ _ _ _ _ hyl hile (by omega)
    · rw [List.length_set] at hj
      rw [List.getElem_set, List.getElem_set]
      by_cases e : i = j
      · rw [if_pos e, if_pos e]; exact hR ha hnear
      · rw [if_neg e, if_neg e]; exact hR (v2 j hj (by rw [List.length_set] at hj'; exact hj')) hnear
    · cases e
      refine FreeB.of_list hk2 fun v hv => ?_
      have hfc := FreeB.cells hk (h3 g rfl)
      rcases List.mem_append.1 hv with hv | hv
      · exact hfc v (List.mem_of_mem_take hv)
      · rcases List.mem_append.1 hv with hv | hv
        · exact hy v hv
        · exact hfc v (List.mem_of_mem_drop hv)
/-- a row cut, what is behind it written over -/
theorem Row.cut (hR : Near IsD R) (h : Row R t w base (.slice (some ⟨g, 0, none⟩) n c) l) (hl : l.length = n) {i : Nat} (hi : i ≤ n) {zs : List Value} (hz : zs.length = (n - i) * R.k) (hy : ∀ u ∈ zs, ¬ IsD u) :
    Row R t (w.setCells g (i * R.k) zs) base (.slice (some ⟨g, 0, none⟩) i c) (l.take i) := by
  subst hl
  obtain ⟨cs, h1, ⟨vss, v1, rfl, v2⟩, h3⟩ := h
  rcases h1.2 with ⟨e, _⟩ | ⟨g', cap', cur, e, hb, hh, hn, hc, hs, ht⟩
  · cases e
  · cases e
    have hk : Blk w g t cur.toList.toArray := by rw [Array.toArray_toList]; exact hh
    have hkk : ∀ vs ∈ vss, vs.length = R.k := by
      intro vs hvs
      obtain ⟨j, hj, rfl⟩ := List.getElem_of_mem hvs
      exact R.len (v2 j (by omega) hj)
    have hlen : cur.toList.length = c * R.k := by simpa using hs
    have hle : l.length * R.k ≤ c * R.k := Nat.mul_le_mul_right _ hn
    have hile : i * R.k + (l.length - i) * R.k = l.length * R.k := by rw [← Nat.add_mul]; congr 1; omega
    have hk2 := Blk.setCells zs (i * R.k) w cur.toList hk (by rw [hz]; omega)
    have hg := grown_setCells g (i * R.k) zs w
    have hnear : NearP IsD w (w.setCells g (i * R.k) zs) := near_grown hg (h3 g rfl)
    have hli : (l.take i).length = i := by rw [List.length_take]; omega
    have hfl : (vss.take i).flatten = vss.flatten.take (i * R.k) := by
      have e2 : vss.flatten = (vss.take i).flatten ++ (vss.drop i).flatten := by rw [← List.flatten_append, List.take_append_drop]
      have e3 : (vss.take i).flatten.length = i * R.k := by
        rw [flat_len (fun vs hvs => hkk vs (List.mem_of_mem_take hvs)), List.length_take, v1, Nat.min_eq_left hi]
      rw [e2, List.take_left' e3]
    refine ⟨(vss.take i).flatten, ⟨?_, .inr ⟨g, c, _, by rw [hli], hb, hk2, by omega, hc, ?_, ?_⟩⟩, ⟨vss.take i, by rw [List.length_take, List.length_take, v1], rfl, fun j hj hj' => ?_⟩, fun k e => ?_⟩
    · rw [flat_len (fun vs hvs => hkk vs (List.mem_of_mem_take hvs)), List.length_take, v1, hli, Nat.min_eq_left hi]
    · simp only [List.size_toArray, List.length_append, List.length_take, List.length_drop, hz, hlen]; omega
    · rw [hli, hfl, ← ht]
      simp only []
      rw [List.take_left' (by rw [List.length_take]; omega), List.take_take, Nat.min_eq_left (by omega)]
    · rw [List.getElem_take, List.getElem_take]
      exact hR (v2 j (by rw [List.length_take] at hj; omega) (by rw [List.length_take] at hj'; omega)) hnear
    · cases e
      refine FreeB.of_list hk2 fun v hv => ?_
      have hfc := FreeB.cells hk (h3 g rfl)
      rcases List.mem_append.1 hv with hv | hv
      · exact hfc v (List.mem_of_mem_take hv)
      · rcases List.mem_append.1 hv with hv | hv
        · exact hy v hv
        · exact hfc v (List.mem_of_mem_drop hv)
end
end Go.Proofs.YtfihedcobopbcaaDoor
/- slices.DeleteFunc over records: those that have options are left out. -/
namespace Go.Proofs.YtfihedcobopbcaaDoor
open Go.RowKit
set_option linter.unusedVariables false
set_option linter.unusedSimpArgs false

def silent (l : List RecT) : List RecT := l.filter fun r => !isOpt r
theorem silent_take (l : List RecT) {k : Nat} (hk : k < l.length) : silent (l.take (k + 1)) = silent (l.take k) ++ (if isOpt l[k] then [] else [l[k]]) := by
  unfold silent
  rw [List.take_succ_eq_append_getElem hk, List.filter_append]
  congr 1
  cases h : isOpt l[k] <;> simp [h]
theorem silent_none {l : List RecT} (h : ∀ r ∈ l, isOpt r = false) : silent l = l := by
  unfold silent
  rw [List.filter_eq_self]
  intro r hr
  rw [h r hr]; rfl
theorem silent_len (l : List RecT) : (silent l).length ≤ l.length := List.length_filter_le _ _
abbrev zRec : Array Value := #[.slice none 0 0, .int .i64 0, .int .i64 0, .int .i64 0, .slice none 0 0]
def zRecs (m : Nat) : List Value := (Builtin.zeroCells zRec m).toList
theorem zRecs_len (m : Nat) : (zRecs m).length = m * 5 := by simp [zRecs, Builtin.zeroCells]
theorem zRecs_mem {m : Nat} {u : Value} (h : u ∈ zRecs m) : ¬ IsD u ∧ u.oneCell' = true := by
  have := mem_zero h
  simp at this
  rcases this with rfl | rfl | rfl
  · exact ⟨not_d_slice _ _ _, rfl⟩
  · exact ⟨not_d_int _, rfl⟩
  · exact ⟨not_d_slice _ _ _, rfl⟩
theorem run_clear_rec (w : World) (ty : TypeId) {b o m c : Nat} (hm : 0 < m) (hc : ∀ j, j < m * 5 → (w.cell? ⟨b, o + j, none⟩).isSome = true) (hf : ∀ j, j < m * 5 → w.frozen? ⟨b, o + j, none⟩ = false) :
    (Builtin.clear_ #[26] ty #[.slice (some ⟨b, o, none⟩) m c]).run Tryd.prog w = .ok (.tuple #[]) (w.setCells b o (zRecs m)) := by
  have hv : (zeroValue 67).run Tryd.prog w = .ok (.agg zRec) w := by kernel_rfl
  have hst := run_storeCells_cells (P := Tryd.prog) b o (zRecs m) 0 w (by rw [zRecs_len]; simpa using hc) (by rw [zRecs_len]; simpa using hf) (fun v hv => (zRecs_mem hv).2)
  simp only [Nat.add_zero] at hst
  obtain ⟨m, rfl⟩ : ∃ k, m = k + 1 := ⟨m - 1, by omega⟩
  unfold zRecs at hst ⊢
  simp [Builtin.clear_, run_underlying Tryd.underlying26, hv, Value.cells, hst]
theorem grown_more {w X : World} {r : Option Nat} (h : w.grownBy X r) (o : Obj) (os : Array Obj) (d : Nat) : w.grownBy (ext (X.alloc o) os d) r := h.trans (below_grown (Below.ext ((Below.refl X.heap.size X).alloc (Nat.le_refl _) o) (by simp) os d) r)
/-- how far it has come: i of the elements ahead of place j are kept -/
structure DelI (w0 : World) (base g n c : Nat) (zs : List RecT) (i j : Nat) (w : World) (ls : List RecT) : Prop where
  row : Row recR 67 w base (.slice (some ⟨g, 0, none⟩) n c) ls
  len : ls.length = n
  keep : ls.take i = silent (zs.take j)
  rest : ls.drop j = zs.drop j
  lt : i < j
  le : j ≤ n
  grown : w0.grownBy w (some g)
theorem silent_at {zs ls : List RecT} {i j : Nat} (hk : ls.take i = silent (zs.take j)) (h : i ≤ ls.length) : i = (silent (zs.take j)).length := by
  rw [← hk, List.length_take]; omega
theorem del_keep {zs ls : List RecT} {i j n : Nat} (hl : ls.length = n) (hz : zs.length = n) (hk : ls.take i = silent (zs.take j)) (hr : ls.drop j = zs.drop j) (hij : i < j) (hj : j < n) (ho : isOpt (zs[j]'(by omega)) = false) :
    (ls.set i (zs[j]'(by omega))).take (i + 1) = silent (zs.take (j + 1)) ∧ (ls.set i (zs[j]'(by omega))).drop (j + 1) = zs.drop (j + 1) := by
  constructor
  · rw [silent_take zs (by omega), ho, ← hk, List.take_succ_eq_append_getElem (by rw [List.length_set]; omega), List.getElem_set_self, List.take_set_of_le (Nat.le_refl _)]
    simp
  · rw [List.drop_set_of_lt (by omega), ← List.drop_drop, hr, List.drop_drop]
theorem del_skip {zs ls : List RecT} {i j n : Nat} (hz : zs.length = n) (hk : ls.take i = silent (zs.take j)) (hr : ls.drop j = zs.drop j) (hj : j < n) (ho : isOpt (zs[j]'(by omega)) = true) :
    ls.take i = silent (zs.take (j + 1)) ∧ ls.drop (j + 1) = zs.drop (j + 1) := by
  refine ⟨?_, by rw [← List.drop_drop, hr, List.drop_drop]⟩
  rw [silent_take zs (by omega), ho, hk]; simp
theorem drop_at {zs ls : List RecT} {j : Nat} (h : ls.drop j = zs.drop j) (h1 : j < ls.length) (h2 : j < zs.length) : ls[j] = zs[j] := by
  rw [List.drop_eq_getElem_cons h1, List.drop_eq_getElem_cons h2] at h
  exact (List.cons.inj h).1

set_option maxRecDepth 100000 in
set_option maxHeartbeats 6000000 in
theorem deleteFunc_any {w : World} {base : Nat} {A : Option Addr} {n c : Nat} {zs : List RecT} (hrow : Row recR 67 w base (.slice A n c) zs) (hlen : zs.length = n) (hbase : base ≤ w.heap.size) (hlim : n * 72 ≤ 140737488355328) :
    Calls Tryd.prog 52 #[.slice A n c, .func (Fn.func 46) #[] #[]] w fun e w' => ∃ A' k' c', e = .returned (.slice A' k' c') ∧ (silent zs).length = k' ∧ Row recR 67 w' base (.slice A' k' c') (silent zs) ∧ Below base w w' := by
  subst hlen
  obtain ⟨A', c', e, hR⟩ := hrow.rd hbase (by rw [show recR.bs = 72 from rfl]; exact hlim) (by decide)
  cases e
  have hcap := hR.cap
  have hmax := hR.max
  unfold maxLen at hmax
  have CI := hid (indexFunc_any w A zs.length c zs hR)
  rcases idxO_or zs 0 with ⟨h1, h2⟩ | ⟨k0, hk0, h1, h2, h3⟩
  · rw [h1] at CI
    have HS := hid (silent_none h2)
    have HW := hid hrow
    clear h1 h2 hrow hR
    have tk0 : True := trivial; have tk1 : True := trivial; have tk2 : True := trivial; have tk3 : True := trivial; have tk4 : True := trivial; have tk5 : True := trivial; have tk6 : True := trivial; have tk7 : True := trivial; have tk8 : True := trivial; have tk9 : True := trivial; have tk10 : True := trivial; have tk11 : True := trivial; have tk12 : True := trivial
    go_enter Tryd.func52, Tryd.ntmps52
    go_wp2_with (go_at_call 45; have _t := tk1; (with_reducible refine (CI.out).mono ?_); rintro e w1 ⟨rfl, hb⟩; obtain ⟨otk1, dtk1, rfl⟩ := ext_of_below hb; clear hb tk1)
    go_ret
    exact ⟨A, zs.length, c, rfl, by rw [HS.out], by rw [HS.out]; exact HW.out.below near_rec (by (repeat' (first | (with_reducible exact Below.refl _ _) | (with_reducible assumption) | (with_reducible refine below_ext0 ?_ _ _) | (with_reducible refine below_alloc0 ?_ _) | (with_reducible refine Below.ext ?_ ?_ _ _) | (with_reducible refine Below.alloc ?_ ?_ _) | (with_reducible refine Below.setCell ?_ ?_ _) | (with_reducible refine Below.drew ?_) | (with_reducible refine below_draws ?_ _) | go_size | (simp [size_ext]; done) | (simp [size_ext]; omega)))), (below_ext _ _ _).mono hbase⟩
  · rw [h1] at CI
    obtain ⟨g, o, rfl, hg0⟩ := hR.addr (by omega)
    obtain ⟨cs0, hown, _, _⟩ := hrow.ex
    obtain ⟨rfl, hbg⟩ : o = 0 ∧ base ≤ g := by
      rcases hown.2 with ⟨e, _⟩ | ⟨g', cap', cur, e, hb, _⟩
      · cases e
      · cases e; exact ⟨rfl, hb⟩
    obtain ⟨n, hn⟩ : ∃ n, zs.length = n := ⟨_, rfl⟩
    have hpre : zs.take k0 = silent (zs.take (k0 + 1)) := by
      rw [silent_take zs hk0, h2, silent_none]
      · simp
      · intro r hr
        obtain ⟨j, hj, rfl⟩ := List.getElem_of_mem hr
        rw [List.length_take] at hj
        rw [List.getElem_take]
        exact h3 j (by omega)
    rw [hn] at hrow hlim hcap hk0 CI
    rw [hn]
    have HD : Hid (DelI w base g n c zs k0 (k0 + 1) w zs) := hid ⟨hrow, hn, hpre, rfl, by omega, by omega, grown_refl _ _⟩
    have HN := hid hn
    have e0 : ((0 + k0 : Nat) : Int) = (k0 : Int) := by omega
    rw [e0] at CI
    clear h1 h2 h3 hrow hR hown hpre hn e0
    have s0 : ((k0 : Int) == -1) = false := by first | (simp; done) | (simp; omega)
    have v1 : IntKind.i64.wrap ((k0 : Int) + 1) = (k0 : Int) + 1 := IntWalk.i64_in _ (by omega)
    have tk0 : True := trivial; have tk1 : True := trivial; have tk2 : True := trivial; have tk3 : True := trivial; have tk4 : True := trivial; have tk5 : True := trivial; have tk6 : True := trivial; have tk7 : True := trivial; have tk8 : True := trivial; have tk9 : True := trivial; have tk10 : True := trivial; have tk11 : True := trivial; have tk12 : True := trivial
    go_enter Tryd.func52, Tryd.ntmps52
    go_wp2_with (go_at_call 45; have _t := tk1; (with_reducible refine (CI.out).mono ?_); rintro e w1 ⟨rfl, hb⟩; obtain ⟨otk1, dtk1, rfl⟩ := ext_of_below hb; clear hb tk1)
    go_loopg [5, 6] (n - (k0 + 1)) (fun gk s5 s6 wi => ∃ (i j : Nat) (ls : List RecT), gk = n - j ∧ s5 = .int .i64 (i : Int) ∧ s6 = .int .i64 (j : Int) ∧ DelI w base g n c zs i j wi ls)
    case atStart =>
      have h := HD.out
      exact ⟨k0, k0 + 1, zs, rfl, rfl, by go_num, h.row.below near_rec (below_ext _ _ _), h.len, h.keep, h.rest, h.lt, h.le, below_grown (below_ext _ _ _) _⟩
    case round =>
      obtain ⟨i, j, ls, rfl, rfl, rfl, hd⟩ := hrel
      have HDD := hid hd
      have hij := hd.lt
      have hjn := hd.le
      have hgz := hd.grown.size
      obtain ⟨A2, c2, e2, hR⟩ := hd.row.rd (Nat.le_trans hbase hgz) (by rw [hd.len, show recR.bs = 72 from rfl]; exact hlim) (by decide)
      rw [hd.len] at e2 hR
      cases e2
      have hll := hd.len
      clear hd
      by_cases hlt : j < n
      · obtain ⟨b1, o1, A3, n3, c3, A4, n4, c4, l1, T, C, L, d, ea, hb1, er, x0, x1, x2, x3, x4, r1, hi64, s1⟩ := hR.recd j hlt
        cases ea
        simp only [Nat.zero_add] at x0 x1 x2 x3 x4
        have hz1 : zs[j]'(by rw [HN.out]; exact hlt) = (l1, T, C, L, d, ()) := by rw [← drop_at HDD.out.rest (by rw [hll]; exact hlt) (by rw [HN.out]; exact hlt)]; exact er
        have hio : isOpt (zs[j]'(by rw [HN.out]; exact hlt)) = decide (T = 41) := by unfold isOpt; rw [hz1]
        have CS := hid fun w' => is_any w' (.slice A3 n3 c3) T C L (.slice A4 n4 c4) ⟨_, _, _, rfl⟩ ⟨_, _, _, rfl⟩
        have hrel : ∀ w', Below wr.heap.size wr w' → recR.rel w' w'.heap.size (l1, T, C, L, d, ()) [.slice A3 n3 c3, .int .i64 T, .int .i64 C, .int .i64 L, .slice A4 n4 c4] := fun w' hb => rel_r (r1.later hb) hi64.1 hi64.2.1 hi64.2.2 (s1.later hb)
        have HREL := hid hrel
        have HZ1 := hid hz1
        clear hz1 hrel r1 s1 hi64 er hll
        have t0 : (j : Int) < (n : Int) := by omega
        have t1 : decide ((j : Int) < (n : Int)) = true := decide_eq_true t0
        have t2 : (0 : Int) ≤ (j : Int) := by omega
        have t3 : (0 : Int) ≤ (i : Int) := by omega
        have t4 : (i : Int) < (n : Int) := by omega
        have v3 : IntKind.i64.wrap ((j : Int) + 1) = (j : Int) + 1 := IntWalk.i64_in _ (by omega)
        have v4 : IntKind.i64.wrap ((i : Int) + 1) = (i : Int) + 1 := IntWalk.i64_in _ (by omega)
        have zg : g < wr.heap.size := by omega
        by_cases hT : T = 41
        · rw [decide_eq_true hT] at CS hio
          have HSK := hid (del_skip HN.out HDD.out.keep HDD.out.rest hlt hio)
          clear hio hT hR
          go_wp2_with (go_at_call 46; have _t := tk2; (with_reducible refine (CS.out _).mono ?_); rintro e w1 ⟨rfl, hb⟩; obtain ⟨otk2, dtk2, rfl⟩ := ext_of_below hb; clear hb tk2)
          go_roundg (n - (j + 1))
          case measure => omega
          case rel =>
            have h := HDD.out
            exact ⟨i, j + 1, ls, rfl, rfl, by go_num, h.row.below near_rec (by (repeat' (first | (with_reducible exact Below.refl _ _) | (with_reducible assumption) | (with_reducible refine below_ext0 ?_ _ _) | (with_reducible refine below_alloc0 ?_ _) | (with_reducible refine Below.ext ?_ ?_ _ _) | (with_reducible refine Below.alloc ?_ ?_ _) | (with_reducible refine Below.setCell ?_ ?_ _) | (with_reducible refine Below.drew ?_) | (with_reducible refine below_draws ?_ _) | go_size | (simp [size_ext]; done) | (simp [size_ext]; omega)))), h.len, HSK.out.1, HSK.out.2, by omega, by omega, h.grown.trans (below_grown (by (repeat' (first | (with_reducible exact Below.refl _ _) | (with_reducible assumption) | (with_reducible refine below_ext0 ?_ _ _) | (with_reducible refine below_alloc0 ?_ _) | (with_reducible refine Below.ext ?_ ?_ _ _) | (with_reducible refine Below.alloc ?_ ?_ _) | (with_reducible refine Below.setCell ?_ ?_ _) | (with_reducible refine Below.drew ?_) | (with_reducible refine below_draws ?_ _) | go_size | (simp [size_ext]; done) | (simp [size_ext]; omega)))) _)⟩
        · rw [decide_eq_false hT] at CS hio
          have hkp := del_keep HDD.out.len HN.out HDD.out.keep HDD.out.rest hij hlt hio
          rw [HZ1.out] at hkp
          have HKP := hid hkp
          clear hkp
          clear hio hT
          obtain ⟨b2, o2, A5, n5, c5, A6, n6, c6, l2, T2, C2, L2, d2, ea, hb2, er2, y0, y1, y2, y3, y4, _, _, _⟩ := hR.recd i (by omega)
          cases ea
          simp only [Nat.zero_add] at y0 y1 y2 y3 y4
          obtain ⟨csx, hownx, _, _⟩ := HDD.out.row.ex
          have hfz : ∀ k, wr.frozen? ⟨g, k, none⟩ = false := by
            rcases hownx.2 with ⟨e, _⟩ | ⟨g', cap', cur, e, hb, hh, _⟩
            · cases e
            · cases e
              have hk : Blk wr g 67 cur := hh
              exact hk.frozen
          have f0 := hfz (i * 5)
          have f1 := hfz (i * 5 + 1)
          have f2 := hfz (i * 5 + 2)
          have f3 := hfz (i * 5 + 3)
          have f4 := hfz (i * 5 + 4)
          clear hfz hownx hR er2
          go_wp2_with (go_at_call 46; have _t := tk2; (with_reducible refine (CS.out _).mono ?_); rintro e w1 ⟨rfl, hb⟩; obtain ⟨otk2, dtk2, rfl⟩ := ext_of_below hb; clear hb tk2)
          go_roundg (n - (j + 1))
          case measure => omega
          case rel =>
            have h := HDD.out
            have hst := h.row.store near_rec h.len (i := i) (by omega) (HREL.out _ (Below.refl _ _)) (by simp [not_d_slice, not_d_int])
            rw [show recR.k = 5 from rfl] at hst
            simp only [World.setCells, Nat.add_assoc, Nat.reduceAdd] at hst
            refine ⟨i + 1, j + 1, ls.set i (l1, T, C, L, d, ()), rfl, by go_num, by go_num, hst.below near_rec (by (repeat' (first | (with_reducible exact Below.refl _ _) | (with_reducible assumption) | (with_reducible refine below_ext0 ?_ _ _) | (with_reducible refine below_alloc0 ?_ _) | (with_reducible refine Below.ext ?_ ?_ _ _) | (with_reducible refine Below.alloc ?_ ?_ _) | (with_reducible refine Below.setCell ?_ ?_ _) | (with_reducible refine Below.drew ?_) | (with_reducible refine below_draws ?_ _) | go_size | (simp [size_ext]; done) | (simp [size_ext]; omega)))), by rw [List.length_set]; exact h.len, HKP.out.1, HKP.out.2, by omega, by omega, h.grown.trans (grown_more ?_ _ _ _)⟩
            repeat (first | (with_reducible exact grown_refl _ _) | (with_reducible refine World.grownBy.trans ?_ (grown_set _ _)))
      · obtain rfl : j = n := by omega
        have t0 : ¬ (j : Int) < (j : Int) := by omega
        have t1 : decide ((j : Int) < (j : Int)) = false := decide_eq_false t0
        obtain ⟨csx, hownx, _, _⟩ := HDD.out.row.ex
        have hblk : ∃ cur : Array Value, Blk wr g 67 cur ∧ cur.size = c * 5 := by
          rcases hownx.2 with ⟨e, _⟩ | ⟨g', cap', cur, e, hb, hh, hn2, hc2, hs2, _⟩
          · cases e
          · cases e; exact ⟨cur, hh, hs2⟩
        obtain ⟨cur, hcb, hcs⟩ := hblk
        have hcl := fun ty => run_clear_rec wr ty (b := g) (o := i * 5) (m := j - i) (c := c - i) (by omega) (fun t ht => by rw [hcb.cell, Array.getElem?_eq_getElem (by omega)]; rfl) (fun t ht => hcb.frozen _)
        have hfin : ls.take i = silent zs := by rw [HDD.out.keep, List.take_of_length_le (by rw [HN.out]; exact Nat.le_refl _)]
        have hil : (silent zs).length = i := by rw [← hfin, List.length_take, hll]; omega
        have HFIN := hid (And.intro hfin hil)
        clear hfin hil hR hownx hcb hcs hll
        have u0 : (0 : Int) ≤ (i : Int) := by omega
        have u1 : (i : Int) ≤ (j : Int) := by omega
        have u2 : (i : Int) ≤ (c : Int) := by omega
        have u3 : i ≤ j := by omega
        have u4 : i ≤ c := by omega
        have u5 : ¬ c = i := by omega
        go_wp2
        go_ret
        have h := HDD.out
        have hcut := h.row.cut near_rec h.len (i := i) (by omega) (zs := zRecs (j - i)) (zRecs_len _) (fun u hu => (zRecs_mem hu).1)
        rw [HFIN.out.1] at hcut
        refine ⟨_, i, c, rfl, HFIN.out.2, hcut, ?_⟩
        have hg := h.grown.trans (grown_setCells g (i * 5) (zRecs (j - i)) wr)
        exact (grown_belowB hg (Nat.le_of_lt hg0)).mono hbg
end Go.Proofs.YtfihedcobopbcaaDoor
