/- The document's answer: what bytes are as a message (MessageOf): what its walk rests on. -/
import Derived.Test.YthccknobnpbdeaaDoorK8
import Derived.Test.YthccknobnpbdeaaDoorK11
import Derived.Test.YthccknobnpbdeaaDoorK13
import Derived.Test.YthccknobnpbdeaaDoorK7
import Derived.Laws.IdiomCopy
import Derived.Deep.Upon
import Derived.Test.YthccknobnpbdeaaDoorK6
import Derived.Deep.RegionHeld3
import Derived.Deep.DeepCutAuto
namespace Go.Proofs.YthccknobnpbdeaaDoor
open Go.RowKit
set_option linter.unusedVariables false
set_option linter.unusedSimpArgs false

theorem beqOne {a b : Nat} (h : a = b) : (a == 1) = (b == 1) := by rw [h]
def hdFour (y0 y1 y2 y3 : Nat) : Hd := ⟨y0 * 256 + y1, y2 / 128 % 2 == 1, y2 / 8 % 16, y2 / 4 % 2 == 1, y2 / 2 % 2 == 1, y2 % 2 == 1, y3 / 128 % 2 == 1, y3 / 64 % 2 == 1, y3 / 32 % 2 == 1, y3 / 16 % 2 == 1, y3 % 16⟩
theorem hdFour_eq (y0 y1 y2 y3 : Nat) (h0 : y0 < 256) (h1 : y1 < 256) (h2 : y2 < 256) (h3 : y3 < 256) :
    hdK (bits .or .i64 ((y0 : Int) * 256) (y1 : Int)) (bits .or .i64 ((y2 : Int) * 256) (y3 : Int)) 7 = hdFour y0 y1 y2 y3 := by
  have e0 : bits .or .i64 ((y0 : Int) * 256) (y1 : Int) = ((y0 * 256 + y1 : Nat) : Int) := by
    have := or64 (y0 * 256) y1 (by omega) (by omega)
    rw [or256 y0 y1 h1] at this
    simpa using this
  have e1 : bits .or .i64 ((y2 : Int) * 256) (y3 : Int) = ((y2 * 256 + y3 : Nat) : Int) := by
    have := or64 (y2 * 256) y3 (by omega) (by omega)
    rw [or256 y2 y3 h3] at this
    simpa using this
  rw [e0, e1, hdK_nat _ _ (by omega) (by omega)]
  unfold hdFour
  refine hd_ext ?_ (beqOne ?_) ?_ (beqOne ?_) (beqOne ?_) (beqOne ?_) (beqOne ?_) (beqOne ?_) (beqOne ?_) (beqOne ?_) ?_
  all_goals
    try simp only
    omega
theorem rheadof_rd {w : World} {A : Option Addr} {n c : Nat} {m : List UInt8} (hM : Rd u8R w w.heap.size A n c m) (hn : 4 ≤ n) :
    Calls Tryd.prog 11 #[.slice A n c] w fun e w' => e = .returned (.agg (hdCells (hdOf m))) ∧ Below w.heap.size w w' := by
  obtain ⟨b, o, rfl, lb⟩ := hM.addr (by omega)
  have hm := hM.max
  unfold maxLen at hm
  have key : ∀ i, i < 4 → w.cell? ⟨b, o + i, none⟩ = some (.int .u8 (((m.getD i 0).toNat : Nat) : Int)) := by
    intro i hi
    obtain ⟨x, hx, hc, _, _⟩ := hM.byte i (by omega)
    rw [hx]
    exact hc
  have q := fun (b : UInt8) => b.toNat_lt
  have e : hdOf m = hdFour (m.getD 0 0).toNat (m.getD 1 0).toNat (m.getD 2 0).toNat (m.getD 3 0).toNat := hdFour_eq _ _ _ _ (q _) (q _) (q _) (q _)
  rw [e]
  exact headOf_ok b o n c _ _ _ _ hn hM.cap (by omega) w (key 0 (by omega)) (key 1 (by omega)) (key 2 (by omega)) (key 3 (by omega)) (q _) (q _) (q _) (q _)
theorem rnameAt_ok {w : World} {A : Option Addr} {n c : Nat} {m : List UInt8} (hM : Rd u8R w w.heap.size A n c m) {p q : Nat} (hp : (p : Int) ≤ 9223372036854775807) {l : List ByteArray} (hr : rdN m p = (0, l, (q : Int))) {k : Nat} (hk : l.length = k) {P : Int} (hP : P = (p : Int)) :
    Calls Tryd.prog 13 #[.slice A n c, .int .i64 P] w fun e w' => ∃ A' c', e = .returned (.agg #[.slice A' k c', .int .i64 (q : Int), .int .i64 0]) ∧ Rd strR w' w'.heap.size A' k c' l ∧ Below w.heap.size w w' := by
  subst hP hk
  refine (nameAt_any w A n c m hM (p : Int) hp).mono ?_
  rintro e w' ⟨hb, A', c', he, hr'⟩
  rw [hr] at he hr'
  exact ⟨A', c', he, hr', hb⟩
theorem rnameAt_bad {w : World} {A : Option Addr} {n c : Nat} {m : List UInt8} (hM : Rd u8R w w.heap.size A n c m) {p : Nat} (hp : (p : Int) ≤ 9223372036854775807) {E : Int} (hr : (rdN m p).1 = E) {P : Int} (hP : P = (p : Int)) :
    Calls Tryd.prog 13 #[.slice A n c, .int .i64 P] w fun e w' => ∃ A' n' c' x, e = .returned (.agg #[.slice A' n' c', .int .i64 x, .int .i64 E]) ∧ Below w.heap.size w w' := by
  subst hP
  refine (nameAt_any w A n c m hM (p : Int) hp).mono ?_
  rintro e w' ⟨hb, A', c', he, hr'⟩
  rw [hr] at he
  exact ⟨A', _, c', _, he, hb⟩
/-- what MessageOf hands back -/
def MoO (w : World) (m : List UInt8) (e : Ending) (w' : World) : Prop :=
  ∃ (Aq Ax Ay Az : Option Addr) (nq cq nx cx ny cy nz cz : Nat), e = .returned (.tuple #[.agg (msgC (if (rdM m).1 = 0 then hdOf m else hd0) (.slice Aq nq cq) (.slice Ax nx cx) (.slice Ay ny cy) (.slice Az nz cz)), .int .i64 (rdM m).1]) ∧
    Rd qR w' w'.heap.size Aq nq cq (rdM m).2.1 ∧ Rd recR w' w'.heap.size Ax nx cx (rdM m).2.2.1 ∧ Rd recR w' w'.heap.size Ay ny cy (rdM m).2.2.2.1 ∧ Rd recR w' w'.heap.size Az nz cz (rdM m).2.2.2.2 ∧ Below w.heap.size w w'
theorem moO_bad {w w' : World} {m : List UInt8} {k : Int} (h : rdM m = (k, [], [], [], [])) (hk : k ≠ 0) (hb : Below w.heap.size w w') : MoO w m (.returned (.tuple #[.agg (msgC hd0 (.slice none 0 0) (.slice none 0 0) (.slice none 0 0) (.slice none 0 0)), .int .i64 k])) w' := by
  refine ⟨none, none, none, none, 0, 0, 0, 0, 0, 0, 0, 0, ?_, ?_, ?_, ?_, ?_, hb⟩
  · rw [h, if_neg hk]
  all_goals (rw [h]; exact rd_nil _ _)
theorem moO_ok {w w2 w' : World} {m : List UInt8} {hh : Hd} {qs : List QT} {xs ys zs : List RecT} {AV A0 A1 A2 : Option Addr} {cV n0 c0 n1 c1 n2 c2 base : Nat} {T tq tr : TypeId} (h : rdM m = (0, qs, xs, ys, zs)) (hhe : hdOf m = hh) (hg : w2.grownBy w' (some w.heap.size)) (hk : Blk w2 w.heap.size T (msgC hd0 (.slice none 0 0) (.slice none 0 0) (.slice none 0 0) (.slice none 0 0)))
    (hq : Row qR tq w2 base (.slice AV qs.length cV) qs) (hx : Row recR tr w2 base (.slice A0 n0 c0) xs) (e0 : xs.length = n0) (hy : Row recR tr w2 base (.slice A1 n1 c1) ys) (e1 : ys.length = n1) (hz : Row recR tr w2 base (.slice A2 n2 c2) zs) (e2 : zs.length = n2)
    (lq : qs.length ≤ 65535) (l0 : n0 ≤ 65535) (l1 : n1 ≤ 65535) (l2 : n2 ≤ 65535) (hlow : Below w.heap.size w w2) (hbase : w.heap.size < base) (hb : base ≤ w2.heap.size) :
    MoO w m (.returned (.tuple #[.agg (msgC hh (.slice AV qs.length cV) (.slice A0 n0 c0) (.slice A1 n1 c1) (.slice A2 n2 c2)), .int .i64 0])) w' := by
  subst e0 e1 e2 hhe
  have hf : FreeB IsD w2 w.heap.size := FreeB.grown_msg hk (not_d_slice _ _ _) (not_d_slice _ _ _) (not_d_slice _ _ _) (not_d_slice _ _ _)
  have hb' : base ≤ w'.heap.size := Nat.le_trans hb hg.size
  obtain ⟨_, _, eq, rq⟩ := (hq.grown near_q hg hf (by omega)).rd hb' (by simp only [show qR.bs = 40 from rfl]; omega) (by decide)
  obtain ⟨_, _, ex, rx⟩ := (hx.grown near_rec hg hf (by omega)).rd hb' (by simp only [show recR.bs = 72 from rfl]; omega) (by decide)
  obtain ⟨_, _, ey, ry⟩ := (hy.grown near_rec hg hf (by omega)).rd hb' (by simp only [show recR.bs = 72 from rfl]; omega) (by decide)
  obtain ⟨_, _, ez, rz⟩ := (hz.grown near_rec hg hf (by omega)).rd hb' (by simp only [show recR.bs = 72 from rfl]; omega) (by decide)
  cases eq
  cases ex
  cases ey
  cases ez
  refine ⟨AV, A0, A1, A2, qs.length, cV, xs.length, c0, ys.length, c1, zs.length, c2, ?_, ?_, ?_, ?_, ?_, hlow.trans ((grown_belowB hg (by omega)).mono (Nat.le_refl _))⟩
  · rw [h, if_pos rfl]
  all_goals (rw [h]; assumption)
theorem res_mo {tmps : Array Value} {W : World} {r : Nat} {T : TypeId} {h : Hd} {Q X Y Z ev : Value} (h2 : tmps[2]? = some (.pointer (some ⟨r, 0, none⟩))) (h3 : tmps[3]? = some ev) (hB : Blk W r T (msgC h Q X Y Z)) :
    (results Tryd.f4 tmps).run Tryd.prog W = .ok (.tuple #[.agg (msgC h Q X Y Z), ev]) W := by
  have k0 : (W).cell? ⟨r, 0, none⟩ = some (.int .i64 h.id) := (hB).cell 0; have k1 : (W).cell? ⟨r, 1, none⟩ = some (.bool h.an) := (hB).cell 1; have k2 : (W).cell? ⟨r, 2, none⟩ = some (.int .i64 h.op) := (hB).cell 2; have k3 : (W).cell? ⟨r, 3, none⟩ = some (.bool h.aa) := (hB).cell 3; have k4 : (W).cell? ⟨r, 4, none⟩ = some (.bool h.tc) := (hB).cell 4; have k5 : (W).cell? ⟨r, 5, none⟩ = some (.bool h.rd) := (hB).cell 5; have k6 : (W).cell? ⟨r, 6, none⟩ = some (.bool h.ra) := (hB).cell 6; have k7 : (W).cell? ⟨r, 7, none⟩ = some (.bool h.z) := (hB).cell 7; have k8 : (W).cell? ⟨r, 8, none⟩ = some (.bool h.ad) := (hB).cell 8; have k9 : (W).cell? ⟨r, 9, none⟩ = some (.bool h.cd) := (hB).cell 9; have k10 : (W).cell? ⟨r, 10, none⟩ = some (.int .i64 h.code) := (hB).cell 10; have k11 : (W).cell? ⟨r, 11, none⟩ = some (Q) := (hB).cell 11; have k12 : (W).cell? ⟨r, 12, none⟩ = some (X) := (hB).cell 12; have k13 : (W).cell? ⟨r, 13, none⟩ = some (Y) := (hB).cell 13; have k14 : (W).cell? ⟨r, 14, none⟩ = some (Z) := (hB).cell 14
  simp [results, Tryd.results4, go_sem, h2, h3, k0, k1, k2, k3, k4, k5, k6, k7, k8, k9, k10, k11, k12, k13, k14]
end Go.Proofs.YthccknobnpbdeaaDoor
/- Rows of the call's own: an element stored in its place, a row cut at its end. -/
namespace Go.Proofs.YthccknobnpbdeaaDoor
open Go.RowKit
set_option linter.unusedVariables false
set_option linter.unusedSimpArgs false

theorem flat_set {α : Type} {k : Nat} {ys : List α} (hy : ys.length = k) : ∀ (vss : List (List α)) (i : Nat), (∀ vs ∈ vss, vs.length = k) → i < vss.length → (vss.set i ys).flatten = vss.flatten.take (i * k) ++ (ys ++ vss.flatten.drop (i * k + k))
  | [], i, _, h => by simp at h
  | v :: vs, 0, hk, _ => by
    have hv : v.length = k := hk v (by simp)
    simp only [List.set_cons_zero, List.flatten_cons, Nat.zero_mul, List.take_zero, List.nil_append, Nat.zero_add]
    rw [List.drop_left' hv]
  | v :: vs, i + 1, hk, h => by
    have hv : v.length = k := hk v (by simp)
    simp only [List.length_cons] at h
    have ih := flat_set hy vs i (fun x hx => hk x (by simp [hx])) (by omega)
    have e : (i + 1) * k = v.length + i * k := by rw [hv, Nat.add_mul, Nat.one_mul, Nat.add_comm]
    simp only [List.set_cons_succ, List.flatten_cons, ih, e]
    rw [List.take_append, List.drop_append]
    have e1 : v.length + i * k - v.length = i * k := by omega
    have e2 : v.length + i * k + k - v.length = i * k + k := by omega
    have t0 : v.take (v.length + i * k) = v := List.take_of_length_le (by omega)
    have d0 : v.drop (v.length + i * k + k) = [] := List.drop_eq_nil_of_le (by omega)
    rw [e1, e2, t0, d0]
    simp
theorem take_mid {α : Type} (L ys : List α) (p k N : Nat) (hy : ys.length = k) (h1 : p + k ≤ N) (h2 : N ≤ L.length) : (L.take p ++ (ys ++ L.drop (p + k))).take N = (L.take N).take p ++ (ys ++ (L.take N).drop (p + k)) := by
  have hp : (L.take p).length = p := by rw [List.length_take]; omega
  have a1 : (L.take p).take N = L.take p := List.take_of_length_le (by omega)
  have a2 : ys.take (N - p) = ys := List.take_of_length_le (by omega)
  have a3 : (L.take N).take p = L.take p := by rw [List.take_take, Nat.min_eq_left (by omega)]
  rw [List.take_append, hp, a1, List.take_append, hy, a2, a3, List.drop_take]
  congr 3
  omega
theorem Blk.setCells {g : Nat} {t : TypeId} : ∀ (vs : List Value) (o : Nat) (w : World) (cur : List Value), Blk w g t cur.toArray → o + vs.length ≤ cur.length → Blk (w.setCells g o vs) g t (cur.take o ++ (vs ++ cur.drop (o + vs.length))).toArray
  | [], o, w, cur, h, hl => by
    have e : cur.take o ++ ([] ++ cur.drop (o + ([] : List Value).length)) = cur := by simp
    rw [e]; exact h
  | v :: vs, o, w, cur, h, hl => by
    simp only [List.length_cons] at hl
    have h1 := h.set o v
    have h2 : Blk (w.setCell ⟨g, o, none⟩ v) g t (cur.set o v).toArray := by simpa using h1
    have h3 := Blk.setCells vs (o + 1) _ _ h2 (by rw [List.length_set]; omega)
    have e : (cur.set o v).take (o + 1) ++ (vs ++ (cur.set o v).drop (o + 1 + vs.length)) = cur.take o ++ (v :: vs ++ cur.drop (o + (v :: vs).length)) := by
      have ho : o < (cur.set o v).length := by rw [List.length_set]; omega
      rw [List.take_succ_eq_append_getElem ho, List.getElem_set_self, List.take_set_of_le (Nat.le_refl _), List.drop_set_of_lt (by omega)]
      simp [Nat.add_assoc, Nat.add_comm]
      omega
    rw [e] at h3
    exact h3
theorem grown_setCells (g o : Nat) (vs : List Value) (w : World) : w.grownBy (w.setCells g o vs) (some g) := by
  have hk := World.keptBut_setCells g (may := fun _ => True) vs o w (fun _ _ => trivial)
  refine ⟨World.os_setCells w g o vs, ?_, World.output_setCells w g o vs, ?_, fun k hk hne => World.heap_setCells_other w g o vs hk (fun e => hne (by rw [e]))⟩
  · induction vs generalizing o w with
    | nil => rfl
    | cons v vs ih => exact (ih (o + 1) (w.setCell ⟨g, o, none⟩ v) (World.keptBut_setCells g (may := fun _ => True) vs (o + 1) _ (fun _ _ => trivial))).trans rfl
  · clear hk
    induction vs generalizing o w with
    | nil => exact Nat.le_refl _
    | cons v vs ih => exact Nat.le_trans (by simp) (ih (o + 1) (w.setCell ⟨g, o, none⟩ v))
section
variable {α : Type} {R : Rep α} {t : TypeId} {w : World} {base g n c : Nat} {l : List α}
theorem FreeB.of_list {K : Value → Prop} {w : World} {g : Nat} {t : TypeId} {cs : List Value} (hb : Blk w g t cs.toArray) (hc : ∀ v ∈ cs, ¬ K v) : FreeB K w g := FreeB.of_blk hb (by simpa using hc)
theorem FreeB.cells {K : Value → Prop} {w : World} {g : Nat} {t : TypeId} {cs : List Value} (hb : Blk w g t cs.toArray) (hf : FreeB K w g) : ∀ v ∈ cs, ¬ K v := by
  intro v hv
  obtain ⟨i, hi, rfl⟩ := List.getElem_of_mem hv
  exact hf i _ (by rw [hb.cell]; simp)
/-- an element stored in its place -/
theorem Row.store (hR : Near IsD R) (h : Row R t w base (.slice (some ⟨g, 0, none⟩) n c) l) (hl : l.length = n) {i : Nat} (hi : i < n) {a : α} {ys : List Value} (ha : R.rel w w.heap.size a ys) (hy : ∀ u ∈ ys, ¬ IsD u) :
    Row R t (w.setCells g (i * R.k) ys) base (.slice (some ⟨g, 0, none⟩) n c) (l.set i a) := by
  subst hl
  obtain ⟨cs, h1, ⟨vss, v1, rfl, v2⟩, h3⟩ := h
  have hyl := R.len ha
  rcases h1.2 with ⟨e, _⟩ | ⟨g', cap', cur, e, hb, hh, hn, hc, hs, ht⟩
  · cases e
  · cases e
    have hk : Blk w g t cur.toList.toArray := by rw [Array.toArray_toList]; exact hh
    have hkk : ∀ vs ∈ vss, vs.length = R.k := by
      intro vs hvs
      obtain ⟨j, hj, rfl⟩ := List.getElem_of_mem hvs
      exact R.len (v2 j (by omega) hj)
    have hlen : cur.toList.length = c * R.k := by simpa using hs
    have hle : l.length * R.k ≤ c * R.k := Nat.mul_le_mul_right _ hn
    have hile : i * R.k + R.k ≤ l.length * R.k := by rw [← Nat.succ_mul]; exact Nat.mul_le_mul_right _ hi
    have hk2 := Blk.setCells ys (i * R.k) w cur.toList hk (by rw [hyl]; omega)
    have hg := grown_setCells g (i * R.k) ys w
    have hnear : NearP IsD w (w.setCells g (i * R.k) ys) := near_grown hg (h3 g rfl)
    have hflat := flat_set hyl vss i hkk (by rw [v1]; exact hi)
    refine ⟨(vss.set i ys).flatten, ⟨?_, .inr ⟨g, c, _, by rw [List.length_set], hb, hk2, by rw [List.length_set]; exact hn, hc, ?_, ?_⟩⟩, ⟨vss.set i ys, by rw [List.length_set, List.length_set, v1], rfl, fun j hj hj' => ?_⟩, fun k e => ?_⟩
    · rw [flat_len (fun vs hvs => by
        rcases List.mem_or_eq_of_mem_set hvs with h | h
        · exact hkk vs h
        · rw [h]; exact hyl), List.length_set, List.length_set, v1]
    · simp only [List.size_toArray, List.length_append, List.length_take, List.length_drop, hyl, hlen]; omega
    · rw [List.length_set, hflat, ← ht, hyl]
      exact take_mid _ _ _ _ _ hyl hile (by omega)
    · rw [List.length_set] at hj
      rw [List.getElem_set, List.getElem_set]
      by_cases e : i = j
      · rw [if_pos e, if_pos e]; exact hR ha hnear
      · rw [if_neg e, if_neg e]; exact hR (v2 j hj (by rw [List.length_set] at hj'; exact hj')) hnear
    · cases e
      refine FreeB.of_list hk2 fun v hv => ?_
      have hfc := FreeB.cells hk (h3 g rfl)
      rcases List.mem_append.1 hv with hv | hv
      · exact hfc v (List.mem_of_mem_take hv)
      · rcases List.mem_append.1 hv with hv | hv
        · exact hy v hv
        · exact hfc v (List.mem_of_mem_drop hv)
/-- a row cut, what is behind it written over -/
theorem Row.cut (hR : Near IsD R) (h : Row R t w base (.slice (some ⟨g, 0, none⟩) n c) l) (hl : l.length = n) {i : Nat} (hi : i ≤ n) {zs : List Value} (hz : zs.length = (n - i) * R.k) (hy : ∀ u ∈ zs, ¬ IsD u) :
    Row R t (w.setCells g (i * R.k) zs) base (.slice (some ⟨g, 0, none⟩) i c) (l.take i) := by
  subst hl
  obtain ⟨cs, h1, ⟨vss, v1, rfl, v2⟩, h3⟩ := h
  rcases h1.2 with ⟨e, _⟩ | ⟨g', cap', cur, e, hb, hh, hn, hc, hs, ht⟩
  · cases e
  · cases e
    have hk : Blk w g t cur.toList.toArray := by rw [Array.toArray_toList]; exact hh
    have hkk : ∀ vs ∈ vss, vs.length = R.k := by
      intro vs hvs
      obtain ⟨j, hj, rfl⟩ := List.getElem_of_mem hvs
      exact R.len (v2 j (by omega) hj)
    have hlen : cur.toList.length = c * R.k := by simpa using hs
    have hle : l.length * R.k ≤ c * R.k := Nat.mul_le_mul_right _ hn
    have hile : i * R.k + (l.length - i) * R.k = l.length * R.k := by rw [← Nat.add_mul]; congr 1; omega
    have hk2 := Blk.setCells zs (i * R.k) w cur.toList hk (by rw [hz]; omega)
    have hg := grown_setCells g (i * R.k) zs w
    have hnear : NearP IsD w (w.setCells g (i * R.k) zs) := near_grown hg (h3 g rfl)
    have hli : (l.take i).length = i := by rw [List.length_take]; omega
    have hfl : (vss.take i).flatten = vss.flatten.take (i * R.k) := by
      have e2 : vss.flatten = (vss.take i).flatten ++ (vss.drop i).flatten := by rw [← List.flatten_append, List.take_append_drop]
      have e3 : (vss.take i).flatten.length = i * R.k := by
        rw [flat_len (fun vs hvs => hkk vs (List.mem_of_mem_take hvs)), List.length_take, v1, Nat.min_eq_left hi]
      rw [e2, List.take_left' e3]
    refine ⟨(vss.take i).flatten, ⟨?_, .inr ⟨g, c, _, by rw [hli], hb, hk2, by omega, hc, ?_, ?_⟩⟩, ⟨vss.take i, by rw [List.length_take, List.length_take, v1], rfl, fun j hj hj' => ?_⟩, fun k e => ?_⟩
    · rw [flat_len (fun vs hvs => hkk vs (List.mem_of_mem_take hvs)), List.length_take, v1, hli, Nat.min_eq_left hi]
    · simp only [List.size_toArray, List.length_append, List.length_take, List.length_drop, hz, hlen]; omega
    · rw [hli, hfl, ← ht]
      simp only []
      rw [List.take_left' (by rw [List.length_take]; omega), List.take_take, Nat.min_eq_left (by omega)]
    · rw [List.getElem_take, List.getElem_take]
      exact hR (v2 j (by rw [List.length_take] at hj; omega) (by rw [List.length_take] at hj'; omega)) hnear
    · cases e
      refine FreeB.of_list hk2 fun v hv => ?_
      have hfc := FreeB.cells hk (h3 g rfl)
      rcases List.mem_append.1 hv with hv | hv
      · exact hfc v (List.mem_of_mem_take hv)
      · rcases List.mem_append.1 hv with hv | hv
        · exact hy v hv
        · exact hfc v (List.mem_of_mem_drop hv)
end
end Go.Proofs.YthccknobnpbdeaaDoor
/- A whole value stored into a block of the call's own, in one step of a walk. -/
namespace Go.Proofs.YthccknobnpbdeaaDoor
open Go.RowKit
set_option linter.unusedVariables false
set_option linter.unusedSimpArgs false

theorem heap_setRow_self {w : World} {g : Nat} {t : TypeId} {c : Array Value} (h : Blk w g t c) (c' : Array Value) : Blk (w.setRow g c') g t c' := by
  unfold Blk at h ⊢
  simp [World.setRow, h, Array.getElem?_modify]
theorem heap_setRow_other (w : World) {g k : Nat} (c' : Array Value) (h : k ≠ g) : (w.setRow g c').heap[k]? = w.heap[k]? := by
  simp [World.setRow, Array.getElem?_modify, Ne.symm h]
theorem grown_setRow (w : World) (g : Nat) (c' : Array Value) : w.grownBy (w.setRow g c') (some g) :=
  ⟨rfl, rfl, rfl, by simp, fun k _ hk => heap_setRow_other w c' (fun e => hk (by rw [e]))⟩
theorem Blk.other {w w' : World} {g k : Nat} {t : TypeId} {c : Array Value} (h : Blk w k t c) (hg : w.grownBy w' (some g)) (hk : k ≠ g) : Blk w' k t c :=
  (hg.block k h.lt (by simpa using hk)).trans h
theorem wpList_store_blk {ops : Array Oper} {rest : List Oper} {o : Oper} {a : Act} {w : World} {Q : Exit → Act → World → Prop} (hgd : o.guard = none) (ty : TypeId) (x y : Operand) (ho : o.op = .store ty x y) (g : Nat) (c' : Array Value) (hx : a.eval x = .pointer (some ⟨g, 0, none⟩)) (hy : a.eval y = .agg c')
    {t : TypeId} {c : Array Value} (hb : Blk w g t c) (hi : (Tryd.prog.info? ty).map (·.size) = some c'.size) (hs : c.size = c'.size) (h1 : c'.all (·.oneCell') = true)
    (h : ∀ w', Blk w' g t c' → w.grownBy w' (some g) → wpList Tryd.prog ops Q rest (a.put o.dst undef) w') : wpList Tryd.prog ops Q (o :: rest) a w :=
  wpList_store_row hgd ty x y ho g c' hx hy t c hb hi hs h1 (h _ (heap_setRow_self hb c') (grown_setRow w g c'))
theorem step_store_blk {ops : Array Oper} {o : Oper} {a : Act} {w : World} {Q : Exit → Act → World → Prop} {K : Act → World → Prop} {F : Prop} (hgd : o.guard = none) (ty : TypeId) (x y : Operand) (ho : o.op = .store ty x y) (g : Nat) (c' : Array Value) (hx : a.eval x = .pointer (some ⟨g, 0, none⟩)) (hy : a.eval y = .agg c')
    {t : TypeId} {c : Array Value} (hb : Blk w g t c) (hi : (Tryd.prog.info? ty).map (·.size) = some c'.size) (hs : c.size = c'.size) (h1 : c'.all (·.oneCell') = true)
    (h : ∀ w', Blk w' g t c' → w.grownBy w' (some g) → K (a.put o.dst undef) w') :
    if Region.wanted o (yielded ops a.tmps) = true then Oper.wp Tryd.prog o a w K Q else F := by
  have hw : Region.wanted o (yielded ops a.tmps) = true := by simp [Region.wanted, hgd]
  rw [if_pos hw]
  exact wp_store_row ty x y ho g c' hx hy t c hb hi hs h1 (h _ (heap_setRow_self hb c') (grown_setRow w g c'))
set_option maxRecDepth 100000 in
theorem info_message : (Tryd.prog.info? 28).map (·.size) = some 15 := by first | rfl | kernel_rfl | decide
end Go.Proofs.YthccknobnpbdeaaDoor
/- edns: is a record the one that has options; where the first such one stands. -/
namespace Go.Proofs.YthccknobnpbdeaaDoor
open Go.RowKit
set_option linter.unusedVariables false
set_option linter.unusedSimpArgs false

def isOpt (r : RecT) : Bool := decide (r.2.1 = 41)
/-- the first one's place -/
def idxO : List RecT → Nat → Int
  | [], _ => -1
  | r :: rs, k => if isOpt r then (k : Int) else idxO rs (k + 1)
theorem idxO_or (l : List RecT) : ∀ k, (idxO l k = -1 ∧ ∀ r ∈ l, isOpt r = false) ∨ ∃ i, ∃ h : i < l.length, idxO l k = ((k + i : Nat) : Int) ∧ isOpt l[i] = true ∧ ∀ j, ∀ hj : j < i, isOpt (l[j]'(by omega)) = false := by
  induction l with
  | nil => intro k; exact .inl ⟨rfl, fun r hr => by cases hr⟩
  | cons r l ih =>
    intro k
    rw [idxO]
    by_cases h : isOpt r = true
    · rw [if_pos h]
      exact .inr ⟨0, by simp, by simp, by simpa using h, fun j hj => by omega⟩
    · rw [if_neg h]
      have h' : isOpt r = false := by simpa using h
      rcases ih (k + 1) with ⟨h1, h2⟩ | ⟨i, hi, h1, h2, h3⟩
      · refine .inl ⟨h1, fun x hx => ?_⟩
        rcases List.mem_cons.1 hx with hx | hx
        · rw [hx]; exact h'
        · exact h2 x hx
      · refine .inr ⟨i + 1, by simp; omega, by rw [h1]; congr 1; omega, by simpa using h2, fun j hj => ?_⟩
        cases j with
        | zero => simpa using h'
        | succ j => simpa using h3 j (by omega)
theorem idxO_drop (l : List RecT) (k : Nat) : k ≤ l.length → (∀ j, ∀ hj : j < k, ∀ h : j < l.length, isOpt l[j] = false) → idxO l 0 = idxO (l.drop k) k := by
  induction k with
  | zero => intro _ _; rfl
  | succ k ih =>
    intro hk h
    rw [ih (by omega) (fun j hj hl => h j (by omega) hl)]
    have hk' : k < l.length := by omega
    rw [List.drop_eq_getElem_cons hk', idxO, if_neg (by rw [h k (by omega) hk']; simp)]

end Go.Proofs.YthccknobnpbdeaaDoor
/- edns: records copied, that share nothing. -/
namespace Go.Proofs.YthccknobnpbdeaaDoor
open Go.RowKit
set_option linter.unusedVariables false
set_option linter.unusedSimpArgs false

/-- one element more onto a row that was met in an earlier world, in a plain region -/
theorem wpList_row {α : Type} {P : Program} {R : Rep α} (hR : Near IsD R) {t e : TypeId} {bytes : Nat} (E : El P t e R.k bytes) (hz : ∀ z, (P.info? e).bind (·.zero) = some z → ∀ u ∈ z.cells.toList, ¬ IsD u) {wr w : World} {base : Nat} {V : Value} {l : List α} {cs : List Value} (ho : wr.ownsRow base e R.k V l.length cs) (hr : Rels R wr wr.heap.size l cs) (hf : FreeV IsD wr V)
    {ops : Array Oper} {rest : List Oper} {o : Oper} {a : Act} {Q : Exit → Act → World → Prop} (a' : α) (ys : List Value) (hgd : o.guard = none) (s x : Operand) (hop : o.op = .call { callee := .builtin .append, args := #[s, x], argTypes := #[t, t] }) {A : Option Addr} {c : Nat} (hs : a.eval s = V) (hx : a.eval x = .slice A 1 c)
    (hb : Below wr.heap.size wr w) (hsrc : Src w A 1 c R.k ys) (hrel : R.rel w w.heap.size a' ys) (hy : ∀ u ∈ ys, ¬ IsD u) (hbytes : (l.length + 1) * bytes ≤ 140737488355328) (h63 : l.length + 1 ≤ maxLen) (hbase : base ≤ wr.heap.size)
    (h : ∀ v' w', Row R e w' base v' (l ++ [a']) → AppTo w w' V v' → wpList P ops Q rest (a.put o.dst v') w') : wpList P ops Q (o :: rest) a w :=
  wpList_appF (K := IsD) hgd s x t hop base e R.k bytes E hz V l.length cs hs (own_low ho hb (Nat.le_refl _)) (hf.below ho hb) A 1 c ys hx hsrc hy hbytes h63 (Nat.le_trans hbase hb.size) fun v' w' h1 h2 h3 => h v' w' (app_row h2 h3 hR ho hr hf hb h1 hrel) h2
theorem rd_own_str {w : World} {base n c : Nat} {A : Option Addr} {l : List ByteArray} (h : w.ownsRow base 9 1 (.slice A n c) n (strsV l)) (hs : ∀ s ∈ l, s.size ≤ 140737488355328) (hb : base ≤ w.heap.size) (hn : n * 16 ≤ 140737488355328) : Rd strR w w.heap.size A n c l := by
  obtain ⟨A', c', e, hr⟩ := own_rd_str h hs hb hn
  cases e
  exact hr
theorem rd_own_u8 {w : World} {base n c : Nat} {A : Option Addr} {l : List UInt8} (h : w.ownsRow base 5 1 (.slice A n c) n (bytesV l)) (hb : base ≤ w.heap.size) (hn : n ≤ 140737488355328) : Rd u8R w w.heap.size A n c l := by
  obtain ⟨A', c', e, hr⟩ := own_rd_u8 h hb hn
  cases e
  exact hr
theorem Rd.strs {w : World} {B n c : Nat} {A : Option Addr} {l : List ByteArray} (h : Rd strR w B A n c l) : ∀ s ∈ l, s.size ≤ 140737488355328 := by
  intro s hs
  obtain ⟨i, hi, rfl⟩ := List.getElem_of_mem hs
  obtain ⟨b, o, vs, e, hb, hr, hc⟩ := h.at_ i hi
  exact hr.2

end Go.Proofs.YthccknobnpbdeaaDoor
