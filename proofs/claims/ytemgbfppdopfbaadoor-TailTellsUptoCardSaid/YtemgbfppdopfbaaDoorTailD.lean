/- The document's answers on ends of names: Ends, Last; Len. -/
import Derived.Test.YtemgbfppdopfbaaDoorTailC
import Derived.Test.YtemgbfppdopfbaaDoorNameRefB
import Derived.Test.YtemgbfppdopfbaaDoorOwnRow
namespace Go.Proofs.YtemgbfppdopfbaaDoor
open Go.RowKit
set_option linter.unusedVariables false
set_option linter.unusedSimpArgs false

abbrev endR : Rep EndT := pairR (sliceR strR) (pairR intR unitR)
theorem el_e : El Tryd.prog 38 41 2 32 := el_of (z := .agg #[.slice none 0 0, .int .i64 0]) Tryd.underlying38 (by kernel_rfl) rfl (by decide)
theorem rel_e {w : World} {B : Nat} {A : Option Addr} {n c : Nat} {l : List ByteArray} {v : Int} (h : Rd strR w B A n c l) (hv : I64 v) : endR.rel w B (l, v, ()) [.slice A n c, .int .i64 v] :=
  ⟨[.slice A n c], [.int .i64 v], rfl, ⟨A, n, c, rfl, h⟩, [.int .i64 v], [], rfl, ⟨rfl, hv⟩, rfl⟩
/-- one of a row of them -/
theorem Rd.end_ {w : World} {B n c : Nat} {A : Option Addr} {l : List EndT} (h : Rd endR w B A n c l) (i : Nat) (hi : i < n) :
    ∃ b o A' n' c', A = some ⟨b, o, none⟩ ∧ b < B ∧ w.cell? ⟨b, o + i * 2, none⟩ = some (.slice A' n' c') ∧ w.cell? ⟨b, o + i * 2 + 1, none⟩ = some (.int .i64 (l.getD i ([], 0, ())).2.1) ∧ Rd strR w B A' n' c' (l.getD i ([], 0, ())).1 ∧ I64 (l.getD i ([], 0, ())).2.1 := by
  have hi' : i < l.length := by rw [h.len]; exact hi
  obtain ⟨b, o, vs, e, hb, hr, hc⟩ := h.at_ i hi'
  obtain ⟨_, _, rfl, ⟨A', n', c', rfl, h1⟩, _, _, rfl, ⟨rfl, h2⟩, rfl⟩ := hr
  rw [List.getD_eq_getElem?_getD, List.getElem?_eq_getElem hi']
  have c0 := hc 0 _ rfl
  have c1 := hc 1 _ rfl
  have hk : endR.k = 2 := rfl
  rw [hk] at c0 c1
  exact ⟨b, o, A', n', c', e, hb, by simpa using c0, c1, h1, h2⟩

theorem tlen_any {w : World} {g b : Nat} {es : List EndT} (h : TailS w g b es) : Calls Tryd.prog 16 #[.pointer (some ⟨g, 0, none⟩)] w fun e w' => e = .returned (.int .i64 (endsK es es.length : Int)) ∧ w' = w := by
  have hrun := h.map.len (t := 71) Tryd.underlying71 3
  rw [mapT_size es h.sh] at hrun
  have cg := h.cell
  generalize endsK es es.length = K at *
  clear h
  go_enter Tryd.func16, Tryd.ntmps16
  go_wp2
  go_ret
  exact ⟨rfl, rfl⟩

def freshJ (es : List EndT) (i j : Nat) : Bool := (List.range j).all fun j => !sameL (es.getD i ([], 0, ())).1 (es.getD j ([], 0, ())).1
theorem freshJ_succ (es : List EndT) (i j : Nat) : freshJ es i (j + 1) = (freshJ es i j && !sameL (es.getD i ([], 0, ())).1 (es.getD j ([], 0, ())).1) := by
  unfold freshJ
  rw [List.range_succ, List.all_append]
  simp
set_option maxRecDepth 100000 in
set_option maxHeartbeats 4000000 in
theorem ends_any {w : World} {A : Option Addr} {n c : Nat} {es : List EndT} (h : Rd endR w w.heap.size A n c es) :
    Calls Tryd.prog 17 #[.slice A n c] w fun e w' => e = .returned (.int .i64 (endsK es es.length : Int)) ∧ Below w.heap.size w w' := by
  have hl := h.len
  have hm := h.max
  have hc := h.cap
  unfold maxLen at hm
  have H := hid h
  have HL := hid hl
  rw [hl]
  clear h hl
  go_enter Tryd.func17, Tryd.ntmps17
  go_wp2
  go_loopg [3, 4] n (fun gk v3 v4 wi => ∃ i : Nat, i ≤ n ∧ gk = n - i ∧ v4 = .int .i64 (i : Int) ∧ v3 = .int .i64 (endsK es i : Int) ∧ Below w.heap.size w wi)
  case atStart => exact ⟨0, Nat.zero_le _, rfl, rfl, rfl, Below.refl _ _⟩
  case round =>
    obtain ⟨i, hi, rfl, rfl, rfl, hlow⟩ := hrel
    have HLOW := hid hlow
    have zw := hlow.size
    have kl := endsK_le es i
    clear hlow
    by_cases hlt : i < n
    · have g3 : (i : Int) < (n : Int) := by omega
      have KS := hid (endsK_succ es i)
      generalize endsK es i = K at *
      go_wp2
      go_loopg [5, 6] i (fun gk v5 v6 wi => ∃ j : Nat, j ≤ i ∧ gk = i - j ∧ v6 = .int .i64 (j : Int) ∧ v5 = .bool (freshJ es i j) ∧ Below wr.heap.size wr wi)
      case atStart => exact ⟨0, Nat.zero_le _, rfl, rfl, rfl, Below.refl _ _⟩
      case round =>
        obtain ⟨j, hj, rfl, rfl, rfl, hlow2⟩ := hrel
        have HLOW2 := hid (HLOW.out.trans (hlow2.mono zw))
        have HLOW3 := hid hlow2
        have zw2 := HLOW2.out.size
        have zw3 := hlow2.size
        have FS := hid (freshJ_succ es i j)
        obtain ⟨fr, hfr⟩ : ∃ fr, freshJ es i j = fr := ⟨_, rfl⟩
        rw [hfr] at FS ⊢
        clear hlow2
        by_cases hlt2 : j < i
        · obtain ⟨b, o, A3, n3, c3, rfl, lb3, p0, p1, r3, I3⟩ := (H.out.later HLOW2.out).end_ i hlt
          obtain ⟨b4, o4, A4, n4, c4, hA4, lb4, q0, q1, r4, I4⟩ := (H.out.later HLOW2.out).end_ j (by omega)
          cases hA4
          have CA := fun w' (hb : Below wr.heap.size wr w') => rnames_any w' _ _ _ _ (r3.later hb) _ _ _ _ (r4.later hb)
          have hz := sameL_iff (es.getD i ([], 0, ())).1 (es.getD j ([], 0, ())).1
          obtain ⟨X, hX⟩ : ∃ X, cmpN (es.getD i ([], 0, ())).1 (es.getD j ([], 0, ())).1 = X := ⟨_, rfl⟩
          rw [hX] at CA hz
          have HC := hid CA
          have g4 : (j : Int) < (n : Int) := by omega
          have g5 : (j : Int) < (i : Int) := by omega
          by_cases hX0 : X = 0
          · subst hX0
            have HF := hid (show freshJ es i (j + 1) = false by rw [FS.out, hz, decide_eq_true rfl]; simp)
            clear CA hz hX r3 r4 I3 I4 hfr p1 q1
            have hlo := HLOW3.out
            go_wp2_with fail
            refine wp_region_ext (by kernel_rfl) (by kernel_rfl) ?_
            repeat (go_big_quiet_step ((go_at_call 35; with_reducible exact Calls.quiet_ext (HC.out _ (by ((first | (with_reducible refine exts_below ?_ ?_ _) | skip); (repeat' (first | (with_reducible exact Below.refl _ _) | (with_reducible assumption) | (with_reducible refine below_ext0 ?_ _ _) | (with_reducible refine below_alloc0 ?_ _) | (with_reducible refine Below.ext ?_ ?_ _ _) | (with_reducible refine Below.alloc ?_ ?_ _) | (with_reducible refine Below.setCell ?_ ?_ _) | (with_reducible refine Below.drew ?_) | (with_reducible refine below_draws ?_ _) | go_size | (simp [size_ext]; done) | (simp [size_ext]; omega)))))))))
            refine wpQuiet_nil ?_
            rintro _ ⟨⟨os, d⟩, rfl⟩
            simp only [exts]
            go_wp2
            go_roundg (i - (j + 1))
            case measure => omega
            case rel => exact ⟨j + 1, by omega, rfl, by go_num, by rw [HF.out], by (repeat' (first | (with_reducible exact Below.refl _ _) | (with_reducible assumption) | (with_reducible refine below_ext0 ?_ _ _) | (with_reducible refine below_alloc0 ?_ _) | (with_reducible refine Below.ext ?_ ?_ _ _) | (with_reducible refine Below.alloc ?_ ?_ _) | (with_reducible refine Below.setCell ?_ ?_ _) | (with_reducible refine Below.drew ?_) | (with_reducible refine below_draws ?_ _) | go_size | (simp [size_ext]; done) | (simp [size_ext]; omega)))⟩
          · have HF := hid (show freshJ es i (j + 1) = fr by rw [FS.out, hz, decide_eq_false hX0]; simp)
            have f3 : (X == 0) = false := beq_eq_false_iff_ne.2 hX0
            clear CA hz hX r3 r4 I3 I4 hfr p1 q1 hX0
            have hlo := HLOW3.out
            go_wp2_with fail
            refine wp_region_ext (by kernel_rfl) (by kernel_rfl) ?_
            repeat (go_big_quiet_step ((go_at_call 35; with_reducible exact Calls.quiet_ext (HC.out _ (by ((first | (with_reducible refine exts_below ?_ ?_ _) | skip); (repeat' (first | (with_reducible exact Below.refl _ _) | (with_reducible assumption) | (with_reducible refine below_ext0 ?_ _ _) | (with_reducible refine below_alloc0 ?_ _) | (with_reducible refine Below.ext ?_ ?_ _ _) | (with_reducible refine Below.alloc ?_ ?_ _) | (with_reducible refine Below.setCell ?_ ?_ _) | (with_reducible refine Below.drew ?_) | (with_reducible refine below_draws ?_ _) | go_size | (simp [size_ext]; done) | (simp [size_ext]; omega)))))))))
            refine wpQuiet_nil ?_
            rintro _ ⟨⟨os, d⟩, rfl⟩
            simp only [exts]
            go_wp2
            go_roundg (i - (j + 1))
            case measure => omega
            case rel => exact ⟨j + 1, by omega, rfl, by go_num, by rw [HF.out], by (repeat' (first | (with_reducible exact Below.refl _ _) | (with_reducible assumption) | (with_reducible refine below_ext0 ?_ _ _) | (with_reducible refine below_alloc0 ?_ _) | (with_reducible refine Below.ext ?_ ?_ _ _) | (with_reducible refine Below.alloc ?_ ?_ _) | (with_reducible refine Below.setCell ?_ ?_ _) | (with_reducible refine Below.drew ?_) | (with_reducible refine below_draws ?_ _) | go_size | (simp [size_ext]; done) | (simp [size_ext]; omega)))⟩
        · obtain rfl : j = i := by omega
          have hf : freshA es j = fr := hfr
          clear FS hfr
          cases fr with
          | true =>
            have HK2 := hid (show endsK es (j + 1) = K + 1 by rw [KS.out, if_pos hf])
            clear hf
            go_wp2
            go_roundg (n - (j + 1))
            case measure => omega
            case rel => exact ⟨j + 1, by omega, rfl, by go_num, by rw [HK2.out]; go_num, HLOW2.out⟩
          | false =>
            have HK2 := hid (show endsK es (j + 1) = K by rw [KS.out, if_neg (by rw [hf]; simp)])
            clear hf
            go_wp2
            go_roundg (n - (j + 1))
            case measure => omega
            case rel => exact ⟨j + 1, by omega, rfl, by go_num, by rw [HK2.out], HLOW2.out⟩
    · obtain rfl : i = n := by omega
      go_wp2
      go_ret
      exact ⟨rfl, HLOW.out⟩

def lastI : Option Nat → Int
  | none => -1
  | some j => (j : Int)
def BestO (w : World) (es : List EndT) (q : List ByteArray) (e : Ending) (w' : World) : Prop := ∃ o, BestP es q es.length o ∧ e = .returned (.int .i64 (lastI o)) ∧ Below w.heap.size w w'
set_option maxRecDepth 100000 in
set_option maxHeartbeats 4000000 in
theorem last_any {w : World} {A : Option Addr} {n c : Nat} {es : List EndT} (h : Rd endR w w.heap.size A n c es) {Aq : Option Addr} {nq cq : Nat} {q : List ByteArray} (hq : Rd strR w w.heap.size Aq nq cq q) :
    Calls Tryd.prog 19 #[.slice A n c, .slice Aq nq cq] w (BestO w es q) := by
  have hl := h.len
  have hm := h.max
  have hc := h.cap
  unfold maxLen at hm
  have H := hid h
  have HQ := hid hq
  have HL := hid hl
  clear h hl hq
  go_enter Tryd.func19, Tryd.ntmps19
  go_wp2
  go_loopg [5, 6] n (fun gk v5 v6 wi => ∃ (i : Nat) (o : Option Nat), i ≤ n ∧ gk = n - i ∧ v6 = .int .i64 (i : Int) ∧ v5 = .int .i64 (lastI o) ∧ Hid (BestP es q i o) ∧ Below w.heap.size w wi)
  case atStart => exact ⟨0, none, Nat.zero_le _, rfl, rfl, rfl, hid (best_start _ _), Below.refl _ _⟩
  case round =>
    obtain ⟨i, o, hi, rfl, rfl, rfl, hbest, hlow⟩ := hrel
    have HLOW := hid hlow
    have zw := hlow.size
    clear hlow
    by_cases hlt : i < n
    · have g3 : (i : Int) < (n : Int) := by omega
      have hil : i < es.length := by rw [HL.out]; exact hlt
      obtain ⟨b, oo, A3, n3, c3, rfl, lb3, p0, p1, r3, I3⟩ := (H.out.later HLOW.out).end_ i hlt
      have hgi : es.getD i ([], 0, ()) = es[i] := by rw [List.getD_eq_getElem?_getD, List.getElem?_eq_getElem hil]; rfl
      rw [hgi] at r3
      have CA := fun w' (hb : Below wr.heap.size wr w') => rbelow_any w' _ _ _ _ ((HQ.out.later HLOW.out).later hb) _ _ _ _ (r3.later hb)
      have L3 := r3.len
      cases hu : underL q es[i].1 with
      | false =>
        rw [hu] at CA
        have HC := hid CA
        have HB := hid (best_no hbest.out hil hu)
        clear CA hu r3 I3 p1 hgi L3
        have hlo := HLOW.out
        go_wp2_with fail
        refine wp_region_ext (by kernel_rfl) (by kernel_rfl) ?_
        repeat (go_big_quiet_step ((go_at_call 38; with_reducible exact Calls.quiet_ext (HC.out _ (by ((first | (with_reducible refine exts_below ?_ ?_ _) | skip); (repeat' (first | (with_reducible exact Below.refl _ _) | (with_reducible assumption) | (with_reducible refine below_ext0 ?_ _ _) | (with_reducible refine below_alloc0 ?_ _) | (with_reducible refine Below.ext ?_ ?_ _ _) | (with_reducible refine Below.alloc ?_ ?_ _) | (with_reducible refine Below.setCell ?_ ?_ _) | (with_reducible refine Below.drew ?_) | (with_reducible refine below_draws ?_ _) | go_size | (simp [size_ext]; done) | (simp [size_ext]; omega)))))))))
        refine wpQuiet_nil ?_
        rintro _ ⟨⟨os, d⟩, rfl⟩
        simp only [exts]
        go_wp2
        go_roundg (n - (i + 1))
        case measure => omega
        case rel => exact ⟨i + 1, o, by omega, rfl, by go_num, rfl, HB, by (repeat' (first | (with_reducible exact Below.refl _ _) | (with_reducible assumption) | (with_reducible refine below_ext0 ?_ _ _) | (with_reducible refine below_alloc0 ?_ _) | (with_reducible refine Below.ext ?_ ?_ _ _) | (with_reducible refine Below.alloc ?_ ?_ _) | (with_reducible refine Below.setCell ?_ ?_ _) | (with_reducible refine Below.drew ?_) | (with_reducible refine below_draws ?_ _) | go_size | (simp [size_ext]; done) | (simp [size_ext]; omega)))⟩
      | true =>
        rw [hu] at CA
        have HC := hid CA
        cases o with
        | none =>
          have HB := hid (best_yes hbest.out hil hu fun i h => by cases h)
          simp only [lastI]
          clear CA hu r3 I3 p1 hgi L3
          have hlo := HLOW.out
          go_wp2_with fail
          refine wp_region_ext (by kernel_rfl) (by kernel_rfl) ?_
          repeat (go_big_quiet_step ((go_at_call 38; with_reducible exact Calls.quiet_ext (HC.out _ (by ((first | (with_reducible refine exts_below ?_ ?_ _) | skip); (repeat' (first | (with_reducible exact Below.refl _ _) | (with_reducible assumption) | (with_reducible refine below_ext0 ?_ _ _) | (with_reducible refine below_alloc0 ?_ _) | (with_reducible refine Below.ext ?_ ?_ _ _) | (with_reducible refine Below.alloc ?_ ?_ _) | (with_reducible refine Below.setCell ?_ ?_ _) | (with_reducible refine Below.drew ?_) | (with_reducible refine below_draws ?_ _) | go_size | (simp [size_ext]; done) | (simp [size_ext]; omega)))))))))
          refine wpQuiet_nil ?_
          rintro _ ⟨⟨os, d⟩, rfl⟩
          simp only [exts]
          go_wp2
          go_roundg (n - (i + 1))
          case measure => omega
          case rel => exact ⟨i + 1, some i, by omega, rfl, by go_num, rfl, HB, by (repeat' (first | (with_reducible exact Below.refl _ _) | (with_reducible assumption) | (with_reducible refine below_ext0 ?_ _ _) | (with_reducible refine below_alloc0 ?_ _) | (with_reducible refine Below.ext ?_ ?_ _ _) | (with_reducible refine Below.alloc ?_ ?_ _) | (with_reducible refine Below.setCell ?_ ?_ _) | (with_reducible refine Below.drew ?_) | (with_reducible refine below_draws ?_ _) | go_size | (simp [size_ext]; done) | (simp [size_ext]; omega)))⟩
        | some j =>
          obtain ⟨hj, hji, hj2, hj3⟩ := hbest.out
          obtain ⟨b4, o4, A4, n4, c4, hA4, lb4, q0, q1, r4, I4⟩ := (H.out.later HLOW.out).end_ j (by omega)
          cases hA4
          have L4 := r4.len
          have f2 : ¬ (j : Int) < 0 := by omega
          have f3 : decide ((j : Int) < 0) = false := decide_eq_false f2
          have f4 : (j : Int) < (n : Int) := by omega
          have f5 : (0 : Int) ≤ (j : Int) := by omega
          have jn : j < n := by omega
          simp only [lastI]
          by_cases hle : n4 ≤ n3
          · have HB := hid (best_yes hbest.out hil hu fun i' h => by cases h; rw [L4, L3]; exact hle)
            have f6 : decide ((n4 : Int) ≤ (n3 : Int)) = true := decide_eq_true (by omega)
            have f7 : decide (n4 ≤ n3) = true := decide_eq_true hle
            clear CA hu r3 I3 p1 hgi L3 r4 I4 q1 L4 hbest hj2 hj3 hj
            have hlo := HLOW.out
            go_wp2_with fail
            refine wp_region_ext (by kernel_rfl) (by kernel_rfl) ?_
            repeat (go_big_quiet_step ((go_at_call 38; with_reducible exact Calls.quiet_ext (HC.out _ (by ((first | (with_reducible refine exts_below ?_ ?_ _) | skip); (repeat' (first | (with_reducible exact Below.refl _ _) | (with_reducible assumption) | (with_reducible refine below_ext0 ?_ _ _) | (with_reducible refine below_alloc0 ?_ _) | (with_reducible refine Below.ext ?_ ?_ _ _) | (with_reducible refine Below.alloc ?_ ?_ _) | (with_reducible refine Below.setCell ?_ ?_ _) | (with_reducible refine Below.drew ?_) | (with_reducible refine below_draws ?_ _) | go_size | (simp [size_ext]; done) | (simp [size_ext]; omega)))))))))
            refine wpQuiet_nil ?_
            rintro _ ⟨⟨os, d⟩, rfl⟩
            simp only [exts]
            go_wp2
            go_roundg (n - (i + 1))
            case measure => omega
            case rel => exact ⟨i + 1, some i, by omega, rfl, by go_num, rfl, HB, by (repeat' (first | (with_reducible exact Below.refl _ _) | (with_reducible assumption) | (with_reducible refine below_ext0 ?_ _ _) | (with_reducible refine below_alloc0 ?_ _) | (with_reducible refine Below.ext ?_ ?_ _ _) | (with_reducible refine Below.alloc ?_ ?_ _) | (with_reducible refine Below.setCell ?_ ?_ _) | (with_reducible refine Below.drew ?_) | (with_reducible refine below_draws ?_ _) | go_size | (simp [size_ext]; done) | (simp [size_ext]; omega)))⟩
          · have HB := hid (best_keep hbest.out hil (by rw [L4, L3]; omega))
            have f6 : decide ((n4 : Int) ≤ (n3 : Int)) = false := decide_eq_false (by omega)
            have f7 : decide (n4 ≤ n3) = false := decide_eq_false hle
            clear CA hu r3 I3 p1 hgi L3 r4 I4 q1 L4 hbest hj2 hj3 hj
            have hlo := HLOW.out
            go_wp2_with fail
            refine wp_region_ext (by kernel_rfl) (by kernel_rfl) ?_
            repeat (go_big_quiet_step ((go_at_call 38; with_reducible exact Calls.quiet_ext (HC.out _ (by ((first | (with_reducible refine exts_below ?_ ?_ _) | skip); (repeat' (first | (with_reducible exact Below.refl _ _) | (with_reducible assumption) | (with_reducible refine below_ext0 ?_ _ _) | (with_reducible refine below_alloc0 ?_ _) | (with_reducible refine Below.ext ?_ ?_ _ _) | (with_reducible refine Below.alloc ?_ ?_ _) | (with_reducible refine Below.setCell ?_ ?_ _) | (with_reducible refine Below.drew ?_) | (with_reducible refine below_draws ?_ _) | go_size | (simp [size_ext]; done) | (simp [size_ext]; omega)))))))))
            refine wpQuiet_nil ?_
            rintro _ ⟨⟨os, d⟩, rfl⟩
            simp only [exts]
            go_wp2
            go_roundg (n - (i + 1))
            case measure => omega
            case rel => exact ⟨i + 1, some j, by omega, rfl, by go_num, rfl, HB, by (repeat' (first | (with_reducible exact Below.refl _ _) | (with_reducible assumption) | (with_reducible refine below_ext0 ?_ _ _) | (with_reducible refine below_alloc0 ?_ _) | (with_reducible refine Below.ext ?_ ?_ _ _) | (with_reducible refine Below.alloc ?_ ?_ _) | (with_reducible refine Below.setCell ?_ ?_ _) | (with_reducible refine Below.drew ?_) | (with_reducible refine below_draws ?_ _) | go_size | (simp [size_ext]; done) | (simp [size_ext]; omega)))⟩
    · obtain rfl : i = n := by omega
      go_wp2
      go_ret
      exact ⟨o, by rw [HL.out]; exact hbest.out, rfl, HLOW.out⟩
end Go.Proofs.YtemgbfppdopfbaaDoor
