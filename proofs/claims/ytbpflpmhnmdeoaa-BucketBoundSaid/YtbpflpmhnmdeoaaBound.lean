/- BucketBound is true of every input: what is taken from one time on till another one is never more than the bucket has at most and its rate for each tick between them. No condition. -/
import Derived.Test.YtbpflpmhnmdeoaaTake
import Derived.Test.YtbpflpmhnmdeoaaRep
import Derived.OpenShut
import Derived.JoinedCond
import Derived.Deep.RegionHeld3
import Derived.Deep.DeepCutAuto
import Derived.Deep.LoopGhost
import Derived.Maps.AppendAt
import Derived.Deep.QuietTactic
import Derived.BigQuiet
namespace Go.Proofs.Ytbpflpmhnmdeoaa
open Go.ChangeShapes Go.WideShapes Go.ChangeAt Go.RowKit
set_option linter.unusedVariables false
namespace bucketBound

/-- the sum of what was taken from place k on -/
def sumFrom (took : List Int) (k : Nat) : Int := (took.drop k).sum

theorem int_info : (Try.prog.info? 3).map (fun i => (i.zero, i.size, i.bytes)) = some (some (.int .i64 0), 1, 8) := by kernel_rfl

theorem n_bd {ok : Bool} {n u : Int} (h : ok = true → n ≤ u) (h0 : 0 ≤ n) (hu : 0 ≤ u) : 0 ≤ (if ok then n else 0) ∧ (if ok then n else 0) ≤ u := by
  cases ok
  · simp; exact hu
  · simp; exact ⟨h0, h rfl⟩

/-- one Take of a round -/
theorem take_step (r u s a now n : Int) (k : BOk r u s a) (h1 : a ≤ now) (h2 : now ≤ 2147483647) (hn : 0 ≤ n) : ∃ s' ok, BOk r u s' now ∧ s' + (if ok then n else 0) = fillN r u s a now ∧ (ok = true → n ≤ u) ∧
    ∀ w, Calls Try.prog 14 #[bucketV r u s a, .int .i64 now, .int .i64 n] w fun e w' => e = .returned (.tuple #[bucketV r u s' now, .bool ok, .nilIface]) ∧ Below w.heap.size w w' := by
  have kF := k.fill h1 h2
  by_cases c : n ≤ fillN r u s a now
  · have := kF.hu
    exact ⟨_, true, kF.less (by omega) (by omega), by simp, fun _ => by omega, take_yes r u s a now n k h1 h2 hn c⟩
  · exact ⟨_, false, kF, by simp, fun h => (by cases h), take_no r u s a now n k h1 h2 hn (by omega)⟩

/-- in the middle of a round: the bucket's block, the two rows of the call's own -/
structure Mid (B0 : Nat) (w wr : World) (r u s t : Int) (v8 v9 : Value) (ats tooks : List Int) : Prop where
  blk : Blk wr B0 23 #[.int .i64 r, .int .i64 u, .int .i64 s, .int .i64 t]
  own8 : wr.ownsRow (B0 + 1) 3 1 v8 ats.length (ats.map (Value.int .i64))
  own9 : wr.ownsRow (B0 + 1) 3 1 v9 tooks.length (tooks.map (Value.int .i64))
  ne : ∀ g, v8.ownBlock = some g → v9.ownBlock ≠ some g
  low : Below B0 w wr

theorem Mid.drew {B0 : Nat} {w wr : World} {r u s t : Int} {v8 v9 : Value} {ats tooks : List Int} (h : Mid B0 w wr r u s t v8 v9 ats tooks) (n : Nat) : Mid B0 w (wr.drewN n) r u s t v8 v9 ats tooks :=
  ⟨h.blk, h.own8, h.own9, h.ne, h.low.trans ⟨rfl, rfl, rfl, Nat.le_refl _, fun _ _ => rfl⟩⟩

theorem mid_push8 {B0 : Nat} {w wr w1 : World} {r u s t x : Int} {v8 v9 v' : Value} {ats tooks : List Int} {o : Obj} (h : Mid B0 w wr r u s t v8 v9 ats tooks)
    (hown : w1.ownsRow (B0 + 1) 3 1 v' (ats.length + 1) (ats.map (Value.int .i64) ++ [.int .i64 x])) (hg : (wr.alloc o).grownBy w1 v8.ownBlock) (hat : v'.ownBlock = v8.ownBlock ∨ v'.ownBlock = some (wr.alloc o).heap.size) :
    Mid B0 w w1 r u s t v' v9 (ats ++ [x]) tooks := by
  have hB := h.blk.lt
  refine ⟨(h.blk.alloc o).grown hg ?_, by simpa using hown, (h.own9.alloc o).kept hg ?_, fun g e => ?_, (h.low.alloc (Nat.le_of_lt hB) o).grown hg (by simp; omega) ?_⟩
  · intro e
    have := h.own8.lt B0 e.symm
    omega
  · cases e : v9.ownBlock with
    | none => exact .inl rfl
    | some g => exact .inr fun e' => h.ne g e'.symm e
  · rcases hat with e' | e'
    · exact h.ne g (e' ▸ e)
    · intro e9
      have := h.own9.lt g e9
      rw [e] at e'
      injection e' with e'
      simp at e'
      omega
  · intro k e
    have := h.own8.lt k e
    omega
theorem mid_push9 {B0 : Nat} {w wr w1 : World} {r u s t x : Int} {v8 v9 v' : Value} {ats tooks : List Int} {o : Obj} (h : Mid B0 w wr r u s t v8 v9 ats tooks)
    (hown : w1.ownsRow (B0 + 1) 3 1 v' (tooks.length + 1) (tooks.map (Value.int .i64) ++ [.int .i64 x])) (hg : (wr.alloc o).grownBy w1 v9.ownBlock) (hat : v'.ownBlock = v9.ownBlock ∨ v'.ownBlock = some (wr.alloc o).heap.size) :
    Mid B0 w w1 r u s t v8 v' ats (tooks ++ [x]) := by
  have hB := h.blk.lt
  refine ⟨(h.blk.alloc o).grown hg ?_, (h.own8.alloc o).kept hg ?_, by simpa using hown, fun g e => ?_, (h.low.alloc (Nat.le_of_lt hB) o).grown hg (by simp; omega) ?_⟩
  · intro e
    have := h.own9.lt B0 e.symm
    omega
  · cases e : v8.ownBlock with
    | none => exact .inl rfl
    | some g => exact .inr fun e' => h.ne g e e'.symm
  · rcases hat with e' | e'
    · rw [e']; exact h.ne g e
    · intro e9
      have := h.own8.lt g e
      rw [e9] at e'
      injection e' with e'
      simp at e'
      omega
  · intro k e
    have := h.own9.lt k e
    omega

theorem row_shape {w : World} {base : Nat} {e : TypeId} {size : Nat} {v : Value} {n : Nat} {xs : List Value} (h : w.ownsRow base e size v n xs) (hn : 0 < n) : ∃ g cap, v = .slice (some ⟨g, 0, none⟩) n cap := by
  rcases h.2 with ⟨_, h0⟩ | ⟨g, cap, _, hv, _⟩
  · omega
  · exact ⟨g, cap, hv⟩

theorem sum_snoc (l : List Int) (x : Int) (k : Nat) (hk : k ≤ l.length) : sumFrom (l ++ [x]) k = sumFrom l k + x := by
  unfold sumFrom
  rw [List.drop_append_of_le_length hk, List.sum_append]
  simp
theorem sum_step (l : List Int) (k : Nat) (hk : k < l.length) : sumFrom l k = l[k] + sumFrom l (k + 1) := by
  unfold sumFrom
  rw [List.drop_eq_getElem_cons hk, List.sum_cons]
theorem sum_bd (l : List Int) (u : Int) (h : ∀ x ∈ l, 0 ≤ x ∧ x ≤ u) : 0 ≤ l.sum ∧ l.sum ≤ l.length * u := by
  induction l with
  | nil => simp
  | cons a l ih =>
    have := ih fun x hx => h x (by simp [hx])
    have := h a (by simp)
    simp only [List.sum_cons, List.length_cons]
    refine ⟨by omega, ?_⟩
    have e : ((l.length + 1 : Nat) : Int) * u = l.length * u + u := by rw [Int.natCast_add, Int.add_mul]; simp
    omega
/-- the step of the law: what was taken and what is left never pass the most and the rate -/
theorem sum_inv {r u s t s' x1 n : Int} {ats tooks : List Int} (r0 : 0 ≤ r) (hx : 0 ≤ x1) (hlen : ats.length = tooks.length) (hsum : ∀ k (h : k < ats.length), sumFrom tooks k + s ≤ u + r * (t - ats[k])) (hs : s' + n = fillN r u s t (t + x1)) :
    ∀ k (h : k < (ats ++ [t + x1]).length), sumFrom (tooks ++ [n]) k + s' ≤ u + r * (t + x1 - (ats ++ [t + x1])[k]) := by
  intro k h
  have hk : k ≤ tooks.length := by simp at h; omega
  rw [sum_snoc _ _ _ hk]
  have e : t + x1 - t = x1 := by omega
  rw [fillN, e] at hs
  by_cases c : k < ats.length
  · rw [List.getElem_append_left c]
    have h1 := hsum k c
    have h2 : r * (t + x1 - ats[k]) = r * (t - ats[k]) + r * x1 := by rw [← Int.mul_add]; congr 1; omega
    rw [h2]
    generalize r * x1 = p at *
    generalize r * (t - ats[k]) = q at *
    split at hs <;> omega
  · have hk' : k = ats.length := by simp at h; omega
    subst hk'
    rw [List.getElem_append_right (Nat.le_refl _)]
    have h0 : sumFrom tooks ats.length = 0 := by unfold sumFrom; rw [List.drop_eq_nil_of_le (by omega)]; rfl
    rw [h0]
    simp
    split at hs <;> omega

/-- what holds at each round's head: 'ats', 'tooks': when, and how many -/
structure Inv (B0 : Nat) (w wr : World) (r u s t : Int) (v8 v9 : Value) (ats tooks : List Int) : Prop where
  blk : Blk wr B0 23 #[.int .i64 r, .int .i64 u, .int .i64 s, .int .i64 t]
  ok : BOk r u s t
  own8 : wr.ownsRow (B0 + 1) 3 1 v8 ats.length (ats.map (Value.int .i64))
  own9 : wr.ownsRow (B0 + 1) 3 1 v9 tooks.length (tooks.map (Value.int .i64))
  ne : ∀ g, v8.ownBlock = some g → v9.ownBlock ≠ some g
  low : Below B0 w wr
  len : ats.length = tooks.length
  took : ∀ x ∈ tooks, 0 ≤ x ∧ x ≤ u
  at_ : ∀ x ∈ ats, 0 ≤ x ∧ x ≤ t
  sum : ∀ k (h : k < ats.length), sumFrom tooks k + s ≤ u + r * (t - ats[k])

/-- what a round of the inner loop reads, and that it is within -/
theorem round_facts {B0 : Nat} {w wi : World} {r u s' t x1 : Int} {g8 g9 l8 l9 k8 k9 i q : Nat} {at' tk : List Int} (hM : Mid B0 w wi r u s' (t + x1) (.slice (some ⟨g8, 0, none⟩) l8 k8) (.slice (some ⟨g9, 0, none⟩) l9 k9) at' tk)
    (hk : BOk r u s' (t + x1)) (hx : 0 ≤ x1) (hA : at'.length = i + 1) (hT : tk.length = i + 1) (hsum : ∀ k (h : k < at'.length), sumFrom tk k + s' ≤ u + r * (t + x1 - at'[k])) (htook : ∀ x ∈ tk, 0 ≤ x ∧ x ≤ u)
    (hat : ∀ x ∈ at', 0 ≤ x ∧ x ≤ t + x1) (hq : q < i + 1) (h60 : i + 1 ≤ 60) :
    ∃ y z S, sumFrom tk (q + 1) = S ∧ sumFrom tk q = S + y ∧ wi.cell? ⟨g9, q, none⟩ = some (.int .i64 y) ∧ wi.cell? ⟨g8, q, none⟩ = some (.int .i64 z) ∧ 0 ≤ y ∧ y ≤ u ∧ 0 ≤ z ∧ z ≤ t + x1 ∧ 0 ≤ S ∧ S ≤ 60 * 2147483647 ∧
      0 ≤ r * (t + x1 - z) ∧ r * (t + x1 - z) ≤ 2147483647 * 2147483647 ∧ S + y ≤ u + r * (t + x1 - z) := by
  have e1 := sum_step tk q (by omega)
  have hy := htook (tk[q]'(by omega)) (List.getElem_mem _)
  have hz := hat (at'[q]'(by omega)) (List.getElem_mem _)
  have hs := hsum q (by omega)
  have hb := sum_bd (tk.drop (q + 1)) u fun x hx => htook x (List.mem_of_mem_drop hx)
  obtain ⟨r0, r1, u0, u1, s0, s1, a0, a1, hu⟩ := hk
  have hS : sumFrom tk (q + 1) ≤ 60 * 2147483647 := by
    refine Int.le_trans hb.2 (Int.le_trans (Int.mul_le_mul_of_nonneg_left u1 (by omega)) (Int.mul_le_mul_of_nonneg_right ?_ (by omega)))
    rw [List.length_drop, hT]
    omega
  refine ⟨tk[q]'(by omega), at'[q]'(by omega), _, rfl, by omega, ?_, ?_, hy.1, hy.2, hz.1, hz.2, hb.1, hS, Int.mul_nonneg r0 (by omega), ?_, by omega⟩
  · have := hM.own9.cells (g := g9) rfl q (.int .i64 (tk[q]'(by omega))) (by simp [show q < tk.length by omega])
    simpa [add_none] using this
  · have := hM.own8.cells (g := g8) rfl q (.int .i64 (at'[q]'(by omega))) (by simp [show q < at'.length by omega])
    simpa [add_none] using this
  · exact Int.le_trans (Int.mul_le_mul_of_nonneg_right r1 (by omega)) (Int.mul_le_mul_of_nonneg_left (by omega) (by omega))

set_option maxRecDepth 100000 in
set_option maxHeartbeats 8000000 in
theorem walk (w : World) (x : Int × Int × Int × Int × Unit) (cs : Array Value) (hx : bucketR.rel w w.heap.size x cs.toList)
    (A1 : Option Addr) (n1 c1 : Nat) (l1 : List Int) (h1 : Rd intR w w.heap.size A1 n1 c1 l1) (A2 : Option Addr) (n2 c2 : Nat) (l2 : List Int) (h2 : Rd intR w w.heap.size A2 n2 c2 l2) :
    Calls Try.prog 4 #[.agg cs, .slice A1 n1 c1, .slice A2 n2 c2] w fun e w' => e = .returned (.bool true) ∧ Below w.heap.size w w' := by
  obtain ⟨r, u, s, a, rfl, hr, hu, hs, ha⟩ := bucket_of hx
  clear hx hr hu hs ha
  have m1 := h1.max
  have cap1 := h1.cap
  have m2 := h2.max
  have cap2 := h2.cap
  unfold maxLen at m1 m2
  have CK := hid filled_true
  by_cases q1 : 60 < n1
  · have H1 := hid h1
    have H2 := hid h2
    clear h1 h2
    go_enter Try.func4, Try.ntmps4
    go_wp2_with fail
    refine (CK.out _).mono ?_
    rintro e w1 ⟨rfl, hb⟩
    obtain ⟨os, d, rfl⟩ := ext_of_below hb
    clear hb
    go_wp2
    go_ret
    refine ⟨rfl, ?_⟩
    (repeat' (first | (with_reducible exact Below.refl _ _) | (with_reducible assumption) | (with_reducible refine Below.ext ?_ ?_ _ _) | (with_reducible refine Below.alloc ?_ ?_ _) | (with_reducible refine Below.setCell ?_ ?_ _) | (with_reducible refine Below.drew ?_) | go_size | (simp [size_ext]; done) | (simp [size_ext]; omega)))
  by_cases q2 : n2 < n1
  · have H1 := hid h1
    have H2 := hid h2
    clear h1 h2
    go_enter Try.func4, Try.ntmps4
    go_wp2_with fail
    refine (CK.out _).mono ?_
    rintro e w1 ⟨rfl, hb⟩
    obtain ⟨os, d, rfl⟩ := ext_of_below hb
    clear hb
    go_wp2
    go_ret
    refine ⟨rfl, ?_⟩
    (repeat' (first | (with_reducible exact Below.refl _ _) | (with_reducible assumption) | (with_reducible refine Below.ext ?_ ?_ _ _) | (with_reducible refine Below.alloc ?_ ?_ _) | (with_reducible refine Below.setCell ?_ ?_ _) | (with_reducible refine Below.drew ?_) | go_size | (simp [size_ext]; done) | (simp [size_ext]; omega)))
  by_cases q3 : ¬ BOk r u s a
  · have H1 := hid h1
    have H2 := hid h2
    have CC := hid (check_bad r u s a q3)
    clear h1 h2 q3
    go_enter Try.func4, Try.ntmps4
    go_wp2_with fail
    refine (CK.out _).mono ?_
    rintro e w1 ⟨rfl, hb⟩
    obtain ⟨os, d, rfl⟩ := ext_of_below hb
    clear hb
    go_wp2_with fail
    refine (CC.out _).mono ?_
    rintro e w1 ⟨rfl, rfl⟩
    go_wp2
    go_ret
    refine ⟨rfl, ?_⟩
    (repeat' (first | (with_reducible exact Below.refl _ _) | (with_reducible assumption) | (with_reducible refine Below.ext ?_ ?_ _ _) | (with_reducible refine Below.alloc ?_ ?_ _) | (with_reducible refine Below.setCell ?_ ?_ _) | (with_reducible refine Below.drew ?_) | go_size | (simp [size_ext]; done) | (simp [size_ext]; omega)))
  have k : BOk r u s a := Decidable.not_not.1 q3
  have CC := hid (check_ok r u s a k)
  have H1 := hid h1
  have H2 := hid h2
  have K := hid k
  clear h1 h2 q3 k
  go_enter Try.func4, Try.ntmps4
  go_wp2_with fail
  refine (CK.out _).mono ?_
  rintro e w1 ⟨rfl, hb⟩
  obtain ⟨os, d, rfl⟩ := ext_of_below hb
  clear hb
  go_wp2_with fail
  refine (CC.out _).mono ?_
  rintro e w1 ⟨rfl, rfl⟩
  go_wp2
  have hi0 := hid (show Inv w.heap.size w ((ext (w.alloc (.cells #[.int .i64 r, .int .i64 u, .int .i64 s, .int .i64 a] 23)) os d).alloc (.cells #[.int .i64 r, .int .i64 u, .int .i64 s, .int .i64 a] 23)) r u s a (.slice none 0 0) (.slice none 0 0) [] [] from
    ⟨((Blk.new w _ _).ext os d).alloc _, K.out, World.ownsRow_nil _ _ _ _, World.ownsRow_nil _ _ _ _, fun g h => by simp [Value.ownBlock] at h, by (repeat' (first | (with_reducible exact Below.refl _ _) | (with_reducible assumption) | (with_reducible refine Below.ext ?_ ?_ _ _) | (with_reducible refine Below.alloc ?_ ?_ _) | (with_reducible refine Below.setCell ?_ ?_ _) | (with_reducible refine Below.drew ?_) | go_size | (simp [size_ext]; done) | (simp [size_ext]; omega))), rfl, by simp, by simp, fun k h => by simp at h⟩)
  go_loopg [8, 9, 10, 11] n1 (fun k v8 v9 v10 v11 wr => ∃ (i : Nat) (h t : Int) (ats tooks : List Int), i ≤ n1 ∧ k = n1 - i ∧ v11 = .int .i64 i ∧ v10 = .int .i64 t ∧ ats.length = i ∧ Inv w.heap.size w wr r u h t v8 v9 ats tooks)
  case atStart => exact ⟨0, s, a, [], [], Nat.zero_le _, rfl, rfl, rfl, rfl, hi0.out⟩
  case round =>
    obtain ⟨i, h, t, ats, tooks, hi, rfl, rfl, rfl, hal, hI⟩ := hrel
    clear hi0 CK CC K
    have HI := hid hI
    have HL := hid hal
    clear hal
    have kk := hI.ok
    have t0 := kk.a0
    have t1 := kk.a1
    have hb := hI.blk
    have cb0 := hb.cell 0
    have cb1 := hb.cell 1
    have cb2 := hb.cell 2
    have cb3 := hb.cell 3
    have fb0 := hb.frozen 0
    have fb1 := hb.frozen 1
    have fb2 := hb.frozen 2
    have fb3 := hb.frozen 3
    have lb := hb.lt
    simp at cb0 cb1 cb2 cb3
    clear hI kk hb
    by_cases hlt : i < n1
    · obtain ⟨b1, o1, rfl, hb1, hc1, hw1⟩ := H1.out.int i hlt
      obtain ⟨b2, o2, rfl, hb2, hc2, hw2⟩ := H2.out.int i (by omega)
      obtain ⟨x1, hx1⟩ : ∃ x1, l1[i]'(by rw [H1.out.len]; exact hlt) = x1 := ⟨_, rfl⟩
      obtain ⟨x2, hx2⟩ : ∃ x2, l2[i]'(by rw [H2.out.len]; omega) = x2 := ⟨_, rfl⟩
      rw [hx1] at hc1 hw1
      rw [hx2] at hc2 hw2
      have cw1 : wr.cell? ⟨b1, o1 + i, none⟩ = some (.int .i64 x1) := (HI.out.low.cell (p := ⟨b1, o1 + i, none⟩) hb1).trans hc1
      have cw2 : wr.cell? ⟨b2, o2 + i, none⟩ = some (.int .i64 x2) := (HI.out.low.cell (p := ⟨b2, o2 + i, none⟩) hb2).trans hc2
      have HC2 := hid hc2
      clear hc1 hc2 hx1 hx2
      unfold I64 at hw1 hw2
      by_cases hbad : x1 < 0 ∨ 2147483647 - t < x1 ∨ x2 < 0
      · have hways : x1 < 0 ∨ (0 ≤ x1 ∧ 2147483647 - t < x1) ∨ (0 ≤ x1 ∧ x1 ≤ 2147483647 - t ∧ x2 < 0) := by omega
        have low := HI.out.low
        clear hbad
        rcases hways with c | ⟨_, c⟩ | ⟨_, _, c⟩
        all_goals
          go_wp2
          all_goals
            go_ret
            exact ⟨rfl, low⟩
      · have g1 : 0 ≤ x1 := by omega
        have g2 : x1 ≤ 2147483647 - t := by omega
        have g3 : 0 ≤ x2 := by omega
        clear hbad
        obtain ⟨s', ok, kk', hs', hle', CT⟩ := take_step r u h t (t + x1) x2 HI.out.ok (by omega) (by omega) g3
        have CT := hid CT
        have HK := hid kk'
        have HS := hid hs'
        have HO := hid hle'
        clear kk' hs' hle'
        have lb2 : b2 < wr.heap.size := World.block_lt_of_cell? wr _ cw2
        go_upto_region 15 with fail
        go_cut [12, 13, 14] (fun s12 s13 s14 wx => ∃ g, s12 = .pointer (some ⟨g, 0, none⟩) ∧ s13 = .bool ok ∧ s14 = .nilIface ∧ w.heap.size < g ∧ Blk wx g 23 #[.int .i64 r, .int .i64 u, .int .i64 s', .int .i64 (t + x1)] ∧ Below wr.heap.size wr wx)
        case first =>
          go_region_held3 (fun w' => w'.cell? ⟨w.heap.size, 0, none⟩ = some (.int .i64 r) ∧ w'.cell? ⟨w.heap.size, 1, none⟩ = some (.int .i64 u) ∧ w'.cell? ⟨w.heap.size, 2, none⟩ = some (.int .i64 h) ∧ w'.cell? ⟨w.heap.size, 3, none⟩ = some (.int .i64 t) ∧ w'.cell? ⟨b2, o2 + i, none⟩ = some (.int .i64 x2))
            (((try dsimp only); (repeat' apply And.intro) <;> (first | assumption | (go_simp; done))))
            (first | (go_at_call 14; refine (CT.out _).mono ?_; rintro e w1 ⟨rfl, hb⟩; obtain ⟨os, d, rfl⟩ := ext_of_below hb; clear hb))
          all_goals
            go_wp2_with fail
            go_meet
            refine ⟨_, rfl, rfl, rfl, ?_, ?_, ?_⟩
            · first | omega | (simp only [size_ext]; omega)
            · first | exact (Blk.new' _ _ (by simp [size_ext])) | exact (Blk.new' _ _ rfl).ext _ _
            · (repeat' (first | (with_reducible exact Below.refl _ _) | (with_reducible assumption) | (with_reducible refine Below.ext ?_ ?_ _ _) | (with_reducible refine Below.alloc ?_ ?_ _) | (with_reducible refine Below.setCell ?_ ?_ _) | (with_reducible refine Below.drew ?_) | go_size | (simp [size_ext]; done) | (simp [size_ext]; omega)))
        case rest =>
          obtain ⟨g, rfl, rfl, rfl, hg, hbx, hlow⟩ := hcut
          have hbb := HI.out.blk.below hlow lb
          have low0 := HI.out.low.trans (hlow.mono (Nat.le_of_lt lb))
          clear CT cb0 cb1 cb2 cb3 fb0 fb1 fb2 fb3 cw1 cw2 lb2
          have e0 := hbb.cell 0
          have e1 := hbb.cell 1
          have e2 := hbb.cell 2
          have e3 := hbb.cell 3
          have f0 := hbb.frozen 0
          have f1 := hbb.frozen 1
          have f2 := hbb.frozen 2
          have f3 := hbb.frozen 3
          have y0 := hbx.cell 0
          have y1 := hbx.cell 1
          have y2 := hbx.cell 2
          have y3 := hbx.cell 3
          simp at e0 e1 e2 e3 y0 y1 y2 y3
          have HLOW := hid hlow
          have HBB := hid hbb
          have HBX := hid hbx
          clear hlow hbb hbx
          go_upto_region 19 with fail
          go_cut [13, 15] (fun s13 s15 wx => s13 = .bool ok ∧ s15 = .int .i64 0 ∧ Mid w.heap.size w wx r u s' (t + x1) u8 u9 ats tooks)
          case first =>
            go_wp2_with fail
            go_meet
            have o8 := own_low HI.out.own8 HLOW.out (Nat.le_refl _)
            have o9 := own_low HI.out.own9 HLOW.out (Nat.le_refl _)
            exact ⟨rfl, rfl, ⟨by simpa using (((HBB.out.set 0 (.int .i64 r)).set 1 (.int .i64 u)).set 2 (.int .i64 s')).set 3 (.int .i64 (t + x1)),
              own_far (own_far (own_far (own_far o8 (by simp) _) (by simp) _) (by simp) _) (by simp) _, own_far (own_far (own_far (own_far o9 (by simp) _) (by simp) _) (by simp) _) (by simp) _,
              HI.out.ne, by (repeat' (first | (with_reducible exact Below.refl _ _) | (with_reducible assumption) | (with_reducible refine Below.ext ?_ ?_ _ _) | (with_reducible refine Below.alloc ?_ ?_ _) | (with_reducible refine Below.setCell ?_ ?_ _) | (with_reducible refine Below.drew ?_) | go_size | (simp [size_ext]; done) | (simp [size_ext]; omega)))⟩⟩
          case rest =>
            obtain ⟨rfl, rfl, hM⟩ := hcut
            clear HLOW HBB HBX e0 e1 e2 e3 f0 f1 f2 f3 y0 y1 y2 y3 low0 hg
            have HM := hid hM
            have cx2 : wc.cell? ⟨b2, o2 + i, none⟩ = some (.int .i64 x2) := (hM.low.cell (p := ⟨b2, o2 + i, none⟩) hb2).trans HC2.out
            clear hM
            obtain ⟨n, hn⟩ : ∃ n : Int, (if ok then x2 else 0) = n := ⟨_, rfl⟩
            have hn0 : 0 ≤ n ∧ n ≤ u := by rw [← hn]; exact n_bd HO.out g3 HK.out.u0
            obtain ⟨i0, hii, hz0, hz1, hz2⟩ := info_parts int_info
            have iB : i < 60 := by omega
            have lal := HL.out
            have ltl : tooks.length = i := by rw [← HI.out.len]; exact lal
            have hb1' := HM.out.blk.lt
            have LT := hid ltl
            have LA := hid lal
            clear lal ltl
            have HSUM := hid (sum_inv (n := n) HI.out.ok.r0 g1 HI.out.len HI.out.sum (by rw [← hn]; exact HS.out))
            have HTOOK : Hid (∀ x ∈ tooks ++ [n], 0 ≤ x ∧ x ≤ u) := by
              intro x hx
              rcases List.mem_append.1 hx with h1 | h1
              · exact HI.out.took x h1
              · simp at h1; subst h1; exact hn0
            have HAT : Hid (∀ x ∈ ats ++ [t + x1], 0 ≤ x ∧ x ≤ t + x1) := by
              intro x hx
              rcases List.mem_append.1 hx with h1 | h1
              · have := HI.out.at_ x h1; omega
              · simp at h1; subst h1; omega
            have HN := hid hn
            clear hn
            have HI' := hid HI.out.len
            clear HI HS HO
            have sa1 : ats.length ≤ i := by rw [LA.out]; exact Nat.le_refl _
            have sa2 : i ≤ ats.length := by rw [LA.out]; exact Nat.le_refl _
            have st1 : tooks.length ≤ i := by rw [LT.out]; exact Nat.le_refl _
            have st2 : i ≤ tooks.length := by rw [LT.out]; exact Nat.le_refl _
            have c8 : ats.length + 1 ≤ maxLen := by rw [LA.out]; unfold maxLen; omega
            have c8' : (ats.length + 1) * 8 ≤ 140737488355328 := by rw [LA.out]; omega
            have c9 : tooks.length + 1 ≤ maxLen := by rw [LT.out]; unfold maxLen; omega
            have c9' : (tooks.length + 1) * 8 ≤ 140737488355328 := by rw [LT.out]; omega
            have c5 : ∀ o, w.heap.size + 1 ≤ (wc.alloc o).heap.size := fun o => by simp; omega
            have nn := HN.out
            cases ok
            · simp only [Bool.false_eq_true, if_false] at nn
              subst nn
              go_wp2_with (first
                | (at_builtin; refine wpList_append_own_at _ rfl _ _ 30 rfl (w.heap.size + 1) 3 i0 (.int .i64 0) 1 8 Try.underlying30 hii hz0 hz1 hz2 rfl (by decide) u8 ats.length _ rfl (HM.out.own8.alloc _) ⟨wc.heap.size, 0, none⟩ 1 1 [.int .i64 (t + x1)] rfl rfl (cell_one_new _ _ _) (by simp [Value.oneCell']) c8 c8' (c5 _) ?_; intro s8 w8 ho8 hg8 _ ha8; obtain ⟨g8, k8, hv8⟩ := row_shape ho8 (by omega); rw [hv8] at ho8 ha8 ⊢; have HM8 := hid (mid_push8 HM.out ho8 hg8 ha8); have c6 : ∀ o, w.heap.size + 1 ≤ (w8.alloc o).heap.size := (fun o => by have := HM8.out.blk.lt; simp; omega); clear ho8 hg8 ha8 hv8)
                | (at_builtin; refine wpList_append_own_at _ rfl _ _ 30 rfl (w.heap.size + 1) 3 i0 (.int .i64 0) 1 8 Try.underlying30 hii hz0 hz1 hz2 rfl (by decide) u9 tooks.length _ rfl (HM8.out.own9.alloc _) ⟨w8.heap.size, 0, none⟩ 1 1 [.int .i64 0] rfl rfl (cell_one_new _ _ _) (by simp [Value.oneCell']) c9 c9' (c6 _) ?_; intro s9 w9 ho9 hg9 _ ha9; obtain ⟨g9, k9, hv9⟩ := row_shape ho9 (by omega); rw [hv9] at ho9 ha9 ⊢; have HM9 := hid (mid_push9 HM8.out ho9 hg9 ha9); clear ho9 hg9 ha9 hv9))
              clear HM8 HM c5 c6 c8 c8' c9 c9' cx2
              have hA := hid (show (ats ++ [t + x1]).length = i + 1 by rw [List.length_append, LA.out]; rfl)
              have hT := hid (show (tooks ++ [0]).length = i + 1 by rw [List.length_append, LT.out]; rfl)
              have e8 : ats.length + 1 = i + 1 := by rw [LA.out]
              have e9 : tooks.length + 1 = i + 1 := by rw [LT.out]
              have E8 := hid e8
              have E9 := hid e9
              clear e8 e9
              have hstart := hid (show sumFrom (tooks ++ [0]) (i + 1) = 0 by unfold sumFrom; rw [List.drop_eq_nil_of_le (by rw [hT.out]; exact Nat.le_refl _)]; rfl)
              generalize hTT : tooks ++ [0] = tk at *
              generalize hAA : ats ++ [t + x1] = at' at *
              clear hTT hAA
              go_loopg [16, 17] (i + 1) (fun kk v16 v17 wi => ∃ (m : Int), kk ≤ i + 1 ∧ v16 = .int .i64 (sumFrom tk kk) ∧ v17 = .int .i64 m ∧ m = (kk : Int) - 1 ∧ Mid w.heap.size w wi r u s' (t + x1) (.slice (some ⟨g8, 0, none⟩) (ats.length + 1) k8) (.slice (some ⟨g9, 0, none⟩) (tooks.length + 1) k9) at' tk)
              case atStart => exact ⟨i, Nat.le_refl _, by rw [hstart.out], rfl, by omega, HM9.out⟩
              case round =>
                obtain ⟨m, hj, rfl, rfl, hm, hMi⟩ := hrel
                obtain ⟨j, hgj⟩ : ∃ j, gk = j := ⟨_, rfl⟩
                rw [hgj] at hj hm ⊢
                have HGJ := hid hgj
                clear hgj
                by_cases hj0 : 1 ≤ j
                · obtain ⟨q, hjq⟩ : ∃ q, j = q + 1 := ⟨j - 1, by omega⟩
                  subst hjq
                  obtain rfl : m = (q : Int) := by omega
                  have R := round_facts hMi HK.out g1 hA.out hT.out HSUM.out HTOOK.out HAT.out (by omega : q < i + 1) (by omega : i + 1 ≤ 60)
                  obtain ⟨y, z, S, hS, hS2, cy, cz, y0, y1, z0, z1, S0, S1, p0, p1, hlaw⟩ := R
                  have HMi := hid hMi
                  have HS2 := hid hS2
                  have HS1 := hid hS
                  have b0 := hMi.blk.cell 0
                  have b1' := hMi.blk.cell 1
                  simp at b0 b1'
                  rw [hS]
                  clear hMi hS hS2 hm HM9
                  have u0 := HK.out.u0
                  have u1 := HK.out.u1
                  go_upto_region 29 with fail
                  have v1 : IntKind.i64.wrap (t + x1 - z) = t + x1 - z := IntWalk.i64_in _ (by omega)
                  have v2 : IntKind.i64.wrap (r * (t + x1 - z)) = r * (t + x1 - z) := IntWalk.i64_in _ (by omega)
                  have v3 : IntKind.i64.wrap (u + r * (t + x1 - z)) = u + r * (t + x1 - z) := IntWalk.i64_in _ (by omega)
                  have v4 : decide (u + r * (t + x1 - z) < S + y) = false := decide_eq_false (by omega)
                  have v5 : (q : Int) < (ats.length : Int) + 1 := by omega
                  go_quiet (fail)
                  clear v1 v2 v3 v5
                  go_wp2
                  go_roundg q
                  case measure => have := HGJ.out; omega
                  case rel => exact ⟨_, by omega, by rw [HS2.out], rfl, by omega, HMi.out.drew _⟩
                · have hMi' := hid hMi
                  obtain rfl : j = 0 := by omega
                  obtain rfl : m = -1 := by omega
                  clear hMi hm HM9
                  go_wp2
                  go_roundg (n1 - (i + 1))
                  case measure => omega
                  case rel => exact ⟨i + 1, s', t + x1, at', tk, by omega, rfl, by go_num, rfl, hA.out, ⟨hMi'.out.blk, HK.out, hMi'.out.own8, hMi'.out.own9, hMi'.out.ne, hMi'.out.low, by rw [hA.out, hT.out], HTOOK.out, HAT.out, HSUM.out⟩⟩
            · simp only [if_true] at nn
              subst nn
              go_wp2_with (first
                | (at_builtin; refine wpList_append_own_at _ rfl _ _ 30 rfl (w.heap.size + 1) 3 i0 (.int .i64 0) 1 8 Try.underlying30 hii hz0 hz1 hz2 rfl (by decide) u8 ats.length _ rfl (HM.out.own8.alloc _) ⟨wc.heap.size, 0, none⟩ 1 1 [.int .i64 (t + x1)] rfl rfl (cell_one_new _ _ _) (by simp [Value.oneCell']) c8 c8' (c5 _) ?_; intro s8 w8 ho8 hg8 _ ha8; obtain ⟨g8, k8, hv8⟩ := row_shape ho8 (by omega); rw [hv8] at ho8 ha8 ⊢; have HM8 := hid (mid_push8 HM.out ho8 hg8 ha8); have c6 : ∀ o, w.heap.size + 1 ≤ (w8.alloc o).heap.size := (fun o => by have := HM8.out.blk.lt; simp; omega); clear ho8 hg8 ha8 hv8)
                | (at_builtin; refine wpList_append_own_at _ rfl _ _ 30 rfl (w.heap.size + 1) 3 i0 (.int .i64 0) 1 8 Try.underlying30 hii hz0 hz1 hz2 rfl (by decide) u9 tooks.length _ rfl (HM8.out.own9.alloc _) ⟨w8.heap.size, 0, none⟩ 1 1 [.int .i64 x2] rfl rfl (cell_one_new _ _ _) (by simp [Value.oneCell']) c9 c9' (c6 _) ?_; intro s9 w9 ho9 hg9 _ ha9; obtain ⟨g9, k9, hv9⟩ := row_shape ho9 (by omega); rw [hv9] at ho9 ha9 ⊢; have HM9 := hid (mid_push9 HM8.out ho9 hg9 ha9); clear ho9 hg9 ha9 hv9))
              clear HM8 HM c5 c6 c8 c8' c9 c9' cx2
              have hA := hid (show (ats ++ [t + x1]).length = i + 1 by rw [List.length_append, LA.out]; rfl)
              have hT := hid (show (tooks ++ [x2]).length = i + 1 by rw [List.length_append, LT.out]; rfl)
              have e8 : ats.length + 1 = i + 1 := by rw [LA.out]
              have e9 : tooks.length + 1 = i + 1 := by rw [LT.out]
              have E8 := hid e8
              have E9 := hid e9
              clear e8 e9
              have hstart := hid (show sumFrom (tooks ++ [x2]) (i + 1) = 0 by unfold sumFrom; rw [List.drop_eq_nil_of_le (by rw [hT.out]; exact Nat.le_refl _)]; rfl)
              generalize hTT : tooks ++ [x2] = tk at *
              generalize hAA : ats ++ [t + x1] = at' at *
              clear hTT hAA
              go_loopg [16, 17] (i + 1) (fun kk v16 v17 wi => ∃ (m : Int), kk ≤ i + 1 ∧ v16 = .int .i64 (sumFrom tk kk) ∧ v17 = .int .i64 m ∧ m = (kk : Int) - 1 ∧ Mid w.heap.size w wi r u s' (t + x1) (.slice (some ⟨g8, 0, none⟩) (ats.length + 1) k8) (.slice (some ⟨g9, 0, none⟩) (tooks.length + 1) k9) at' tk)
              case atStart => exact ⟨i, Nat.le_refl _, by rw [hstart.out], rfl, by omega, HM9.out⟩
              case round =>
                obtain ⟨m, hj, rfl, rfl, hm, hMi⟩ := hrel
                obtain ⟨j, hgj⟩ : ∃ j, gk = j := ⟨_, rfl⟩
                rw [hgj] at hj hm ⊢
                have HGJ := hid hgj
                clear hgj
                by_cases hj0 : 1 ≤ j
                · obtain ⟨q, hjq⟩ : ∃ q, j = q + 1 := ⟨j - 1, by omega⟩
                  subst hjq
                  obtain rfl : m = (q : Int) := by omega
                  have R := round_facts hMi HK.out g1 hA.out hT.out HSUM.out HTOOK.out HAT.out (by omega : q < i + 1) (by omega : i + 1 ≤ 60)
                  obtain ⟨y, z, S, hS, hS2, cy, cz, y0, y1, z0, z1, S0, S1, p0, p1, hlaw⟩ := R
                  have HMi := hid hMi
                  have HS2 := hid hS2
                  have HS1 := hid hS
                  have b0 := hMi.blk.cell 0
                  have b1' := hMi.blk.cell 1
                  simp at b0 b1'
                  rw [hS]
                  clear hMi hS hS2 hm HM9
                  have u0 := HK.out.u0
                  have u1 := HK.out.u1
                  go_upto_region 29 with fail
                  have v1 : IntKind.i64.wrap (t + x1 - z) = t + x1 - z := IntWalk.i64_in _ (by omega)
                  have v2 : IntKind.i64.wrap (r * (t + x1 - z)) = r * (t + x1 - z) := IntWalk.i64_in _ (by omega)
                  have v3 : IntKind.i64.wrap (u + r * (t + x1 - z)) = u + r * (t + x1 - z) := IntWalk.i64_in _ (by omega)
                  have v4 : decide (u + r * (t + x1 - z) < S + y) = false := decide_eq_false (by omega)
                  have v5 : (q : Int) < (ats.length : Int) + 1 := by omega
                  go_quiet (fail)
                  clear v1 v2 v3 v5
                  go_wp2
                  go_roundg q
                  case measure => have := HGJ.out; omega
                  case rel => exact ⟨_, by omega, by rw [HS2.out], rfl, by omega, HMi.out.drew _⟩
                · have hMi' := hid hMi
                  obtain rfl : j = 0 := by omega
                  obtain rfl : m = -1 := by omega
                  clear hMi hm HM9
                  go_wp2
                  go_roundg (n1 - (i + 1))
                  case measure => omega
                  case rel => exact ⟨i + 1, s', t + x1, at', tk, by omega, rfl, by go_num, rfl, hA.out, ⟨hMi'.out.blk, HK.out, hMi'.out.own8, hMi'.out.own9, hMi'.out.ne, hMi'.out.low, by rw [hA.out, hT.out], HTOOK.out, HAT.out, HSUM.out⟩⟩
    · have low := HI.out.low
      have q0 := HI.out.ok.h0
      have q1 := HI.out.ok.hu
      go_wp2
      all_goals
        go_ret
        exact ⟨rfl, low⟩

theorem contract (H : Type) (enc : TypeId × Value → H) (W : World) (base : Nat) (args : Array Value) (ds gs : List (DataW H)) (before : List MemPlace)
    (hval : ∀ (j : Nat) t v, Try.f4.params[j]? = some t → args[j]? = some v → Value.okWide Try.prog W .any base t v)
    (hW : DataW.Whole enc Try.prog Try.f4.params.toList Rows.bucketBoundSpec.vars false W args.toList ds gs before) :
    Calls Try.prog 4 args W fun e W' => ∃ v, e = .returned v ∧ Rows.bucketBoundSpec.post enc Try.prog Try.f4 false true false false W args v W' := by
  have hW' := hW
  obtain ⟨p, q, hA0, hV, rfl, hfz, hnd⟩ := hW
  have hA : DataW.TrodAll enc Try.prog W 0 (fun _ => true) true Try.f4.params.toList args.toList ds p := hA0
  rw [Try.params4] at hA hval
  obtain ⟨v0, vs0, d0, ds0, p0, q0, hargs, rfl, rfl, k0, r0⟩ := trodAll_cons hA
  obtain ⟨v1, vs1, d1, ds1, p1, q1, rfl, rfl, rfl, k1, r1⟩ := trodAll_cons r0
  obtain ⟨v2, vs2, d2, ds2, p2, q2, rfl, rfl, rfl, k2, r2⟩ := trodAll_cons r1
  obtain ⟨rfl, rfl, rfl⟩ := trodAll_nil r2
  obtain rfl : args = #[v0, v1, v2] := by cases args; simp_all
  obtain ⟨rfl, rfl⟩ := trodVars_none hV
  have lt0 : ∀ x ∈ p0, x.block < W.heap.size := by obtain ⟨m, hm⟩ := k0; exact DataW.trod_lt m _ _ _ hm
  have lt1 : ∀ x ∈ p1, x.block < W.heap.size := by obtain ⟨m, hm⟩ := k1; exact DataW.trod_lt m _ _ _ hm
  have lt2 : ∀ x ∈ p2, x.block < W.heap.size := by obtain ⟨m, hm⟩ := k2; exact DataW.trod_lt m _ _ _ hm
  obtain ⟨x0, cs0, rfl, w0, z0⟩ := arg_struct Try.underlying23 opens_bucket (hval 0 23 v0 rfl rfl) k0
  obtain ⟨A1, n1, c1, l1, rfl, w1, z1⟩ := arg_slice Try.underlying30 (opens_slice Try.underlying30 (opens_int Try.underlying3) (by kernel_rfl) (by decide)) (hval 1 30 v1 rfl rfl) k1
  obtain ⟨A2, n2, c2, l2, rfl, w2, z2⟩ := arg_slice Try.underlying30 (opens_slice Try.underlying30 (opens_int Try.underlying3) (by kernel_rfl) (by decide)) (hval 2 30 v2 rfl rfl) k2
  clear hA0 hA
  refine (walk W x0 cs0 w0 A1 n1 c1 l1 w1 A2 n2 c2 l2 w2).mono fun e W' ⟨he, bel⟩ => ?_
  subst he
  exact ⟨_, rfl, _, _, _, [], _, [], hW', trodAll_mk1 (shut_bool Try.underlying4 _), (trodAll_cons_mk (Below.trod laidOut (by kernel_rfl) (of_decide_eq_true (by kernel_rfl)) k0 bel lt0) (trodAll_cons_mk (Below.trod laidOut (by kernel_rfl) (of_decide_eq_true (by kernel_rfl)) k1 bel lt1) (trodAll_cons_mk (Below.trod laidOut (by kernel_rfl) (of_decide_eq_true (by kernel_rfl)) k2 bel lt2) trodAll_mk0))), rfl, bel.frame _, fun h => by cases h⟩

set_option maxRecDepth 100000 in
theorem lifted (os : Os) (started : os.Started) (H : Type) (enc : TypeId × Value → H) :
    ReturnsInHanded {} Try.checked os 4 .any (Rows.bucketBoundSpec.pre6 enc Try.prog Try.f4 Rows.bucketBoundRow.domain false) (Rows.bucketBoundSpec.post enc Try.prog Try.f4 false true false false) := by
  refine returnsInHanded_of_change (C := Try.checked) own started (by kernel_rfl) Try.func4
    (ChangeSpec.witness6 (enc := enc) (C := Try.checked) false ⟨#[], #[.agg #[.int .i64 0, .int .i64 0, .int .i64 0, .int .i64 0], .slice none 0 0, .slice none 0 0], []⟩ 8 (by kernel_rfl) (by kernel_rfl) (by kernel_rfl) (by kernel_rfl)) ?_
  intro W base args ds gs before hval hW _ _
  exact contract H enc W base args ds gs before hval hW

/-- the statement -/
theorem proved : Rows.BucketBoundSaid :=
  OpenClaim.holds_of_wide 4 Try.f4 rfl rfl rfl rfl rfl rfl rfl ⟨rfl, rfl, rfl, rfl, rfl⟩ rfl rfl rfl rfl rfl (by kernel_rfl) Try.func4 (by kernel_rfl)
    (of_decide_eq_true (by kernel_rfl)) (by unfold Func.isWrapper; first | (rw [if_pos (by decide +kernel)]; kernel_rfl) | (rw [if_neg (by decide +kernel)]; exact ⟨rfl, rfl⟩))
    (fun os started H enc _ => lifted os started H enc)

end bucketBound
end Go.Proofs.Ytbpflpmhnmdeoaa
