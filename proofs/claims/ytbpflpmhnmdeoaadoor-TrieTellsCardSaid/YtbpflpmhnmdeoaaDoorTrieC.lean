/- The laws' row of beginnings. -/
import Derived.Test.YtbpflpmhnmdeoaaDoorTrieB
import Derived.Test.YtbpflpmhnmdeoaaDoorOwnRow
namespace Go.Proofs.YtbpflpmhnmdeoaaDoor
open Go.RowKit
set_option linter.unusedVariables false

/-- a row of a slice of rows -/
theorem Rd.row {α : Type} {R : Rep α} {w : World} {B n c : Nat} {A : Option Addr} {l : List (List α)} (h : Rd (sliceR R) w B A n c l) (i : Nat) (hi : i < n) :
    ∃ b o A' n' c', A = some ⟨b, o, none⟩ ∧ b < B ∧ w.cell? ⟨b, o + i, none⟩ = some (.slice A' n' c') ∧ Rd R w B A' n' c' (l.getD i []) := by
  have hi' : i < l.length := by rw [h.len]; exact hi
  obtain ⟨b, o, vs, e, hb, ⟨A', n', c', rfl, hr⟩, hc⟩ := h.at_ i hi'
  have := hc 0 _ rfl
  refine ⟨b, o, A', n', c', e, hb, by simpa [sliceR] using this, ?_⟩
  rw [List.getD_eq_getElem?_getD, List.getElem?_eq_getElem hi']
  exact hr
theorem Rd.intD {w : World} {B n c : Nat} {A : Option Addr} {l : List Int} (h : Rd intR w B A n c l) (i : Nat) (hi : i < n) :
    ∃ b off, A = some ⟨b, off, none⟩ ∧ b < B ∧ w.cell? ⟨b, off + i, none⟩ = some (.int .i64 (l.getD i 0)) ∧ I64 (l.getD i 0) := by
  obtain ⟨b, o, e, hb, hc, hw⟩ := h.int i hi
  rw [List.getD_eq_getElem?_getD, List.getElem?_eq_getElem (by rw [h.len]; exact hi)]
  exact ⟨b, o, e, hb, hc, hw⟩

abbrev BT := List UInt8 × Int × Int × Unit
abbrev beginR : Rep BT := pairR (sliceR u8R) (pairR intR (pairR intR unitR))
theorem el_b : El Tryd.prog 41 46 3 40 := el_of (z := .agg #[.slice none 0 0, .int .i64 0, .int .i64 0]) Tryd.underlying41 (by kernel_rfl) rfl (by decide)
theorem rel_b {w : World} {B : Nat} {A : Option Addr} {n c : Nat} {d : List UInt8} {m v : Int} (h : Rd u8R w B A n c d) (hm : I64 m) (hv : I64 v) : beginR.rel w B (d, m, v, ()) [.slice A n c, .int .i64 m, .int .i64 v] :=
  ⟨[.slice A n c], [.int .i64 m, .int .i64 v], rfl, ⟨A, n, c, rfl, h⟩, [.int .i64 m], [.int .i64 v], rfl, ⟨rfl, hm⟩, [.int .i64 v], [], rfl, ⟨rfl, hv⟩, rfl⟩
/-- one beginning of a row of them -/
theorem Rd.begin_ {w : World} {B n c : Nat} {A : Option Addr} {l : List BT} (h : Rd beginR w B A n c l) (i : Nat) (hi : i < n) :
    ∃ b o A' n' c', A = some ⟨b, o, none⟩ ∧ b < B ∧ w.cell? ⟨b, o + i * 3, none⟩ = some (.slice A' n' c') ∧ w.cell? ⟨b, o + i * 3 + 1, none⟩ = some (.int .i64 (l.getD i ([], 0, 0, ())).2.1) ∧ w.cell? ⟨b, o + i * 3 + 2, none⟩ = some (.int .i64 (l.getD i ([], 0, 0, ())).2.2.1) ∧
      Rd u8R w B A' n' c' (l.getD i ([], 0, 0, ())).1 ∧ I64 (l.getD i ([], 0, 0, ())).2.1 ∧ I64 (l.getD i ([], 0, 0, ())).2.2.1 := by
  have hi' : i < l.length := by rw [h.len]; exact hi
  obtain ⟨b, o, vs, e, hb, hr, hc⟩ := h.at_ i hi'
  obtain ⟨_, _, rfl, ⟨A', n', c', rfl, h1⟩, _, _, rfl, ⟨rfl, h2⟩, _, _, rfl, ⟨rfl, h3⟩, rfl⟩ := hr
  rw [List.getD_eq_getElem?_getD, List.getElem?_eq_getElem hi']
  have c0 := hc 0 _ rfl
  have c1 := hc 1 _ rfl
  have c2 := hc 2 _ rfl
  have hk : beginR.k = 3 := rfl
  rw [hk] at c0 c1 c2
  exact ⟨b, o, A', n', c', e, hb, by simpa using c0, c1, c2, h1, h2, h3⟩

theorem PutO.later {w wr w' : World} {base g : Nat} {N N1 : Nodes} {V1 : Vals} {cnt : Int} (h : PutO base g N w N1 V1 cnt wr) (hb : Below wr.heap.size wr w') : PutO base g N w N1 V1 cnt w' :=
  ⟨h.trie.later hb, h.out.trans (Outside.of_below (N := fun _ => none) hb) (fun p b e => by cases e), h.sub⟩
/-- Put, from a later world on -/
theorem put_later {w wr : World} {base g : Nat} {N0 N : Nodes} {V : Vals} {cnt : Int} (hP : PutO base g N0 w N V cnt wr) (hw : base ≤ wr.heap.size) (hc0 : 0 ≤ cnt) (hc1 : cnt ≤ 1048576)
    {B : Nat} {A : Option Addr} {n c : Nat} {l : List UInt8} (h : ∀ w', Outside N wr w' → Rd u8R w' B A n c l) (m : Int) (hm : I64 m) (v : Int) (w' : World) (hb : Below wr.heap.size wr w') :
    Calls Tryd.prog 15 #[.pointer (some ⟨g, 0, none⟩), .slice A n c, .int .i64 m, .int .i64 v] w' fun e w2 => e = .returned (errB l m) ∧
      ∃ N', PutO base g N0 w N' (stepV V l m v) (stepC V cnt l m) w2 ∧ Outside N wr w2 := by
  have h1 := hP.later hb
  refine (put_any h1.trie (Nat.le_trans hw hb.size) hc0 hc1 (B := B) (A := A) (n := n) (c := c) (l := l) (fun w2 ho => h w2 ((Outside.of_below hb).trans ho fun p b hp => .inl ⟨p, hp⟩)) m hm v).mono ?_
  rintro e w2 ⟨rfl, N', hQ⟩
  exact ⟨rfl, N', h1.trans hQ, (Outside.of_below hb).trans hQ.out fun p b hp => .inl ⟨p, hp⟩⟩

/-- the first so many beginnings -/
def begL (ads : List (List UInt8)) (ns : List Int) (k : Nat) : List BT := (List.range k).map fun i => (ads.getD i [], ns.getD i 0, (i : Int), ())
theorem begL_len (ads : List (List UInt8)) (ns : List Int) (k : Nat) : (begL ads ns k).length = k := by simp [begL]
theorem begL_succ (ads : List (List UInt8)) (ns : List Int) (k : Nat) : begL ads ns (k + 1) = begL ads ns k ++ [(ads.getD k [], ns.getD k 0, (k : Int), ())] := by
  unfold begL; rw [List.range_succ, List.map_append]; rfl
theorem begL_get {ads : List (List UInt8)} {ns : List Int} {k i : Nat} (h : i < k) : (begL ads ns k).getD i ([], 0, 0, ()) = (ads.getD i [], ns.getD i 0, (i : Int), ()) := by
  rw [List.getD_eq_getElem?_getD, List.getElem?_eq_getElem (by rw [begL_len]; exact h)]
  simp [begL]

section
variable {α : Type} {R : Rep α} {e : TypeId} {B base : Nat} {w w' : World} {v : Value} {l : List α} {N : Nodes}
/-- a row of the call's own, one element -/
theorem OwnR.at_ {A : Option Addr} {n c : Nat} (h : OwnR R e B base w (.slice A n c) l) (i : Nat) (hi : i < l.length) (hk : 0 < R.k) :
    ∃ g vs, A = some ⟨g, 0, none⟩ ∧ base ≤ g ∧ g < w.heap.size ∧ R.rel w B (l[i]'hi) vs ∧ ∀ j u, vs[j]? = some u → w.cell? ⟨g, i * R.k + j, none⟩ = some u := by
  obtain ⟨⟨xs, h1, h2⟩, h0, h3⟩ := h
  have hkk : ∀ {vss : List (List Value)}, vss.length = l.length → (∀ i (h : i < l.length) (h' : i < vss.length), R.rel w B l[i] vss[i]) → ∀ vs ∈ vss, vs.length = R.k := by
    intro vss hl r vs hvs
    obtain ⟨i, hi, rfl⟩ := List.getElem_of_mem hvs
    exact R.len (r i (by omega) hi)
  rcases h1.2 with ⟨hv, hx⟩ | ⟨g, cap, cur, hv, hb, hh, hnc, hcm, hcs, ht⟩
  · exfalso
    have := h1.1
    omega
  · obtain ⟨vss, hl, rfl, r⟩ := h2
    have hk2 := hkk hl r
    cases hv
    refine ⟨g, vss[i]'(by omega), rfl, hb, (Array.getElem?_eq_some_iff.1 hh).1, r i hi (by omega), fun j u hu => ?_⟩
    have hj : j < R.k := by
      rw [← R.len (r i hi (by omega))]
      rcases Nat.lt_or_ge j (vss[i]'(by omega)).length with h | h
      · exact h
      · rw [List.getElem?_eq_none h] at hu; cases hu
    have := h1.cells (g := g) rfl (i * R.k + j) u (by rw [flat_get hk2 (by omega) hj]; exact hu)
    rw [add_none] at this
    simpa using this
/-- kept where the row's block and what its elements lead to are -/
theorem OwnR.outside (h : OwnR R e B base w v l) (ho : Outside N w w') (hN : ∀ p b, N p = some b → B ≤ b ∧ b < base) : OwnR R e B base w' v l := by
  obtain ⟨⟨xs, h1, h2⟩, h0, h3⟩ := h
  have hB : Below B w w' := ho.below (fun p b hp => (hN p b hp).1) (Nat.le_trans h0 h3)
  refine ⟨⟨xs, ⟨h1.1, ?_⟩, h2.below hB⟩, h0, Nat.le_trans h3 ho.size⟩
  rcases h1.2 with hv | ⟨g, cap, cur, hv, hb, hgg, rest⟩
  · exact .inl hv
  · exact .inr ⟨g, cap, cur, hv, hb, (ho.block g (Array.getElem?_eq_some_iff.1 hgg).1 fun p e => by have := (hN p g e).2; omega).trans hgg, rest⟩
end

set_option maxRecDepth 100000 in
set_option maxHeartbeats 4000000 in
theorem begins_any {w : World} {B : Nat} (hB : B ≤ w.heap.size) {A1 : Option Addr} {n1 c1 : Nat} {ads : List (List UInt8)} (h1 : Rd (sliceR u8R) w B A1 n1 c1 ads) {A2 : Option Addr} {n2 c2 : Nat} {ns : List Int} (h2 : Rd intR w B A2 n2 c2 ns)
    (k : Nat) (hk : k = min n1 n2) (hk2 : k ≤ 1048576) :
    Calls Tryd.prog 13 #[.slice A1 n1 c1, .slice A2 n2 c2] w fun e w' => ∃ A c, e = .returned (.slice A k c) ∧ OwnR beginR 46 B w.heap.size w' (.slice A k c) (begL ads ns k) ∧ Below w.heap.size w w' := by
  have m1 := h1.max
  have cap1 := h1.cap
  have m2 := h2.max
  have cap2 := h2.cap
  unfold maxLen at m1 m2
  have H1 := hid h1
  have H2 := hid h2
  have k1 : k ≤ n1 := by omega
  have k2 : k ≤ n2 := by omega
  have HK3 := hid (show n1 ≤ k ∨ n2 ≤ k by omega)
  clear h1 h2 hk
  have tk0 : True := trivial; have tk1 : True := trivial; have tk2 : True := trivial; have tk3 : True := trivial; have tk4 : True := trivial; have tk5 : True := trivial; have tk6 : True := trivial; have tk7 : True := trivial; have tk8 : True := trivial; have tk9 : True := trivial; have tk10 : True := trivial; have tk11 : True := trivial; have tk12 : True := trivial
  go_enter Tryd.func13, Tryd.ntmps13
  go_wp2
  go_loopg [5, 6] k (fun gk v5 v6 wi => ∃ i : Nat, i ≤ k ∧ gk = k - i ∧ v6 = .int .i64 (i : Int) ∧ OwnR beginR 46 B w.heap.size wi v5 (begL ads ns i) ∧ Below w.heap.size w wi)
  case atStart => exact ⟨0, Nat.zero_le _, rfl, rfl, OwnR.nil hB (Nat.le_refl _), Below.refl _ _⟩
  case round =>
    obtain ⟨i, hi, rfl, rfl, hown, hlow⟩ := hrel
    have HO := hid hown
    have HLOW := hid hlow
    have zw := hlow.size
    clear hown hlow
    by_cases hlt : i < k
    · have g1 : i < n1 := by omega
      have g2 : i < n2 := by omega
      have g3 : (i : Int) < (n1 : Int) := by omega
      have g4 : (i : Int) < (n2 : Int) := by omega
      obtain ⟨b1, o1, A', n', c', rfl, lb1, cc1, r1⟩ := (H1.out.below (HLOW.out.mono hB)).row i g1
      obtain ⟨b2, o2, rfl, lb2, cc2, I2⟩ := (H2.out.below (HLOW.out.mono hB)).intD i g2
      have HI2 := hid I2
      have R1 := hid r1
      have HB := hid (begL_succ ads ns i)
      generalize ads.getD i [] = a at *
      generalize ns.getD i 0 = x at *
      have lb1' : b1 < wr.heap.size := by omega
      have lb1w : b1 < w.heap.size := by omega
      have lb2w : b2 < w.heap.size := by omega
      have lb2' : b2 < wr.heap.size := by omega
      have hl := hid (begL_len ads ns i)
      have c3 : ((begL ads ns i).length + 1) * 40 ≤ 140737488355328 := by rw [hl.out]; omega
      have c4 : (begL ads ns i).length + 1 ≤ maxLen := by rw [hl.out]; unfold maxLen; omega
      have HI : I64 (i : Int) := by unfold I64; omega
      have HII := hid HI
      clear I2 r1 HI
      go_wp2_with fail
      go_region_held3 (fun w' => w'.cell? ⟨b1, o1 + i, none⟩ = some (.slice A' n' c') ∧ w'.cell? ⟨b2, o2 + i, none⟩ = some (.int .i64 x)) (((try dsimp only); (repeat' apply And.intro) <;> (first | assumption | (go_simp; done))))
        (first
          | (refine step_own (R := beginR) (B := B) (base := w.heap.size) (A := some ⟨wr.heap.size, 0, none⟩) (n := 1) (c := 1) (m := [((a, x, (i : Int), ()) : BT)]) el_b (by rfl) (.tmp 19) (.tmp 30) (by rfl) (by rfl) (HO.out.below (by (repeat' (first | (with_reducible exact Below.refl _ _) | (with_reducible assumption) | (with_reducible refine below_ext0 ?_ _ _) | (with_reducible refine below_alloc0 ?_ _) | (with_reducible refine Below.ext ?_ ?_ _ _) | (with_reducible refine Below.alloc ?_ ?_ _) | (with_reducible refine Below.setCell ?_ ?_ _) | (with_reducible refine Below.drew ?_) | (with_reducible refine below_draws ?_ _) | go_size | (simp [size_ext]; done) | (simp [size_ext]; omega))))) (by rfl) (SrcR.lit (ty := 46) (cs := #[.slice A' n' c', .int .i64 x, .int .i64 (i : Int)]) (by ((repeat' (first | (with_reducible assumption) | (with_reducible refine Blk.drew ?_) | exact Blk.new' _ _ (by first | rfl | (simp [size_ext]; done) | (simp [size_ext]; omega)) | (with_reducible refine Blk.ext ?_ _ _) | (with_reducible refine Blk.alloc ?_ _))); (all_goals fail))) (rel_b (R1.out.below (by (repeat' (first | (with_reducible exact Below.refl _ _) | (with_reducible assumption) | (with_reducible refine below_ext0 ?_ _ _) | (with_reducible refine below_alloc0 ?_ _) | (with_reducible refine Below.ext ?_ ?_ _ _) | (with_reducible refine Below.alloc ?_ ?_ _) | (with_reducible refine Below.setCell ?_ ?_ _) | (with_reducible refine Below.drew ?_) | (with_reducible refine below_draws ?_ _) | go_size | (simp [size_ext]; done) | (simp [size_ext]; omega))) : Below B wr _)) HI2.out HII.out) (by simp [Value.oneCell'])) c3 c4 ?_; intro v9 w9 ho9 hb9 ha9; have HO9 := hid ho9; have hL9 := (Below.trans (by (repeat' (first | (with_reducible exact Below.refl _ _) | (with_reducible assumption) | (with_reducible refine below_ext0 ?_ _ _) | (with_reducible refine below_alloc0 ?_ _) | (with_reducible refine Below.ext ?_ ?_ _ _) | (with_reducible refine Below.alloc ?_ ?_ _) | (with_reducible refine Below.setCell ?_ ?_ _) | (with_reducible refine Below.drew ?_) | (with_reducible refine below_draws ?_ _) | go_size | (simp [size_ext]; done) | (simp [size_ext]; omega)))) hb9 : Below w.heap.size wr w9); have q1 := (hL9.cell (p := ⟨b1, o1 + i, none⟩) lb1w).trans cc1; have q2 := (hL9.cell (p := ⟨b2, o2 + i, none⟩) lb2w).trans cc2; have HL9 := hid (HLOW.out.trans hL9); clear ho9 hb9 ha9 hL9)
          | fail)
      all_goals
        go_wp2
        go_roundg (k - (i + 1))
        case measure => omega
        case rel => exact ⟨i + 1, by omega, rfl, by go_num, by rw [HB.out]; exact HO9.out, HL9.out⟩
    · obtain rfl : i = k := by omega
      obtain ⟨A, c, rfl⟩ := HO.out.slice' (n := i) (begL_len _ _ _)
      by_cases g1 : i < n1
      · have g2 : ¬ i < n2 := by have := HK3.out; omega
        have g3 : (i : Int) < (n1 : Int) := by omega
        have g4 : ¬ (i : Int) < (n2 : Int) := by omega
        go_wp2
        go_ret
        exact ⟨_, _, rfl, HO.out, HLOW.out⟩
      · have g3 : ¬ (i : Int) < (n1 : Int) := by omega
        go_wp2
        go_ret
        exact ⟨_, _, rfl, HO.out, HLOW.out⟩
end Go.Proofs.YtbpflpmhnmdeoaaDoor
