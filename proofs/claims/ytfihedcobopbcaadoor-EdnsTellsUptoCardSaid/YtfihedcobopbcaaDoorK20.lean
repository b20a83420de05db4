/- The document's answer: what a message tells of itself (OptOf). -/
import Derived.Test.YtfihedcobopbcaaDoorK17
import Derived.Test.YtfihedcobopbcaaDoorK19
namespace Go.Proofs.YtfihedcobopbcaaDoor
open Go.RowKit
set_option linter.unusedVariables false
set_option linter.unusedSimpArgs false

/-- where the record is, of so many -/
def AtP (zs : List RecT) (k : Nat) (i : Int) : Prop :=
  (i = -1 ∧ ∀ r ∈ zs.take k, isOpt r = false) ∨ ∃ j : Nat, i = (j : Int) ∧ j < k ∧ j < zs.length ∧ idxO zs 0 = (j : Int) ∧ ((zs.take k).drop (j + 1)).any isOpt = false
theorem AtP.start (zs : List RecT) : AtP zs 0 (-1) := .inl ⟨rfl, fun r hr => by simp at hr⟩
theorem AtP.bd {zs : List RecT} {k : Nat} {i : Int} (h : AtP zs k i) : -1 ≤ i ∧ i < (k : Int) := by
  rcases h with ⟨rfl, _⟩ | ⟨j, rfl, h, _⟩
  · omega
  · omega
theorem AtP.plain {zs : List RecT} {k : Nat} {i : Int} (h : AtP zs k i) (hk : k < zs.length) (ho : isOpt zs[k] = false) : AtP zs (k + 1) i := by
  rcases h with ⟨rfl, h⟩ | ⟨j, rfl, h1, h2, h3, h4⟩
  · refine .inl ⟨rfl, fun r hr => ?_⟩
    rw [List.take_succ_eq_append_getElem hk, List.mem_append, List.mem_singleton] at hr
    rcases hr with hr | rfl
    · exact h r hr
    · exact ho
  · refine .inr ⟨j, rfl, by omega, h2, h3, ?_⟩
    rw [List.take_succ_eq_append_getElem hk, List.drop_append_of_le_length (by rw [List.length_take]; omega), List.any_append, h4]
    simp [ho]
theorem AtP.first {zs : List RecT} {k : Nat} {i : Int} (h : AtP zs k i) (hi : i < 0) (hk : k < zs.length) (ho : isOpt zs[k] = true) : AtP zs (k + 1) (k : Int) := by
  rcases h with ⟨rfl, h⟩ | ⟨j, rfl, h1, h2, h3, h4⟩
  · refine .inr ⟨k, rfl, by omega, hk, ?_, ?_⟩
    · rw [idxO_drop zs k (by omega) (fun j hj hl => h _ (by
        rw [List.mem_take_iff_getElem]
        exact ⟨j, by omega, rfl⟩)), List.drop_eq_getElem_cons hk, idxO, if_pos ho]
    · rw [List.drop_eq_nil_of_le (by rw [List.length_take]; omega)]; rfl
  · omega
theorem AtP.twice {zs : List RecT} {k : Nat} {i : Int} (h : AtP zs k i) (hi : ¬ i < 0) (hk : k < zs.length) (ho : isOpt zs[k] = true) : optF zs = (10, false, opt0, []) := by
  rcases h with ⟨rfl, h⟩ | ⟨j, rfl, h1, h2, h3, h4⟩
  · omega
  · unfold optF
    rw [h3, if_neg (by omega), Int.toNat_natCast, if_pos]
    rw [List.any_eq_true]
    refine ⟨zs[k], ?_, ho⟩
    rw [List.mem_drop_iff_getElem]
    exact ⟨k - (j + 1), by omega, by congr 1; omega⟩
theorem AtP.none_ {zs : List RecT} {i : Int} (h : AtP zs zs.length i) (hi : i < 0) : optF zs = (0, false, opt0, []) := by
  rcases h with ⟨rfl, h⟩ | ⟨j, rfl, h1, h2, h3, h4⟩
  · unfold optF
    rcases idxO_or zs 0 with ⟨h1, h2⟩ | ⟨i, hi, h1, h2, _⟩
    · rw [h1, if_pos (by decide)]
    · rw [List.take_of_length_le (Nat.le_refl _)] at h
      rw [h _ (List.getElem_mem hi)] at h2
      cases h2
  · omega
open Classical in
theorem AtP.one {zs : List RecT} {i : Int} (h : AtP zs zs.length i) (hi : ¬ i < 0) : ∃ j : Nat, ∃ hj : j < zs.length, i = (j : Int) ∧ optF zs = (if TellOk zs[j] then (match optsP zs[j].2.2.2.2.1 with
    | none => ((1 : Int), false, opt0, ([] : List OT))
    | some os => ((0 : Int), true, ttlX zs[j].2.2.1 zs[j].2.2.2.1, os)) else ((1 : Int), false, opt0, ([] : List OT))) := by
  rcases h with ⟨rfl, h⟩ | ⟨j, rfl, h1, h2, h3, h4⟩
  · omega
  · refine ⟨j, h2, rfl, ?_⟩
    rw [List.take_of_length_le (Nat.le_refl _)] at h4
    have hg : zs.getD j recNo = zs[j] := by rw [List.getD_eq_getElem?_getD, List.getElem?_eq_getElem h2]; rfl
    unfold optF
    rw [h3, if_neg (by omega), Int.toNat_natCast, if_neg (by rw [h4]; decide), hg]
    rfl
theorem res_optof {tmps : Array Value} {W : World} {r : Nat} {T : TypeId} {x : OptX} {V b e : Value} (h2 : tmps[2]? = some (.pointer (some ⟨r, 0, none⟩))) (h3 : tmps[3]? = some b) (h4 : tmps[4]? = some e) (hB : Blk W r T (optC x V)) :
    (results Tryd.f13 tmps).run Tryd.prog W = .ok (.tuple #[.agg (optC x V), b, e]) W := by
  have k0 : W.cell? ⟨r, 0, none⟩ = some (.int .i64 x.size) := hB.cell 0
  have k1 : W.cell? ⟨r, 1, none⟩ = some (.int .i64 x.code) := hB.cell 1
  have k2 : W.cell? ⟨r, 2, none⟩ = some (.int .i64 x.ver) := hB.cell 2
  have k3 : W.cell? ⟨r, 3, none⟩ = some (.bool x.dob) := hB.cell 3
  have k4 : W.cell? ⟨r, 4, none⟩ = some (.int .i64 x.z) := hB.cell 4
  have k5 : W.cell? ⟨r, 5, none⟩ = some V := hB.cell 5
  simp [results, Tryd.results13, go_sem, h2, h3, h4, k0, k1, k2, k3, k4, k5]
/-- what OptOf hands back -/
def OptE (w : World) (E : Int) (B : Bool) (x : OptX) (os : List OT) (e : Ending) (w' : World) : Prop :=
  ∃ A c, e = .returned (.tuple #[.agg (optC x (.slice A os.length c)), .bool B, .int .i64 E]) ∧ Rd oR w' w'.heap.size A os.length c os ∧ Below w.heap.size w w'
theorem optE_no {w w' : World} {E : Int} (hb : Below w.heap.size w w') : OptE w E false opt0 [] (.returned (.tuple #[.agg (optC opt0 (.slice none 0 0)), .bool false, .int .i64 E])) w' := ⟨none, 0, rfl, rd_nil _ _, hb⟩
theorem opt_grown {w : World} {g : Nat} {t : TypeId} {x : OptX} {V : Value} (hz : Blk w g t (optC x V)) (hV : ∃ a n c, V = .slice a n c) : FreeB IsD w g := by
  obtain ⟨_, _, _, rfl⟩ := hV
  exact FreeB.of_blk hz (by simp [not_d_slice, not_d_int, not_d_bool])

set_option maxRecDepth 100000 in
set_option maxHeartbeats 40000000 in
theorem roptof_any {w : World} {h : Hd} {Aq Ax Ay Az : Option Addr} {nq cq nx cx ny cy nz cz : Nat} {zs : List RecT} (hZ : Rd recR w w.heap.size Az nz cz zs) (hd : ∀ r ∈ zs, r.2.2.2.2.1.length ≤ 1048576) {E : Int} {B : Bool} {x : OptX} {os : List OT} (hf : optF zs = (E, B, x, os)) :
    Calls Tryd.prog 13 #[.agg (msgC h (.slice Aq nq cq) (.slice Ax nx cx) (.slice Ay ny cy) (.slice Az nz cz))] w (OptE w E B x os) := by
  have m1 := hZ.max
  have k1 := hZ.cap
  have lim := hZ.lim
  rw [show recR.bs = 72 from rfl] at lim
  unfold maxLen at m1
  have lz := hZ.len
  have HR := hid hZ
  have HF := hid hf
  have HD := hid hd
  clear hZ hf hd
  have tk0 : True := trivial; have tk1 : True := trivial; have tk2 : True := trivial; have tk3 : True := trivial; have tk4 : True := trivial; have tk5 : True := trivial; have tk6 : True := trivial; have tk7 : True := trivial; have tk8 : True := trivial; have tk9 : True := trivial; have tk10 : True := trivial; have tk11 : True := trivial; have tk12 : True := trivial
  go_enter Tryd.func13, Tryd.ntmps13
  go_wp2
  have hB1 : Blk ((w.alloc (.cells (msgC h (.slice Aq nq cq) (.slice Ax nx cx) (.slice Ay ny cy) (.slice Az nz cz)) 28)).alloc (.cells (optC opt0 (.slice none 0 0)) 46)) w.heap.size 28 (msgC h (.slice Aq nq cq) (.slice Ax nx cx) (.slice Ay ny cy) (.slice Az nz cz)) := (Blk.new _ _ _).alloc _
  have hB2 : Blk ((w.alloc (.cells (msgC h (.slice Aq nq cq) (.slice Ax nx cx) (.slice Ay ny cy) (.slice Az nz cz)) 28)).alloc (.cells (optC opt0 (.slice none 0 0)) 46)) (w.heap.size + 1) 46 (optC opt0 (.slice none 0 0)) := Blk.new' _ _ (by simp)
  go_loopg [5, 6] nz (fun g v5 v6 wi => ∃ (k : Nat) (i : Int), k ≤ nz ∧ g = nz - k ∧ v6 = .int .i64 (k : Int) ∧ v5 = .int .i64 i ∧ Hid (AtP zs k i) ∧ Blk wi w.heap.size 28 (msgC h (.slice Aq nq cq) (.slice Ax nx cx) (.slice Ay ny cy) (.slice Az nz cz)) ∧ Blk wi (w.heap.size + 1) 46 (optC opt0 (.slice none 0 0)) ∧ Below w.heap.size w wi)
  case atStart => exact ⟨0, -1, Nat.zero_le _, rfl, rfl, rfl, hid (AtP.start zs), hB1, hB2, (by (repeat' (first | (with_reducible exact Below.refl _ _) | (with_reducible assumption) | (with_reducible refine below_ext0 ?_ _ _) | (with_reducible refine below_alloc0 ?_ _) | (with_reducible refine Below.ext ?_ ?_ _ _) | (with_reducible refine Below.alloc ?_ ?_ _) | (with_reducible refine Below.setCell ?_ ?_ _) | (with_reducible refine Below.drew ?_) | (with_reducible refine below_draws ?_ _) | go_size | (simp [size_ext]; done) | (simp [size_ext]; omega))))⟩
  case round =>
    obtain ⟨k, i, hk, rfl, rfl, rfl, HA, hkx, hkz, hb⟩ := hrel
    clear hB1 hB2
    obtain ⟨i0, i1⟩ := HA.out.bd
    have HB := hid hb
    have HKX := hid hkx
    have HKZ := hid hkz
    have q14 : wr.cell? ⟨w.heap.size, 14, none⟩ = some (.slice Az nz cz) := hkx.cell 14
    have zl := hkz.lt
    by_cases hlt : k < nz
    · obtain ⟨b1, o1, A3, n3, c3, A4, n4, c4, l1, T, C, L, d, rfl, hb1, e1, x0, x1, x2, x3, x4, r1, hi64, s1⟩ := (HR.out.later hb).recd k hlt
      have hk' : k < zs.length := by rw [lz]; exact hlt
      have HO := hid (show isOpt (zs[k]'hk') = decide (T = 41) by rw [e1]; rfl)
      have z0 : (wr).cell? ⟨w.heap.size + 1, 0, none⟩ = some (.int .i64 (opt0).size) := (hkz).cell 0; have z1 : (wr).cell? ⟨w.heap.size + 1, 1, none⟩ = some (.int .i64 (opt0).code) := (hkz).cell 1; have z2 : (wr).cell? ⟨w.heap.size + 1, 2, none⟩ = some (.int .i64 (opt0).ver) := (hkz).cell 2; have z3 : (wr).cell? ⟨w.heap.size + 1, 3, none⟩ = some (.bool (opt0).dob) := (hkz).cell 3; have z4 : (wr).cell? ⟨w.heap.size + 1, 4, none⟩ = some (.int .i64 (opt0).z) := (hkz).cell 4; have z5 : (wr).cell? ⟨w.heap.size + 1, 5, none⟩ = some (.slice none 0 0) := (hkz).cell 5
      have f0 : (wr).frozen? ⟨w.heap.size + 1, 0, none⟩ = false := (hkz).frozen 0; have f1 : (wr).frozen? ⟨w.heap.size + 1, 1, none⟩ = false := (hkz).frozen 1; have f2 : (wr).frozen? ⟨w.heap.size + 1, 2, none⟩ = false := (hkz).frozen 2; have f3 : (wr).frozen? ⟨w.heap.size + 1, 3, none⟩ = false := (hkz).frozen 3; have f4 : (wr).frozen? ⟨w.heap.size + 1, 4, none⟩ = false := (hkz).frozen 4; have f5 : (wr).frozen? ⟨w.heap.size + 1, 5, none⟩ = false := (hkz).frozen 5
      clear hb e1 r1 s1 hi64 hkx hkz x0 x2 x3 x4
      have t0 : (k : Int) < (nz : Int) := by omega
      have t2 : (0 : Int) ≤ (k : Int) := by omega
      by_cases h41 : T = 41
      · have hv : (T == 41) = true := by rw [beq_iff_eq]; exact h41
        have ho : isOpt (zs[k]'hk') = true := by rw [HO.out, decide_eq_true h41]
        by_cases hi : i < 0
        · have hi2 : ¬ 0 ≤ i := by omega
          have HA2 := hid (HA.out.first hi hk' ho)
          clear h41 ho
          go_wp2
          go_roundg (nz - (k + 1))
          case measure => omega
          case rel => exact ⟨k + 1, k, by omega, rfl, by go_num, rfl, HA2, HKX.out, HKZ.out, HB.out⟩
        · have hi2 : 0 ≤ i := by omega
          have HE := hid ((HF.out).symm.trans (HA.out.twice hi hk' ho))
          clear h41 ho
          go_wp2
          (try simp only [Exit.inBlock, Exit.then])
          refine bodyPost_ret (res_optof rfl rfl rfl (opt_over opt0 (.slice none 0 0) HKZ.out)) rfl ?_
          have he := HE.out
          cases he
          exact optE_no (by have hlw := HB.out; (repeat' (first | (with_reducible exact Below.refl _ _) | (with_reducible assumption) | (with_reducible refine below_ext0 ?_ _ _) | (with_reducible refine below_alloc0 ?_ _) | (with_reducible refine Below.ext ?_ ?_ _ _) | (with_reducible refine Below.alloc ?_ ?_ _) | (with_reducible refine Below.setCell ?_ ?_ _) | (with_reducible refine Below.drew ?_) | (with_reducible refine below_draws ?_ _) | go_size | (simp [size_ext]; done) | (simp [size_ext]; omega))))
      · have hv : (T == 41) = false := by rw [beq_eq_false_iff_ne]; exact h41
        have HA2 := hid (HA.out.plain hk' (by rw [HO.out, decide_eq_false h41]))
        clear h41
        go_wp2
        go_roundg (nz - (k + 1))
        case measure => omega
        case rel => exact ⟨k + 1, i, by omega, rfl, by go_num, rfl, HA2, HKX.out, HKZ.out, HB.out⟩
    · have t0 : ¬ (k : Int) < (nz : Int) := by omega
      obtain rfl : k = nz := by omega
      have z0 : (wr).cell? ⟨w.heap.size + 1, 0, none⟩ = some (.int .i64 (opt0).size) := (hkz).cell 0; have z1 : (wr).cell? ⟨w.heap.size + 1, 1, none⟩ = some (.int .i64 (opt0).code) := (hkz).cell 1; have z2 : (wr).cell? ⟨w.heap.size + 1, 2, none⟩ = some (.int .i64 (opt0).ver) := (hkz).cell 2; have z3 : (wr).cell? ⟨w.heap.size + 1, 3, none⟩ = some (.bool (opt0).dob) := (hkz).cell 3; have z4 : (wr).cell? ⟨w.heap.size + 1, 4, none⟩ = some (.int .i64 (opt0).z) := (hkz).cell 4; have z5 : (wr).cell? ⟨w.heap.size + 1, 5, none⟩ = some (.slice none 0 0) := (hkz).cell 5
      have f0 : (wr).frozen? ⟨w.heap.size + 1, 0, none⟩ = false := (hkz).frozen 0; have f1 : (wr).frozen? ⟨w.heap.size + 1, 1, none⟩ = false := (hkz).frozen 1; have f2 : (wr).frozen? ⟨w.heap.size + 1, 2, none⟩ = false := (hkz).frozen 2; have f3 : (wr).frozen? ⟨w.heap.size + 1, 3, none⟩ = false := (hkz).frozen 3; have f4 : (wr).frozen? ⟨w.heap.size + 1, 4, none⟩ = false := (hkz).frozen 4; have f5 : (wr).frozen? ⟨w.heap.size + 1, 5, none⟩ = false := (hkz).frozen 5
      by_cases hi : i < 0
      · have HE := hid ((HF.out).symm.trans (AtP.none_ (by rw [lz]; exact HA.out) hi))
        clear hkx hkz hb
        go_wp2
        refine bodyPost_ret (res_optof rfl rfl rfl (opt_over opt0 (.slice none 0 0) HKZ.out)) rfl ?_
        have he := HE.out
        cases he
        exact optE_no (by have hlw := HB.out; (repeat' (first | (with_reducible exact Below.refl _ _) | (with_reducible assumption) | (with_reducible refine below_ext0 ?_ _ _) | (with_reducible refine below_alloc0 ?_ _) | (with_reducible refine Below.ext ?_ ?_ _ _) | (with_reducible refine Below.alloc ?_ ?_ _) | (with_reducible refine Below.setCell ?_ ?_ _) | (with_reducible refine Below.drew ?_) | (with_reducible refine below_draws ?_ _) | go_size | (simp [size_ext]; done) | (simp [size_ext]; omega))))
      · obtain ⟨j, hj, rfl, hopt⟩ := AtP.one (i := i) (by rw [lz]; exact HA.out) hi
        have hjn : j < k := by rw [← lz]; exact hj
        obtain ⟨b1, o1, A3, n3, c3, A4, n4, c4, l1, T, C, L, d, rfl, hb1, e1, x0, x1, x2, x3, x4, r1, hi64, s1⟩ := (HR.out.later hb).recd j hjn
        have hdl := HD.out _ (List.getElem_mem hj)
        rw [e1] at hopt hdl
        have hn3 := r1.len
        simp only at hopt hdl
        rw [s1.len] at hdl
        have hfe := HF.out.symm.trans hopt
        have t3 : (0 : Int) ≤ (j : Int) := by omega
        have t4 : (j : Int) < (k : Int) := by omega
        by_cases hk : TellOk (l1, T, C, L, d, ())
        · rw [if_pos hk] at hfe
          obtain ⟨hl, ⟨C0, C1⟩, ⟨L0, L1⟩⟩ := hk
          simp only at hl C0 C1 L0 L1
          subst hl
          obtain rfl : n3 = 0 := by rw [← hn3]; rfl
          have u0 : ¬ C < 0 := by omega
          have u2 : ¬ 65535 < C := by omega
          have u4 : ¬ L < 0 := by omega
          have u6 : ¬ 4294967295 < L := by omega
          have HFE := hid hfe
          have S1 := hid s1
          have hdn := hid s1.len
          have lim4 := hdl
          clear hkx hkz hb hopt hdl hfe e1 r1 s1 hi64 hn3
          go_wp2
          obtain ⟨wo, hwo⟩ : ∃ wo, wr = wo := ⟨_, rfl⟩
          subst hwo
          have hB3 : Blk ((wr.alloc (.cells #[.slice A3 0 c3, .int .i64 T, .int .i64 C, .int .i64 L, .slice A4 n4 c4] 67)).alloc (.cells (optC (ttlX C L) (.slice none 0 0)) 46)) wr.heap.size 67 #[.slice A3 0 c3, .int .i64 T, .int .i64 C, .int .i64 L, .slice A4 n4 c4] := (Blk.new _ _ _).alloc _
          have hB4 : Blk ((wr.alloc (.cells #[.slice A3 0 c3, .int .i64 T, .int .i64 C, .int .i64 L, .slice A4 n4 c4] 67)).alloc (.cells (optC (ttlX C L) (.slice none 0 0)) 46)) (wr.heap.size + 1) 46 (optC (ttlX C L) (.slice none 0 0)) := Blk.new' _ _ (by simp)
          have hB5 : Blk ((wr.alloc (.cells #[.slice A3 0 c3, .int .i64 T, .int .i64 C, .int .i64 L, .slice A4 n4 c4] 67)).alloc (.cells (optC (ttlX C L) (.slice none 0 0)) 46)) (w.heap.size + 1) 46 (optC opt0 (.slice none 0 0)) := (HKZ.out.alloc _).alloc _
          obtain ⟨wo, hwo⟩ : ∃ wo, wr = wo := ⟨_, rfl⟩
          rw [hwo] at hB3 hB4 hB5 HB S1 zl ⊢
          clear hwo q14 hb1 x0 x1 x2 x3 x4 HKX HKZ HA z0 z1 z2 z3 z4 z5 f0 f1 f2 f3 f4 f5
          clear wr
          go_loopg [9] n4 (fun g v9 wi => ∃ (p : Nat) (os' : List OT) (V : Value), p ≤ n4 ∧ g = n4 - p ∧ v9 = .int .i64 (p : Int) ∧ Row oR 105 wi (wo.heap.size + 2) V os' ∧ os'.length ≤ p ∧ Hid (optsP d = (optsP (d.drop p)).map (os' ++ ·)) ∧ Blk wi wo.heap.size 67 #[.slice A3 0 c3, .int .i64 T, .int .i64 C, .int .i64 L, .slice A4 n4 c4] ∧ Blk wi (wo.heap.size + 1) 46 (optC (ttlX C L) V) ∧ Blk wi (w.heap.size + 1) 46 (optC opt0 (.slice none 0 0)) ∧ Below wo.heap.size wo wi)
          case atStart => exact ⟨0, [], _, Nat.zero_le _, rfl, rfl, Row.nil _ _ _ _, Nat.le_refl _, hid (by rw [List.drop_zero]; cases optsP d <;> rfl), hB3, hB4, hB5, (by (repeat' (first | (with_reducible exact Below.refl _ _) | (with_reducible assumption) | (with_reducible refine below_ext0 ?_ _ _) | (with_reducible refine below_alloc0 ?_ _) | (with_reducible refine Below.ext ?_ ?_ _ _) | (with_reducible refine Below.alloc ?_ ?_ _) | (with_reducible refine Below.setCell ?_ ?_ _) | (with_reducible refine Below.drew ?_) | (with_reducible refine below_draws ?_ _) | go_size | (simp [size_ext]; done) | (simp [size_ext]; omega))))⟩
          case round =>
            obtain ⟨p, os', V, hp, rfl, rfl, hrow, hlen, HOP, hkr, hko, hkz, hb⟩ := hrel
            clear hB3 hB4 hB5
            obtain ⟨AV, cV, hV⟩ := hrow.slice
            subst hV
            have HLW := hid hb
            have HB3 := hid (HB.out.trans (hb.mono HB.out.size))
            have HKR := hid hkr
            have HKO := hid hko
            have HKZ := hid hkz
            have HROW := hid hrow
            have zo := hko.lt
            have zs1 := HB.out.size
            have y4 : wr.cell? ⟨wo.heap.size, 4, none⟩ = some (.slice A4 n4 c4) := hkr.cell 4
            have z9 : wo.heap.size < wr.heap.size := by omega
            obtain ⟨nO, hnO⟩ : ∃ nO, os'.length = nO := ⟨_, rfl⟩
            have HNO := hid hnO
            rw [hnO] at hlen hko
            clear hkr hrow hb
            by_cases hlt : p < n4
            · obtain ⟨b4, o4, rfl, lb4⟩ := S1.out.addr (by omega)
              have h0 : (d.drop p).length = n4 - p := by rw [List.length_drop, hdn.out]
              have t5 : (p : Int) < (n4 : Int) := by omega
              have v4 : IntKind.i64.wrap ((p : Int) + 4) = (p : Int) + 4 := IntWalk.i64_in _ (by omega)
              have v2 : IntKind.i64.wrap ((p : Int) + 2) = (p : Int) + 2 := IntWalk.i64_in _ (by omega)
              by_cases h4 : p + 4 ≤ n4
              · have hc4 := S1.out.cap
                obtain ⟨KN, hKN⟩ : ∃ KN, at2 d p = KN := ⟨_, rfl⟩
                obtain ⟨LN, hLN⟩ : ∃ LN, at2 d (p + 2) = LN := ⟨_, rfl⟩
                have CP0 := hid fun w' (hb : Below wo.heap.size wo w') => rpair_at (S1.out.later hb) p (x := (p : Int)) rfl (by omega) hKN
                have CP2 := hid fun w' (hb : Below wo.heap.size wo w') => rpair_at (S1.out.later hb) (p + 2) (x := (p : Int) + 2) (by omega) (by omega) hLN
                have bK := at2_le d p
                have bL := at2_le d (p + 2)
                rw [hKN] at bK
                rw [hLN] at bL
                have g4 : ¬ (n4 : Int) < (p : Int) + 4 := by omega
                have g4d : decide ((n4 : Int) < (p : Int) + 4) = false := decide_eq_false g4
                have v5 : IntKind.i64.wrap ((p : Int) + 4 + (LN : Int)) = (p : Int) + 4 + (LN : Int) := IntWalk.i64_in _ (by omega)
                have a0 : at2 (d.drop p) 0 = KN := by rw [at2_drop, Nat.add_zero]; exact hKN
                have a2 : at2 (d.drop p) 2 = LN := by rw [at2_drop]; exact hLN
                by_cases h5 : p + 4 + LN ≤ n4
                · have g5 : ¬ (n4 : Int) < (p : Int) + 4 + (LN : Int) := by omega
                  have g5d : decide ((n4 : Int) < (p : Int) + 4 + (LN : Int)) = false := decide_eq_false g5
                  have hst := optsP_step (b := d.drop p) (by rw [h0, a2]; omega)
                  rw [a0, a2, List.drop_drop, List.drop_drop] at hst
                  have HOP2 := hid (show optsP d = (optsP (d.drop (p + (4 + LN)))).map ((os' ++ [((KN : Int), (d.drop (p + 4)).take LN, ())]) ++ ·) by
                    rw [HOP.out, hst]
                    cases optsP (d.drop (p + (4 + LN))) <;> simp)
                  obtain ⟨S5, C5, hs5, r5⟩ := slice_two S1.out (i := p + 4) (j := p + 4 + LN) (by omega) h5 (by omega) (a := (p : Int) + 4) (b := (p : Int) + 4 + (LN : Int)) (by omega) (by omega)
                  rw [show p + 4 + LN - (p + 4) = LN by omega] at hs5 r5
                  obtain ⟨dl, hdl2⟩ : ∃ dl, (d.drop (p + 4)).take LN = dl := ⟨_, rfl⟩
                  rw [hdl2] at HOP2 r5
                  have R5 := hid r5
                  clear hst a0 a2 h0 hKN hLN r5 h4 h5 hdl2
                  go_wp2_with fail
                  refine wp_region_ext (by kernel_rfl) (by kernel_rfl) ?_
                  repeat (go_big_quiet_step ((go_at_call 22; go_loud (with_reducible exact Calls.quiet_ext (CP2.out _ (by have := HLW.out; ((first | (with_reducible refine exts_below ?_ ?_ _) | skip); (repeat' (first | (with_reducible exact Below.refl _ _) | (with_reducible assumption) | (with_reducible refine below_ext0 ?_ _ _) | (with_reducible refine below_alloc0 ?_ _) | (with_reducible refine Below.ext ?_ ?_ _ _) | (with_reducible refine Below.alloc ?_ ?_ _) | (with_reducible refine Below.setCell ?_ ?_ _) | (with_reducible refine Below.drew ?_) | (with_reducible refine below_draws ?_ _) | go_size | (simp [size_ext]; done) | (simp [size_ext]; omega))))))))))
                  refine wpQuiet_nil ?_
                  rintro _ ⟨⟨os, d⟩, rfl⟩
                  simp only [exts]
                  obtain ⟨cs, hrowo, hrowr, hrowf⟩ := HROW.out
                  have HRO := hid hrowo
                  have HRR := hid hrowr
                  have HRF := hid hrowf
                  have y5 : wr.cell? ⟨wo.heap.size + 1, 5, none⟩ = some (.slice AV os'.length cV) := HKO.out.cell 5
                  have ab1 : (os'.length + 1) * 32 ≤ 140737488355328 := by omega
                  have ab2 : os'.length + 1 ≤ maxLen := by unfold maxLen; omega
                  have hol : os'.length ≤ p := by omega
                  have zl4 : w.heap.size + 1 < wo.heap.size := zl
                  clear hrowo hrowr hrowf hko hkz hnO
                  go_wp2_with (go_at_call 22; have _t := tk3; (with_reducible refine (CP2.out _ (by have := HLW.out; (repeat' (first | (with_reducible exact Below.refl _ _) | (with_reducible assumption) | (with_reducible refine below_ext0 ?_ _ _) | (with_reducible refine below_alloc0 ?_ _) | (with_reducible refine Below.ext ?_ ?_ _ _) | (with_reducible refine Below.alloc ?_ ?_ _) | (with_reducible refine Below.setCell ?_ ?_ _) | (with_reducible refine Below.drew ?_) | (with_reducible refine below_draws ?_ _) | go_size | (simp [size_ext]; done) | (simp [size_ext]; omega))))).mono ?_); rintro e w1 ⟨rfl, hb⟩; obtain ⟨otk3, dtk3, rfl⟩ := ext_of_below hb; clear hb tk3)
                  go_upto_region 21 with fail
                  go_cut [10] (fun s10 wx => ∃ A9 c9, s10 = .int .i64 (LN : Int) ∧ Row oR 105 wx (wo.heap.size + 2) (.slice A9 (os'.length + 1) c9) (os' ++ [((KN : Int), dl, ())]) ∧ Blk wx wo.heap.size 67 #[.slice A3 0 c3, .int .i64 T, .int .i64 C, .int .i64 L, .slice (some ⟨b4, o4, none⟩) n4 c4] ∧ Blk wx (wo.heap.size + 1) 46 (optC (ttlX C L) (.slice A9 (os'.length + 1) c9)) ∧ Blk wx (w.heap.size + 1) 46 (optC opt0 (.slice none 0 0)) ∧ Below wo.heap.size wo wx)
                  case first =>
                    as_aux_lemma =>
                    refine wp_region_noPanic ?_
                    refine wp_region_held_drew (S := fun w' => w'.cell? ⟨wo.heap.size, 4, none⟩ = some (.slice (some ⟨b4, o4, none⟩) n4 c4)) (by kernel_rfl) (by (((try dsimp only); (repeat' apply And.intro) <;> (first | assumption | (go_simp; done))))) (fun hHeld => ?_)
                    refine wpAnyH_take (i := 0) (oi := _) (v := ?_) rfl (by kernel_rfl) (by kernel_rfl) (by kernel_rfl) (fun _ _ _ h => h) (Or.inl ⟨by rfl, ?_⟩) (by assumption) ?_
                    rotate_left
                    · (intro w hSw; (try dsimp only at hSw); go_simp; all_goals (with_reducible rfl))
                    try simp only [Act.put, List.setIfInBounds_toArray, List.set_cons_zero, List.set_cons_succ, List.getElem_toArray, List.getElem_cons_zero, List.getElem_cons_succ]
                    refine wpAnyH_take (i := 2) (oi := _) (v := ?_) rfl (by kernel_rfl) (by kernel_rfl) (by kernel_rfl) (fun _ _ _ h => h) (Or.inl ⟨by rfl, ?_⟩) (by assumption) ?_
                    rotate_left
                    · (intro w hSw; (try dsimp only at hSw); go_simp; all_goals (with_reducible rfl))
                    try simp only [Act.put, List.setIfInBounds_toArray, List.set_cons_zero, List.set_cons_succ, List.getElem_toArray, List.getElem_cons_zero, List.getElem_cons_succ]
                    refine wpAnyH_take (i := 3) (oi := _) (v := ?_) rfl (by kernel_rfl) (by kernel_rfl) (by kernel_rfl) (fun _ _ _ h => h) (Or.inl ⟨by rfl, ?_⟩) (by assumption) ?_
                    rotate_left
                    · (intro w hSw; (try dsimp only at hSw); go_simp; all_goals (with_reducible rfl))
                    try simp only [Act.put, List.setIfInBounds_toArray, List.set_cons_zero, List.set_cons_succ, List.getElem_toArray, List.getElem_cons_zero, List.getElem_cons_succ]
                    refine wpAnyH_take (i := 4) (oi := _) (v := ?_) rfl (by kernel_rfl) (by kernel_rfl) (by kernel_rfl) (fun _ _ _ h => h) (Or.inl ⟨by rfl, ?_⟩) (by assumption) ?_
                    rotate_left
                    · (intro w hSw; (try dsimp only at hSw); go_simp; all_goals (with_reducible rfl))
                    try simp only [Act.put, List.setIfInBounds_toArray, List.set_cons_zero, List.set_cons_succ, List.getElem_toArray, List.getElem_cons_zero, List.getElem_cons_succ]
                    refine wpAnyH_take (i := 6) (oi := _) (v := ?_) rfl (by kernel_rfl) (by kernel_rfl) (by kernel_rfl) (fun _ _ _ h => h) (Or.inl ⟨by rfl, ?_⟩) (by assumption) ?_
                    rotate_left
                    · (intro w hSw; (try dsimp only at hSw); go_simp; all_goals (with_reducible rfl))
                    try simp only [Act.put, List.setIfInBounds_toArray, List.set_cons_zero, List.set_cons_succ, List.getElem_toArray, List.getElem_cons_zero, List.getElem_cons_succ]
                    refine wpAnyH_take (i := 7) (oi := _) (v := ?_) rfl (by kernel_rfl) (by kernel_rfl) (by kernel_rfl) (fun _ _ _ h => h) (Or.inl ⟨by rfl, ?_⟩) (by assumption) ?_
                    rotate_left
                    · (intro w hSw; (try dsimp only at hSw); go_simp; all_goals (with_reducible rfl))
                    try simp only [Act.put, List.setIfInBounds_toArray, List.set_cons_zero, List.set_cons_succ, List.getElem_toArray, List.getElem_cons_zero, List.getElem_cons_succ]
                    refine wpAnyH_take (i := 8) (oi := _) (v := ?_) rfl (by kernel_rfl) (by kernel_rfl) (by kernel_rfl) (fun _ _ _ h => h) (Or.inl ⟨by rfl, ?_⟩) (by assumption) ?_
                    rotate_left
                    · (intro w hSw; (try dsimp only at hSw); go_simp; all_goals (with_reducible rfl))
                    try simp only [Act.put, List.setIfInBounds_toArray, List.set_cons_zero, List.set_cons_succ, List.getElem_toArray, List.getElem_cons_zero, List.getElem_cons_succ]
                    refine wpAnyH_take (i := 9) (oi := _) (v := ?_) rfl (by kernel_rfl) (by kernel_rfl) (by kernel_rfl) (fun _ _ _ h => h) (Or.inl ⟨by rfl, ?_⟩) (by assumption) ?_
                    rotate_left
                    · (intro w hSw; (try dsimp only at hSw); go_simp; all_goals (with_reducible rfl))
                    try simp only [Act.put, List.setIfInBounds_toArray, List.set_cons_zero, List.set_cons_succ, List.getElem_toArray, List.getElem_cons_zero, List.getElem_cons_succ]
                    refine wpAnyH_take (i := 10) (oi := _) (v := ?_) rfl (by kernel_rfl) (by kernel_rfl) (by kernel_rfl) (fun _ _ _ h => h) (Or.inl ⟨by rfl, ?_⟩) (by assumption) ?_
                    rotate_left
                    · (intro w hSw; (try dsimp only at hSw); go_simp; all_goals (with_reducible rfl))
                    try simp only [Act.put, List.setIfInBounds_toArray, List.set_cons_zero, List.set_cons_succ, List.getElem_toArray, List.getElem_cons_zero, List.getElem_cons_succ]
                    refine wpAnyH_take (i := 11) (oi := _) (v := ?_) rfl (by kernel_rfl) (by kernel_rfl) (by kernel_rfl) (fun _ _ _ h => h) (Or.inl ⟨by rfl, ?_⟩) (by assumption) ?_
                    rotate_left
                    · (intro w hSw; (try dsimp only at hSw); go_simp; all_goals (with_reducible rfl))
                    try simp only [Act.put, List.setIfInBounds_toArray, List.set_cons_zero, List.set_cons_succ, List.getElem_toArray, List.getElem_cons_zero, List.getElem_cons_succ]
                    refine wpAnyH_take (i := 12) (oi := _) (v := ?_) rfl (by kernel_rfl) (by kernel_rfl) (by kernel_rfl) (fun _ _ _ h => h) (Or.inl ⟨by rfl, ?_⟩) (by assumption) ?_
                    rotate_left
                    · (intro w hSw; (try dsimp only at hSw); go_simp; all_goals (with_reducible rfl))
                    try simp only [Act.put, List.setIfInBounds_toArray, List.set_cons_zero, List.set_cons_succ, List.getElem_toArray, List.getElem_cons_zero, List.getElem_cons_succ]
                    refine wpAnyH_take (i := 13) (oi := _) (v := ?_) rfl (by kernel_rfl) (by kernel_rfl) (by kernel_rfl) (fun _ _ _ h => h) (Or.inl ⟨by rfl, ?_⟩) (by assumption) ?_
                    rotate_left
                    · (intro w hSw; (try dsimp only at hSw); go_simp; all_goals (with_reducible rfl))
                    try simp only [Act.put, List.setIfInBounds_toArray, List.set_cons_zero, List.set_cons_succ, List.getElem_toArray, List.getElem_cons_zero, List.getElem_cons_succ]
                    refine wpAnyH_take (i := 14) (oi := _) (v := ?_) rfl (by kernel_rfl) (by kernel_rfl) (by kernel_rfl) (fun _ _ _ h => h) (Or.inl ⟨by rfl, ?_⟩) (by assumption) ?_
                    rotate_left
                    · (intro w hSw; (try dsimp only at hSw); go_simp; all_goals (with_reducible rfl))
                    try simp only [Act.put, List.setIfInBounds_toArray, List.set_cons_zero, List.set_cons_succ, List.getElem_toArray, List.getElem_cons_zero, List.getElem_cons_succ]
                    refine wpAnyH_ready (rs := [1, 5]) (by kernel_rfl) (by simp) ?_
                    refine AllReadyH.cons (o := _) rfl (fun K hK => ?_) ?_
                    · go_simp
                      refine hK.out _ _ (by (((try dsimp only); (repeat' apply And.intro) <;> (first | assumption | (go_simp; done))))) (fun hHeld => ?_)
                      clear hK K
                      try simp only [Act.put, List.setIfInBounds_toArray, List.set_cons_zero, List.set_cons_succ, List.getElem_toArray, List.getElem_cons_zero, List.getElem_cons_succ]
                      refine wpAnyH_ready (rs := [5]) (by kernel_rfl) (by simp) ?_
                      refine AllReadyH.cons (o := _) rfl (fun K hK => ?_) ?_
                      · go_simp
                        (go_at_call 22; have _t := tk4; (with_reducible refine (CP0.out _ (by have := HLW.out; (repeat' (first | (with_reducible exact Below.refl _ _) | (with_reducible assumption) | (with_reducible refine below_ext0 ?_ _ _) | (with_reducible refine below_alloc0 ?_ _) | (with_reducible refine Below.ext ?_ ?_ _ _) | (with_reducible refine Below.alloc ?_ ?_ _) | (with_reducible refine Below.setCell ?_ ?_ _) | (with_reducible refine Below.drew ?_) | (with_reducible refine below_draws ?_ _) | go_size | (simp [size_ext]; done) | (simp [size_ext]; omega))))).mono ?_); rintro e w1 ⟨rfl, hb⟩; obtain ⟨otk4, dtk4, rfl⟩ := ext_of_below hb; clear hb tk4)
                        go_wp2_with fail
                        refine hK.out _ _ (by (((try dsimp only); (repeat' apply And.intro) <;> (first | assumption | (go_simp; done))))) (fun hHeld => ?_)
                        clear hK K
                        try simp only [Act.put, List.setIfInBounds_toArray, List.set_cons_zero, List.set_cons_succ, List.getElem_toArray, List.getElem_cons_zero, List.getElem_cons_succ]
                        refine wpAnyH_take (i := 15) (oi := _) (v := ?_) rfl (by kernel_rfl) (by kernel_rfl) (by kernel_rfl) (fun _ _ _ h => h) (Or.inl ⟨by rfl, ?_⟩) (by assumption) ?_
                        rotate_left
                        · (intro w hSw; (try dsimp only at hSw); go_simp; all_goals (with_reducible rfl))
                        try simp only [Act.put, List.setIfInBounds_toArray, List.set_cons_zero, List.set_cons_succ, List.getElem_toArray, List.getElem_cons_zero, List.getElem_cons_succ]
                        refine wpAnyH_ready (rs := [16]) (by kernel_rfl) (by simp) ?_
                        refine AllReadyH.cons (o := _) rfl (fun K hK => ?_) ?_
                        · go_simp
                          refine hK.out _ _ (by (((try dsimp only); (repeat' apply And.intro) <;> (first | assumption | (go_simp; done))))) (fun hHeld => ?_)
                          clear hK K
                          try simp only [Act.put, List.setIfInBounds_toArray, List.set_cons_zero, List.set_cons_succ, List.getElem_toArray, List.getElem_cons_zero, List.getElem_cons_succ]
                          refine wpAnyH_ready (rs := [17]) (by kernel_rfl) (by simp) ?_
                          refine AllReadyH.cons (o := _) rfl (fun K hK => ?_) ?_
                          · (refine step_row near_o el_o zo_d HRO.out HRR.out HRF.out ((KN : Int), dl, ()) [.int .i64 (KN : Int), .slice S5 LN C5] rfl (.tmp 112) (.tmp 127) rfl rfl rfl ?_ ?_ ?_ ?_ ab1 ab2 ?_ ?_; (focus (repeat' (first | (with_reducible exact Below.refl _ _) | (with_reducible assumption) | (with_reducible refine below_ext0 ?_ _ _) | (with_reducible refine below_alloc0 ?_ _) | (with_reducible refine Below.ext ?_ ?_ _ _) | (with_reducible refine Below.alloc ?_ ?_ _) | (with_reducible refine Below.setCell ?_ ?_ _) | (with_reducible refine Below.drew ?_) | (with_reducible refine below_draws ?_ _) | go_size | (simp [size_ext]; done) | (simp [size_ext]; omega)))); (exact (src_lit #[.int .i64 (KN : Int), .slice S5 LN C5] rfl (by simp [Value.oneCell']) (by first | rfl | (simp [size_ext]; done) | (simp [size_ext]; omega)))); (exact rel_o (by unfold I64; omega) (R5.out.later (by have := HLW.out; (repeat' (first | (with_reducible exact Below.refl _ _) | (with_reducible assumption) | (with_reducible refine below_ext0 ?_ _ _) | (with_reducible refine below_alloc0 ?_ _) | (with_reducible refine Below.ext ?_ ?_ _ _) | (with_reducible refine Below.alloc ?_ ?_ _) | (with_reducible refine Below.setCell ?_ ?_ _) | (with_reducible refine Below.drew ?_) | (with_reducible refine below_draws ?_ _) | go_size | (simp [size_ext]; done) | (simp [size_ext]; omega)))))); (simp [not_d_slice, not_d_int]); (omega); intro v9 w9 row9 ha9; have KG9 := hid (app_blk HRO.out HKO.out ha9 (by (repeat' (first | (with_reducible exact Below.refl _ _) | (with_reducible assumption) | (with_reducible refine below_ext0 ?_ _ _) | (with_reducible refine below_alloc0 ?_ _) | (with_reducible refine Below.ext ?_ ?_ _ _) | (with_reducible refine Below.alloc ?_ ?_ _) | (with_reducible refine Below.setCell ?_ ?_ _) | (with_reducible refine Below.drew ?_) | (with_reducible refine below_draws ?_ _) | go_size | (simp [size_ext]; done) | (simp [size_ext]; omega)))) (by omega)); have KR9 := hid (app_blk HRO.out HKR.out ha9 (by (repeat' (first | (with_reducible exact Below.refl _ _) | (with_reducible assumption) | (with_reducible refine below_ext0 ?_ _ _) | (with_reducible refine below_alloc0 ?_ _) | (with_reducible refine Below.ext ?_ ?_ _ _) | (with_reducible refine Below.alloc ?_ ?_ _) | (with_reducible refine Below.setCell ?_ ?_ _) | (with_reducible refine Below.drew ?_) | (with_reducible refine below_draws ?_ _) | go_size | (simp [size_ext]; done) | (simp [size_ext]; omega)))) (by omega)); have KZ9 := hid (app_blk HRO.out HKZ.out ha9 (by (repeat' (first | (with_reducible exact Below.refl _ _) | (with_reducible assumption) | (with_reducible refine below_ext0 ?_ _ _) | (with_reducible refine below_alloc0 ?_ _) | (with_reducible refine Below.ext ?_ ?_ _ _) | (with_reducible refine Below.alloc ?_ ?_ _) | (with_reducible refine Below.setCell ?_ ?_ _) | (with_reducible refine Below.drew ?_) | (with_reducible refine below_draws ?_ _) | go_size | (simp [size_ext]; done) | (simp [size_ext]; omega)))) (by omega)); have LOW9 := hid (app_low HRO.out ha9 (by (repeat' (first | (with_reducible exact Below.refl _ _) | (with_reducible assumption) | (with_reducible refine below_ext0 ?_ _ _) | (with_reducible refine below_alloc0 ?_ _) | (with_reducible refine Below.ext ?_ ?_ _ _) | (with_reducible refine Below.alloc ?_ ?_ _) | (with_reducible refine Below.setCell ?_ ?_ _) | (with_reducible refine Below.drew ?_) | (with_reducible refine below_draws ?_ _) | go_size | (simp [size_ext]; done) | (simp [size_ext]; omega)))) HLW.out (by omega) (by omega)); have hsl := row9.slice; rw [List.length_append, List.length_singleton] at hsl; obtain ⟨A9, c9, rfl⟩ := hsl; have ROW9 := hid row9; have ROWS9 := hid (fun (u : Value) => Row.grown near_o row9 (grown_set 5 u) (opt_grown KG9.out ⟨_, _, _, rfl⟩) (by omega)); have y9 : w9.cell? ⟨wo.heap.size + 1, 5, none⟩ = some (.slice AV os'.length cV) := KG9.out.cell 5; have g9 : w9.frozen? ⟨wo.heap.size + 1, 5, none⟩ = false := KG9.out.frozen 5; have y49 : w9.cell? ⟨wo.heap.size, 4, none⟩ = some (.slice (some ⟨b4, o4, none⟩) n4 c4) := KR9.out.cell 4; clear ha9 row9)
                            refine hK.out _ _ (by (((try dsimp only); (repeat' apply And.intro) <;> (first | assumption | (go_simp; done))))) (fun hHeld => ?_)
                            clear hK K
                            try simp only [Act.put, List.setIfInBounds_toArray, List.set_cons_zero, List.set_cons_succ, List.getElem_toArray, List.getElem_cons_zero, List.getElem_cons_succ]
                            refine wpAnyH_take (i := 18) (oi := _) (v := ?_) rfl (by kernel_rfl) (by kernel_rfl) (by kernel_rfl) (fun _ _ _ h => h) (Or.inl ⟨by rfl, ?_⟩) (by assumption) ?_
                            rotate_left
                            · (intro w hSw; (try dsimp only at hSw); go_simp; all_goals (with_reducible rfl))
                            try simp only [Act.put, List.setIfInBounds_toArray, List.set_cons_zero, List.set_cons_succ, List.getElem_toArray, List.getElem_cons_zero, List.getElem_cons_succ]
                            refine wpAnyH_ready (rs := [19]) (by kernel_rfl) (by simp) ?_
                            refine AllReadyH.cons (o := _) rfl (fun K hK => ?_) ?_
                            · go_simp
                              refine hK.out _ _ (by (((try dsimp only); (repeat' apply And.intro) <;> (first | assumption | (go_simp; done))))) (fun hHeld => ?_)
                              clear hK K
                              try simp only [Act.put, List.setIfInBounds_toArray, List.set_cons_zero, List.set_cons_succ, List.getElem_toArray, List.getElem_cons_zero, List.getElem_cons_succ]
                              refine wpAnyH_done (by kernel_rfl) ?_ _
                              refine NoPanic.normal ?_
                              go_wp2_with fail
                              go_meet
                              exact ⟨A9, c9, rfl, ROWS9.out _, KR9.out.far (by simp) _, KG9.out.set 5 _, KZ9.out.far (by simp only; omega) _, Below.setCell LOW9.out (by simp) _⟩
                            exact AllReadyH.nil
                          exact AllReadyH.nil
                        exact AllReadyH.nil
                      exact AllReadyH.nil
                    refine AllReadyH.cons (o := _) rfl (fun K hK => ?_) ?_
                    · go_simp
                      (go_at_call 22; have _t := tk4; (with_reducible refine (CP0.out _ (by have := HLW.out; (repeat' (first | (with_reducible exact Below.refl _ _) | (with_reducible assumption) | (with_reducible refine below_ext0 ?_ _ _) | (with_reducible refine below_alloc0 ?_ _) | (with_reducible refine Below.ext ?_ ?_ _ _) | (with_reducible refine Below.alloc ?_ ?_ _) | (with_reducible refine Below.setCell ?_ ?_ _) | (with_reducible refine Below.drew ?_) | (with_reducible refine below_draws ?_ _) | go_size | (simp [size_ext]; done) | (simp [size_ext]; omega))))).mono ?_); rintro e w1 ⟨rfl, hb⟩; obtain ⟨otk4, dtk4, rfl⟩ := ext_of_below hb; clear hb tk4)
                      go_wp2_with fail
                      refine hK.out _ _ (by (((try dsimp only); (repeat' apply And.intro) <;> (first | assumption | (go_simp; done))))) (fun hHeld => ?_)
                      clear hK K
                      try simp only [Act.put, List.setIfInBounds_toArray, List.set_cons_zero, List.set_cons_succ, List.getElem_toArray, List.getElem_cons_zero, List.getElem_cons_succ]
                      refine wpAnyH_take (i := 15) (oi := _) (v := ?_) rfl (by kernel_rfl) (by kernel_rfl) (by kernel_rfl) (fun _ _ _ h => h) (Or.inl ⟨by rfl, ?_⟩) (by assumption) ?_
                      rotate_left
                      · (intro w hSw; (try dsimp only at hSw); go_simp; all_goals (with_reducible rfl))
                      try simp only [Act.put, List.setIfInBounds_toArray, List.set_cons_zero, List.set_cons_succ, List.getElem_toArray, List.getElem_cons_zero, List.getElem_cons_succ]
                      refine wpAnyH_ready (rs := [1, 16]) (by kernel_rfl) (by simp) ?_
                      refine AllReadyH.cons (o := _) rfl (fun K hK => ?_) ?_
                      · go_simp
                        refine hK.out _ _ (by (((try dsimp only); (repeat' apply And.intro) <;> (first | assumption | (go_simp; done))))) (fun hHeld => ?_)
                        clear hK K
                        try simp only [Act.put, List.setIfInBounds_toArray, List.set_cons_zero, List.set_cons_succ, List.getElem_toArray, List.getElem_cons_zero, List.getElem_cons_succ]
                        refine wpAnyH_ready (rs := [16]) (by kernel_rfl) (by simp) ?_
                        refine AllReadyH.cons (o := _) rfl (fun K hK => ?_) ?_
                        · go_simp
                          refine hK.out _ _ (by (((try dsimp only); (repeat' apply And.intro) <;> (first | assumption | (go_simp; done))))) (fun hHeld => ?_)
                          clear hK K
                          try simp only [Act.put, List.setIfInBounds_toArray, List.set_cons_zero, List.set_cons_succ, List.getElem_toArray, List.getElem_cons_zero, List.getElem_cons_succ]
                          refine wpAnyH_ready (rs := [17]) (by kernel_rfl) (by simp) ?_
                          refine AllReadyH.cons (o := _) rfl (fun K hK => ?_) ?_
                          · (refine step_row near_o el_o zo_d HRO.out HRR.out HRF.out ((KN : Int), dl, ()) [.int .i64 (KN : Int), .slice S5 LN C5] rfl (.tmp 112) (.tmp 127) rfl rfl rfl ?_ ?_ ?_ ?_ ab1 ab2 ?_ ?_; (focus (repeat' (first | (with_reducible exact Below.refl _ _) | (with_reducible assumption) | (with_reducible refine below_ext0 ?_ _ _) | (with_reducible refine below_alloc0 ?_ _) | (with_reducible refine Below.ext ?_ ?_ _ _) | (with_reducible refine Below.alloc ?_ ?_ _) | (with_reducible refine Below.setCell ?_ ?_ _) | (with_reducible refine Below.drew ?_) | (with_reducible refine below_draws ?_ _) | go_size | (simp [size_ext]; done) | (simp [size_ext]; omega)))); (exact (src_lit #[.int .i64 (KN : Int), .slice S5 LN C5] rfl (by simp [Value.oneCell']) (by first | rfl | (simp [size_ext]; done) | (simp [size_ext]; omega)))); (exact rel_o (by unfold I64; omega) (R5.out.later (by have := HLW.out; (repeat' (first | (with_reducible exact Below.refl _ _) | (with_reducible assumption) | (with_reducible refine below_ext0 ?_ _ _) | (with_reducible refine below_alloc0 ?_ _) | (with_reducible refine Below.ext ?_ ?_ _ _) | (with_reducible refine Below.alloc ?_ ?_ _) | (with_reducible refine Below.setCell ?_ ?_ _) | (with_reducible refine Below.drew ?_) | (with_reducible refine below_draws ?_ _) | go_size | (simp [size_ext]; done) | (simp [size_ext]; omega)))))); (simp [not_d_slice, not_d_int]); (omega); intro v9 w9 row9 ha9; have KG9 := hid (app_blk HRO.out HKO.out ha9 (by (repeat' (first | (with_reducible exact Below.refl _ _) | (with_reducible assumption) | (with_reducible refine below_ext0 ?_ _ _) | (with_reducible refine below_alloc0 ?_ _) | (with_reducible refine Below.ext ?_ ?_ _ _) | (with_reducible refine Below.alloc ?_ ?_ _) | (with_reducible refine Below.setCell ?_ ?_ _) | (with_reducible refine Below.drew ?_) | (with_reducible refine below_draws ?_ _) | go_size | (simp [size_ext]; done) | (simp [size_ext]; omega)))) (by omega)); have KR9 := hid (app_blk HRO.out HKR.out ha9 (by (repeat' (first | (with_reducible exact Below.refl _ _) | (with_reducible assumption) | (with_reducible refine below_ext0 ?_ _ _) | (with_reducible refine below_alloc0 ?_ _) | (with_reducible refine Below.ext ?_ ?_ _ _) | (with_reducible refine Below.alloc ?_ ?_ _) | (with_reducible refine Below.setCell ?_ ?_ _) | (with_reducible refine Below.drew ?_) | (with_reducible refine below_draws ?_ _) | go_size | (simp [size_ext]; done) | (simp [size_ext]; omega)))) (by omega)); have KZ9 := hid (app_blk HRO.out HKZ.out ha9 (by (repeat' (first | (with_reducible exact Below.refl _ _) | (with_reducible assumption) | (with_reducible refine below_ext0 ?_ _ _) | (with_reducible refine below_alloc0 ?_ _) | (with_reducible refine Below.ext ?_ ?_ _ _) | (with_reducible refine Below.alloc ?_ ?_ _) | (with_reducible refine Below.setCell ?_ ?_ _) | (with_reducible refine Below.drew ?_) | (with_reducible refine below_draws ?_ _) | go_size | (simp [size_ext]; done) | (simp [size_ext]; omega)))) (by omega)); have LOW9 := hid (app_low HRO.out ha9 (by (repeat' (first | (with_reducible exact Below.refl _ _) | (with_reducible assumption) | (with_reducible refine below_ext0 ?_ _ _) | (with_reducible refine below_alloc0 ?_ _) | (with_reducible refine Below.ext ?_ ?_ _ _) | (with_reducible refine Below.alloc ?_ ?_ _) | (with_reducible refine Below.setCell ?_ ?_ _) | (with_reducible refine Below.drew ?_) | (with_reducible refine below_draws ?_ _) | go_size | (simp [size_ext]; done) | (simp [size_ext]; omega)))) HLW.out (by omega) (by omega)); have hsl := row9.slice; rw [List.length_append, List.length_singleton] at hsl; obtain ⟨A9, c9, rfl⟩ := hsl; have ROW9 := hid row9; have ROWS9 := hid (fun (u : Value) => Row.grown near_o row9 (grown_set 5 u) (opt_grown KG9.out ⟨_, _, _, rfl⟩) (by omega)); have y9 : w9.cell? ⟨wo.heap.size + 1, 5, none⟩ = some (.slice AV os'.length cV) := KG9.out.cell 5; have g9 : w9.frozen? ⟨wo.heap.size + 1, 5, none⟩ = false := KG9.out.frozen 5; have y49 : w9.cell? ⟨wo.heap.size, 4, none⟩ = some (.slice (some ⟨b4, o4, none⟩) n4 c4) := KR9.out.cell 4; clear ha9 row9)
                            refine hK.out _ _ (by (((try dsimp only); (repeat' apply And.intro) <;> (first | assumption | (go_simp; done))))) (fun hHeld => ?_)
                            clear hK K
                            try simp only [Act.put, List.setIfInBounds_toArray, List.set_cons_zero, List.set_cons_succ, List.getElem_toArray, List.getElem_cons_zero, List.getElem_cons_succ]
                            refine wpAnyH_take (i := 18) (oi := _) (v := ?_) rfl (by kernel_rfl) (by kernel_rfl) (by kernel_rfl) (fun _ _ _ h => h) (Or.inl ⟨by rfl, ?_⟩) (by assumption) ?_
                            rotate_left
                            · (intro w hSw; (try dsimp only at hSw); go_simp; all_goals (with_reducible rfl))
                            try simp only [Act.put, List.setIfInBounds_toArray, List.set_cons_zero, List.set_cons_succ, List.getElem_toArray, List.getElem_cons_zero, List.getElem_cons_succ]
                            refine wpAnyH_ready (rs := [19]) (by kernel_rfl) (by simp) ?_
                            refine AllReadyH.cons (o := _) rfl (fun K hK => ?_) ?_
                            · go_simp
                              refine hK.out _ _ (by (((try dsimp only); (repeat' apply And.intro) <;> (first | assumption | (go_simp; done))))) (fun hHeld => ?_)
                              clear hK K
                              try simp only [Act.put, List.setIfInBounds_toArray, List.set_cons_zero, List.set_cons_succ, List.getElem_toArray, List.getElem_cons_zero, List.getElem_cons_succ]
                              refine wpAnyH_done (by kernel_rfl) ?_ _
                              refine NoPanic.normal ?_
                              go_wp2_with fail
                              go_meet
                              exact ⟨A9, c9, rfl, ROWS9.out _, KR9.out.far (by simp) _, KG9.out.set 5 _, KZ9.out.far (by simp only; omega) _, Below.setCell LOW9.out (by simp) _⟩
                            exact AllReadyH.nil
                          exact AllReadyH.nil
                        exact AllReadyH.nil
                      refine AllReadyH.cons (o := _) rfl (fun K hK => ?_) ?_
                      · go_simp
                        refine hK.out _ _ (by (((try dsimp only); (repeat' apply And.intro) <;> (first | assumption | (go_simp; done))))) (fun hHeld => ?_)
                        clear hK K
                        try simp only [Act.put, List.setIfInBounds_toArray, List.set_cons_zero, List.set_cons_succ, List.getElem_toArray, List.getElem_cons_zero, List.getElem_cons_succ]
                        refine wpAnyH_ready (rs := [1]) (by kernel_rfl) (by simp) ?_
                        refine AllReadyH.cons (o := _) rfl (fun K hK => ?_) ?_
                        · go_simp
                          refine hK.out _ _ (by (((try dsimp only); (repeat' apply And.intro) <;> (first | assumption | (go_simp; done))))) (fun hHeld => ?_)
                          clear hK K
                          try simp only [Act.put, List.setIfInBounds_toArray, List.set_cons_zero, List.set_cons_succ, List.getElem_toArray, List.getElem_cons_zero, List.getElem_cons_succ]
                          refine wpAnyH_ready (rs := [17]) (by kernel_rfl) (by simp) ?_
                          refine AllReadyH.cons (o := _) rfl (fun K hK => ?_) ?_
                          · (refine step_row near_o el_o zo_d HRO.out HRR.out HRF.out ((KN : Int), dl, ()) [.int .i64 (KN : Int), .slice S5 LN C5] rfl (.tmp 112) (.tmp 127) rfl rfl rfl ?_ ?_ ?_ ?_ ab1 ab2 ?_ ?_; (focus (repeat' (first | (with_reducible exact Below.refl _ _) | (with_reducible assumption) | (with_reducible refine below_ext0 ?_ _ _) | (with_reducible refine below_alloc0 ?_ _) | (with_reducible refine Below.ext ?_ ?_ _ _) | (with_reducible refine Below.alloc ?_ ?_ _) | (with_reducible refine Below.setCell ?_ ?_ _) | (with_reducible refine Below.drew ?_) | (with_reducible refine below_draws ?_ _) | go_size | (simp [size_ext]; done) | (simp [size_ext]; omega)))); (exact (src_lit #[.int .i64 (KN : Int), .slice S5 LN C5] rfl (by simp [Value.oneCell']) (by first | rfl | (simp [size_ext]; done) | (simp [size_ext]; omega)))); (exact rel_o (by unfold I64; omega) (R5.out.later (by have := HLW.out; (repeat' (first | (with_reducible exact Below.refl _ _) | (with_reducible assumption) | (with_reducible refine below_ext0 ?_ _ _) | (with_reducible refine below_alloc0 ?_ _) | (with_reducible refine Below.ext ?_ ?_ _ _) | (with_reducible refine Below.alloc ?_ ?_ _) | (with_reducible refine Below.setCell ?_ ?_ _) | (with_reducible refine Below.drew ?_) | (with_reducible refine below_draws ?_ _) | go_size | (simp [size_ext]; done) | (simp [size_ext]; omega)))))); (simp [not_d_slice, not_d_int]); (omega); intro v9 w9 row9 ha9; have KG9 := hid (app_blk HRO.out HKO.out ha9 (by (repeat' (first | (with_reducible exact Below.refl _ _) | (with_reducible assumption) | (with_reducible refine below_ext0 ?_ _ _) | (with_reducible refine below_alloc0 ?_ _) | (with_reducible refine Below.ext ?_ ?_ _ _) | (with_reducible refine Below.alloc ?_ ?_ _) | (with_reducible refine Below.setCell ?_ ?_ _) | (with_reducible refine Below.drew ?_) | (with_reducible refine below_draws ?_ _) | go_size | (simp [size_ext]; done) | (simp [size_ext]; omega)))) (by omega)); have KR9 := hid (app_blk HRO.out HKR.out ha9 (by (repeat' (first | (with_reducible exact Below.refl _ _) | (with_reducible assumption) | (with_reducible refine below_ext0 ?_ _ _) | (with_reducible refine below_alloc0 ?_ _) | (with_reducible refine Below.ext ?_ ?_ _ _) | (with_reducible refine Below.alloc ?_ ?_ _) | (with_reducible refine Below.setCell ?_ ?_ _) | (with_reducible refine Below.drew ?_) | (with_reducible refine below_draws ?_ _) | go_size | (simp [size_ext]; done) | (simp [size_ext]; omega)))) (by omega)); have KZ9 := hid (app_blk HRO.out HKZ.out ha9 (by (repeat' (first | (with_reducible exact Below.refl _ _) | (with_reducible assumption) | (with_reducible refine below_ext0 ?_ _ _) | (with_reducible refine below_alloc0 ?_ _) | (with_reducible refine Below.ext ?_ ?_ _ _) | (with_reducible refine Below.alloc ?_ ?_ _) | (with_reducible refine Below.setCell ?_ ?_ _) | (with_reducible refine Below.drew ?_) | (with_reducible refine below_draws ?_ _) | go_size | (simp [size_ext]; done) | (simp [size_ext]; omega)))) (by omega)); have LOW9 := hid (app_low HRO.out ha9 (by (repeat' (first | (with_reducible exact Below.refl _ _) | (with_reducible assumption) | (with_reducible refine below_ext0 ?_ _ _) | (with_reducible refine below_alloc0 ?_ _) | (with_reducible refine Below.ext ?_ ?_ _ _) | (with_reducible refine Below.alloc ?_ ?_ _) | (with_reducible refine Below.setCell ?_ ?_ _) | (with_reducible refine Below.drew ?_) | (with_reducible refine below_draws ?_ _) | go_size | (simp [size_ext]; done) | (simp [size_ext]; omega)))) HLW.out (by omega) (by omega)); have hsl := row9.slice; rw [List.length_append, List.length_singleton] at hsl; obtain ⟨A9, c9, rfl⟩ := hsl; have ROW9 := hid row9; have ROWS9 := hid (fun (u : Value) => Row.grown near_o row9 (grown_set 5 u) (opt_grown KG9.out ⟨_, _, _, rfl⟩) (by omega)); have y9 : w9.cell? ⟨wo.heap.size + 1, 5, none⟩ = some (.slice AV os'.length cV) := KG9.out.cell 5; have g9 : w9.frozen? ⟨wo.heap.size + 1, 5, none⟩ = false := KG9.out.frozen 5; have y49 : w9.cell? ⟨wo.heap.size, 4, none⟩ = some (.slice (some ⟨b4, o4, none⟩) n4 c4) := KR9.out.cell 4; clear ha9 row9)
                            refine hK.out _ _ (by (((try dsimp only); (repeat' apply And.intro) <;> (first | assumption | (go_simp; done))))) (fun hHeld => ?_)
                            clear hK K
                            try simp only [Act.put, List.setIfInBounds_toArray, List.set_cons_zero, List.set_cons_succ, List.getElem_toArray, List.getElem_cons_zero, List.getElem_cons_succ]
                            refine wpAnyH_take (i := 18) (oi := _) (v := ?_) rfl (by kernel_rfl) (by kernel_rfl) (by kernel_rfl) (fun _ _ _ h => h) (Or.inl ⟨by rfl, ?_⟩) (by assumption) ?_
                            rotate_left
                            · (intro w hSw; (try dsimp only at hSw); go_simp; all_goals (with_reducible rfl))
                            try simp only [Act.put, List.setIfInBounds_toArray, List.set_cons_zero, List.set_cons_succ, List.getElem_toArray, List.getElem_cons_zero, List.getElem_cons_succ]
                            refine wpAnyH_ready (rs := [19]) (by kernel_rfl) (by simp) ?_
                            refine AllReadyH.cons (o := _) rfl (fun K hK => ?_) ?_
                            · go_simp
                              refine hK.out _ _ (by (((try dsimp only); (repeat' apply And.intro) <;> (first | assumption | (go_simp; done))))) (fun hHeld => ?_)
                              clear hK K
                              try simp only [Act.put, List.setIfInBounds_toArray, List.set_cons_zero, List.set_cons_succ, List.getElem_toArray, List.getElem_cons_zero, List.getElem_cons_succ]
                              refine wpAnyH_done (by kernel_rfl) ?_ _
                              refine NoPanic.normal ?_
                              go_wp2_with fail
                              go_meet
                              exact ⟨A9, c9, rfl, ROWS9.out _, KR9.out.far (by simp) _, KG9.out.set 5 _, KZ9.out.far (by simp only; omega) _, Below.setCell LOW9.out (by simp) _⟩
                            exact AllReadyH.nil
                          exact AllReadyH.nil
                        exact AllReadyH.nil
                      exact AllReadyH.nil
                    exact AllReadyH.nil
                  case rest =>
                    as_aux_lemma =>
                    obtain ⟨A9, c9, rfl, hrow, hkr, hko, hkz, hlw⟩ := hcut
                    have HROW2 := hid hrow
                    have HKR2 := hid hkr
                    have HKO2 := hid hko
                    have HKZ2 := hid hkz
                    have HLW2 := hid hlw
                    clear hrow hkr hko hkz hlw
                    go_wp2
                    go_roundg (n4 - (p + (4 + LN)))
                    case measure => omega
                    case rel => exact ⟨p + (4 + LN), os' ++ [((KN : Int), dl, ())], _, by omega, rfl, (by first | rfl | (congr 1; push_cast; omega)), HROW2.out, by rw [List.length_append, List.length_singleton]; omega, HOP2, HKR2.out, HKO2.out, HKZ2.out, HLW2.out⟩
                · as_aux_lemma =>
                  have g5 : (n4 : Int) < (p : Int) + 4 + (LN : Int) := by omega
                  have g5d : decide ((n4 : Int) < (p : Int) + 4 + (LN : Int)) = true := decide_eq_true g5
                  have hno : optsP d = none := by rw [HOP.out, optsP_long (by rw [h0]; omega) (by rw [h0, a2]; omega)]; rfl
                  have HE := hid (show (E, B, x, os) = (1, false, opt0, []) by rw [HFE.out, hno])
                  clear hno a0 a2 h0 hKN hLN h4 h5
                  go_wp2_with fail
                  refine wp_region_ext (by kernel_rfl) (by kernel_rfl) ?_
                  repeat (go_big_quiet_step ((go_at_call 22; go_loud (with_reducible exact Calls.quiet_ext (CP2.out _ (by have := HLW.out; ((first | (with_reducible refine exts_below ?_ ?_ _) | skip); (repeat' (first | (with_reducible exact Below.refl _ _) | (with_reducible assumption) | (with_reducible refine below_ext0 ?_ _ _) | (with_reducible refine below_alloc0 ?_ _) | (with_reducible refine Below.ext ?_ ?_ _ _) | (with_reducible refine Below.alloc ?_ ?_ _) | (with_reducible refine Below.setCell ?_ ?_ _) | (with_reducible refine Below.drew ?_) | (with_reducible refine below_draws ?_ _) | go_size | (simp [size_ext]; done) | (simp [size_ext]; omega))))))))))
                  refine wpQuiet_nil ?_
                  rintro _ ⟨⟨os, d⟩, rfl⟩
                  simp only [exts]
                  obtain ⟨w3, hw3⟩ : ∃ w3, ext wr os d = w3 := ⟨_, rfl⟩
                  have kz : Blk w3 (w.heap.size + 1) 46 (optC opt0 (.slice none 0 0)) := by rw [← hw3]; exact HKZ.out.ext _ _
                  have HB4 := hid (show Below w.heap.size w w3 by rw [← hw3]; have hlw := HB3.out; have := HB3.out.size; (repeat' (first | (with_reducible exact Below.refl _ _) | (with_reducible assumption) | (with_reducible refine below_ext0 ?_ _ _) | (with_reducible refine below_alloc0 ?_ _) | (with_reducible refine Below.ext ?_ ?_ _ _) | (with_reducible refine Below.alloc ?_ ?_ _) | (with_reducible refine Below.setCell ?_ ?_ _) | (with_reducible refine Below.drew ?_) | (with_reducible refine below_draws ?_ _) | go_size | (simp [size_ext]; done) | (simp [size_ext]; omega))))
                  have zz3 := kz.lt
                  have z0 : (w3).cell? ⟨w.heap.size + 1, 0, none⟩ = some (.int .i64 (opt0).size) := (kz).cell 0; have z1 : (w3).cell? ⟨w.heap.size + 1, 1, none⟩ = some (.int .i64 (opt0).code) := (kz).cell 1; have z2 : (w3).cell? ⟨w.heap.size + 1, 2, none⟩ = some (.int .i64 (opt0).ver) := (kz).cell 2; have z3 : (w3).cell? ⟨w.heap.size + 1, 3, none⟩ = some (.bool (opt0).dob) := (kz).cell 3; have z4 : (w3).cell? ⟨w.heap.size + 1, 4, none⟩ = some (.int .i64 (opt0).z) := (kz).cell 4; have z5 : (w3).cell? ⟨w.heap.size + 1, 5, none⟩ = some (.slice none 0 0) := (kz).cell 5
                  have f0 : (w3).frozen? ⟨w.heap.size + 1, 0, none⟩ = false := (kz).frozen 0; have f1 : (w3).frozen? ⟨w.heap.size + 1, 1, none⟩ = false := (kz).frozen 1; have f2 : (w3).frozen? ⟨w.heap.size + 1, 2, none⟩ = false := (kz).frozen 2; have f3 : (w3).frozen? ⟨w.heap.size + 1, 3, none⟩ = false := (kz).frozen 3; have f4 : (w3).frozen? ⟨w.heap.size + 1, 4, none⟩ = false := (kz).frozen 4; have f5 : (w3).frozen? ⟨w.heap.size + 1, 5, none⟩ = false := (kz).frozen 5
                  have KZ3 := hid kz
                  rw [hw3]
                  clear hw3 kz
                  go_wp2_with fail
                  (try simp only [Exit.inBlock, Exit.then])
                  refine bodyPost_ret (res_optof rfl rfl rfl (opt_over opt0 (.slice none 0 0) KZ3.out)) rfl ?_
                  have he := HE.out
                  cases he
                  exact optE_no (by have hlw := HB4.out; have := HB4.out.size; (repeat' (first | (with_reducible exact Below.refl _ _) | (with_reducible assumption) | (with_reducible refine below_ext0 ?_ _ _) | (with_reducible refine below_alloc0 ?_ _) | (with_reducible refine Below.ext ?_ ?_ _ _) | (with_reducible refine Below.alloc ?_ ?_ _) | (with_reducible refine Below.setCell ?_ ?_ _) | (with_reducible refine Below.drew ?_) | (with_reducible refine below_draws ?_ _) | go_size | (simp [size_ext]; done) | (simp [size_ext]; omega))))
              · as_aux_lemma =>
                have g4 : (n4 : Int) < (p : Int) + 4 := by omega
                have hno : optsP d = none := by rw [HOP.out, optsP_short (by rw [h0]; omega) (by rw [h0]; omega)]; rfl
                have HE := hid (show (E, B, x, os) = (1, false, opt0, []) by rw [HFE.out, hno])
                clear hno h0 h4
                go_wp2_with fail
                refine wp_region_ext (by kernel_rfl) (by kernel_rfl) ?_
                repeat (go_big_quiet_step ((fail)))
                refine wpQuiet_nil ?_
                rintro _ ⟨⟨os, d⟩, rfl⟩
                simp only [exts]
                obtain ⟨w3, hw3⟩ : ∃ w3, ext wr os d = w3 := ⟨_, rfl⟩
                have kz : Blk w3 (w.heap.size + 1) 46 (optC opt0 (.slice none 0 0)) := by rw [← hw3]; exact HKZ.out.ext _ _
                have HB4 := hid (show Below w.heap.size w w3 by rw [← hw3]; have hlw := HB3.out; have := HB3.out.size; (repeat' (first | (with_reducible exact Below.refl _ _) | (with_reducible assumption) | (with_reducible refine below_ext0 ?_ _ _) | (with_reducible refine below_alloc0 ?_ _) | (with_reducible refine Below.ext ?_ ?_ _ _) | (with_reducible refine Below.alloc ?_ ?_ _) | (with_reducible refine Below.setCell ?_ ?_ _) | (with_reducible refine Below.drew ?_) | (with_reducible refine below_draws ?_ _) | go_size | (simp [size_ext]; done) | (simp [size_ext]; omega))))
                have zz3 := kz.lt
                have z0 : (w3).cell? ⟨w.heap.size + 1, 0, none⟩ = some (.int .i64 (opt0).size) := (kz).cell 0; have z1 : (w3).cell? ⟨w.heap.size + 1, 1, none⟩ = some (.int .i64 (opt0).code) := (kz).cell 1; have z2 : (w3).cell? ⟨w.heap.size + 1, 2, none⟩ = some (.int .i64 (opt0).ver) := (kz).cell 2; have z3 : (w3).cell? ⟨w.heap.size + 1, 3, none⟩ = some (.bool (opt0).dob) := (kz).cell 3; have z4 : (w3).cell? ⟨w.heap.size + 1, 4, none⟩ = some (.int .i64 (opt0).z) := (kz).cell 4; have z5 : (w3).cell? ⟨w.heap.size + 1, 5, none⟩ = some (.slice none 0 0) := (kz).cell 5
                have f0 : (w3).frozen? ⟨w.heap.size + 1, 0, none⟩ = false := (kz).frozen 0; have f1 : (w3).frozen? ⟨w.heap.size + 1, 1, none⟩ = false := (kz).frozen 1; have f2 : (w3).frozen? ⟨w.heap.size + 1, 2, none⟩ = false := (kz).frozen 2; have f3 : (w3).frozen? ⟨w.heap.size + 1, 3, none⟩ = false := (kz).frozen 3; have f4 : (w3).frozen? ⟨w.heap.size + 1, 4, none⟩ = false := (kz).frozen 4; have f5 : (w3).frozen? ⟨w.heap.size + 1, 5, none⟩ = false := (kz).frozen 5
                have KZ3 := hid kz
                rw [hw3]
                clear hw3 kz
                go_wp2_with fail
                (try simp only [Exit.inBlock, Exit.then])
                refine bodyPost_ret (res_optof rfl rfl rfl (opt_over opt0 (.slice none 0 0) KZ3.out)) rfl ?_
                have he := HE.out
                cases he
                exact optE_no (by have hlw := HB4.out; have := HB4.out.size; (repeat' (first | (with_reducible exact Below.refl _ _) | (with_reducible assumption) | (with_reducible refine below_ext0 ?_ _ _) | (with_reducible refine below_alloc0 ?_ _) | (with_reducible refine Below.ext ?_ ?_ _ _) | (with_reducible refine Below.alloc ?_ ?_ _) | (with_reducible refine Below.setCell ?_ ?_ _) | (with_reducible refine Below.drew ?_) | (with_reducible refine below_draws ?_ _) | go_size | (simp [size_ext]; done) | (simp [size_ext]; omega))))
            · as_aux_lemma =>
              have t5 : ¬ (p : Int) < (n4 : Int) := by omega
              obtain rfl : p = n4 := by omega
              have hso : optsP d = some os' := by rw [HOP.out, List.drop_eq_nil_of_le (by rw [hdn.out]; exact Nat.le_refl _), optsP_nil]; simp
              have hfin := HFE.out
              rw [hso] at hfin
              have HFIN := hid hfin
              have o0 : (wr).cell? ⟨wo.heap.size + 1, 0, none⟩ = some (.int .i64 (ttlX C L).size) := (hko).cell 0; have o1 : (wr).cell? ⟨wo.heap.size + 1, 1, none⟩ = some (.int .i64 (ttlX C L).code) := (hko).cell 1; have o2 : (wr).cell? ⟨wo.heap.size + 1, 2, none⟩ = some (.int .i64 (ttlX C L).ver) := (hko).cell 2; have o3 : (wr).cell? ⟨wo.heap.size + 1, 3, none⟩ = some (.bool (ttlX C L).dob) := (hko).cell 3; have o4 : (wr).cell? ⟨wo.heap.size + 1, 4, none⟩ = some (.int .i64 (ttlX C L).z) := (hko).cell 4; have o5 : (wr).cell? ⟨wo.heap.size + 1, 5, none⟩ = some (.slice AV nO cV) := (hko).cell 5
              have z0 : (wr).cell? ⟨w.heap.size + 1, 0, none⟩ = some (.int .i64 (opt0).size) := (hkz).cell 0; have z1 : (wr).cell? ⟨w.heap.size + 1, 1, none⟩ = some (.int .i64 (opt0).code) := (hkz).cell 1; have z2 : (wr).cell? ⟨w.heap.size + 1, 2, none⟩ = some (.int .i64 (opt0).ver) := (hkz).cell 2; have z3 : (wr).cell? ⟨w.heap.size + 1, 3, none⟩ = some (.bool (opt0).dob) := (hkz).cell 3; have z4 : (wr).cell? ⟨w.heap.size + 1, 4, none⟩ = some (.int .i64 (opt0).z) := (hkz).cell 4; have z5 : (wr).cell? ⟨w.heap.size + 1, 5, none⟩ = some (.slice none 0 0) := (hkz).cell 5
              have f0 : (wr).frozen? ⟨w.heap.size + 1, 0, none⟩ = false := (hkz).frozen 0; have f1 : (wr).frozen? ⟨w.heap.size + 1, 1, none⟩ = false := (hkz).frozen 1; have f2 : (wr).frozen? ⟨w.heap.size + 1, 2, none⟩ = false := (hkz).frozen 2; have f3 : (wr).frozen? ⟨w.heap.size + 1, 3, none⟩ = false := (hkz).frozen 3; have f4 : (wr).frozen? ⟨w.heap.size + 1, 4, none⟩ = false := (hkz).frozen 4; have f5 : (wr).frozen? ⟨w.heap.size + 1, 5, none⟩ = false := (hkz).frozen 5
              clear hso hfin hko hkz
              go_wp2
              have he := HFIN.out
              cases he
              have hrw := HROW.out
              rw [hnO] at hrw
              refine bodyPost_ret (res_optof rfl rfl rfl (opt_over (ttlX C L) (.slice AV nO cV) HKZ.out)) rfl ?_
              unfold OptE
              rw [hnO]
              refine find_end (v := fun V => .tuple #[.agg (optC (ttlX C L) V), .bool true, .int .i64 0]) ?_ HKZ.out (hrw.less (by omega)) hnO (by omega) HB3.out
              repeat (first | (with_reducible exact grown_refl _ _) | (with_reducible refine World.grownBy.trans ?_ (grown_set _ _)))
        · as_aux_lemma =>
          rw [if_neg hk] at hfe
          have HE := hid hfe
          have hways : 0 < n3 ∨ (¬ 0 < n3 ∧ C < 0) ∨ (¬ 0 < n3 ∧ ¬ C < 0 ∧ 65535 < C) ∨ (¬ 0 < n3 ∧ ¬ C < 0 ∧ ¬ 65535 < C ∧ L < 0) ∨ (¬ 0 < n3 ∧ ¬ C < 0 ∧ ¬ 65535 < C ∧ ¬ L < 0 ∧ 4294967295 < L) := by
            by_cases g1 : 0 < n3
            · exact .inl g1
            · have hl : l1 = [] := List.eq_nil_of_length_eq_zero (by omega)
              have g2 : ¬ ((0 ≤ C ∧ C ≤ 65535) ∧ (0 ≤ L ∧ L ≤ 4294967295)) := fun g => hk ⟨hl, g.1, g.2⟩
              omega
          clear hkx hkz hb hopt hdl hfe e1 r1 s1 hi64 hk hn3
          rcases hways with g1 | ⟨g1, g2⟩ | ⟨g1, g2, g3⟩ | ⟨g1, g2, g3, g4⟩ | ⟨g1, g2, g3, g4, g5⟩
          · as_aux_lemma =>
            have g0 : (0 : Int) < (n3 : Int) := by omega
            go_upto_if 60 with fail
            obtain ⟨w3, hw3⟩ : ∃ w3, wr.alloc (.cells #[.slice A3 n3 c3, .int .i64 T, .int .i64 C, .int .i64 L, .slice A4 n4 c4] 67) = w3 := ⟨_, rfl⟩
            have kz : Blk w3 (w.heap.size + 1) 46 (optC opt0 (.slice none 0 0)) := by rw [← hw3]; exact HKZ.out.alloc _
            have HB3 := hid (show Below w.heap.size w w3 by rw [← hw3]; exact HB.out.alloc (by have := HB.out.size; omega) _)
            have zz3 := kz.lt
            have z0 : (w3).cell? ⟨w.heap.size + 1, 0, none⟩ = some (.int .i64 (opt0).size) := (kz).cell 0; have z1 : (w3).cell? ⟨w.heap.size + 1, 1, none⟩ = some (.int .i64 (opt0).code) := (kz).cell 1; have z2 : (w3).cell? ⟨w.heap.size + 1, 2, none⟩ = some (.int .i64 (opt0).ver) := (kz).cell 2; have z3 : (w3).cell? ⟨w.heap.size + 1, 3, none⟩ = some (.bool (opt0).dob) := (kz).cell 3; have z4 : (w3).cell? ⟨w.heap.size + 1, 4, none⟩ = some (.int .i64 (opt0).z) := (kz).cell 4; have z5 : (w3).cell? ⟨w.heap.size + 1, 5, none⟩ = some (.slice none 0 0) := (kz).cell 5
            have f0 : (w3).frozen? ⟨w.heap.size + 1, 0, none⟩ = false := (kz).frozen 0; have f1 : (w3).frozen? ⟨w.heap.size + 1, 1, none⟩ = false := (kz).frozen 1; have f2 : (w3).frozen? ⟨w.heap.size + 1, 2, none⟩ = false := (kz).frozen 2; have f3 : (w3).frozen? ⟨w.heap.size + 1, 3, none⟩ = false := (kz).frozen 3; have f4 : (w3).frozen? ⟨w.heap.size + 1, 4, none⟩ = false := (kz).frozen 4; have f5 : (w3).frozen? ⟨w.heap.size + 1, 5, none⟩ = false := (kz).frozen 5
            have KZ3 := hid kz
            rw [hw3]
            clear hw3 kz
            go_wp2_with fail
            refine bodyPost_ret (res_optof rfl rfl rfl (opt_over opt0 (.slice none 0 0) KZ3.out)) rfl ?_
            have he := HE.out
            cases he
            exact optE_no (by have hlw := HB3.out; have := HB3.out.size; (repeat' (first | (with_reducible exact Below.refl _ _) | (with_reducible assumption) | (with_reducible refine below_ext0 ?_ _ _) | (with_reducible refine below_alloc0 ?_ _) | (with_reducible refine Below.ext ?_ ?_ _ _) | (with_reducible refine Below.alloc ?_ ?_ _) | (with_reducible refine Below.setCell ?_ ?_ _) | (with_reducible refine Below.drew ?_) | (with_reducible refine below_draws ?_ _) | go_size | (simp [size_ext]; done) | (simp [size_ext]; omega))))
          · as_aux_lemma =>
            obtain rfl : n3 = 0 := by omega
            go_upto_if 60 with fail
            obtain ⟨w3, hw3⟩ : ∃ w3, wr.alloc (.cells #[.slice A3 0 c3, .int .i64 T, .int .i64 C, .int .i64 L, .slice A4 n4 c4] 67) = w3 := ⟨_, rfl⟩
            have kz : Blk w3 (w.heap.size + 1) 46 (optC opt0 (.slice none 0 0)) := by rw [← hw3]; exact HKZ.out.alloc _
            have HB3 := hid (show Below w.heap.size w w3 by rw [← hw3]; exact HB.out.alloc (by have := HB.out.size; omega) _)
            have zz3 := kz.lt
            have z0 : (w3).cell? ⟨w.heap.size + 1, 0, none⟩ = some (.int .i64 (opt0).size) := (kz).cell 0; have z1 : (w3).cell? ⟨w.heap.size + 1, 1, none⟩ = some (.int .i64 (opt0).code) := (kz).cell 1; have z2 : (w3).cell? ⟨w.heap.size + 1, 2, none⟩ = some (.int .i64 (opt0).ver) := (kz).cell 2; have z3 : (w3).cell? ⟨w.heap.size + 1, 3, none⟩ = some (.bool (opt0).dob) := (kz).cell 3; have z4 : (w3).cell? ⟨w.heap.size + 1, 4, none⟩ = some (.int .i64 (opt0).z) := (kz).cell 4; have z5 : (w3).cell? ⟨w.heap.size + 1, 5, none⟩ = some (.slice none 0 0) := (kz).cell 5
            have f0 : (w3).frozen? ⟨w.heap.size + 1, 0, none⟩ = false := (kz).frozen 0; have f1 : (w3).frozen? ⟨w.heap.size + 1, 1, none⟩ = false := (kz).frozen 1; have f2 : (w3).frozen? ⟨w.heap.size + 1, 2, none⟩ = false := (kz).frozen 2; have f3 : (w3).frozen? ⟨w.heap.size + 1, 3, none⟩ = false := (kz).frozen 3; have f4 : (w3).frozen? ⟨w.heap.size + 1, 4, none⟩ = false := (kz).frozen 4; have f5 : (w3).frozen? ⟨w.heap.size + 1, 5, none⟩ = false := (kz).frozen 5
            have KZ3 := hid kz
            rw [hw3]
            clear hw3 kz
            go_wp2_with fail
            refine bodyPost_ret (res_optof rfl rfl rfl (opt_over opt0 (.slice none 0 0) KZ3.out)) rfl ?_
            have he := HE.out
            cases he
            exact optE_no (by have hlw := HB3.out; have := HB3.out.size; (repeat' (first | (with_reducible exact Below.refl _ _) | (with_reducible assumption) | (with_reducible refine below_ext0 ?_ _ _) | (with_reducible refine below_alloc0 ?_ _) | (with_reducible refine Below.ext ?_ ?_ _ _) | (with_reducible refine Below.alloc ?_ ?_ _) | (with_reducible refine Below.setCell ?_ ?_ _) | (with_reducible refine Below.drew ?_) | (with_reducible refine below_draws ?_ _) | go_size | (simp [size_ext]; done) | (simp [size_ext]; omega))))
          · as_aux_lemma =>
            obtain rfl : n3 = 0 := by omega
            go_upto_if 60 with fail
            obtain ⟨w3, hw3⟩ : ∃ w3, wr.alloc (.cells #[.slice A3 0 c3, .int .i64 T, .int .i64 C, .int .i64 L, .slice A4 n4 c4] 67) = w3 := ⟨_, rfl⟩
            have kz : Blk w3 (w.heap.size + 1) 46 (optC opt0 (.slice none 0 0)) := by rw [← hw3]; exact HKZ.out.alloc _
            have HB3 := hid (show Below w.heap.size w w3 by rw [← hw3]; exact HB.out.alloc (by have := HB.out.size; omega) _)
            have zz3 := kz.lt
            have z0 : (w3).cell? ⟨w.heap.size + 1, 0, none⟩ = some (.int .i64 (opt0).size) := (kz).cell 0; have z1 : (w3).cell? ⟨w.heap.size + 1, 1, none⟩ = some (.int .i64 (opt0).code) := (kz).cell 1; have z2 : (w3).cell? ⟨w.heap.size + 1, 2, none⟩ = some (.int .i64 (opt0).ver) := (kz).cell 2; have z3 : (w3).cell? ⟨w.heap.size + 1, 3, none⟩ = some (.bool (opt0).dob) := (kz).cell 3; have z4 : (w3).cell? ⟨w.heap.size + 1, 4, none⟩ = some (.int .i64 (opt0).z) := (kz).cell 4; have z5 : (w3).cell? ⟨w.heap.size + 1, 5, none⟩ = some (.slice none 0 0) := (kz).cell 5
            have f0 : (w3).frozen? ⟨w.heap.size + 1, 0, none⟩ = false := (kz).frozen 0; have f1 : (w3).frozen? ⟨w.heap.size + 1, 1, none⟩ = false := (kz).frozen 1; have f2 : (w3).frozen? ⟨w.heap.size + 1, 2, none⟩ = false := (kz).frozen 2; have f3 : (w3).frozen? ⟨w.heap.size + 1, 3, none⟩ = false := (kz).frozen 3; have f4 : (w3).frozen? ⟨w.heap.size + 1, 4, none⟩ = false := (kz).frozen 4; have f5 : (w3).frozen? ⟨w.heap.size + 1, 5, none⟩ = false := (kz).frozen 5
            have KZ3 := hid kz
            rw [hw3]
            clear hw3 kz
            go_wp2_with fail
            refine bodyPost_ret (res_optof rfl rfl rfl (opt_over opt0 (.slice none 0 0) KZ3.out)) rfl ?_
            have he := HE.out
            cases he
            exact optE_no (by have hlw := HB3.out; have := HB3.out.size; (repeat' (first | (with_reducible exact Below.refl _ _) | (with_reducible assumption) | (with_reducible refine below_ext0 ?_ _ _) | (with_reducible refine below_alloc0 ?_ _) | (with_reducible refine Below.ext ?_ ?_ _ _) | (with_reducible refine Below.alloc ?_ ?_ _) | (with_reducible refine Below.setCell ?_ ?_ _) | (with_reducible refine Below.drew ?_) | (with_reducible refine below_draws ?_ _) | go_size | (simp [size_ext]; done) | (simp [size_ext]; omega))))
          · as_aux_lemma =>
            obtain rfl : n3 = 0 := by omega
            go_upto_if 60 with fail
            obtain ⟨w3, hw3⟩ : ∃ w3, wr.alloc (.cells #[.slice A3 0 c3, .int .i64 T, .int .i64 C, .int .i64 L, .slice A4 n4 c4] 67) = w3 := ⟨_, rfl⟩
            have kz : Blk w3 (w.heap.size + 1) 46 (optC opt0 (.slice none 0 0)) := by rw [← hw3]; exact HKZ.out.alloc _
            have HB3 := hid (show Below w.heap.size w w3 by rw [← hw3]; exact HB.out.alloc (by have := HB.out.size; omega) _)
            have zz3 := kz.lt
            have z0 : (w3).cell? ⟨w.heap.size + 1, 0, none⟩ = some (.int .i64 (opt0).size) := (kz).cell 0; have z1 : (w3).cell? ⟨w.heap.size + 1, 1, none⟩ = some (.int .i64 (opt0).code) := (kz).cell 1; have z2 : (w3).cell? ⟨w.heap.size + 1, 2, none⟩ = some (.int .i64 (opt0).ver) := (kz).cell 2; have z3 : (w3).cell? ⟨w.heap.size + 1, 3, none⟩ = some (.bool (opt0).dob) := (kz).cell 3; have z4 : (w3).cell? ⟨w.heap.size + 1, 4, none⟩ = some (.int .i64 (opt0).z) := (kz).cell 4; have z5 : (w3).cell? ⟨w.heap.size + 1, 5, none⟩ = some (.slice none 0 0) := (kz).cell 5
            have f0 : (w3).frozen? ⟨w.heap.size + 1, 0, none⟩ = false := (kz).frozen 0; have f1 : (w3).frozen? ⟨w.heap.size + 1, 1, none⟩ = false := (kz).frozen 1; have f2 : (w3).frozen? ⟨w.heap.size + 1, 2, none⟩ = false := (kz).frozen 2; have f3 : (w3).frozen? ⟨w.heap.size + 1, 3, none⟩ = false := (kz).frozen 3; have f4 : (w3).frozen? ⟨w.heap.size + 1, 4, none⟩ = false := (kz).frozen 4; have f5 : (w3).frozen? ⟨w.heap.size + 1, 5, none⟩ = false := (kz).frozen 5
            have KZ3 := hid kz
            rw [hw3]
            clear hw3 kz
            go_wp2_with fail
            refine bodyPost_ret (res_optof rfl rfl rfl (opt_over opt0 (.slice none 0 0) KZ3.out)) rfl ?_
            have he := HE.out
            cases he
            exact optE_no (by have hlw := HB3.out; have := HB3.out.size; (repeat' (first | (with_reducible exact Below.refl _ _) | (with_reducible assumption) | (with_reducible refine below_ext0 ?_ _ _) | (with_reducible refine below_alloc0 ?_ _) | (with_reducible refine Below.ext ?_ ?_ _ _) | (with_reducible refine Below.alloc ?_ ?_ _) | (with_reducible refine Below.setCell ?_ ?_ _) | (with_reducible refine Below.drew ?_) | (with_reducible refine below_draws ?_ _) | go_size | (simp [size_ext]; done) | (simp [size_ext]; omega))))
          · as_aux_lemma =>
            obtain rfl : n3 = 0 := by omega
            go_upto_if 60 with fail
            obtain ⟨w3, hw3⟩ : ∃ w3, wr.alloc (.cells #[.slice A3 0 c3, .int .i64 T, .int .i64 C, .int .i64 L, .slice A4 n4 c4] 67) = w3 := ⟨_, rfl⟩
            have kz : Blk w3 (w.heap.size + 1) 46 (optC opt0 (.slice none 0 0)) := by rw [← hw3]; exact HKZ.out.alloc _
            have HB3 := hid (show Below w.heap.size w w3 by rw [← hw3]; exact HB.out.alloc (by have := HB.out.size; omega) _)
            have zz3 := kz.lt
            have z0 : (w3).cell? ⟨w.heap.size + 1, 0, none⟩ = some (.int .i64 (opt0).size) := (kz).cell 0; have z1 : (w3).cell? ⟨w.heap.size + 1, 1, none⟩ = some (.int .i64 (opt0).code) := (kz).cell 1; have z2 : (w3).cell? ⟨w.heap.size + 1, 2, none⟩ = some (.int .i64 (opt0).ver) := (kz).cell 2; have z3 : (w3).cell? ⟨w.heap.size + 1, 3, none⟩ = some (.bool (opt0).dob) := (kz).cell 3; have z4 : (w3).cell? ⟨w.heap.size + 1, 4, none⟩ = some (.int .i64 (opt0).z) := (kz).cell 4; have z5 : (w3).cell? ⟨w.heap.size + 1, 5, none⟩ = some (.slice none 0 0) := (kz).cell 5
            have f0 : (w3).frozen? ⟨w.heap.size + 1, 0, none⟩ = false := (kz).frozen 0; have f1 : (w3).frozen? ⟨w.heap.size + 1, 1, none⟩ = false := (kz).frozen 1; have f2 : (w3).frozen? ⟨w.heap.size + 1, 2, none⟩ = false := (kz).frozen 2; have f3 : (w3).frozen? ⟨w.heap.size + 1, 3, none⟩ = false := (kz).frozen 3; have f4 : (w3).frozen? ⟨w.heap.size + 1, 4, none⟩ = false := (kz).frozen 4; have f5 : (w3).frozen? ⟨w.heap.size + 1, 5, none⟩ = false := (kz).frozen 5
            have KZ3 := hid kz
            rw [hw3]
            clear hw3 kz
            go_wp2_with fail
            refine bodyPost_ret (res_optof rfl rfl rfl (opt_over opt0 (.slice none 0 0) KZ3.out)) rfl ?_
            have he := HE.out
            cases he
            exact optE_no (by have hlw := HB3.out; have := HB3.out.size; (repeat' (first | (with_reducible exact Below.refl _ _) | (with_reducible assumption) | (with_reducible refine below_ext0 ?_ _ _) | (with_reducible refine below_alloc0 ?_ _) | (with_reducible refine Below.ext ?_ ?_ _ _) | (with_reducible refine Below.alloc ?_ ?_ _) | (with_reducible refine Below.setCell ?_ ?_ _) | (with_reducible refine Below.drew ?_) | (with_reducible refine below_draws ?_ _) | go_size | (simp [size_ext]; done) | (simp [size_ext]; omega))))
end Go.Proofs.YtfihedcobopbcaaDoor
