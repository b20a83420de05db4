/- Great and small letters: Mix. -/
import Derived.Test.YtemgbfppdopfbaaDoorCapsE
import Derived.Test.YtemgbfppdopfbaaDoorCapsC
namespace Go.Proofs.YtemgbfppdopfbaaDoor
open Go.RowKit Go.Shelf
set_option linter.unusedVariables false
set_option linter.unusedSimpArgs false
attribute [local go_sem] Oper.semAt_some

theorem posN_lsum (ns : List ByteArray) : (posN ns ns.length).length ≤ lsum ns := by
  rw [posN_len]
  induction ns with
  | nil => simp [bitsN]
  | cons s ns ih =>
    rw [List.map_cons, bitsN_cons, List.length_append, lsum_cons]
    have h1 : (bitsB (bytesOf s)).length ≤ (bytesOf s).length := by
      unfold bitsB
      rw [List.length_map]
      exact List.length_filter_le _ _
    rw [bytesOf_len] at h1
    omega
theorem boxed_far {W : World} {B : Nat} {t : TypeId} {v : Value} (h : Boxed W B t v) {p : Addr} (hp : B ≠ p.block) (u : Value) : Boxed (W.setCell p u) B t v := (Below.heap_setCell W p u B hp).trans h
theorem set_alloc {w : World} {p : Addr} (hp : p.block < w.heap.size) (v : Value) (o : Obj) : ((w.setCell p v).alloc o).drew = (w.drew.alloc o).setCell p v := by
  unfold World.setCell World.alloc World.drew
  simp only
  congr 1
  apply Array.ext_getElem?
  intro k
  simp only [Array.getElem?_modify, Array.getElem?_push, Array.size_modify]
  by_cases hk : p.block = k
  · subst hk
    have h1 : ¬ p.block = w.heap.size := by omega
    simp [h1]
  · simp [hk]
theorem el_rows : (Tryd.prog.info? 51).map (fun i => (i.zero, i.size, i.bytes)) = some (some (.slice none 0 0), 1, 24) := by kernel_rfl
theorem make_rows (w : World) (n : Nat) (hn : n ≤ 1048576) : ∃ cs : Array Value, (Instr.makeSlice 69 (.int .i64 (n : Int)) (.int .i64 (n : Int))).run Tryd.prog w = .ok (.slice (some ⟨w.heap.size, 0, none⟩) n n) (w.alloc (.cells cs 51)) ∧ cs.size = n := by
  obtain ⟨i, hi, hz0, hz1, hz2⟩ := info_parts el_rows
  have := run_make w (P := Tryd.prog) 69 51 i (.slice none 0 0) Tryd.underlying69 hi hz0 .i64 .i64 (n : Int) (n : Int) (by omega) (Int.le_refl _) (by rw [hz2]; simp; omega) (by omega)
  rw [hz1] at this
  exact ⟨_, this, by rw [size_madeCells]; simp⟩

set_option maxRecDepth 100000 in
set_option maxHeartbeats 4000000 in
/-- too few bits -/
theorem mix_short (w : World) (A : Option Addr) (len cap : Nat) (ns : List ByteArray) (hR : Rd strR w w.heap.size A len cap ns) (hz : lsum ns ≤ 1048576) (A2 : Option Addr) (n2 c2 : Nat) (bl : List Bool) (hB : Rd boolR w w.heap.size A2 n2 c2 bl) (hs : n2 < (posN ns len).length) :
    Calls Tryd.prog 10 #[.slice A len cap, .slice A2 n2 c2] w fun e w' => e = .returned (.tuple #[.slice none 0 0, .iface 26 (.int .i64 2)]) ∧ Below w.heap.size w w' := by
  have hN := posN_lsum ns
  rw [hR.len] at hN
  have CL := hid fun w' (hb : Below w.heap.size w w') => lettersN_any w' A len cap ns (hR.later hb) (by omega)
  generalize (posN ns len).length = N at *
  have t0 : (n2 : Int) < (N : Int) := by omega
  have t1 : decide ((n2 : Int) < (N : Int)) = true := decide_eq_true t0
  clear hR hB
  have tk0 : True := trivial; have tk1 : True := trivial; have tk2 : True := trivial; have tk3 : True := trivial; have tk4 : True := trivial; have tk5 : True := trivial; have tk6 : True := trivial; have tk7 : True := trivial; have tk8 : True := trivial; have tk9 : True := trivial; have tk10 : True := trivial; have tk11 : True := trivial; have tk12 : True := trivial
  go_enter Tryd.func10, Tryd.ntmps10
  go_wp2_with fail
  go_region_held3 (fun w' => w'.cell? ⟨w.heap.size, 0, none⟩ = some (.slice A2 n2 c2)) (((try dsimp only); (repeat' apply And.intro) <;> (first | assumption | (go_simp; done)))) (first | (go_at_call 8; have _t := tk1; (with_reducible refine (CL.out _ (by (repeat' (first | (with_reducible exact Below.refl _ _) | (with_reducible assumption) | (with_reducible refine below_ext0 ?_ _ _) | (with_reducible refine below_alloc0 ?_ _) | (with_reducible refine Below.ext ?_ ?_ _ _) | (with_reducible refine Below.alloc ?_ ?_ _) | (with_reducible refine Below.setCell ?_ ?_ _) | (with_reducible refine Below.drew ?_) | (with_reducible refine below_draws ?_ _) | go_size | (simp [size_ext]; done) | (simp [size_ext]; omega))))).mono ?_); rintro e w1 ⟨rfl, hb⟩; obtain ⟨otk1, dtk1, rfl⟩ := ext_of_below hb; clear hb tk1) | fail)
  all_goals
    go_wp2
    go_ret2
    exact ⟨rfl, (by (repeat' (first | (with_reducible exact Below.refl _ _) | (with_reducible assumption) | (with_reducible refine below_ext0 ?_ _ _) | (with_reducible refine below_alloc0 ?_ _) | (with_reducible refine Below.ext ?_ ?_ _ _) | (with_reducible refine Below.alloc ?_ ?_ _) | (with_reducible refine Below.setCell ?_ ?_ _) | (with_reducible refine Below.drew ?_) | (with_reducible refine below_draws ?_ _) | go_size | (simp [size_ext]; done) | (simp [size_ext]; omega))))⟩
theorem or_ge (x : UInt8) : 32 ≤ (x ||| 32).toNat := by
  have h : ∀ n, n < 256 → 32 ≤ ((UInt8.ofNat n) ||| 32).toNat := by decide +kernel
  have := h x.toNat x.toNat_lt
  rwa [UInt8.ofNat_toNat] at this
set_option maxRecDepth 100000 in
set_option maxHeartbeats 8000000 in
theorem mix_ok (w : World) (A : Option Addr) (len cap : Nat) (ns : List ByteArray) (hR : Rd strR w w.heap.size A len cap ns) (hz : lsum ns ≤ 1048576) (A2 : Option Addr) (n2 c2 : Nat) (bl : List Bool) (hB : Rd boolR w w.heap.size A2 n2 c2 bl) (hs : (posN ns len).length ≤ n2) :
    Calls Tryd.prog 10 #[.slice A len cap, .slice A2 n2 c2] w fun e w' => ∃ A' c', e = .returned (.tuple #[.slice A' len c', .nilIface]) ∧ Rd strR w' w'.heap.size A' len c' (mixS ns bl) ∧ Below w.heap.size w w' := by
  have hN := posN_lsum ns
  have hn0 := lsum_len ns
  rw [hR.len] at hN hn0
  have hl := hR.len
  have HL := hid hl
  have HR := hid hR
  have HBL := hid hB
  have CL := hid fun w' (hb : Below w.heap.size w w') => lettersN_any w' A len cap ns (hR.later hb) (by omega)
  obtain ⟨N, hNN⟩ : ∃ N, (posN ns len).length = N := ⟨_, rfl⟩
  rw [hNN] at CL hN hs
  have HNN := hid hNN
  have t0 : ¬ (n2 : Int) < (N : Int) := by omega
  have t1 : decide ((n2 : Int) < (N : Int)) = false := decide_eq_false t0
  have t1n : decide (n2 < N) = false := decide_eq_false (by omega)
  have MK := hid fun w' => make_rows w' len (by omega)
  clear hR hB hNN hl
  have tk0 : True := trivial; have tk1 : True := trivial; have tk2 : True := trivial; have tk3 : True := trivial; have tk4 : True := trivial; have tk5 : True := trivial; have tk6 : True := trivial; have tk7 : True := trivial; have tk8 : True := trivial; have tk9 : True := trivial; have tk10 : True := trivial; have tk11 : True := trivial; have tk12 : True := trivial
  refine (callsIn_wide (n := 3)).1 ?_
  refine callsIn_of_wp_marks Tryd.func10 rfl trivial ?_ rfl
  simp only [Tryd.ntmps10, List.size_toArray, List.length_cons, List.length_nil, Nat.reduceAdd, Nat.reduceSub, Array.replicate_succ, Array.replicate_zero, List.push_toArray, List.append_toArray, List.nil_append, List.cons_append]
  rw [wpIn_wide]
  go_wp2_with fail
  go_region_held3 (fun w' => w'.cell? ⟨w.heap.size, 0, none⟩ = some (.slice A2 n2 c2)) (((try dsimp only); (repeat' apply And.intro) <;> (first | assumption | (go_simp; done)))) (first | (go_at_call 8; have _t := tk1; (with_reducible refine (CL.out _ (by (repeat' (first | (with_reducible exact Below.refl _ _) | (with_reducible assumption) | (with_reducible refine below_ext0 ?_ _ _) | (with_reducible refine below_alloc0 ?_ _) | (with_reducible refine Below.ext ?_ ?_ _ _) | (with_reducible refine Below.alloc ?_ ?_ _) | (with_reducible refine Below.setCell ?_ ?_ _) | (with_reducible refine Below.drew ?_) | (with_reducible refine below_draws ?_ _) | go_size | (simp [size_ext]; done) | (simp [size_ext]; omega))))).mono ?_); rintro e w1 ⟨rfl, hb⟩; have HB1 := hid hb; have hz1 := hb.size; have hc1 := hb.cell (p := ⟨w.heap.size, 0, none⟩) (by simp); obtain ⟨cs, hmk, hcs⟩ := MK.out w1; have HCS := hid hcs; clear hb tk1 hcs) | fail)
  go_wp2
  obtain ⟨g1, hg1⟩ : ∃ g1, w1.heap.size = g1 := ⟨_, rfl⟩
  have hg1w : w.heap.size + 1 ≤ g1 := by rw [← hg1]; simpa using hz1
  obtain ⟨w2, hw2⟩ : ∃ w2, (w1.alloc (.cells cs 51)).alloc (.cells #[.slice (some ⟨w1.heap.size, 0, none⟩) len len] 69) = w2 := ⟨_, rfl⟩
  rw [hw2, hg1]
  rw [hg1] at hw2
  have z2 : w2.heap.size = g1 + 1 + 1 := by rw [← hw2]; simp [hg1]
  have BA := hid (show Boxed w2 w.heap.size 23 (.slice A2 n2 c2) from by
    rw [← hw2]
    refine Boxed.alloc (Boxed.alloc ?_ _) _
    exact (HB1.out.block w.heap.size (by simp)).trans (Boxed.new w 23 (.slice A2 n2 c2)))
  have BL := hid (show Boxed w2 (g1 + 1) 69 (.slice (some ⟨g1, 0, none⟩) len len) from by
    rw [← hw2]
    have := Boxed.new (w1.alloc (.cells cs 51)) 69 (.slice (some ⟨g1, 0, none⟩) len len)
    rwa [World.size_alloc, hg1] at this)
  have M0 := hid (show MixAt w2 w.heap.size g1 len (fun _ => 0) (fun _ => 0) (ns.map bytesOf) 0 from ⟨⟨cs, by
    rw [← hw2]
    exact Blk.alloc (Blk.new' _ _ hg1.symm) _, HCS.out, fun i hi => by omega⟩, fun i hi => by omega, fun i j hi => by omega, fun i hi => by omega⟩)
  have HB2 := hid (show Below w.heap.size w w2 from by
    rw [← hw2]
    exact Below.alloc (Below.alloc (Below.trans (by (repeat' (first | (with_reducible exact Below.refl _ _) | (with_reducible assumption) | (with_reducible refine below_ext0 ?_ _ _) | (with_reducible refine below_alloc0 ?_ _) | (with_reducible refine Below.ext ?_ ?_ _ _) | (with_reducible refine Below.alloc ?_ ?_ _) | (with_reducible refine Below.setCell ?_ ?_ _) | (with_reducible refine Below.drew ?_) | (with_reducible refine below_draws ?_ _) | go_size | (simp [size_ext]; done) | (simp [size_ext]; omega)))) (HB1.out.mono (by simp))) (by omega) _) (by simp; omega) _)
  clear hw2 hmk hg1 hz1 hc1 HB1
  go_loopg [26] len (fun gk v26 wi => ∃ (k : Nat) (G Cp : Nat → Nat), k ≤ len ∧ gk = len - k ∧ v26 = .int .i64 (k : Int) ∧ MixAt wi w.heap.size g1 len G Cp (ns.map bytesOf) k ∧ Boxed wi w.heap.size 23 (.slice A2 n2 c2) ∧ Boxed wi (g1 + 1) 69 (.slice (some ⟨g1, 0, none⟩) len len) ∧ Below w.heap.size w wi)
  case atStart => exact ⟨0, _, _, Nat.zero_le _, rfl, rfl, M0.out, BA.out, BL.out, HB2.out⟩
  case round =>
    obtain ⟨k, G, Cp, hk, rfl, rfl, hM, hbA, hbL, hlow⟩ := hrel
    have HM := hid hM
    have HBA := hid hbA
    have HBL2 := hid hbL
    have HLOW := hid hlow
    have hzw := hlow.size
    have hcL := hbL.cell
    have hgL := hbL.lt
    have hb1 := hM.b1lt
    clear hlow hM hbA hbL
    by_cases hlt : k < len
    · obtain ⟨b, o, rfl, hb, hc, hsz⟩ := (HR.out.below HLOW.out).str k hlt
      have hil : k < ns.length := by rw [HL.out]; exact hlt
      obtain ⟨s, hs'⟩ : ∃ s, ns[k] = s := ⟨_, rfl⟩
      rw [hs'] at hc hsz
      have hgd : (ns.map bytesOf).getD k [] = bytesOf s := by rw [List.getD_eq_getElem?_getD, List.getElem?_map, List.getElem?_eq_getElem hil, hs']; rfl
      obtain ⟨C, N', hconv, hCN, hsN, hNM, htk⟩ := conv_caps s hsz wr
      have HFILL := hid (HM.out.fill hlt hCN (by rw [hgd, bytesOf_len]; exact hsN) hNM (by rw [hgd, bytesOf_len]; exact htk) hzw)
      rw [hgd, bytesOf_len] at HFILL
      obtain ⟨ds, hd, hds, _⟩ := HM.out.blk
      obtain ⟨u1, c1⟩ : ∃ u1, wr.cell? ⟨g1, k, none⟩ = some u1 := by
        rw [hd.cell k, Array.getElem?_eq_getElem (by omega)]
        exact ⟨_, rfl⟩
      have f1 := hd.frozen k
      have t2 : (k : Int) < (len : Int) := by omega
      have bwr : b < wr.heap.size := by omega
      have g1wr : g1 < wr.heap.size := hb1
      clear hs' hgd hCN htk hd hds
      go_wp2
      go_roundg (len - (k + 1))
      case measure => omega
      case rel =>
        have hg : wr.grownBy (wr.drew.alloc (.cells C 5 (N', N' + 1))) none := ⟨rfl, rfl, rfl, by simp, fun i hi _ => Below.heap_alloc wr.drew _ i hi⟩
        have ew : ((wr.setCell ⟨g1, k, none⟩ (.slice (some ⟨wr.heap.size, 0, none⟩) s.size N')).alloc (.cells C 5 (N', N' + 1))).drew = (wr.drew.alloc (.cells C 5 (N', N' + 1))).setCell ⟨g1, k, none⟩ (.slice (some ⟨wr.heap.size, 0, none⟩) s.size N') := by
          exact set_alloc (p := ⟨g1, k, none⟩) hb1 _ _
        rw [ew]
        exact ⟨k + 1, _, _, by omega, rfl, by go_num, HFILL.out, boxed_far (HBA.out.kept hg (by simp)) (by simp only; omega) _, boxed_far (HBL2.out.kept hg (by simp)) (by simp only; omega) _, (Below.setCell (Below.alloc (Below.drew HLOW.out) hzw _) (by simp only; omega) _)⟩
    · obtain rfl : len = k := by omega
      go_wp2
      obtain ⟨g3, hg3⟩ : ∃ g3, wr.heap.size = g3 := ⟨_, rfl⟩
      obtain ⟨w3, hw3⟩ : ∃ w3, (wr.alloc (.cells #[.int .i64 0] 3)).alloc (.cells #[.slice A len cap] 22) = w3 := ⟨_, rfl⟩
      rw [hw3, hg3]
      have z3 : w3.heap.size = g3 + 1 + 1 := by rw [← hw3]; simp [hg3]
      have b1 : Boxed w3 w.heap.size 23 (.slice A2 n2 c2) := by rw [← hw3]; exact (HBA.out.alloc _).alloc _
      have b2 : Boxed w3 (g1 + 1) 69 (.slice (some ⟨g1, 0, none⟩) len len) := by rw [← hw3]; exact (HBL2.out.alloc _).alloc _
      have b3 : Boxed w3 g3 3 (.int .i64 0) := by rw [← hw3, ← hg3]; exact (Boxed.new _ _ _).alloc _
      have b4 : Boxed w3 (g3 + 1) 22 (.slice A len cap) := by
        rw [← hw3, ← hg3]
        have := Boxed.new (wr.alloc (.cells #[.int .i64 0] 3)) 22 (.slice A len cap)
        rwa [World.size_alloc] at this
      have M3 : MixAt w3 w.heap.size g1 len G Cp (ns.map bytesOf) len := by
        rw [← hw3]
        exact (HM.out.kept (World.grownBy_alloc _ _ none) (by simp) (by simp)).kept (World.grownBy_alloc _ _ none) (by simp) (by simp)
      have hB3 : Below w.heap.size w w3 := by rw [← hw3]; exact Below.alloc (Below.alloc HLOW.out hzw _) (by simp; omega) _
      have hgl : ∀ i, i < len → G i < g3 := fun i hi => by have := HM.out.glt hi; omega
      have HGL := hid hgl
      clear hw3 HM HBA HBL2 HLOW hcL
      have o1 : OwnFrom w3.heap.size (fun (pre : List (PosT ns len)) (W : World) => MixAt W w.heap.size g1 len G Cp (mixF (ns.map bytesOf) bl (pre.map Subtype.val)).1 len) := fun s W W' row h hg hr => MixAt.own w3.heap.size _ W W' row h hg hr
      have o2 : Own (fun (_ : List (PosT ns len)) (W : World) => Boxed W w.heap.size 23 (.slice A2 n2 c2)) := boxed_own _ _ _
      have o3 : Own (fun (_ : List (PosT ns len)) (W : World) => Boxed W (g1 + 1) 69 (.slice (some ⟨g1, 0, none⟩) len len)) := boxed_own _ _ _
      have o4 : Own (fun (pre : List (PosT ns len)) (W : World) => Boxed W g3 3 (.int .i64 (pre.length : Int))) := boxed_own _ _ (fun pre : List (PosT ns len) => .int .i64 (pre.length : Int))
      have o5 : OwnFrom w3.heap.size (fun (_ : List (PosT ns len)) (W : World) => Below w.heap.size w W) := ownFrom_below (Nat.le_refl _) (by omega)
      have o6 := OwnFrom.and (OwnFrom.and (OwnFrom.and (OwnFrom.and o1 (Own.from o2 w3.heap.size)) (Own.from o3 w3.heap.size)) (Own.from o4 w3.heap.size)) o5
      have h0 : (((MixAt w3 w.heap.size g1 len G Cp (mixF (ns.map bytesOf) bl (([] : List (PosT ns len)).map Subtype.val)).1 len ∧ Boxed w3 w.heap.size 23 (.slice A2 n2 c2)) ∧ Boxed w3 (g1 + 1) 69 (.slice (some ⟨g1, 0, none⟩) len len)) ∧ Boxed w3 g3 3 (.int .i64 (([] : List (PosT ns len)).length : Int))) ∧ Below w.heap.size w w3 := ⟨⟨⟨⟨M3, b1⟩, b2⟩, b3⟩, hB3⟩
      have hseq := letters_stops 2 (by decide) (g3 + 1) w.heap.size A len cap ns w3 (by omega) (by omega) b4.cell (HR.out.below hB3)
      rw [← wpIn_wide (n := 3)]
      refine wpIn_rangeFunc_ownG rfl (by decide) (gf := 48) (lb := #[.pointer (some ⟨g3 + 1, 0, none⟩)]) rfl trivial (enters_of Tryd.func48 (by kernel_rfl) rfl)
        hseq belowK_t (belowK_b (by omega)) (Below.refl _ _) (fun _ => rfl) _ (fun _ _ _ => False) o6
        (fun _ _ _ _ _ hs _ _ => hs) h0
        (fun x => { tmps := #[.slice A len cap, .slice A2 n2 c2, undef, .pointer (some ⟨w.heap.size, 0, none⟩), .slice none 0 0, .nilIface, .pointer (some ⟨g1 + 1, 0, none⟩), u7, u8, .pointer (some ⟨g3, 0, none⟩), .int .i64 (x.1.1 : Int), .int .i64 (x.1.2 : Int), undef, undef, undef, .slice A2 n2 c2, .int .i64 (n2 : Int), .slice A len cap, .int .i64 (N : Int), .bool false, undef, .slice A len cap, .int .i64 (len : Int), .slice (some ⟨g1, 0, none⟩) len len, .slice A len cap, .int .i64 (len : Int), .int .i64 (len : Int), .bool false, u28, u29, u30, u31, u32, u33, u34, u35, u36, .slice A len cap, .func (.func 48) #[] #[.pointer (some ⟨g3 + 1, 0, none⟩)], .int .i64 (x.1.1 : Int), .int .i64 (x.1.2 : Int), undef, undef, undef, undef, undef, undef, undef, undef, undef, undef, undef, undef, undef, undef, undef, undef, undef, undef, undef, undef, undef, undef, undef, undef, undef, undef, undef, undef, undef, undef, undef, undef, undef, undef, undef, undef, undef], defers := [] }) ?assign ?body ?done ?stop
      case assign =>
        intro l x W K hK
        gi_wp2
        exact hK
      case body =>
        rintro l pre ⟨⟨I, K⟩, hI, hK⟩ W ⟨⟨⟨⟨hM, hA⟩, hLb⟩, hCb⟩, hBe⟩ hlt
        dsimp only at hI hK ⊢
        clear hseq h0 o6 o5 o4 o3 o2 o1 b1 b2 b3 b4 hB3 M3 M0
        obtain ⟨rows, hrows⟩ : ∃ rows, (mixF (ns.map bytesOf) bl (pre.map Subtype.val)).1 = rows := ⟨_, rfl⟩
        have hlens : rows.map List.length = (ns.map bytesOf).map List.length := by rw [← hrows, mixF_lens]
        have hrl : rows.length = len := by
          have := congrArg List.length hlens
          simpa [HL.out] using this
        have hIr : I < rows.length := by omega
        have hKr : K < (rows.getD I []).length := by
          have h1 := congrArg (fun q => q[I]?) hlens
          simp only [List.getElem?_map] at h1
          have hIn : I < ns.length := by rw [HL.out]; exact hI
          rw [List.getElem?_eq_getElem hIr, List.getElem?_eq_getElem hIn] at h1
          simp only [Option.map_some, Option.some.injEq] at h1
          rw [List.getD_eq_getElem?_getD, List.getElem?_eq_getElem hIr]
          rw [List.getD_eq_getElem?_getD, List.getElem?_eq_getElem hIn] at hK
          show K < rows[I].length
          rw [h1, bytesOf_len]
          exact hK
        have hnext : (mixF (ns.map bytesOf) bl ((pre ++ [(⟨(I, K), hI, hK⟩ : PosT ns len)]).map Subtype.val)).1 = rows.set I ((rows.getD I []).set K (mix1 ((rows.getD I []).getD K 0) (bl.getD pre.length false))) := by
          rw [List.map_append, List.map_singleton, mixF_snoc, mixStep, mixF_cnt, hrows, List.length_map]
        rw [hrows] at hM
        have HNX := hid hnext
        have cA := hA.cell
        have cL := hLb.cell
        have cC := hCb.cell
        have fC := hCb.frozen
        have c1 := hM.cell hI
        obtain ⟨e2, f2⟩ := hM.byte hI hKr
        obtain ⟨x, hx⟩ : ∃ x, (rows.getD I []).getD K 0 = x := ⟨_, rfl⟩
        rw [hx] at e2 hnext
        have hpl : pre.length < n2 := by have := HNN.out; omega
        obtain ⟨b5, o5, hA5, lb5, c5⟩ : ∃ b5 o5, A2 = some ⟨b5, o5, none⟩ ∧ b5 < w.heap.size ∧ W.cell? ⟨b5, o5 + pre.length, none⟩ = some (.bool (bl.getD pre.length false)) := by
          obtain ⟨b5, o5, vs, e, hb, rfl, hc⟩ := (HBL.out.below hBe).at_ pre.length (by rw [HBL.out.len]; exact hpl)
          refine ⟨b5, o5, e, hb, ?_⟩
          have := hc 0 _ rfl
          rw [List.getD_eq_getElem?_getD, List.getElem?_eq_getElem (by rw [HBL.out.len]; exact hpl)]
          simpa [boolR] using this
        subst hA5
        have n1 : G I ≠ w.heap.size := hM.not_blk hI hA (by decide)
        have n3 : G I ≠ g1 + 1 := hM.not_blk hI hLb (by decide)
        have n4 : G I ≠ g3 := by have := HGL.out I hI; omega
        have n8 := (hM.lo I hI).2
        have n6 := (hM.lo I hI).1
        have n5 : G I ≠ b5 := by omega
        have n7 : G I ≠ g1 := by omega
        have m1 := n1.symm
        have m2 := n7.symm
        have m3 := n3.symm
        have m4 := n4.symm
        have m5 := n5.symm
        have lW := hM.glt hI
        obtain ⟨nr, hnr⟩ : ∃ nr, (rows.getD I []).length = nr := ⟨_, rfl⟩
        have HNR := hid hnr
        have hKn : K < nr := by omega
        rw [hnr] at c1
        have hor : bits .or .u8 (x.toNat : Int) 32 = ((x ||| 32).toNat : Int) := by
          have := letter_all x.toNat x.toNat_lt
          rwa [UInt8.ofNat_toNat] at this
        have hy32 : 32 ≤ (x ||| 32).toNat := or_ge x
        have hsub : (((x ||| 32) - 32 : UInt8).toNat : Int) = ((x ||| 32).toNat : Int) - 32 := by
          rw [UInt8.toNat_sub_of_le _ _ (by rw [UInt8.le_iff_toNat_le]; exact hy32)]
          have h32 : (32 : UInt8).toNat = 32 := rfl
          rw [h32]
          omega
        have hy8 := (x ||| 32).toNat_lt
        have M1 := hM.set hI hIr hKr (x ||| 32)
        have HM0 := hid hM
        have HA := hid hA
        have HLB := hid hLb
        have HCB := hid hCb
        have HBE := hid hBe
        have HM1 := hid M1
        have HSUB := hid hsub
        have HX := hid hx
        obtain ⟨y, hy⟩ : ∃ y : Nat, (x ||| 32).toNat = y := ⟨_, rfl⟩
        rw [hy] at hor hy32 hy8
        have HY := hid hy
        obtain ⟨g, hg⟩ : ∃ g, bl.getD pre.length false = g := ⟨_, rfl⟩
        rw [hg] at c5 hnext
        have HNX2 := hid hnext
        have hplN : pre.length < 1048576 := by have := HNN.out; omega
        have t9 : (pre.length : Int) < (n2 : Int) := by omega
        clear hM hA hLb hCb hBe M1 hsub hx hy hnext HNX hrows hlens hg hKr hnr
        cases g with
        | true =>
          gi_wp2
          have hm1 := HM1.out
          rw [HY.out] at hm1
          have hm2 := hm1.set hI (by rw [List.length_set]; exact hIr) (j := K) (by rw [getD_set_self' hIr, List.length_set]; have := HNR.out; omega) ((x ||| 32) - 32)
          rw [HSUB.out, HY.out, getD_set_self' hIr, List.set_set, List.set_set] at hm2
          have hm3 := hm2.kept (grownBy_setCell' _ g3 (.int .i64 ((pre.length : Int) + 1))) (by simp; omega) (fun i hi => by have := HGL.out i hi; simp; omega)
          refine ⟨(((KeepsOthers.setCell _ _ _).trans (KeepsOthers.setCell _ _ _)).trans (KeepsOthers.setCell _ _ _)).from _, Below.setCell (Below.setCell (Below.setCell (Below.refl _ W) (by simp only; omega) _) (by simp only; omega) _) (by simp only; omega) _, ⟨⟨⟨⟨?_, boxed_far (boxed_far (boxed_far HA.out (by simp only; omega) _) (by simp only; omega) _) (by simp only; omega) _⟩, boxed_far (boxed_far (boxed_far HLB.out (by simp only; omega) _) (by simp only; omega) _) (by simp only; omega) _⟩, ?_⟩, Below.setCell (Below.setCell (Below.setCell HBE.out (by simp only; omega) _) (by simp only; omega) _) (by simp only; omega) _⟩⟩
          · rw [HNX2.out]
            exact hm3
          · rw [List.length_append]
            exact Boxed.set _ (boxed_far (boxed_far HCB.out (by simp only; omega) _) (by simp only; omega) _)
        | false =>
          gi_wp2
          have hm1 := HM1.out
          rw [HY.out] at hm1
          have hm2 := hm1
          have hm3 := hm2.kept (grownBy_setCell' _ g3 (.int .i64 ((pre.length : Int) + 1))) (by simp; omega) (fun i hi => by have := HGL.out i hi; simp; omega)
          refine ⟨((KeepsOthers.setCell _ _ _).trans (KeepsOthers.setCell _ _ _)).from _, Below.setCell (Below.setCell (Below.refl _ W) (by simp only; omega) _) (by simp only; omega) _, ⟨⟨⟨⟨?_, boxed_far (boxed_far HA.out (by simp only; omega) _) (by simp only; omega) _⟩, boxed_far (boxed_far HLB.out (by simp only; omega) _) (by simp only; omega) _⟩, ?_⟩, Below.setCell (Below.setCell HBE.out (by simp only; omega) _) (by simp only; omega) _⟩⟩
          · rw [HNX2.out]
            exact hm3
          · rw [List.length_append]
            exact Boxed.set _ (boxed_far HCB.out (by simp only; omega) _)
      case done =>
        rintro D ys W hD hys ⟨⟨⟨⟨hM, hA⟩, hLb⟩, hCb⟩, hBe⟩ hK
        clear hseq h0 o6 o5 o4 o3 o2 o1 b1 b2 b3 b4 hB3 M3 M0
        obtain ⟨rows, hrows⟩ : ∃ rows, mixN (ns.map bytesOf) bl = rows := ⟨_, rfl⟩
        have hM2 : MixAt W w.heap.size g1 len G Cp rows len := by
          have := mix_whole ns bl
          rw [HL.out] at this
          rwa [hys, this, hrows] at hM
        have hrl : rows.length = len := by rw [← hrows, mixN_len, List.length_map, HL.out]
        have hsz : ∀ i, i < len → (rows.getD i []).length ≤ 1048576 := by
          intro i hi
          have h1 : rows.map List.length = (ns.map bytesOf).map List.length := by
            have h2 := mixF_lens (ns.map bytesOf) bl (posN ns ns.length)
            rwa [mix_whole, hrows] at h2
          have h2 := congrArg (fun q => q[i]?) h1
          simp only [List.getElem?_map] at h2
          have hin : i < ns.length := by rw [HL.out]; exact hi
          rw [List.getElem?_eq_getElem (show i < rows.length by omega), List.getElem?_eq_getElem hin] at h2
          simp only [Option.map_some, Option.some.injEq] at h2
          rw [List.getD_eq_getElem?_getD, List.getElem?_eq_getElem (show i < rows.length by omega)]
          show rows[i].length ≤ _
          rw [h2, bytesOf_len]
          have := lsum_mem (List.getElem_mem hin)
          omega
        have HM := hid hM2
        have HROWS := hid hrows
        have HRL := hid hrl
        have HSZ := hid hsz
        have HBE := hid hBe
        have HKD := hid hK
        have HLB := hid hLb
        have hcL := hLb.cell
        have hzW := hBe.size
        have hDW : D < W.heap.size := (Array.getElem?_eq_some_iff.1 hK).1
        have hgLb := hLb.lt
        obtain ⟨w4, hw4⟩ : ∃ w4, w4 = W := ⟨_, rfl⟩
        subst hw4
        clear hM hA hLb hCb hBe hK hM2 hrows hrl hsz hys
        go_wp2
        go_loopg [12, 67] len (fun gk v12 v67 wi => ∃ k : Nat, k ≤ len ∧ gk = len - k ∧ v67 = .int .i64 (k : Int) ∧ wi.ownsRow w4.heap.size 9 1 v12 k (strsV ((rows.take k).map fun l => ⟨l.toArray⟩)) ∧ Below w4.heap.size w4 wi)
        case atStart => exact ⟨0, Nat.zero_le _, rfl, rfl, World.ownsRow_nil _ _ _ _, Below.refl _ _⟩
        case round =>
          obtain ⟨k, hk, rfl, rfl, hown, hlow⟩ := hrel
          have HO := hid hown
          have HLOW := hid hlow
          have hzw5 := hlow.size
          have hM5 := hid (HM.out.kept (row := none) ⟨hlow.os, hlow.tape, hlow.output, hlow.size, fun i hi _ => hlow.block i hi⟩ (by simp) (by simp))
          clear hown hlow
          by_cases hlt : k < len
          · have c1 := hM5.out.cell hlt
            have cv := (hM5.out.rd hlt (by have := HSZ.out k hlt; omega)).conv
            have hkr : k < rows.length := by rw [HRL.out]; exact hlt
            have hLk : rows.getD k [] = rows[k] := by rw [List.getD_eq_getElem?_getD, List.getElem?_eq_getElem hkr]; rfl
            have htk : rows.take (k + 1) = rows.take k ++ [rows[k]] := List.take_succ_eq_append_getElem hkr
            obtain ⟨L, hL⟩ : ∃ L, rows.getD k [] = L := ⟨_, rfl⟩
            rw [hL] at c1 cv hLk
            rw [← hLk] at htk
            have HTK := hid htk
            obtain ⟨nr, hnr⟩ : ∃ nr, L.length = nr := ⟨_, rfl⟩
            rw [hnr] at c1 cv
            have ab1 : (k + 1) * 16 ≤ 140737488355328 := by omega
            have ab2 : k + 1 ≤ maxLen := by unfold maxLen; omega
            have t9 : (k : Int) < (len : Int) := by omega
            clear hL hLk htk hnr hkr
            go_wp2_with (at_builtin; refine wpList_app rfl _ _ 22 rfl w4.heap.size 9 1 16 el_str _ k _ rfl (HO.out.alloc _) _ 1 1 [.string ⟨L.toArray⟩] rfl (src_one _ rfl rfl) ab1 ab2 (by simp; omega) ?_; intro v' w5 ho hg ha; have HO5 := hid ho; have HL5 := hid (Below.trans (Below.alloc HLOW.out hzw5 _) (grown_below (HO.out.alloc _) hg (by simp; omega))); clear ho hg ha)
            go_roundg (len - (k + 1))
            case measure => omega
            case rel => exact ⟨k + 1, by omega, rfl, by go_num, by rw [HTK.out]; simpa [strsV] using HO5.out, HL5.out⟩
          · obtain rfl : len = k := by omega
            have ho := HO.out
            rw [List.take_of_length_le (by rw [HRL.out]; exact Nat.le_refl _)] at ho
            have hmx : (rows.map fun l => (⟨l.toArray⟩ : ByteArray)) = mixS ns bl := by unfold mixS; rw [HROWS.out]
            rw [hmx] at ho
            have hml : (mixS ns bl).length = len := by rw [← hmx, List.length_map, HRL.out]
            have hms : ∀ s ∈ mixS ns bl, s.size ≤ 140737488355328 := by
              intro s hs1
              rw [← hmx] at hs1
              obtain ⟨l, hl1, rfl⟩ := List.mem_map.1 hs1
              obtain ⟨i, hi, rfl⟩ := List.getElem_of_mem hl1
              have h1 := HSZ.out i (by rw [HRL.out] at hi; exact hi)
              rw [List.getD_eq_getElem?_getD, List.getElem?_eq_getElem hi] at h1
              show (rows[i].toArray).size ≤ _
              rw [List.size_toArray]
              have h2 : rows[i].length ≤ 1048576 := h1
              omega
            have hK5 := (HLOW.out.block D hDW).trans HKD.out
            have hlo := hid (Below.trans (HBE.out.trans (HLOW.out.mono hzW)) (belowK_b (w := w) (Nat.le_refl _) wr D _ (.deferred none) (by omega) hK5 rfl rfl))
            obtain ⟨A', c', e, hr⟩ := rd_of_own (R := strR) (ownsRow_putObj ho (.deferred none) hK5 rfl) (rels_str (B := 0) hms) hml (Nat.zero_le _) (by show _ * 16 ≤ _; omega) (by decide)
            subst e
            have HRR := hid hr
            have HK5 := hid hK5
            clear hr ho hmx hml hms hK5 HO
            go_wp2
            refine ⟨by simp, .inl ⟨_, _, rfl, run_takeDeferred HK5.out, ?_⟩⟩
            exact ⟨_, results_tmp2 rfl _ _ _, A', c', rfl, HRR.out, hlo.out⟩
      case stop =>
        rintro D c pre W _ _ h _
        exact h.elim
end Go.Proofs.YtemgbfppdopfbaaDoor
