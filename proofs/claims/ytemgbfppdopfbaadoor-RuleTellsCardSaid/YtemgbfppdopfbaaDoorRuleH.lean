/- The program's rules: flat. -/
import Derived.Test.YtemgbfppdopfbaaDoorRuleG
import Derived.Test.YtemgbfppdopfbaaDoorNameC
import Derived.Deep.DeepCutAuto
namespace Go.Proofs.YtemgbfppdopfbaaDoor
open Go.RowKit
open Tree
set_option linter.unusedVariables false
set_option linter.unusedSimpArgs false

theorem own_rd_str' {w : World} {base n c : Nat} {A : Option Addr} {l : List ByteArray} (h : w.ownsRow base 9 1 (.slice A n c) n (strsV l)) (hs : ∀ s ∈ l, s.size ≤ 140737488355328) (hb : base ≤ w.heap.size) (hn : n * 16 ≤ 140737488355328) : Rd strR w w.heap.size A n c l := by
  obtain ⟨A', c', e, hr⟩ := rd_of_own (R := strR) h (rels_str hs) (by have := h.1; simpa [strsV] using this) hb (by simpa [strR] using hn) (by decide)
  cases e
  exact hr
theorem own_rd_u8' {w : World} {base n c : Nat} {A : Option Addr} {l : List UInt8} (h : w.ownsRow base 5 1 (.slice A n c) n (bytesV l)) (hb : base ≤ w.heap.size) (hn : n ≤ 140737488355328) : Rd u8R w w.heap.size A n c l := by
  obtain ⟨A', c', e, hr⟩ := rd_of_own (R := u8R) h (rels_u8.2 rfl) (by have := h.1; simpa [bytesV] using this) hb (by simpa [u8R] using hn) (by decide)
  cases e
  exact hr
theorem Rd.strs' {w : World} {B n c : Nat} {A : Option Addr} {l : List ByteArray} (h : Rd strR w B A n c l) : ∀ s ∈ l, s.size ≤ 140737488355328 := by
  intro s hs
  obtain ⟨i, hi, rfl⟩ := List.getElem_of_mem hs
  obtain ⟨b, o, vs, e, hb, hr, hc⟩ := h.at_ i hi
  exact hr.2
theorem own_base {w : World} {base base' k n : Nat} {e : TypeId} {v : Value} {xs : List Value} (h : w.ownsRow base e k v n xs) (hb : base' ≤ base) : w.ownsRow base' e k v n xs := by
  obtain ⟨h3, h4⟩ := h
  refine ⟨h3, ?_⟩
  rcases h4 with h4 | ⟨g, cap, cur, rfl, hg, rest⟩
  · exact .inl h4
  · exact .inr ⟨g, cap, cur, rfl, by omega, rest⟩
theorem flats_take_len {ts : List Tree} : ∀ {i : Nat} (hi : i < ts.length), (flats (ts.take i)).length + ts[i].size ≤ (flats ts).length := by
  induction ts with
  | nil => intro i hi; simp at hi
  | cons t ts ih =>
    intro i hi
    cases i with
    | zero => simp [flats, tflat_len]
    | succ i =>
      have := ih (i := i) (by simpa using hi)
      simp only [List.take_succ_cons, flats, List.length_append, List.getElem_cons_succ] at this ⊢
      omega
theorem flats_take_succ {ts : List Tree} {i : Nat} (hi : i < ts.length) : flats (ts.take (i + 1)) = flats (ts.take i) ++ ts[i].flat := by
  rw [List.take_succ_eq_append_getElem hi, flats_app]
  simp [flats]
theorem kids_le (t : Tree) : t.kids.length ≤ 2 := by cases t <;> simp [Tree.kids]
/-- what flat hands back -/
def FlatO (base : Nat) (w : World) (V : Value) (l : List MT) (t : Tree) (e : Ending) (w' : World) : Prop :=
  ∃ V', e = .returned V' ∧ HRow noZ matchR 81 base w' V' (l ++ t.flat) ∧ AppTo w w' V V' ∧ Below base w w'
def FlatC (t : Tree) : Prop := ∀ (w : World) (base : Nat) {A A' A2 : Option Addr} {n c n' c' n2 c2 : Nat} {op N : Int} {V : Value} {l : List MT},
    HRow noZ matchR 81 base w V l → base ≤ w.heap.size → l.length + t.size ≤ 1000 → NodeAt (shut w (blkZ noZ V)) w.heap.size t [.int .i64 op, .int .i64 N, .slice A n c, .slice A' n' c', .slice A2 n2 c2] →
    Calls Tryd.prog 46 #[.agg #[.int .i64 op, .int .i64 N, .slice A n c, .slice A' n' c', .slice A2 n2 c2], V] w (FlatO base w V l t)
theorem blk_app {w w' : World} {V V' : Value} {g : Nat} {T : TypeId} {cs : Array Value} (h : AppTo w w' V V') (hB : Blk w g T cs) (hV : V.ownBlock ≠ some g) : Blk w' g T cs :=
  (h.grown.block g hB.lt (fun e => hV e.symm)).trans hB
theorem AppTo.pre {w w1 w2 : World} {v v2 : Value} (hb : Below w.heap.size w w1) (ha : AppTo w1 w2 v v2) : AppTo w w2 v v2 :=
  AppTo.trans ⟨⟨hb.os, hb.tape, hb.output, hb.size, fun k hk _ => hb.block k hk⟩, .inl rfl⟩ ha
theorem flat_rel {w1 wc W : World} {op N : Int} {ln : List ByteArray} {ad : List UInt8} {A1 A2 : Option Addr} {n n' c1 c2 : Nat} {V : Value} (hV : ∀ g, V.ownBlock = some g → g < w1.heap.size) (hb : Below wc.heap.size wc W) (hle : w1.heap.size ≤ wc.heap.size)
    (on : wc.ownsRow w1.heap.size 9 1 (.slice A1 n c1) n (strsV ln)) (od : wc.ownsRow w1.heap.size 5 1 (.slice A2 n' c2) n' (bytesV ad)) (hs : ∀ s ∈ ln, s.size ≤ 140737488355328) (l1 : n * 16 ≤ 140737488355328) (l2 : n' * 1 ≤ 140737488355328) (hi : I64 op ∧ I64 N) :
    matchR.rel (shut W (blkZ noZ V)) W.heap.size (op, N, ln, ad, ()) [.int .i64 op, .int .i64 N, .slice A1 n c1, .slice A2 n' c2] := by
  have hz : ∀ g, w1.heap.size ≤ g → blkZ noZ V g = false := fun g hg => blkZ_no rfl fun e => by have := hV g e; omega
  have h1 := own_rd_str' (own_shut (own_low on hb (Nat.le_refl _)) fun g hg => hz g (on.lt g hg).1) hs (by rw [shut_size]; exact Nat.le_trans hle hb.size) l1
  have h2 := own_rd_u8' (own_shut (own_low od hb (Nat.le_refl _)) fun g hg => hz g (od.lt g hg).1) (by rw [shut_size]; exact Nat.le_trans hle hb.size) (by omega)
  rw [shut_size] at h1 h2
  exact ⟨[_], _, rfl, ⟨rfl, hi.1⟩, [_], _, rfl, ⟨rfl, hi.2⟩, [_], _, rfl, ⟨A1, n, c1, rfl, h1⟩, [_], _, rfl, ⟨A2, n', c2, rfl, h2⟩, rfl⟩
set_option maxRecDepth 100000 in
set_option maxHeartbeats 8000000 in
theorem flat_step {t : Tree} (hkids : ∀ k ∈ t.kids, FlatC k) : FlatC t := by
  intro w base A A' A2 n c n' c' n2 c2 op N V l hrow hbase hsz hnode
  obtain ⟨ln, ad, htop, hi, r1, r2, r3⟩ := node_of' hnode
  have HT := hid htop
  have HI := hid hi
  have hklen := r3.len
  have HKL := hid hklen
  have hn2 : n2 ≤ 2 := by rw [← hklen]; exact kids_le t
  have hfl : (flats t.kids).length + 1 = t.size := by rw [← tflat_len, flat_kids]; simp
  have lim1 := r1.lim
  have lim2 := r2.lim
  rw [show strR.bs = 16 from rfl] at lim1
  rw [show u8R.bs = 1 from rfl] at lim2
  have HS1 := hid r1.strs'
  have HK := hid hkids
  have HVB := hid (show V.ownBlock ≠ some w.heap.size from fun e => by have := (hrow.blk e).2; omega)
  obtain ⟨w0, hw0⟩ : ∃ w0, w.alloc (.cells #[.int .i64 op, .int .i64 N, .slice A n c, .slice A' n' c', .slice A2 n2 c2] 86) = w0 := ⟨_, rfl⟩
  have hb0 : Below w.heap.size w w0 := by rw [← hw0]; exact (Below.refl _ _).alloc (Nat.le_refl _) _
  have hB0 : Blk w0 w.heap.size 86 #[.int .i64 op, .int .i64 N, .slice A n c, .slice A' n' c', .slice A2 n2 c2] := by rw [← hw0]; exact Blk.new _ _ _
  have hs0 : w0.heap.size = w.heap.size + 1 := by rw [← hw0]; simp
  have R1 := hid (Rd.shutL (Z' := blkZ noZ V) mono_str r1 hb0 (Nat.le_succ _) fun i _ h => h)
  have R2 := hid (Rd.shutL (Z' := blkZ noZ V) mono_u8 r2 hb0 (Nat.le_succ _) fun i _ h => h)
  have R3 := hid (Rd.shutL (Z' := blkZ noZ V) mono_node r3 hb0 (Nat.le_succ _) fun i _ h => h)
  have HROW0 := hid (hrow.later mono_match hb0)
  have HROWW := hid hrow
  have HB0 := hid hB0
  have HS0 := hid hs0
  have HBS := hid hbase
  have HW0 := hid hw0
  have LOW0 := hid hb0
  have hkn : (flats t.kids).length ≤ 1000 := by omega
  clear hrow hnode htop hi r1 r2 r3 hklen hkids hb0 hB0 hs0 hw0
  have tk0 : True := trivial; have tk1 : True := trivial; have tk2 : True := trivial; have tk3 : True := trivial; have tk4 : True := trivial; have tk5 : True := trivial; have tk6 : True := trivial; have tk7 : True := trivial; have tk8 : True := trivial; have tk9 : True := trivial; have tk10 : True := trivial; have tk11 : True := trivial; have tk12 : True := trivial
  go_enter Tryd.func46, Tryd.ntmps46
  go_wp2
  rw [HW0.out]
  go_loopg [1, 11] n2 (fun gk v1 v11 wi => ∃ i : Nat, i ≤ n2 ∧ gk = n2 - i ∧ v11 = .int .i64 (i : Int) ∧ HRow noZ matchR 81 base wi v1 (l ++ flats (t.kids.take i)) ∧ AppTo w0 wi V v1)
  case atStart => exact ⟨0, Nat.zero_le _, rfl, rfl, by rw [List.take_zero]; simpa [flats] using HROW0.out, AppTo.refl _ _⟩
  case round =>
    obtain ⟨i, hi, rfl, rfl, hrow, happ⟩ := hrel
    have HROW := hid hrow
    have HAPP := hid happ
    have hzw := happ.grown.size
    have HB1 := hid (blk_app happ HB0.out HVB.out)
    by_cases hlt : i < n2
    · have hil : i < t.kids.length := by rw [HKL.out]; exact hlt
      have hr3 := Rd.mono' mono_node R3.out (show w.heap.size + 1 ≤ wr.heap.size by rw [← HS0.out]; exact hzw) fun p u hp hu => app_shut happ (B := w.heap.size + 1) (by rw [HS0.out]; exact Nat.le_refl _) p u hp hu
      obtain ⟨b, o, B1, m1, d1, B2, m2, d2, B3, m3, d3, op1, N1, rfl, hb, hk, k0, k1, k2, k3, k4⟩ := hr3.kid i hlt
      have k0 := unshut _ _ k0
      have k1 := unshut _ _ k1
      have k2 := unshut _ _ k2
      have k3 := unshut _ _ k3
      have k4 := unshut _ _ k4
      have hfk := HK.out _ (List.getElem_mem hil)
      have hsl := flats_take_len hil
      have hsc := flats_take_succ hil
      obtain ⟨kt, hkt⟩ : ∃ kt, t.kids[i]'hil = kt := ⟨_, rfl⟩
      rw [hkt] at hfk hsl hsc hk
      have C := hid fun (w' : World) (hb : Below wr.heap.size wr w') => hfk w' base (hrow.later mono_match hb) (by have := HBS.out; have := hb.size; have := HS0.out; omega) (by rw [List.length_append]; omega) (rel_later (R := nodeR) (Z' := blkZ noZ u1) mono_node hk hb hb.size fun i _ h => h)
      have HSC := hid hsc
      have t0 : (i : Int) < (n2 : Int) := by omega
      have t2 : (0 : Int) ≤ (i : Int) := by omega
      have v3 : IntKind.i64.wrap ((i : Int) + 1) = (i : Int) + 1 := IntWalk.i64_in _ (by omega)
      clear hrow happ hr3 hfk hk hkt hil hsl hsc
      go_wp2_with (go_at_call 46; have _t := tk1; (with_reducible refine (C.out _ (by (repeat' (first | (with_reducible exact Below.refl _ _) | (with_reducible assumption) | (with_reducible refine below_ext0 ?_ _ _) | (with_reducible refine below_alloc0 ?_ _) | (with_reducible refine Below.ext ?_ ?_ _ _) | (with_reducible refine Below.alloc ?_ ?_ _) | (with_reducible refine Below.setCell ?_ ?_ _) | (with_reducible refine Below.drew ?_) | (with_reducible refine below_draws ?_ _) | go_size | (simp [size_ext]; done) | (simp [size_ext]; omega))))).mono ?_); rintro e w2 ⟨V2, rfl, ho, ha, hb⟩; have HO2 := hid ho; have HA2 := hid ha; clear ho ha hb tk1)
      go_roundg (n2 - (i + 1))
      case measure => omega
      case rel => exact ⟨i + 1, by omega, rfl, by go_num, by rw [HSC.out, ← List.append_assoc]; exact HO2.out, AppTo.trans HAPP.out (AppTo.alloc HA2.out)⟩
    · obtain rfl : i = n2 := by omega
      have htk : t.kids.take i = t.kids := List.take_of_length_le (by rw [HKL.out]; exact Nat.le_refl _)
      rw [htk] at hrow
      have HROW := hid hrow
      have q0 : wr.cell? ⟨w.heap.size, 0, none⟩ = some (.int .i64 op) := HB1.out.cell 0
      have q1 : wr.cell? ⟨w.heap.size, 1, none⟩ = some (.int .i64 N) := HB1.out.cell 1
      have q2 : wr.cell? ⟨w.heap.size, 2, none⟩ = some (.slice A n c) := HB1.out.cell 2
      have q3 : wr.cell? ⟨w.heap.size, 3, none⟩ = some (.slice A' n' c') := HB1.out.cell 3
      have hle : w.heap.size + 1 ≤ wr.heap.size := by rw [← HS0.out]; exact hzw
      have s1 := (Rd.mono' mono_str R1.out hle fun p u hp hu => app_shut happ (B := w.heap.size + 1) (by rw [HS0.out]; exact Nat.le_refl _) p u hp hu).unshut mono_str
      have s2 := (Rd.mono' mono_u8 R2.out hle fun p u hp hu => app_shut happ (B := w.heap.size + 1) (by rw [HS0.out]; exact Nat.le_refl _) p u hp hu).unshut mono_u8
      have CS := hid fun w' (hb : Below wr.heap.size wr w') => clone_strs w' A n c ln _ (s1.later hb)
      have CB := hid fun w' (hb : Below wr.heap.size wr w') => clone_bytes w' A' n' c' ad _ (s2.later hb)
      have t0 : ¬ (i : Int) < (i : Int) := by omega
      have HV1 := hid (fun g (hg : u1.ownBlock = some g) => (hrow.blk hg).2)
      have gl : w.heap.size < wr.heap.size := by omega
      clear hrow happ htk s1 s2
      go_upto_region 8 with fail
      go_cut [7] (fun s7 wx => ∃ A1' c1' A2' c2', s7 = .pointer (some ⟨wr.heap.size, 0, none⟩) ∧ Below wr.heap.size wr wx ∧ Blk wx wr.heap.size 81 #[.int .i64 op, .int .i64 N, .slice A1' n c1', .slice A2' n' c2'] ∧ wx.ownsRow wr.heap.size 9 1 (.slice A1' n c1') n (strsV ln) ∧ wx.ownsRow wr.heap.size 5 1 (.slice A2' n' c2') n' (bytesV ad))
      case first =>
        go_region_with (first
          | (go_at_call 61; have _t := tk1; (with_reducible refine (CS.out _ (by (repeat' (first | (with_reducible exact Below.refl _ _) | (with_reducible assumption) | (with_reducible refine below_ext0 ?_ _ _) | (with_reducible refine below_alloc0 ?_ _) | (with_reducible refine Below.ext ?_ ?_ _ _) | (with_reducible refine Below.alloc ?_ ?_ _) | (with_reducible refine Below.setCell ?_ ?_ _) | (with_reducible refine Below.drew ?_) | (with_reducible refine below_draws ?_ _) | go_size | (simp [size_ext]; done) | (simp [size_ext]; omega))))).mono ?_); rintro e w1 ⟨v1, rfl, ho, hb⟩; obtain ⟨A1', c1', rfl, _⟩ := own_slice ho; obtain ⟨os1, d1, rfl⟩ := ext_of_below hb; have ON := hid (own_outs ho); clear ho hb tk1)
          | (go_at_call 62; have _t := tk2; (with_reducible refine (CB.out _ (by (repeat' (first | (with_reducible exact Below.refl _ _) | (with_reducible assumption) | (with_reducible refine below_ext0 ?_ _ _) | (with_reducible refine below_alloc0 ?_ _) | (with_reducible refine Below.ext ?_ ?_ _ _) | (with_reducible refine Below.alloc ?_ ?_ _) | (with_reducible refine Below.setCell ?_ ?_ _) | (with_reducible refine Below.drew ?_) | (with_reducible refine below_draws ?_ _) | go_size | (simp [size_ext]; done) | (simp [size_ext]; omega))))).mono ?_); rintro e w2 ⟨v2, rfl, ho, hb⟩; obtain ⟨A2', c2', rfl, _⟩ := own_slice ho; obtain ⟨os2, d2, rfl⟩ := ext_of_below hb; have OD := hid (own_outs ho); clear ho hb tk2)
          | fail)
        all_goals
          go_wp2_with fail
          go_meet
          refine ⟨A1', c1', A2', c2', rfl, (by (repeat' (first | (with_reducible exact Below.refl _ _) | (with_reducible assumption) | (with_reducible refine below_ext0 ?_ _ _) | (with_reducible refine below_alloc0 ?_ _) | (with_reducible refine Below.ext ?_ ?_ _ _) | (with_reducible refine Below.alloc ?_ ?_ _) | (with_reducible refine Below.setCell ?_ ?_ _) | (with_reducible refine Below.drew ?_) | (with_reducible refine below_draws ?_ _) | go_size | (simp [size_ext]; done) | (simp [size_ext]; omega)))), ?_, own_base (ON.out _ (by (repeat' (first | (with_reducible refine OutAt.alloc ?_ ?_ _) | (with_reducible refine OutAt.drew ?_) | (with_reducible refine OutAt.base ?_ _) | (with_reducible refine OutAt.ext ?_ ?_ _ _) | (with_reducible exact Nat.le_refl _) | (simp [size_ext, World.drew]; done) | (simp [size_ext, World.drew]; omega))))) (by first | omega | (simp [size_ext]; done) | (simp [size_ext]; omega)), own_base (OD.out _ (by (repeat' (first | (with_reducible refine OutAt.alloc ?_ ?_ _) | (with_reducible refine OutAt.drew ?_) | (with_reducible refine OutAt.base ?_ _) | (with_reducible refine OutAt.ext ?_ ?_ _ _) | (with_reducible exact Nat.le_refl _) | (simp [size_ext, World.drew]; done) | (simp [size_ext, World.drew]; omega))))) (by first | omega | (simp [size_ext]; done) | (simp [size_ext]; omega))⟩
          ((repeat' (first | (with_reducible assumption) | (with_reducible refine Blk.drew ?_) | exact Blk.new' _ _ (by first | rfl | (simp [size_ext]; done) | (simp [size_ext]; omega)) | (with_reducible refine Blk.ext ?_ _ _) | (with_reducible refine Blk.alloc ?_ _))); (all_goals fail))
      case rest =>
        obtain ⟨A1', c1', A2', c2', rfl, hlow, hblk, on, od⟩ := hcut
        have HLOW := hid hlow
        have ON := hid on
        have OD := hid od
        have zc := hlow.size
        have y0 : wc.cell? ⟨wr.heap.size, 0, none⟩ = some (.int .i64 op) := hblk.cell 0
        have y1 : wc.cell? ⟨wr.heap.size, 1, none⟩ = some (.int .i64 N) := hblk.cell 1
        have y2 : wc.cell? ⟨wr.heap.size, 2, none⟩ = some (.slice A1' n c1') := hblk.cell 2
        have y3 : wc.cell? ⟨wr.heap.size, 3, none⟩ = some (.slice A2' n' c2') := hblk.cell 3
        have hLL : (l ++ flats t.kids).length ≤ 1000 := by rw [List.length_append]; omega
        have ab1 : ((l ++ flats t.kids).length + 1) * 64 ≤ 140737488355328 := by omega
        have ab2 : (l ++ flats t.kids).length + 1 ≤ maxLen := by unfold maxLen; omega
        have hbw : base ≤ wr.heap.size := by omega
        clear hlow hblk on od
        go_wp2_with (at_builtin; go_must (refine wpList_hrow mono_match el_match HROW.out ((op, N, ln, ad, ()) : MT) [.int .i64 op, .int .i64 N, .slice A1' n c1', .slice A2' n' c2'] rfl _ _ rfl rfl rfl (by have := HLOW.out; (repeat' (first | (with_reducible exact Below.refl _ _) | (with_reducible assumption) | (with_reducible refine below_ext0 ?_ _ _) | (with_reducible refine below_alloc0 ?_ _) | (with_reducible refine Below.ext ?_ ?_ _ _) | (with_reducible refine Below.alloc ?_ ?_ _) | (with_reducible refine Below.setCell ?_ ?_ _) | (with_reducible refine Below.drew ?_) | (with_reducible refine below_draws ?_ _) | go_size | (simp [size_ext]; done) | (simp [size_ext]; omega)))) (src_lit #[.int .i64 op, .int .i64 N, .slice A1' n c1', .slice A2' n' c2'] rfl (by simp [Value.oneCell']) (by first | rfl | (simp [size_ext]; done) | (simp [size_ext]; omega))) (flat_rel HV1.out (wc := wc) (by (repeat' (first | (with_reducible exact Below.refl _ _) | (with_reducible assumption) | (with_reducible refine below_ext0 ?_ _ _) | (with_reducible refine below_alloc0 ?_ _) | (with_reducible refine Below.ext ?_ ?_ _ _) | (with_reducible refine Below.alloc ?_ ?_ _) | (with_reducible refine Below.setCell ?_ ?_ _) | (with_reducible refine Below.drew ?_) | (with_reducible refine below_draws ?_ _) | go_size | (simp [size_ext]; done) | (simp [size_ext]; omega)))) zc ON.out OD.out HS1.out lim1 lim2 HI.out) ab1 ab2 hbw ?_); intro v9 w9 row9 ha9 hb9)
        have HR9 := hid row9
        have HA9 := hid ha9
        clear row9 ha9 hb9
        go_ret
        have hA : AppTo w _ V _ := AppTo.pre LOW0.out (AppTo.trans HAPP.out (AppTo.pre HLOW.out (AppTo.alloc HA9.out)))
        refine ⟨_, rfl, ?_, hA, ?_⟩
        · have := HR9.out
          rw [flat_kids, HT.out, ← List.append_assoc]
          exact this
        · obtain ⟨xs, ho, _⟩ := HROWW.out
          exact hA.below ho HBS.out
end Go.Proofs.YtemgbfppdopfbaaDoor
