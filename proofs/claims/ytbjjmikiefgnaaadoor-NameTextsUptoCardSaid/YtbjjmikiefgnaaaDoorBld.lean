/- strings.Builder: copyCheck, WriteByte, Write, String, of a builder that the call made. -/
import Derived.Test.YtbjjmikiefgnaaaDoorAppS
import Derived.Lib.Builder
import Derived.Lib.UnsafeStr
import Derived.Laws.Externs
namespace Go.Proofs.YtbjjmikiefgnaaaDoor
open Go.RowKit
set_option linter.unusedVariables false
set_option linter.unusedSimpArgs false

theorem info_builder : (Tryd.prog.info? 87).map (·.size) = some 2 := by kernel_rfl
theorem lies_builder : liesAt Tryd.prog Tryd.prog.depth 87 (2 / Tryd.prog.cellsOf 87) 0 87 1 = true := by kernel_rfl
abbrev BldP (B b : Nat) (p : Value) (l : List UInt8) (w : World) : Prop := Lib.BuilderAt 87 5 B b p (l.map fun x => Value.int .u8 (x.toNat : Int)) w
abbrev Bld (B b : Nat) (l : List UInt8) (w : World) : Prop := Lib.IsBuilder 87 5 B b (l.map fun x => Value.int .u8 (x.toNat : Int)) w

set_option maxRecDepth 100000 in
theorem check_used (b : Nat) (w : World) (h0 : w.cell? ⟨b, 0, none⟩ = some (.pointer (some ⟨b, 0, none⟩))) :
    Calls Tryd.prog 67 #[.pointer (some ⟨b, 0, none⟩)] w fun e w' => e = .returned (.tuple #[]) ∧ w' = w := by
  obtain ⟨j, hj, _⟩ := Option.map_eq_some_iff.1 info_builder
  go_enter Tryd.func67, Tryd.ntmps67
  go_wp2
  rw [Lib.run_neq_ptr_same w _ Tryd.underlying85 hj]
  go_wp2
  go_end0
  exact ⟨rfl, rfl⟩

set_option maxRecDepth 100000 in
theorem check_fresh (b : Nat) (w : World) (h0 : w.cell? ⟨b, 0, none⟩ = some (.pointer none)) (hsh : w.shape? b = some (87, 2)) (hfz : w.frozen? ⟨b, 0, none⟩ = false) :
    Calls Tryd.prog 67 #[.pointer (some ⟨b, 0, none⟩)] w fun e w' => e = .returned (.tuple #[]) ∧ w' = w.setCell ⟨b, 0, none⟩ (.pointer (some ⟨b, 0, none⟩)) := by
  obtain ⟨j, hj, hjs⟩ := Option.map_eq_some_iff.1 info_builder
  go_enter Tryd.func67, Tryd.ntmps67
  go_wp2
  rw [Lib.run_to_unsafe w ⟨b, 0, none⟩ Tryd.underlying85 Tryd.underlying107 hj (by rw [hjs]; decide) hsh (Nat.zero_lt_succ 1)]
  simp only [Result.andThen]
  rw [Oper.upon_value]
  go_wp2
  rw [run_callFunc_extern Tryd.func77 (by kernel_rfl) (by kernel_rfl) (by kernel_rfl) (e := Extern.AbiNoEscape.same) (by kernel_rfl)]
  rw [Lib.run_noEscape]
  simp only [Result.andThen]
  rw [Oper.upon_value]
  go_wp2
  rw [Lib.run_from_unsafe w ⟨b, 0, none⟩ Tryd.underlying107 Tryd.underlying85 hj hsh lies_builder]
  simp only [Result.andThen]
  rw [Oper.upon_value]
  go_wp2
  go_end0
  exact ⟨rfl, rfl⟩
/-- copyCheck; what lies in other blocks is kept -/
theorem check_any {B b : Nat} {l : List UInt8} {w : World} (h : Bld B b l w) :
    Calls Tryd.prog 67 #[.pointer (some ⟨b, 0, none⟩)] w fun e w' => e = .returned (.tuple #[]) ∧ BldP B b (.pointer (some ⟨b, 0, none⟩)) l w' ∧ Below B w w' ∧ w'.heap.size = w.heap.size ∧ (∀ k, k ≠ b → w'.heap[k]? = w.heap[k]?) ∧ ∀ p v, w'.heap[b]? = some (.cells #[p, v] 87 (0, 0)) → ∃ p', w.heap[b]? = some (.cells #[p', v] 87 (0, 0)) := by
  rcases h with h | h
  · refine (check_fresh b w h.cell0 h.shape h.frozen0).mono ?_
    rintro e w' ⟨rfl, rfl⟩
    exact ⟨rfl, h.used _, (Below.refl B w).setCell (p := ⟨b, 0, none⟩) h.1 _, by simp, fun k hk => Below.heap_setCell w _ _ k hk, fun p v hv => by
      obtain ⟨_, u, hu, _⟩ := h
      have h2 : (w.setCell ⟨b, 0, none⟩ (.pointer (some ⟨b, 0, none⟩))).heap[b]? = some (.cells #[.pointer (some ⟨b, 0, none⟩), u] 87 (0, 0)) := Blk.set (show Blk w b 87 #[.pointer none, u] from hu) 0 (.pointer (some ⟨b, 0, none⟩))
      rw [h2] at hv
      injection hv with hv
      injection hv with hv
      simp only [Array.mk.injEq, List.cons.injEq, and_true] at hv
      obtain ⟨_, rfl⟩ := hv
      exact ⟨_, hu⟩⟩
  · refine (check_used b w h.cell0).mono ?_
    rintro e w' ⟨rfl, rfl⟩
    exact ⟨rfl, h, Below.refl B _, rfl, fun _ _ => rfl, fun p v hv => ⟨p, hv⟩⟩
theorem BldP.put {B b : Nat} {p v v' : Value} {l : List UInt8} {w : World} (hB : B ≤ b) (hb : w.heap[b]? = some (.cells #[p, v] 87 (0, 0))) (hown : w.ownsRow B 5 1 v' l.length (l.map fun x => Value.int .u8 (x.toNat : Int))) :
    BldP B b p l (w.setCell ⟨b, 1, none⟩ v') := Lib.BuilderAt.put hB hb (by simpa using hown) (by decide)
theorem blk_of_cells {w : World} {b : Nat} {cs : Array Value} {T : TypeId} (h : w.heap[b]? = some (.cells cs T (0, 0))) : Blk w b T cs := h

/-- a block apart from the builder's row -/
def ApartB (w : World) (b g : Nat) : Prop := ∀ p v, w.heap[b]? = some (.cells #[p, v] 87 (0, 0)) → v.ownBlock ≠ some g
/-- what a write keeps: each block that is not the builder's, nor its row's; these stay apart -/
def KeepB (w w' : World) (b : Nat) : Prop := ∀ g, g < w.heap.size → g ≠ b → ApartB w b g → w'.heap[g]? = w.heap[g]? ∧ ApartB w' b g
theorem KeepB.refl (w : World) (b : Nat) : KeepB w w b := fun g _ _ h => ⟨rfl, h⟩
theorem keep_write {w w1 wa w2 : World} {b : Nat} {q v v' : Value} (hk1 : ∀ k, k ≠ b → w1.heap[k]? = w.heap[k]?) (hs1 : w1.heap.size = w.heap.size) (hown : ∀ g, ApartB w b g → v.ownBlock ≠ some g) (hwa : ∀ k, k < w1.heap.size → wa.heap[k]? = w1.heap[k]?) (hsa : w1.heap.size ≤ wa.heap.size)
    (ha : AppTo wa w2 v v') (hb2 : w2.heap[b]? = some (.cells #[q, v] 87 (0, 0))) : KeepB w (w2.setCell ⟨b, 1, none⟩ v') b := by
  intro g hg hgb hap
  have hv := hown g hap
  constructor
  · rw [Below.heap_setCell w2 _ _ g hgb, ha.grown.block g (by omega) (fun e => hv e.symm), hwa g (by omega), hk1 g hgb]
  · intro p u hu
    have h3 : (w2.setCell ⟨b, 1, none⟩ v').heap[b]? = some (.cells #[q, v'] 87 (0, 0)) := (blk_of_cells hb2).set 1 v'
    rw [h3] at hu
    injection hu with hu
    injection hu with hu
    simp only [Array.mk.injEq, List.cons.injEq, and_true] at hu
    obtain ⟨_, rfl⟩ := hu
    rcases ha.blk with e | ⟨g', e, hg'⟩
    · rw [e]; exact hv
    · rw [e]; intro e2; cases e2; omega

set_option maxRecDepth 100000 in
set_option maxHeartbeats 2000000 in
theorem wbyte_any {B b : Nat} {l : List UInt8} {w : World} (h : Bld B b l w) (c : UInt8) (hlen : l.length + 1 ≤ 140737488355328) (hBw : B ≤ w.heap.size) {y : Int} (hy : y = (c.toNat : Int)) :
    Calls Tryd.prog 52 #[.pointer (some ⟨b, 0, none⟩), .int .u8 y] w fun e w' => e = .returned .nilIface ∧ Bld B b (l ++ [c]) w' ∧ Below B w w' ∧ KeepB w w' b := by
  subst hy
  have CC := hid (check_any h)
  have hml : l.length + 1 ≤ maxLen := by unfold maxLen; omega
  have hb1 : (l.length + 1) * 1 ≤ 140737488355328 := by omega
  clear h
  go_enter Tryd.func52, Tryd.ntmps52
  go_wp2_with (first
    | (go_at_call 67; (with_reducible refine CC.out.mono ?_); rintro e w1 ⟨rfl, ⟨hB, v, hbk, hown, hne⟩, hlow, hsz, hkk, hvv⟩; have HKK := hid hkk; have HVV := hid (fun g (ha : ApartB w b g) => (hvv _ _ hbk).elim fun p' e => ha p' v e); clear hkk hvv; have c0 := (Lib.cell_of_heap hbk 0); have c1 := (Lib.cell_of_heap hbk 1); have hlt : b < w1.heap.size := (blk_of_cells hbk).lt; have hB1 : B ≤ w1.heap.size := (by rw [hsz]; exact hBw); rw [List.length_map] at hown; have HO2 := hid hown; have HL := hid hlow; have HK := hid hbk; have HN := hid hne; have HS := hid hsz; clear hown hlow hbk hne hsz)
    | (at_builtin; refine wpList_appT rfl _ _ 24 rfl B 5 1 1 el_u8 v l.length _ rfl (HO2.out.alloc _) _ 1 1 [.int .u8 (c.toNat : Int)] rfl (src_one _ rfl rfl) hb1 hml (by simp; omega) ?_; intro v2 w2 ho2 ha2; obtain ⟨A2, k2, rfl, _⟩ := own_slice ho2; have HA2 := hid ha2; have HO3 := hid ho2; have hb2 := (show w2.heap[b]? = some (.cells #[.pointer (some ⟨b, 0, none⟩), v] 87 (0, 0)) from (by rw [ha2.grown.block b (by simp; omega) (fun e => HN.out e.symm), Lib.alloc_old w1 _ b hlt]; exact HK.out)); have d0 := Lib.cell_of_heap hb2 0; have d1 := Lib.cell_of_heap hb2 1; have f1 := Lib.frozen_of_heap hb2 1; have HB2 := hid hb2; clear hb2 ha2 ho2))
  go_ret
  exact ⟨rfl, .inr (BldP.put hB HB2.out (by simpa using HO3.out)), ((HL.out.alloc hB1 _).trans (HA2.out.below (HO2.out.alloc _) (by simp; omega))).setCell (p := ⟨b, 1, none⟩) hB _, keep_write HKK.out HS.out HVV.out (fun k hk => Below.heap_alloc w1 _ k hk) (by simp) HA2.out HB2.out⟩

set_option maxRecDepth 100000 in
set_option maxHeartbeats 2000000 in
/-- Write of a literal that lies beside the builder -/
theorem write_lit {B b : Nat} {l : List UInt8} {w : World} (h : Bld B b l w) {g : Nat} {T : TypeId} {cs : Array Value} (m : List UInt8) (hg : Blk w g T cs) (hgb : g ≠ b) (hm : cs.toList = m.map fun x => Value.int .u8 (x.toNat : Int)) {n : Nat} (hn : m.length = n) (hlen : l.length + n ≤ 140737488355328) (hBw : B ≤ w.heap.size) :
    Calls Tryd.prog 53 #[.pointer (some ⟨b, 0, none⟩), .slice (some ⟨g, 0, none⟩) n n] w fun e w' => e = .returned (.tuple #[.int .i64 (n : Int), .nilIface]) ∧ Bld B b (l ++ m) w' ∧ Below B w w' ∧ KeepB w w' b := by
  have CC := hid (check_any h)
  have hml : l.length + n ≤ maxLen := by unfold maxLen; omega
  have hb1 : (l.length + n) * 1 ≤ 140737488355328 := by omega
  have HG := hid hg
  have HM := hid hm
  clear h hg hm
  go_enter Tryd.func53, Tryd.ntmps53
  have hs : ∀ w1 : World, Blk w1 g T cs → Src w1 (some ⟨g, 0, none⟩) n n 1 (m.map fun x => Value.int .u8 (x.toNat : Int)) := by
    intro w1 G1
    refine ⟨by simpa using hn, fun ad ha j u hu => ?_, fun e => (by cases e), one_u8 m⟩
    cases ha
    have := G1.cell j
    rw [add_none, Nat.zero_add, this, ← Array.getElem?_toList, HM.out]
    exact hu
  have HSR := hid hs
  clear hs
  go_wp2_with (first
    | (go_at_call 67; (with_reducible refine CC.out.mono ?_); rintro e w1 ⟨rfl, ⟨hB, v, hbk, hown, hne⟩, hlow, hsz, hkk, hvv⟩; have G1 := hid ((hkk g hgb).trans HG.out : Blk w1 g T cs); have HKK := hid hkk; have HVV := hid (fun g (ha : ApartB w b g) => (hvv _ _ hbk).elim fun p' e => ha p' v e); clear hkk hvv; have c0 := (Lib.cell_of_heap hbk 0); have c1 := (Lib.cell_of_heap hbk 1); have hlt : b < w1.heap.size := (blk_of_cells hbk).lt; have hB1 : B ≤ w1.heap.size := (by rw [hsz]; exact hBw); rw [List.length_map] at hown; have HO2 := hid hown; have HL := hid hlow; have HK := hid hbk; have HN := hid hne; have HS := hid hsz; clear hown hlow hbk hne hsz)
    | (at_builtin; refine wpList_appT rfl _ _ 24 rfl B 5 1 1 el_u8 v l.length _ rfl HO2.out _ n n _ rfl (HSR.out w1 G1.out) hb1 hml hB1 ?_; intro v2 w2 ho2 ha2; obtain ⟨A2, k2, rfl, _⟩ := own_slice ho2; have HA2 := hid ha2; have HO3 := hid ho2; have hb2 := (show w2.heap[b]? = some (.cells #[.pointer (some ⟨b, 0, none⟩), v] 87 (0, 0)) from (by rw [ha2.grown.block b hlt (fun e => HN.out e.symm)]; exact HK.out)); have d0 := Lib.cell_of_heap hb2 0; have d1 := Lib.cell_of_heap hb2 1; have f1 := Lib.frozen_of_heap hb2 1; have HB2 := hid hb2; clear hb2 ha2 ho2))
  go_ret2
  exact ⟨rfl, .inr (BldP.put hB HB2.out (by simpa [hn] using HO3.out)), (HL.out.trans (HA2.out.below HO2.out hB1)).setCell (p := ⟨b, 1, none⟩) hB _, keep_write HKK.out HS.out HVV.out (fun _ _ => rfl) (Nat.le_refl _) HA2.out HB2.out⟩

set_option maxRecDepth 100000 in
set_option maxHeartbeats 2000000 in
/-- String of a builder that holds a byte -/
theorem string_some {B b : Nat} {l : List UInt8} {w : World} (h : Bld B b l w) (h0 : l ≠ []) (hl : l.length ≤ 140737488355328) :
    Calls Tryd.prog 54 #[.pointer (some ⟨b, 0, none⟩)] w fun e w' => e = .returned (.string ⟨l.toArray⟩) ∧ Below B w w' := by
  obtain ⟨p, hB, v, hbk, hown, hne⟩ : ∃ p, BldP B b p l w := by
    rcases h with h | h
    · exact ⟨_, h⟩
    · exact ⟨_, h⟩
  rw [List.length_map] at hown
  obtain ⟨A, cap, rfl, hnc, hcm, hA⟩ := own_slice hown
  have hl0 : 0 < l.length := by cases l with
    | nil => exact absurd rfl h0
    | cons _ _ => simp
  obtain ⟨g, rfl, hbg, hglt⟩ := hA hl0
  obtain ⟨cur, hg⟩ : ∃ cur : Array Value, w.heap[g]? = some (.cells cur 5 (0, 0)) ∧ l.length ≤ cur.size := by
    rcases hown.2 with ⟨hv, _⟩ | ⟨g', cap', cur, hv, _, hg', hn', _, hcs, _⟩
    · cases hv
    · cases hv
      exact ⟨cur, hg', by omega⟩
  have c1 : w.drew.cell? ⟨b, 1, none⟩ = some (.slice (some ⟨g, 0, none⟩) l.length cap) := Lib.cell_of_heap (w := w.drew) hbk 1
  have hSD : (Builtin.unsafeSliceData_ #[24] 105 #[.slice (some ⟨g, 0, none⟩) l.length cap]).run Tryd.prog w.drew = .ok (.pointer (some ⟨g, 0, none⟩)) w.drew :=
    Lib.run_unsafeSliceData_row _ _ _ _ _ _ (by omega)
  have hUS : (Builtin.unsafeString_ #[105, 3] 9 #[.pointer (some ⟨g, 0, none⟩), .int .i64 l.length]).run Tryd.prog w.drew = .ok (.string ⟨l.toArray⟩) (w.drew.freeze ⟨g, 0, none⟩ l.length) := by
    refine Lib.run_unsafeString_row w.drew 105 3 9 5 Tryd.underlying105 (by kernel_rfl) g cur.size (by have hg' : w.drew.heap[g]? = some (.cells cur 5 (0, 0)) := hg.1; simp [World.shape?, hg']) l h0 hg.2 (by omega) ?_
    intro j x hx
    have := hown.cells (g := g) rfl j (.int .u8 x.toNat) (by simp [hx])
    exact this
  clear hown hne hbk hg h
  go_enter Tryd.func54, Tryd.ntmps54
  go_wp2_with fail
  go_region
  all_goals (go_wp2; go_ret; exact ⟨rfl, Lib.below_freeze (Below.drew (Below.refl B w)) (p := ⟨g, 0, none⟩) hbg _⟩)
end Go.Proofs.YtbjjmikiefgnaaaDoor
