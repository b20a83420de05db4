/- Messages as the laws meet them: how one comes in, msg.Write and msg.Read with what they hand back written out. -/
import Derived.Test.YtkdfiedemhjjjaaMsgBP
import Derived.Test.YtkdfiedemhjjjaaMsgS
namespace Go.Proofs.Ytkdfiedemhjjjaa
open Go.RowKit
set_option linter.unusedVariables false

theorem opens_question : Opens Try.prog 49 qR := opens_struct Try.underlying49 rfl (by kernel_rfl) (fields_cons rfl (by kernel_rfl) (opens_slice Try.underlying24 (opens_str Try.underlying9) (by kernel_rfl) (by decide) (of_decide_eq_true (by kernel_rfl))) (fields_cons rfl (by kernel_rfl) (opens_int Try.underlying3) (fields_cons rfl (by kernel_rfl) (opens_int Try.underlying3) (fields_nil _))))
abbrev MsgX := (Int × Bool × Int × Bool × Bool × Bool × Bool × Bool × Bool × Bool × Int × Unit) × List QT × List RecT × List RecT × List RecT × Unit
abbrev messageR : Rep MsgX := pairR headerR (pairR (sliceR qR) (pairR (sliceR recR) (pairR (sliceR recR) (pairR (sliceR recR) unitR))))
theorem opens_records : Opens Try.prog 41 (sliceR recR) := opens_slice Try.underlying41 opens_record (by kernel_rfl) (by decide) (of_decide_eq_true (by kernel_rfl))
theorem opens_message : Opens Try.prog 43 messageR := opens_struct Try.underlying43 rfl (by kernel_rfl)
  (fields_cons rfl (by kernel_rfl) opens_header (fields_cons rfl (by kernel_rfl) (opens_slice Try.underlying40 opens_question (by kernel_rfl) (by decide) (of_decide_eq_true (by kernel_rfl))) (fields_cons rfl (by kernel_rfl) opens_records (fields_cons rfl (by kernel_rfl) opens_records (fields_cons rfl (by kernel_rfl) opens_records (fields_nil _))))))
theorem message_of {w : World} {B : Nat} {x : MsgX} {cs : Array Value} (h : messageR.rel w B x cs.toList) :
    ∃ (g : Hd) (Aq Ax Ay Az : Option Addr) (nq cq nx cx ny cy nz cz : Nat) (u : Int × Bool × Int × Bool × Bool × Bool × Bool × Bool × Bool × Bool × Int × Unit) (qs : List QT) (xs ys zs : List RecT), x = (u, qs, xs, ys, zs, ()) ∧ cs = msgC g (.slice Aq nq cq) (.slice Ax nx cx) (.slice Ay ny cy) (.slice Az nz cz) ∧
      Rd qR w B Aq nq cq qs ∧ Rd recR w B Ax nx cx xs ∧ Rd recR w B Ay ny cy ys ∧ Rd recR w B Az nz cz zs := by
  obtain ⟨u, qs, xs, ys, zs, _⟩ := x
  obtain ⟨vs, _, e0, h0, _, _, rfl, ⟨Aq, nq, cq, rfl, h1⟩, _, _, rfl, ⟨Ax, nx, cx, rfl, h2⟩, _, _, rfl, ⟨Ay, ny, cy, rfl, h3⟩, _, _, rfl, ⟨Az, nz, cz, rfl, h4⟩, rfl⟩ := h
  obtain ⟨g, hg⟩ := header_of (cs := vs.toArray) (by simpa using h0)
  obtain rfl : vs = (hdCells g).toList := by rw [← hg]
  exact ⟨g, Aq, Ax, Ay, Az, nq, cq, nx, cx, ny, cy, nz, cz, u, qs, xs, ys, zs, rfl, by cases cs; simpa [hdCells] using e0, h1, h2, h3, h4⟩

section
variable {w : World} {h : Hd} {Aq Ax Ay Az : Option Addr} {nq cq nx cx ny cy nz cz : Nat} {qs : List QT} {xs ys zs : List RecT}
theorem msgwrite_yes (hQ : Rd qR w w.heap.size Aq nq cq qs) (hX : Rd recR w w.heap.size Ax nx cx xs) (hY : Rd recR w w.heap.size Ay ny cy ys) (hZ : Rd recR w w.heap.size Az nz cz zs) {b : List UInt8} {k : Nat} (hT : msgT h qs xs ys zs = (0, b)) (hk : b.length = k) :
    Calls Try.prog 12 #[.agg (msgC h (.slice Aq nq cq) (.slice Ax nx cx) (.slice Ay ny cy) (.slice Az nz cz))] w fun e w' => ∃ A c, e = .returned (.tuple #[.slice A k c, .nilIface]) ∧ Rd u8R w' w'.heap.size A k c b ∧ Below w.heap.size w w' := by
  refine (msgwrite_any hQ hX hY hZ).mono ?_
  rintro e w' ⟨hb, hr⟩
  rw [hT, if_pos rfl] at hr
  subst hk
  obtain ⟨A, c, he, hr⟩ := hr
  exact ⟨A, c, he, hr, hb⟩
theorem msgwrite_no (hQ : Rd qR w w.heap.size Aq nq cq qs) (hX : Rd recR w w.heap.size Ax nx cx xs) (hY : Rd recR w w.heap.size Ay ny cy ys) (hZ : Rd recR w w.heap.size Az nz cz zs) {k : Int} (hT : (msgT h qs xs ys zs).1 = k) (hk : k ≠ 0) :
    Calls Try.prog 12 #[.agg (msgC h (.slice Aq nq cq) (.slice Ax nx cx) (.slice Ay ny cy) (.slice Az nz cz))] w fun e w' => e = .returned (.tuple #[.slice none 0 0, .iface 65 (.int .i64 k)]) ∧ Below w.heap.size w w' := by
  refine (msgwrite_any hQ hX hY hZ).mono ?_
  rintro e w' ⟨hb, hr⟩
  rw [hT, if_neg hk] at hr
  exact ⟨hr, hb⟩
theorem msgwrite_fact (w : World) : Calls Try.prog 12 #[.agg #[.int .i64 0, .bool false, .int .i64 0, .bool false, .bool false, .bool false, .bool false, .bool false, .bool false, .bool false, .int .i64 0, .slice none 0 0, .slice none 0 0, .slice none 0 0, .slice none 0 0]] w fun e w' => ∃ A c, e = .returned (.tuple #[.slice A 12 c, .nilIface]) ∧ Rd u8R w' w'.heap.size A 12 c (List.replicate 12 0) ∧ Below w.heap.size w w' :=
  msgwrite_yes (h := hd0) (rd_nil _ _) (rd_nil _ _) (rd_nil _ _) (rd_nil _ _) (by decide +kernel) rfl
end
theorem msgread_any {w : World} {A : Option Addr} {n c : Nat} {m : List UInt8} (hM : Rd u8R w w.heap.size A n c m) : Calls Try.prog 18 #[.slice A n c] w (MrO w m) := by
  by_cases hn : n < 12
  · exact msgread_short hM hn
  · exact msgread_long hM hn
theorem msgread_yes {w : World} {A : Option Addr} {n c : Nat} {m : List UInt8} (hM : Rd u8R w w.heap.size A n c m) {h : Hd} {qs : List QT} {xs ys zs : List RecT} (hr : rdM m = (0, qs, xs, ys, zs)) (hh : hdOf m = h) {nq nx ny nz : Nat} (eq : qs.length = nq) (ex : xs.length = nx) (ey : ys.length = ny) (ez : zs.length = nz) :
    Calls Try.prog 18 #[.slice A n c] w fun e w' => ∃ Aq cq Ax cx Ay cy Az cz, e = .returned (.tuple #[.agg (msgC h (.slice Aq nq cq) (.slice Ax nx cx) (.slice Ay ny cy) (.slice Az nz cz)), .nilIface]) ∧ (Rd qR w' w'.heap.size Aq nq cq qs ∧ Rd recR w' w'.heap.size Ax nx cx xs ∧ Rd recR w' w'.heap.size Ay ny cy ys ∧ Rd recR w' w'.heap.size Az nz cz zs) ∧ Below w.heap.size w w' := by
  refine (msgread_any hM).mono ?_
  rintro e w' ⟨Aq, Ax, Ay, Az, nq', cq, nx', cx, ny', cy, nz', cz, he, h1, h2, h3, h4, hb⟩
  rw [hr] at he h1 h2 h3 h4
  rw [if_pos rfl, errV_zero, hh] at he
  obtain rfl : nq' = nq := h1.len.symm.trans eq
  obtain rfl : nx' = nx := h2.len.symm.trans ex
  obtain rfl : ny' = ny := h3.len.symm.trans ey
  obtain rfl : nz' = nz := h4.len.symm.trans ez
  exact ⟨Aq, cq, Ax, cx, Ay, cy, Az, cz, he, ⟨h1, h2, h3, h4⟩, hb⟩
theorem msgread_no {w : World} {A : Option Addr} {n c : Nat} {m : List UInt8} (hM : Rd u8R w w.heap.size A n c m) {k : Int} (hr : (rdM m).1 = k) (hk : k ≠ 0) :
    Calls Try.prog 18 #[.slice A n c] w fun e w' => ∃ Aq cq Ax cx Ay cy Az cz, e = .returned (.tuple #[.agg (msgC hd0 (.slice Aq 0 cq) (.slice Ax 0 cx) (.slice Ay 0 cy) (.slice Az 0 cz)), .iface 65 (.int .i64 k)]) ∧ (Rd qR w' w'.heap.size Aq 0 cq [] ∧ Rd recR w' w'.heap.size Ax 0 cx [] ∧ Rd recR w' w'.heap.size Ay 0 cy [] ∧ Rd recR w' w'.heap.size Az 0 cz []) ∧ Below w.heap.size w w' := by
  have hz := rdM_bad hr hk
  refine (msgread_any hM).mono ?_
  rintro e w' ⟨Aq, Ax, Ay, Az, nq', cq, nx', cx, ny', cy, nz', cz, he, h1, h2, h3, h4, hb⟩
  rw [hz] at he h1 h2 h3 h4
  rw [if_neg hk, errV_ne hk] at he
  obtain rfl : nq' = 0 := h1.len.symm
  obtain rfl : nx' = 0 := h2.len.symm
  obtain rfl : ny' = 0 := h3.len.symm
  obtain rfl : nz' = 0 := h4.len.symm
  exact ⟨Aq, cq, Ax, cx, Ay, cy, Az, cz, he, ⟨h1, h2, h3, h4⟩, hb⟩
end Go.Proofs.Ytkdfiedemhjjjaa
