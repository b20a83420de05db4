/- A header that came in; the bytes that Write makes of one. -/
import Derived.Test.YtkdfiedemhjjjaaHeadLaw
import Derived.Test.YtkdfiedemhjjjaaRep
namespace Go.Proofs.Ytkdfiedemhjjjaa
open Go.RowKit
set_option linter.unusedVariables false

abbrev headerR : Rep (Int × Bool × Int × Bool × Bool × Bool × Bool × Bool × Bool × Bool × Int × Unit) :=
  pairR intR (pairR boolR (pairR intR (pairR boolR (pairR boolR (pairR boolR (pairR boolR (pairR boolR (pairR boolR (pairR boolR (pairR intR unitR))))))))))
theorem opens_header : Opens Try.prog 39 headerR := opens_struct Try.underlying39 rfl (by kernel_rfl)
  (fields_cons rfl (by kernel_rfl) (opens_int Try.underlying3) (fields_cons rfl (by kernel_rfl) (opens_bool Try.underlying4) (fields_cons rfl (by kernel_rfl) (opens_int Try.underlying3) (fields_cons rfl (by kernel_rfl) (opens_bool Try.underlying4) (fields_cons rfl (by kernel_rfl) (opens_bool Try.underlying4) (fields_cons rfl (by kernel_rfl) (opens_bool Try.underlying4)
    (fields_cons rfl (by kernel_rfl) (opens_bool Try.underlying4) (fields_cons rfl (by kernel_rfl) (opens_bool Try.underlying4) (fields_cons rfl (by kernel_rfl) (opens_bool Try.underlying4) (fields_cons rfl (by kernel_rfl) (opens_bool Try.underlying4) (fields_cons rfl (by kernel_rfl) (opens_int Try.underlying3) (fields_nil _))))))))))))
theorem header_of {w : World} {B : Nat} {x : Int × Bool × Int × Bool × Bool × Bool × Bool × Bool × Bool × Bool × Int × Unit} {cs : Array Value} (h : headerR.rel w B x cs.toList) : ∃ h : Hd, cs = hdCells h := by
  obtain ⟨_, _, e0, ⟨rfl, h1⟩, _, _, rfl, rfl, _, _, rfl, ⟨rfl, h2⟩, _, _, rfl, rfl, _, _, rfl, rfl, _, _, rfl, rfl, _, _, rfl, rfl, _, _, rfl, rfl, _, _, rfl, rfl, _, _, rfl, rfl, _, _, rfl, ⟨rfl, h3⟩, rfl⟩ := h
  exact ⟨⟨x.1, x.2.1, x.2.2.1, x.2.2.2.1, x.2.2.2.2.1, x.2.2.2.2.2.1, x.2.2.2.2.2.2.1, x.2.2.2.2.2.2.2.1, x.2.2.2.2.2.2.2.2.1, x.2.2.2.2.2.2.2.2.2.1, x.2.2.2.2.2.2.2.2.2.2.1⟩, by cases cs; simpa [hdCells] using e0⟩

/-- what Write's bytes are, as bytes -/
theorem byte_of (x : Int) (h0 : 0 ≤ x) (h1 : x ≤ 255) : ∃ b : UInt8, x = (b.toNat : Int) := ⟨UInt8.ofNat x.toNat, by simp only [UInt8.toNat_ofNat']; omega⟩

/-- Write, of a header that may be: four bytes, of which Read makes it again -/
theorem write_read (h : Hd) (k : HOk h) : ∃ l : List UInt8, l.length = 4 ∧ (∀ w, Calls Try.prog 33 #[.agg (hdCells h)] w fun e w' => ∃ g, e = .returned (.tuple #[.slice (some ⟨g, 0, none⟩) 4 4, .nilIface]) ∧ w.heap.size ≤ g ∧
      Rd u8R w' w'.heap.size (some ⟨g, 0, none⟩) 4 4 l ∧ Below w.heap.size w w') ∧
    (l.map fun b => (b.toNat : Int)) = [h.id / 256, h.id % 256, word h / 256 % 256, word h % 256] ∧
    (∀ (w : World) (g : Nat), Rd u8R w w.heap.size (some ⟨g, 0, none⟩) 4 4 l → Calls Try.prog 38 #[.slice (some ⟨g, 0, none⟩) 4 4] w fun e w' => e = .returned (.tuple #[.agg (hdCells h), .nilIface]) ∧ Below w.heap.size w w') := by
  obtain ⟨hb, w0, w1⟩ := back_head h k
  have i0 := k.i0
  have i1 := k.i1
  obtain ⟨b0, e0⟩ := byte_of (h.id / 256) (by omega) (by omega)
  obtain ⟨b1, e1⟩ := byte_of (h.id % 256) (by omega) (by omega)
  obtain ⟨b2, e2⟩ := byte_of (word h / 256 % 256) (by omega) (by omega)
  obtain ⟨b3, e3⟩ := byte_of (word h % 256) (by omega) (by omega)
  refine ⟨[b0, b1, b2, b3], rfl, fun w => ?_, by simp [e0, e1, e2, e3], fun w g hr => ?_⟩
  · refine (hwrite_ok h k w).mono ?_
    rintro e w' ⟨g, he, hg, hblk, hlow⟩
    exact ⟨g, he, hg, rd_of_blk [b0, b1, b2, b3] hblk (by simp [e0, e1, e2, e3]) (by simp), hlow⟩
  · have cell : ∀ i (hi : i < 4), w.cell? ⟨g, i, none⟩ = some (.int .u8 (([b0, b1, b2, b3][i]'(by simpa using hi)).toNat : Int)) := by
      intro i hi
      obtain ⟨b, o, e, _, hc⟩ := hr.u8 i hi
      injection e with e
      injection e with e1 e2
      subst e1 e2
      simpa using hc
    have r := hread_ok g 0 4 4 (h.id / 256) (h.id % 256) (word h / 256 % 256) (word h % 256) (Nat.le_refl _) (Nat.le_refl _) (by omega) w
      (by rw [e0]; simpa using cell 0 (by omega)) (by rw [e1]; simpa using cell 1 (by omega)) (by rw [e2]; simpa using cell 2 (by omega)) (by rw [e3]; simpa using cell 3 (by omega))
      (by omega) (by omega) (by omega) (by omega) (by omega) (by omega) (by omega) (by omega)
    rwa [hb] at r

end Go.Proofs.Ytkdfiedemhjjjaa
