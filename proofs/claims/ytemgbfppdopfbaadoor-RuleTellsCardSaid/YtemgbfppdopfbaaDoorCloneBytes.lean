/- slices.Clone of bytes: a row of the call's own with the same bytes. -/
import Derived.Test.YtemgbfppdopfbaaDoorOwn
namespace Go.Proofs.YtemgbfppdopfbaaDoor
open Go.RowKit
set_option linter.unusedVariables false
set_option linter.unusedSimpArgs false

theorem u8_info : (Tryd.prog.info? 5).map (fun i => (i.zero, i.size, i.bytes)) = some (some (.int .u8 0), 1, 1) := by kernel_rfl
/-- a list of bytes as cells -/
@[reducible] def bytesV (l : List UInt8) : List Value := l.map fun b => Value.int .u8 (b.toNat : Int)

set_option maxHeartbeats 1000000 in
theorem clone_bytes (w : World) (A : Option Addr) (n c : Nat) (l : List UInt8) (B : Nat) (h : Rd u8R w B A n c l) :
    Calls Tryd.prog 62 #[.slice A n c] w fun e w' => ∃ v, e = .returned v ∧ w'.ownsRow w.heap.size 5 1 v n (bytesV l) ∧ Below w.heap.size w w' := by
  obtain ⟨i0, hii, hz0, hz1, hz2⟩ := info_parts u8_info
  obtain ⟨xs, hxs, hcell⟩ := h.cells
  rw [rels_u8] at hxs
  subst hxs
  have hm := h.lim
  have hlen := h.len
  have hnil := h.nil
  have hcap := h.cap
  simp only [u8R, Nat.mul_one] at hm
  have HL := hid hlen
  clear h hlen
  have he := fun w a n c => Lib.run_eql_slice_nil (P := Tryd.prog) w 51 5 a n c 0 0 Tryd.underlying51
  rcases A with _ | ad
  · have hn : n = 0 := by have := hnil rfl; omega
    subst hn
    have hl : l = [] := List.eq_nil_of_length_eq_zero HL.out
    subst hl
    clear hnil hcell
    go_enter Tryd.func62, Tryd.ntmps62
    go_wp2
    go_ret
    exact ⟨_, rfl, World.ownsRow_nil _ _ _ _, Below.refl _ _⟩
  · clear hnil
    have hcell' := hid (hcell ad rfl)
    clear hcell
    have hcell := hcell'
    clear hcell'
    go_enter Tryd.func62, Tryd.ntmps62
    have hown := hid (World.ownsRow_lit (base := w.heap.size) (e := 5) (size := 1) w #[] 0 (Nat.le_refl _) (by simp [maxLen]) rfl)
    have c3 : 0 + n ≤ maxLen := by unfold maxLen; omega
    have c4 : (0 + n) * 1 ≤ 140737488355328 := by omega
    have hlt : ad.block < w.heap.size ∨ n = 0 := by
      rcases Nat.eq_zero_or_pos n with h0 | h0
      · exact .inr h0
      · have hl0 : 0 < l.length := by rw [HL.out]; exact h0
        have := hcell.out 0 _ (List.getElem?_eq_getElem (by simpa using hl0))
        exact .inl (by simpa [Addr.add] using World.block_lt_of_cell? w _ this)
    have hnews : ∀ j u, (bytesV l)[j]? = some u → (w.alloc (.cells #[] 5)).cell? (ad.add j) = some u := by
      intro j u hu
      have h1 := hcell.out j u hu
      have h2 := World.block_lt_of_cell? w _ h1
      rw [World.cell?_alloc_lt _ _ _ h2]
      exact h1
    have HN := hid hnews
    clear hnews hlt
    go_wp2_with (at_builtin; refine wpList_append_own_at _ rfl _ _ 51 rfl w.heap.size 5 i0 (.int .u8 0) 1 1 Tryd.underlying51 hii hz0 hz1 hz2 rfl (by decide) (.slice (some ⟨w.heap.size, 0, none⟩) 0 0) 0 [] rfl hown.out ad n c (bytesV l) rfl (by simpa using HL.out) HN.out (one_u8 l) c3 c4 (by simp) ?_; intro v' w1 ho hg _ _)
    go_ret
    refine ⟨_, rfl, by simpa using ho, ?_⟩
    exact ((Below.refl _ w).alloc (Nat.le_refl _) _).grown hg (by simp) (by simp [Value.ownBlock])
theorem bytesV_set (l : List UInt8) (k : Nat) (b : UInt8) : bytesV (l.set k b) = (bytesV l).set k (.int .u8 (b.toNat : Int)) := by simp [bytesV, List.map_set]
end Go.Proofs.YtemgbfppdopfbaaDoor
