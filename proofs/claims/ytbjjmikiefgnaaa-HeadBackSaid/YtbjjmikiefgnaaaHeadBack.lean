/- HeadBack is true of every input: each header that may be is its bytes, and any four bytes are those of theirs. No condition. -/
import Derived.Test.YtbjjmikiefgnaaaHeadLaw
import Derived.Test.YtbjjmikiefgnaaaSameBytes
import Derived.OpenShut
import Derived.JoinedCond
namespace Go.Proofs.Ytbjjmikiefgnaaa
open Go.ChangeShapes Go.WideShapes Go.ChangeAt Go.RowKit
set_option linter.unusedVariables false

theorem Rd.take {α : Type} {R : Rep α} {w : World} {B n c k : Nat} {A : Option Addr} {l : List α} (h : Rd R w B A n c l) (hk : k ≤ n) : Rd R w B A k c (l.take k) := by
  refine ⟨by rw [List.length_take, h.len]; omega, Nat.le_trans hk h.cap, h.max, h.nil, fun i hi => ?_⟩
  have hi' : i < l.length := by rw [List.length_take] at hi; omega
  obtain ⟨b, off, vs, e, hb, hr, hc⟩ := h.at_ i hi'
  exact ⟨b, off, vs, e, hb, by rw [List.getElem_take]; exact hr, hc⟩
/-- a block of bytes as a slice -/
theorem rd_of_blk {w : World} {g : Nat} {t : TypeId} {cs : Array Value} (l : List UInt8) (h : Blk w g t cs) (hl : cs.toList = l.map fun b => Value.int .u8 (b.toNat : Int)) (hm : l.length ≤ maxLen) : Rd u8R w w.heap.size (some ⟨g, 0, none⟩) l.length l.length l := by
  refine ⟨rfl, Nat.le_refl _, hm, fun e => (by cases e), fun i hi => ?_⟩
  refine ⟨g, 0, _, rfl, h.lt, rfl, fun j u hu => ?_⟩
  have hj : j = 0 := by
    cases j with
    | zero => rfl
    | succ j => simp at hu
  subst hj
  simp at hu
  subst hu
  have := h.cell i
  rw [← Array.getElem?_toList, hl] at this
  simpa [u8R, hi] using this

/-- a literal of bytes, just laid -/
theorem rd_lit {w : World} {g : Nat} (t : TypeId) (cs : Array Value) (l : List UInt8) (n : Nat) (hg : g = w.heap.size) (hl : cs.toList = l.map fun b => Value.int .u8 (b.toNat : Int)) (hn : l.length = n) (hm : n ≤ maxLen) : Rd u8R (w.alloc (.cells cs t)) (w.alloc (.cells cs t)).heap.size (some ⟨g, 0, none⟩) n n l := by
  subst hn
  exact rd_of_blk l (Blk.new' t cs hg) hl hm
theorem Rd.alloc {α : Type} {R : Rep α} {w : World} {B n c : Nat} {A : Option Addr} {l : List α} (h : Rd R w B A n c l) (hB : B ≤ w.heap.size) (o : Obj) : Rd R (w.alloc o) B A n c l :=
  h.keep (Nat.le_refl _) fun p hp => World.cell?_alloc_lt w o p (by omega)

abbrev headerR : Rep (Int × Bool × Int × Bool × Bool × Bool × Bool × Bool × Bool × Bool × Int × Unit) :=
  pairR intR (pairR boolR (pairR intR (pairR boolR (pairR boolR (pairR boolR (pairR boolR (pairR boolR (pairR boolR (pairR boolR (pairR intR unitR))))))))))
theorem opens_header : Opens Try.prog 26 headerR := opens_struct Try.underlying26 rfl (by kernel_rfl)
  (fields_cons rfl (by kernel_rfl) (opens_int Try.underlying3) (fields_cons rfl (by kernel_rfl) (opens_bool Try.underlying4) (fields_cons rfl (by kernel_rfl) (opens_int Try.underlying3) (fields_cons rfl (by kernel_rfl) (opens_bool Try.underlying4) (fields_cons rfl (by kernel_rfl) (opens_bool Try.underlying4) (fields_cons rfl (by kernel_rfl) (opens_bool Try.underlying4)
    (fields_cons rfl (by kernel_rfl) (opens_bool Try.underlying4) (fields_cons rfl (by kernel_rfl) (opens_bool Try.underlying4) (fields_cons rfl (by kernel_rfl) (opens_bool Try.underlying4) (fields_cons rfl (by kernel_rfl) (opens_bool Try.underlying4) (fields_cons rfl (by kernel_rfl) (opens_int Try.underlying3) (fields_nil _))))))))))))
theorem header_of {w : World} {B : Nat} {x : Int × Bool × Int × Bool × Bool × Bool × Bool × Bool × Bool × Bool × Int × Unit} {cs : Array Value} (h : headerR.rel w B x cs.toList) : ∃ h : Hd, cs = hdCells h := by
  obtain ⟨_, _, e0, ⟨rfl, h1⟩, _, _, rfl, rfl, _, _, rfl, ⟨rfl, h2⟩, _, _, rfl, rfl, _, _, rfl, rfl, _, _, rfl, rfl, _, _, rfl, rfl, _, _, rfl, rfl, _, _, rfl, rfl, _, _, rfl, rfl, _, _, rfl, ⟨rfl, h3⟩, rfl⟩ := h
  exact ⟨⟨x.1, x.2.1, x.2.2.1, x.2.2.2.1, x.2.2.2.2.1, x.2.2.2.2.2.1, x.2.2.2.2.2.2.1, x.2.2.2.2.2.2.2.1, x.2.2.2.2.2.2.2.2.1, x.2.2.2.2.2.2.2.2.2.1, x.2.2.2.2.2.2.2.2.2.2.1⟩, by cases cs; simpa [hdCells] using e0⟩

/-- what Write's bytes are, as bytes -/
theorem byte_of (x : Int) (h0 : 0 ≤ x) (h1 : x ≤ 255) : ∃ b : UInt8, x = (b.toNat : Int) := ⟨UInt8.ofNat x.toNat, by simp only [UInt8.toNat_ofNat']; omega⟩

/-- Write, of a header that may be: four bytes, of which Read makes it again -/
theorem write_read (h : Hd) (k : HOk h) : ∃ l : List UInt8, l.length = 4 ∧ (∀ w, Calls Try.prog 11 #[.agg (hdCells h)] w fun e w' => ∃ g, e = .returned (.tuple #[.slice (some ⟨g, 0, none⟩) 4 4, .nilIface]) ∧ w.heap.size ≤ g ∧
      Rd u8R w' w'.heap.size (some ⟨g, 0, none⟩) 4 4 l ∧ Below w.heap.size w w') ∧
    (l.map fun b => (b.toNat : Int)) = [h.id / 256, h.id % 256, word h / 256 % 256, word h % 256] ∧
    (∀ (w : World) (g : Nat), Rd u8R w w.heap.size (some ⟨g, 0, none⟩) 4 4 l → Calls Try.prog 13 #[.slice (some ⟨g, 0, none⟩) 4 4] w fun e w' => e = .returned (.tuple #[.agg (hdCells h), .nilIface]) ∧ Below w.heap.size w w') := by
  obtain ⟨hb, w0, w1⟩ := back_head h k
  have i0 := k.i0
  have i1 := k.i1
  obtain ⟨b0, e0⟩ := byte_of (h.id / 256) (by omega) (by omega)
  obtain ⟨b1, e1⟩ := byte_of (h.id % 256) (by omega) (by omega)
  obtain ⟨b2, e2⟩ := byte_of (word h / 256 % 256) (by omega) (by omega)
  obtain ⟨b3, e3⟩ := byte_of (word h % 256) (by omega) (by omega)
  refine ⟨[b0, b1, b2, b3], rfl, fun w => ?_, by simp [e0, e1, e2, e3], fun w g hr => ?_⟩
  · refine (write_ok h k w).mono ?_
    rintro e w' ⟨g, he, hg, hblk, hlow⟩
    exact ⟨g, he, hg, rd_of_blk [b0, b1, b2, b3] hblk (by simp [e0, e1, e2, e3]) (by simp [maxLen]), hlow⟩
  · have cell : ∀ i (hi : i < 4), w.cell? ⟨g, i, none⟩ = some (.int .u8 (([b0, b1, b2, b3][i]'(by simpa using hi)).toNat : Int)) := by
      intro i hi
      obtain ⟨b, o, e, _, hc⟩ := hr.u8 i hi
      injection e with e
      injection e with e1 e2
      subst e1 e2
      simpa using hc
    have r := read_ok g 0 4 4 (h.id / 256) (h.id % 256) (word h / 256 % 256) (word h % 256) (Nat.le_refl _) (Nat.le_refl _) (by omega) w
      (by rw [e0]; simpa using cell 0 (by omega)) (by rw [e1]; simpa using cell 1 (by omega)) (by rw [e2]; simpa using cell 2 (by omega)) (by rw [e3]; simpa using cell 3 (by omega))
      (by omega) (by omega) (by omega) (by omega) (by omega) (by omega) (by omega) (by omega)
    rwa [hb] at r

theorem four_of {α : Type} (l : List α) (h : 4 ≤ l.length) : ∃ a b c d r, l = a :: b :: c :: d :: r := by
  match l, h with
  | a :: b :: c :: d :: r, _ => exact ⟨a, b, c, d, r, rfl⟩

/-- any four bytes: their header, of which they are the bytes -/
theorem read_write {w : World} {B : Nat} {A : Option Addr} {n c : Nat} {l : List UInt8} (hr : Rd u8R w B A n c l) (hn : 4 ≤ n) : ∃ H : Hd, HOk H ∧ (∃ b o, A = some ⟨b, o, none⟩) ∧
    (∀ w' B', Rd u8R w' B' A n c l → Calls Try.prog 13 #[.slice A n c] w' fun e w2 => e = .returned (.tuple #[.agg (hdCells H), .nilIface]) ∧ Below w'.heap.size w' w2) ∧
    (∀ w, Calls Try.prog 11 #[.agg (hdCells H)] w fun e w' => ∃ g, e = .returned (.tuple #[.slice (some ⟨g, 0, none⟩) 4 4, .nilIface]) ∧ w.heap.size ≤ g ∧
      Rd u8R w' w'.heap.size (some ⟨g, 0, none⟩) 4 4 (l.take 4) ∧ Below w.heap.size w w') := by
  obtain ⟨a0, a1, a2, a3, rest, rfl⟩ := four_of l (by rw [hr.len]; exact hn)
  · have q := fun (b : UInt8) => b.toNat_lt
    obtain ⟨H, hH, k, k0, k1, k2, k3⟩ := back_bytes a0.toNat a1.toNat a2.toNat a3.toNat (q a0) (q a1) (q a2) (q a3)
    obtain ⟨l', hl', hw, hm, _⟩ := write_read H k
    have e : l' = [a0, a1, a2, a3] := by
      match l', hl' with
      | [x, y, z, u], _ =>
        simp only [List.map_cons, List.map_nil, List.cons.injEq, and_true] at hm
        obtain ⟨m0, m1, m2, m3⟩ := hm
        simp only [List.cons.injEq, and_true]
        refine ⟨UInt8.toNat_inj.1 ?_, UInt8.toNat_inj.1 ?_, UInt8.toNat_inj.1 ?_, UInt8.toNat_inj.1 ?_⟩ <;> omega
    subst e
    obtain ⟨b, o, rfl, _, _⟩ := hr.u8 0 (by omega)
    refine ⟨H, k, ⟨b, o, rfl⟩, fun w' B' h => ?_, hw⟩
    have cell : ∀ i (hi : i < n), w'.cell? ⟨b, o + i, none⟩ = some (.int .u8 (((a0 :: a1 :: a2 :: a3 :: rest)[i]'(by rw [h.len]; exact hi)).toNat : Int)) := by
      intro i hi
      obtain ⟨b', o', e, _, hc⟩ := h.u8 i hi
      injection e with e
      injection e with e1 e2
      subst e1 e2
      exact hc
    have hm := h.max
    unfold maxLen at hm
    have := q a0
    have := q a1
    have := q a2
    have := q a3
    have r := read_ok b o n c a0.toNat a1.toNat a2.toNat a3.toNat hn h.cap (by omega) w' (by simpa using cell 0 (by omega)) (by simpa using cell 1 (by omega)) (by simpa using cell 2 (by omega)) (by simpa using cell 3 (by omega))
      (by omega) (by omega) (by omega) (by omega) (by omega) (by omega) (by omega) (by omega)
    rwa [hH] at r

namespace headBack
set_option maxRecDepth 100000 in
set_option maxHeartbeats 8000000 in
theorem walk (w : World) (x : Int × Bool × Int × Bool × Bool × Bool × Bool × Bool × Bool × Bool × Int × Unit) (cs : Array Value) (hx : headerR.rel w w.heap.size x cs.toList)
    (A n c l) (hb : Rd u8R w w.heap.size A n c l) :
    Calls Try.prog 4 #[.agg cs, .slice A n c] w fun e w' => e = .returned (.bool true) ∧ Below w.heap.size w w' := by
  obtain ⟨h, rfl⟩ := header_of hx
  clear hx
  obtain ⟨lz, hlz, W0, hm0, _⟩ := write_read ⟨258, false, 0, false, false, true, false, false, false, false, 0⟩ ⟨by decide, by decide, by decide, by decide, by decide, by decide⟩
  have hl0 : lz = [1, 2, 1, 0] := by
    have : word ⟨258, false, 0, false, false, true, false, false, false, false, 0⟩ = 256 := by decide +kernel
    rw [this] at hm0
    match lz, hlz with
    | [a, b, c, d], _ =>
      simp at hm0
      obtain ⟨ha, hb', hc, hd⟩ := hm0
      simp only [List.cons.injEq, and_true]
      refine ⟨UInt8.toNat_inj.1 ?_, UInt8.toNat_inj.1 ?_, UInt8.toNat_inj.1 ?_, UInt8.toNat_inj.1 ?_⟩ <;> simp <;> omega
  have hl0 := hid hl0
  have W0 := hid W0
  have Hb := hid hb
  have bm := hb.max
  have bk := hb.cap
  unfold maxLen at bm
  clear hb hm0 hlz
  by_cases kh : HOk h
  · obtain ⟨l1, hl1, WH, _, RH⟩ := write_read h kh
    have WH := hid WH
    have RH := hid RH
    clear hl1 kh
    by_cases hn : n < 4
    · go_enter Try.func4, Try.ntmps4
      go_wp2_with fail
      refine (W0.out _).mono ?_
      rintro e w1 ⟨g0, rfl, hg0, hr0, hlow⟩
      have R0 := hid hr0
      clear hr0
      obtain ⟨os, d, rfl⟩ := ext_of_below hlow
      clear hlow
      go_wp2_with fail
      have r1 := (R0.out).alloc (Nat.le_refl _) (.cells #[.int .u8 1, .int .u8 2, .int .u8 1, .int .u8 0] 5)
      have r2 := rd_lit (w := ext (w.alloc (.cells (hdCells h) 26)) os d) (g := w.heap.size + 1 + os.size) 5 #[.int .u8 1, .int .u8 2, .int .u8 1, .int .u8 0] [1, 2, 1, 0] 4 (by simp [size_ext]) (by simp) rfl (by simp [maxLen])
      have r1 := hid r1
      have r2 := hid r2
      refine (bytes_any _ _ _ _ _ _ r1.out _ _ _ _ _ r2.out).mono ?_
      rw [hl0.out]
      rintro e w1 ⟨rfl, hlow⟩
      obtain ⟨os1, d1, rfl⟩ := ext_of_below hlow
      clear hlow
      go_wp2_with fail
      refine (WH.out _).mono ?_
      rintro e w1 ⟨g1, rfl, hg1, hr1, hlow⟩
      have R1 := hid hr1
      clear hr1
      obtain ⟨os2, d2, rfl⟩ := ext_of_below hlow
      clear hlow
      go_wp2_with fail
      refine (RH.out _ _ R1.out).mono ?_
      rintro e w1 ⟨rfl, hlow⟩
      obtain ⟨os3, d3, rfl⟩ := ext_of_below hlow
      clear hlow
      go_wp2
      go_ret
      refine ⟨rfl, ?_⟩
      (repeat' (first | (with_reducible exact Below.refl _ _) | (with_reducible assumption) | (with_reducible refine Below.ext ?_ ?_ _ _) | (with_reducible refine Below.alloc ?_ ?_ _) | (with_reducible refine Below.setCell ?_ ?_ _) | (with_reducible refine Below.drew ?_) | (with_reducible refine below_draws ?_ _) | go_size | (simp [size_ext]; done) | (simp [size_ext]; omega)))
    · have hn4 : 4 ≤ n := by omega
      obtain ⟨H, kH, ⟨bb, bo, rfl⟩, RB, WB2⟩ := read_write Hb.out hn4
      have RB := hid RB
      have WB2 := hid WB2
      clear kH
      go_enter Try.func4, Try.ntmps4
      go_wp2_with fail
      refine (W0.out _).mono ?_
      rintro e w1 ⟨g0, rfl, hg0, hr0, hlow⟩
      have R0 := hid hr0
      clear hr0
      obtain ⟨os, d, rfl⟩ := ext_of_below hlow
      clear hlow
      go_wp2_with fail
      have r1 := (R0.out).alloc (Nat.le_refl _) (.cells #[.int .u8 1, .int .u8 2, .int .u8 1, .int .u8 0] 5)
      have r2 := rd_lit (w := ext (w.alloc (.cells (hdCells h) 26)) os d) (g := w.heap.size + 1 + os.size) 5 #[.int .u8 1, .int .u8 2, .int .u8 1, .int .u8 0] [1, 2, 1, 0] 4 (by simp [size_ext]) (by simp) rfl (by simp [maxLen])
      have r1 := hid r1
      have r2 := hid r2
      refine (bytes_any _ _ _ _ _ _ r1.out _ _ _ _ _ r2.out).mono ?_
      rw [hl0.out]
      rintro e w1 ⟨rfl, hlow⟩
      obtain ⟨os1, d1, rfl⟩ := ext_of_below hlow
      clear hlow
      go_wp2_with fail
      refine (WH.out _).mono ?_
      rintro e w1 ⟨g1, rfl, hg1, hr1, hlow⟩
      have R1 := hid hr1
      clear hr1
      obtain ⟨os2, d2, rfl⟩ := ext_of_below hlow
      clear hlow
      go_wp2_with fail
      refine (RH.out _ _ R1.out).mono ?_
      rintro e w1 ⟨rfl, hlow⟩
      obtain ⟨os3, d3, rfl⟩ := ext_of_below hlow
      clear hlow
      go_wp2_with fail
      refine (RB.out _ w.heap.size (Hb.out.below (by (repeat' (first | (with_reducible exact Below.refl _ _) | (with_reducible assumption) | (with_reducible refine Below.ext ?_ ?_ _ _) | (with_reducible refine Below.alloc ?_ ?_ _) | (with_reducible refine Below.setCell ?_ ?_ _) | (with_reducible refine Below.drew ?_) | (with_reducible refine below_draws ?_ _) | go_size | (simp [size_ext]; done) | (simp [size_ext]; omega)))))).mono ?_
      rintro e w1 ⟨rfl, hlow⟩
      obtain ⟨os4, d4, rfl⟩ := ext_of_below hlow
      clear hlow
      go_wp2_with fail
      refine (WB2.out _).mono ?_
      rintro e w1 ⟨g5, rfl, hg5, hr5, hlow⟩
      have R5 := hid hr5
      clear hr5
      obtain ⟨os5, d5, rfl⟩ := ext_of_below hlow
      clear hlow
      go_wp2_with fail
      refine (bytes_any _ _ _ _ _ _ R5.out _ _ _ _ _ ((Hb.out.take hn4).below (by (repeat' (first | (with_reducible exact Below.refl _ _) | (with_reducible assumption) | (with_reducible refine Below.ext ?_ ?_ _ _) | (with_reducible refine Below.alloc ?_ ?_ _) | (with_reducible refine Below.setCell ?_ ?_ _) | (with_reducible refine Below.drew ?_) | (with_reducible refine below_draws ?_ _) | go_size | (simp [size_ext]; done) | (simp [size_ext]; omega)))))).mono ?_
      rintro e w1 ⟨rfl, hlow⟩
      obtain ⟨os6, d6, rfl⟩ := ext_of_below hlow
      clear hlow
      go_wp2
      go_ret
      refine ⟨by simp, ?_⟩
      (repeat' (first | (with_reducible exact Below.refl _ _) | (with_reducible assumption) | (with_reducible refine Below.ext ?_ ?_ _ _) | (with_reducible refine Below.alloc ?_ ?_ _) | (with_reducible refine Below.setCell ?_ ?_ _) | (with_reducible refine Below.drew ?_) | (with_reducible refine below_draws ?_ _) | go_size | (simp [size_ext]; done) | (simp [size_ext]; omega)))
  · have WB := hid (write_bad h kh)
    clear kh
    by_cases hn : n < 4
    · go_enter Try.func4, Try.ntmps4
      go_wp2_with fail
      refine (W0.out _).mono ?_
      rintro e w1 ⟨g0, rfl, hg0, hr0, hlow⟩
      have R0 := hid hr0
      clear hr0
      obtain ⟨os, d, rfl⟩ := ext_of_below hlow
      clear hlow
      go_wp2_with fail
      have r1 := (R0.out).alloc (Nat.le_refl _) (.cells #[.int .u8 1, .int .u8 2, .int .u8 1, .int .u8 0] 5)
      have r2 := rd_lit (w := ext (w.alloc (.cells (hdCells h) 26)) os d) (g := w.heap.size + 1 + os.size) 5 #[.int .u8 1, .int .u8 2, .int .u8 1, .int .u8 0] [1, 2, 1, 0] 4 (by simp [size_ext]) (by simp) rfl (by simp [maxLen])
      have r1 := hid r1
      have r2 := hid r2
      refine (bytes_any _ _ _ _ _ _ r1.out _ _ _ _ _ r2.out).mono ?_
      rw [hl0.out]
      rintro e w1 ⟨rfl, hlow⟩
      obtain ⟨os1, d1, rfl⟩ := ext_of_below hlow
      clear hlow
      go_wp2_with fail
      refine (WB.out _).mono ?_
      rintro e w1 ⟨rfl, hlow⟩
      obtain ⟨os2, d2, rfl⟩ := ext_of_below hlow
      clear hlow
      go_wp2
      go_ret
      refine ⟨rfl, ?_⟩
      (repeat' (first | (with_reducible exact Below.refl _ _) | (with_reducible assumption) | (with_reducible refine Below.ext ?_ ?_ _ _) | (with_reducible refine Below.alloc ?_ ?_ _) | (with_reducible refine Below.setCell ?_ ?_ _) | (with_reducible refine Below.drew ?_) | (with_reducible refine below_draws ?_ _) | go_size | (simp [size_ext]; done) | (simp [size_ext]; omega)))
    · have hn4 : 4 ≤ n := by omega
      obtain ⟨H, kH, ⟨bb, bo, rfl⟩, RB, WB2⟩ := read_write Hb.out hn4
      have RB := hid RB
      have WB2 := hid WB2
      clear kH
      go_enter Try.func4, Try.ntmps4
      go_wp2_with fail
      refine (W0.out _).mono ?_
      rintro e w1 ⟨g0, rfl, hg0, hr0, hlow⟩
      have R0 := hid hr0
      clear hr0
      obtain ⟨os, d, rfl⟩ := ext_of_below hlow
      clear hlow
      go_wp2_with fail
      have r1 := (R0.out).alloc (Nat.le_refl _) (.cells #[.int .u8 1, .int .u8 2, .int .u8 1, .int .u8 0] 5)
      have r2 := rd_lit (w := ext (w.alloc (.cells (hdCells h) 26)) os d) (g := w.heap.size + 1 + os.size) 5 #[.int .u8 1, .int .u8 2, .int .u8 1, .int .u8 0] [1, 2, 1, 0] 4 (by simp [size_ext]) (by simp) rfl (by simp [maxLen])
      have r1 := hid r1
      have r2 := hid r2
      refine (bytes_any _ _ _ _ _ _ r1.out _ _ _ _ _ r2.out).mono ?_
      rw [hl0.out]
      rintro e w1 ⟨rfl, hlow⟩
      obtain ⟨os1, d1, rfl⟩ := ext_of_below hlow
      clear hlow
      go_wp2_with fail
      refine (WB.out _).mono ?_
      rintro e w1 ⟨rfl, hlow⟩
      obtain ⟨os2, d2, rfl⟩ := ext_of_below hlow
      clear hlow
      go_wp2_with fail
      refine (RB.out _ w.heap.size (Hb.out.below (by (repeat' (first | (with_reducible exact Below.refl _ _) | (with_reducible assumption) | (with_reducible refine Below.ext ?_ ?_ _ _) | (with_reducible refine Below.alloc ?_ ?_ _) | (with_reducible refine Below.setCell ?_ ?_ _) | (with_reducible refine Below.drew ?_) | (with_reducible refine below_draws ?_ _) | go_size | (simp [size_ext]; done) | (simp [size_ext]; omega)))))).mono ?_
      rintro e w1 ⟨rfl, hlow⟩
      obtain ⟨os4, d4, rfl⟩ := ext_of_below hlow
      clear hlow
      go_wp2_with fail
      refine (WB2.out _).mono ?_
      rintro e w1 ⟨g5, rfl, hg5, hr5, hlow⟩
      have R5 := hid hr5
      clear hr5
      obtain ⟨os5, d5, rfl⟩ := ext_of_below hlow
      clear hlow
      go_wp2_with fail
      refine (bytes_any _ _ _ _ _ _ R5.out _ _ _ _ _ ((Hb.out.take hn4).below (by (repeat' (first | (with_reducible exact Below.refl _ _) | (with_reducible assumption) | (with_reducible refine Below.ext ?_ ?_ _ _) | (with_reducible refine Below.alloc ?_ ?_ _) | (with_reducible refine Below.setCell ?_ ?_ _) | (with_reducible refine Below.drew ?_) | (with_reducible refine below_draws ?_ _) | go_size | (simp [size_ext]; done) | (simp [size_ext]; omega)))))).mono ?_
      rintro e w1 ⟨rfl, hlow⟩
      obtain ⟨os6, d6, rfl⟩ := ext_of_below hlow
      clear hlow
      go_wp2
      go_ret
      refine ⟨by simp, ?_⟩
      (repeat' (first | (with_reducible exact Below.refl _ _) | (with_reducible assumption) | (with_reducible refine Below.ext ?_ ?_ _ _) | (with_reducible refine Below.alloc ?_ ?_ _) | (with_reducible refine Below.setCell ?_ ?_ _) | (with_reducible refine Below.drew ?_) | (with_reducible refine below_draws ?_ _) | go_size | (simp [size_ext]; done) | (simp [size_ext]; omega)))

theorem contract (H : Type) (enc : TypeId × Value → H) (W : World) (base : Nat) (args : Array Value) (ds gs : List (DataW H)) (before : List MemPlace)
    (hval : ∀ (j : Nat) t v, Try.f4.params[j]? = some t → args[j]? = some v → Value.okWide Try.prog W .any base t v)
    (hW : DataW.Whole enc Try.prog Try.f4.params.toList Rows.headBackSpec.vars false W args.toList ds gs before) :
    Calls Try.prog 4 args W fun e W' => ∃ v, e = .returned v ∧ Rows.headBackSpec.post enc Try.prog Try.f4 false true false false W args v W' := by
  have hW' := hW
  obtain ⟨p, q, hA0, hV, rfl, hfz, hnd⟩ := hW
  have hA : DataW.TrodAll enc Try.prog W 0 (fun _ => true) true Try.f4.params.toList args.toList ds p := hA0
  rw [Try.params4] at hA hval
  obtain ⟨v0, vs0, d0, ds0, p0, q0, hargs, rfl, rfl, k0, r0⟩ := trodAll_cons hA
  obtain ⟨v1, vs1, d1, ds1, p1, q1, rfl, rfl, rfl, k1, r1⟩ := trodAll_cons r0
  obtain ⟨rfl, rfl, rfl⟩ := trodAll_nil r1
  obtain rfl : args = #[v0, v1] := by cases args; simp_all
  obtain ⟨rfl, rfl⟩ := trodVars_none hV
  have lt0 : ∀ x ∈ p0, x.block < W.heap.size := by obtain ⟨m, hm⟩ := k0; exact DataW.trod_lt m _ _ _ hm
  have lt1 : ∀ x ∈ p1, x.block < W.heap.size := by obtain ⟨m, hm⟩ := k1; exact DataW.trod_lt m _ _ _ hm
  obtain ⟨x0, cs0, rfl, w0, z0⟩ := arg_struct Try.underlying26 opens_header (hval 0 26 v0 rfl rfl) k0
  obtain ⟨A1, n1, c1, l1, rfl, w1, z1⟩ := arg_slice Try.underlying27 (opens_slice Try.underlying27 (opens_u8 Try.underlying5) (by kernel_rfl) (by decide)) (hval 1 27 v1 rfl rfl) k1
  clear hA0 hA
  refine (walk W x0 cs0 w0 A1 n1 c1 l1 w1).mono fun e W' ⟨he, bel⟩ => ?_
  subst he
  exact ⟨_, rfl, _, _, _, [], _, [], hW', trodAll_mk1 (shut_bool Try.underlying4 _), (trodAll_cons_mk (Below.trod laidOut (by kernel_rfl) (of_decide_eq_true (by kernel_rfl)) k0 bel lt0) (trodAll_cons_mk (Below.trod laidOut (by kernel_rfl) (of_decide_eq_true (by kernel_rfl)) k1 bel lt1) trodAll_mk0)), rfl, bel.frame _, fun h => by cases h⟩

set_option maxRecDepth 100000 in
theorem lifted (os : Os) (started : os.Started) (H : Type) (enc : TypeId × Value → H) :
    ReturnsInHanded {} Try.checked os 4 .any (Rows.headBackSpec.pre6 enc Try.prog Try.f4 Rows.headBackRow.domain false) (Rows.headBackSpec.post enc Try.prog Try.f4 false true false false) := by
  refine returnsInHanded_of_change (C := Try.checked) own started (by kernel_rfl) Try.func4
    (ChangeSpec.witness6 (enc := enc) (C := Try.checked) false ⟨#[], #[.agg #[.int .i64 0, .bool false, .int .i64 0, .bool false, .bool false, .bool false, .bool false, .bool false, .bool false, .bool false, .int .i64 0], .slice none 0 0], []⟩ 8 (by kernel_rfl) (by kernel_rfl) (by kernel_rfl) (by kernel_rfl)) ?_
  intro W base args ds gs before hval hW _ _
  exact contract H enc W base args ds gs before hval hW

/-- the statement -/
theorem proved : Rows.HeadBackSaid :=
  OpenClaim.holds_of_wide 4 Try.f4 rfl rfl rfl rfl rfl rfl rfl ⟨rfl, rfl, rfl, rfl, rfl⟩ rfl rfl rfl rfl rfl (by kernel_rfl) Try.func4 (by kernel_rfl)
    (of_decide_eq_true (by kernel_rfl)) (by unfold Func.isWrapper; first | (rw [if_pos (by decide +kernel)]; kernel_rfl) | (rw [if_neg (by decide +kernel)]; exact ⟨rfl, rfl⟩))
    (fun os started H enc _ => lifted os started H enc)

end headBack
end Go.Proofs.Ytbjjmikiefgnaaa
