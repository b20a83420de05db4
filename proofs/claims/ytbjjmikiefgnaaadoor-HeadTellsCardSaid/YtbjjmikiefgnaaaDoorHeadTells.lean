/- HeadTells is true of every input: of any header and any bytes the program tells what the document tells. Condition: the variable errors.errorType holds what the program's text lays in it (the card ties it). -/
import Derived.Test.YtbjjmikiefgnaaaDoorHeadRef
import Derived.Test.YtbjjmikiefgnaaaDoorHeaderRep
import Derived.Test.YtbjjmikiefgnaaaDoorSameBytes
import Derived.Test.YtbjjmikiefgnaaaDoorLaid
namespace Go.Proofs.YtbjjmikiefgnaaaDoor
open Go.ChangeShapes Go.WideShapes Go.ChangeAt Go.RowKit
set_option linter.unusedVariables false
namespace headTells

theorem err_same (n : Int) (w : World) (hg : Laid w) : Calls Tryd.prog 11 #[errV n, .int .i64 n] w fun e w' => e = .returned (.bool true) ∧ Below w.heap.size w w' := by
  simpa using error_any n n w hg
def zeroH : Hd := ⟨0, false, 0, false, false, false, false, false, false, false, 0⟩
/-- the header of four bytes, as the document has it -/
def hdOf (y0 y1 y2 y3 : Nat) : Hd := ⟨y0 * 256 + y1, y2 / 128 % 2 == 1, y2 / 8 % 16, y2 / 4 % 2 == 1, y2 / 2 % 2 == 1, y2 % 2 == 1, y3 / 128 % 2 == 1, y3 / 64 % 2 == 1, y3 / 32 % 2 == 1, y3 / 16 % 2 == 1, y3 % 16⟩
theorem beq_one {a b : Nat} (h : a = b) : (a == 1) = (b == 1) := by rw [h]
theorem hdOf_eq (y0 y1 y2 y3 : Nat) (h0 : y0 < 256) (h1 : y1 < 256) (h2 : y2 < 256) (h3 : y3 < 256) :
    hdK (bits .or .i64 ((y0 : Int) * 256) (y1 : Int)) (bits .or .i64 ((y2 : Int) * 256) (y3 : Int)) 7 = hdOf y0 y1 y2 y3 := by
  have e0 : bits .or .i64 ((y0 : Int) * 256) (y1 : Int) = ((y0 * 256 + y1 : Nat) : Int) := by
    have := or64 (y0 * 256) y1 (by omega) (by omega)
    rw [or256 y0 y1 h1] at this
    simpa using this
  have e1 : bits .or .i64 ((y2 : Int) * 256) (y3 : Int) = ((y2 * 256 + y3 : Nat) : Int) := by
    have := or64 (y2 * 256) y3 (by omega) (by omega)
    rw [or256 y2 y3 h3] at this
    simpa using this
  rw [e0, e1, hdK_nat _ _ (by omega) (by omega)]
  unfold hdOf
  refine hd_ext ?_ (beq_one ?_) ?_ (beq_one ?_) (beq_one ?_) (beq_one ?_) (beq_one ?_) (beq_one ?_) (beq_one ?_) (beq_one ?_) ?_
  all_goals
    try simp only
    omega

/-- what Read tells of bytes, and what the document does -/
theorem read_two {w : World} {A : Option Addr} {n c : Nat} {l : List UInt8} (hr : Rd u8R w w.heap.size A n c l) (hn : 4 ≤ n) : ∃ H : Hd, (∀ w', Below w.heap.size w w' → Calls Tryd.prog 14 #[.slice A n c] w' fun e w2 => e = .returned (.tuple #[.agg (hdCells H), .nilIface]) ∧ Below w'.heap.size w' w2) ∧
    (∀ w', Below w.heap.size w w' → Calls Tryd.prog 13 #[.slice A n c] w' fun e w2 => e = .returned (.agg (hdCells H)) ∧ Below w'.heap.size w' w2) := by
  obtain ⟨b, o, rfl, _⟩ := hr.addr (by omega)
  have hm := hr.max
  unfold maxLen at hm
  obtain ⟨x0, _, _, _, _⟩ := hr.byte 0 (by omega)
  have key : ∀ w', Below w.heap.size w w' → ∀ i, i < 4 → w'.cell? ⟨b, o + i, none⟩ = some (.int .u8 (((l.getD i 0).toNat : Nat) : Int)) := by
    intro w' hb i hi
    obtain ⟨x, hx, hc, _, _⟩ := (hr.below hb).byte i (by omega)
    rw [hx]
    exact hc
  have q := fun (b : UInt8) => b.toNat_lt
  refine ⟨hdOf (l.getD 0 0).toNat (l.getD 1 0).toNat (l.getD 2 0).toNat (l.getD 3 0).toNat, fun w' hb => ?_, fun w' hb => ?_⟩
  · have := read_ok b o n c _ _ _ _ hn hr.cap (by omega) w' (key w' hb 0 (by omega)) (key w' hb 1 (by omega)) (key w' hb 2 (by omega)) (key w' hb 3 (by omega)) (by omega) (by have := q (l.getD 0 0); omega) (by omega) (by have := q (l.getD 1 0); omega) (by omega) (by have := q (l.getD 2 0); omega) (by omega) (by have := q (l.getD 3 0); omega)
    rwa [hdOf_eq _ _ _ _ (q _) (q _) (q _) (q _)] at this
  · exact headOf_ok b o n c _ _ _ _ hn hr.cap (by omega) w' (key w' hb 0 (by omega)) (key w' hb 1 (by omega)) (key w' hb 2 (by omega)) (key w' hb 3 (by omega)) (q _) (q _) (q _) (q _)

/-- HeadBytes' bytes are Write's -/
theorem bytes_two (h : Hd) (k : HOk h) : ∃ l : List UInt8, (∀ w, Calls Tryd.prog 10 #[.agg (hdCells h)] w fun e w' => ∃ g, e = .returned (.tuple #[.slice (some ⟨g, 0, none⟩) 4 4, .nilIface]) ∧ Rd u8R w' w'.heap.size (some ⟨g, 0, none⟩) 4 4 l ∧ Below w.heap.size w w') ∧
    (∀ w, Calls Tryd.prog 9 #[.agg (hdCells h)] w fun e w' => ∃ g, e = .returned (.slice (some ⟨g, 0, none⟩) 4 4) ∧ Rd u8R w' w'.heap.size (some ⟨g, 0, none⟩) 4 4 l ∧ Below w.heap.size w w') := by
  obtain ⟨l, hl, hw, hm, _⟩ := write_read h k
  refine ⟨l, fun w => (hw w).mono fun e w' ⟨g, he, _, hr, hb⟩ => ⟨g, he, hr, hb⟩, fun w => (hbytes_ok h k w).mono ?_⟩
  rintro e w' ⟨g, he, _, hblk, hb⟩
  refine ⟨g, he, ?_, hb⟩
  have := rd_of_blk l hblk (by
    have h2 := congrArg (List.map fun x : Int => Value.int .u8 x) hm
    simp only [List.map_map, List.map_cons, List.map_nil] at h2
    exact h2.symm) (by omega)
  rwa [hl] at this

set_option maxRecDepth 100000 in
set_option maxHeartbeats 8000000 in
theorem walk (w : World) (hL : Laid w) (x : Int × Bool × Int × Bool × Bool × Bool × Bool × Bool × Bool × Bool × Int × Unit) (cs : Array Value) (hx : headerR.rel w w.heap.size x cs.toList)
    (A n c l) (hb : Rd u8R w w.heap.size A n c l) :
    Calls Tryd.prog 3 #[.agg cs, .slice A n c] w fun e w' => e = .returned (.bool true) ∧ Below w.heap.size w w' := by
  obtain ⟨h, rfl⟩ := header_of hx
  clear hx
  have hlt : 0 < w.heap.size := World.block_lt_of_cell? w _ hL
  have bm := hb.max
  have bk := hb.cap
  unfold maxLen at bm
  have E0 := hid fun w' (hb : Below w.heap.size w w') => err_same 0 w' (hL.below hb hlt)
  have E2 := hid fun w' (hb : Below w.heap.size w w') => err_same 2 w' (hL.below hb hlt)
  have E6 := hid fun w' (hb : Below w.heap.size w w') => err_same 6 w' (hL.below hb hlt)
  clear hL
  have tk0 : True := trivial; have tk1 : True := trivial; have tk2 : True := trivial; have tk3 : True := trivial; have tk4 : True := trivial; have tk5 : True := trivial; have tk6 : True := trivial; have tk7 : True := trivial; have tk8 : True := trivial; have tk9 : True := trivial; have tk10 : True := trivial; have tk11 : True := trivial; have tk12 : True := trivial
  by_cases k : HOk h
  · have CF := hid (hfault_ok h k)
    obtain ⟨lw, CW, CB⟩ := bytes_two h k
    replace CW := hid CW
    replace CB := hid CB
    clear k
    by_cases hn : n < 4
    · have CR := hid (read_short A n c hn)
      clear hb
      go_enter Tryd.func3, Tryd.ntmps3
      go_wp2_with (first
        | (go_at_call 8; have _t := tk1; refine (CF.out _).mono ?_; rintro e w1 ⟨rfl, hb⟩; obtain ⟨otk1, dtk1, rfl⟩ := ext_of_below hb; clear hb tk1)
        | (go_at_call 9; have _t := tk2; refine (CB.out _).mono ?_; rintro e w1 ⟨gtk2, rfl, hr, hb⟩; obtain ⟨otk2, dtk2, rfl⟩ := ext_of_below hb; (try simp only [ext_drew, ext_drewN] at hr); have R2 := hid hr; clear hr; clear hb tk2)
        | (go_at_call 10; have _t := tk3; refine (CW.out _).mono ?_; rintro e w1 ⟨gtk3, rfl, hr, hb⟩; obtain ⟨otk3, dtk3, rfl⟩ := ext_of_below hb; (try simp only [ext_drew, ext_drewN] at hr); have R3 := hid hr; clear hr; clear hb tk3)
        | (go_at_call 11; have _t := tk4; refine (E0.out _ (by (repeat' (first | (with_reducible exact Below.refl _ _) | (with_reducible assumption) | (with_reducible refine Below.ext ?_ ?_ _ _) | (with_reducible refine Below.alloc ?_ ?_ _) | (with_reducible refine Below.setCell ?_ ?_ _) | (with_reducible refine Below.drew ?_) | (with_reducible refine below_draws ?_ _) | go_size | (simp [size_ext]; done) | (simp [size_ext]; omega))))).mono ?_; rintro e w1 ⟨rfl, hb⟩; obtain ⟨otk4, dtk4, rfl⟩ := ext_of_below hb; clear hb tk4)
        | (go_at_call 12; have _t := tk5; refine (bytes_any _ _ _ _ _ _ (R3.out.below (by (repeat' (first | (with_reducible exact Below.refl _ _) | (with_reducible assumption) | (with_reducible refine Below.ext ?_ ?_ _ _) | (with_reducible refine Below.alloc ?_ ?_ _) | (with_reducible refine Below.setCell ?_ ?_ _) | (with_reducible refine Below.drew ?_) | (with_reducible refine below_draws ?_ _) | go_size | (simp [size_ext]; done) | (simp [size_ext]; omega))))) _ _ _ _ _ (R2.out.below (by (repeat' (first | (with_reducible exact Below.refl _ _) | (with_reducible assumption) | (with_reducible refine Below.ext ?_ ?_ _ _) | (with_reducible refine Below.alloc ?_ ?_ _) | (with_reducible refine Below.setCell ?_ ?_ _) | (with_reducible refine Below.drew ?_) | (with_reducible refine below_draws ?_ _) | go_size | (simp [size_ext]; done) | (simp [size_ext]; omega)))))).mono ?_; rw [decide_eq_true rfl]; rintro e w1 ⟨rfl, hb⟩; obtain ⟨otk5, dtk5, rfl⟩ := ext_of_below hb; clear hb tk5)
        | (go_at_call 14; have _t := tk7; refine (CR.out _).mono ?_; rintro e w1 ⟨rfl, hb⟩; obtain ⟨otk7, dtk7, rfl⟩ := ext_of_below hb; clear hb tk7)
        | (go_at_call 11; have _t := tk8; refine (E2.out _ (by (repeat' (first | (with_reducible exact Below.refl _ _) | (with_reducible assumption) | (with_reducible refine Below.ext ?_ ?_ _ _) | (with_reducible refine Below.alloc ?_ ?_ _) | (with_reducible refine Below.setCell ?_ ?_ _) | (with_reducible refine Below.drew ?_) | (with_reducible refine below_draws ?_ _) | go_size | (simp [size_ext]; done) | (simp [size_ext]; omega))))).mono ?_; rintro e w1 ⟨rfl, hb⟩; obtain ⟨otk8, dtk8, rfl⟩ := ext_of_below hb; clear hb tk8))
      go_ret
      exact ⟨by simp, by (repeat' (first | (with_reducible exact Below.refl _ _) | (with_reducible assumption) | (with_reducible refine Below.ext ?_ ?_ _ _) | (with_reducible refine Below.alloc ?_ ?_ _) | (with_reducible refine Below.setCell ?_ ?_ _) | (with_reducible refine Below.drew ?_) | (with_reducible refine below_draws ?_ _) | go_size | (simp [size_ext]; done) | (simp [size_ext]; omega)))⟩
    · obtain ⟨H, CR, CO⟩ := read_two hb (by omega)
      replace CR := hid CR
      replace CO := hid CO
      clear hb
      go_enter Tryd.func3, Tryd.ntmps3
      go_wp2_with (first
        | (go_at_call 8; have _t := tk1; refine (CF.out _).mono ?_; rintro e w1 ⟨rfl, hb⟩; obtain ⟨otk1, dtk1, rfl⟩ := ext_of_below hb; clear hb tk1)
        | (go_at_call 9; have _t := tk2; refine (CB.out _).mono ?_; rintro e w1 ⟨gtk2, rfl, hr, hb⟩; obtain ⟨otk2, dtk2, rfl⟩ := ext_of_below hb; (try simp only [ext_drew, ext_drewN] at hr); have R2 := hid hr; clear hr; clear hb tk2)
        | (go_at_call 10; have _t := tk3; refine (CW.out _).mono ?_; rintro e w1 ⟨gtk3, rfl, hr, hb⟩; obtain ⟨otk3, dtk3, rfl⟩ := ext_of_below hb; (try simp only [ext_drew, ext_drewN] at hr); have R3 := hid hr; clear hr; clear hb tk3)
        | (go_at_call 11; have _t := tk4; refine (E0.out _ (by (repeat' (first | (with_reducible exact Below.refl _ _) | (with_reducible assumption) | (with_reducible refine Below.ext ?_ ?_ _ _) | (with_reducible refine Below.alloc ?_ ?_ _) | (with_reducible refine Below.setCell ?_ ?_ _) | (with_reducible refine Below.drew ?_) | (with_reducible refine below_draws ?_ _) | go_size | (simp [size_ext]; done) | (simp [size_ext]; omega))))).mono ?_; rintro e w1 ⟨rfl, hb⟩; obtain ⟨otk4, dtk4, rfl⟩ := ext_of_below hb; clear hb tk4)
        | (go_at_call 12; have _t := tk5; refine (bytes_any _ _ _ _ _ _ (R3.out.below (by (repeat' (first | (with_reducible exact Below.refl _ _) | (with_reducible assumption) | (with_reducible refine Below.ext ?_ ?_ _ _) | (with_reducible refine Below.alloc ?_ ?_ _) | (with_reducible refine Below.setCell ?_ ?_ _) | (with_reducible refine Below.drew ?_) | (with_reducible refine below_draws ?_ _) | go_size | (simp [size_ext]; done) | (simp [size_ext]; omega))))) _ _ _ _ _ (R2.out.below (by (repeat' (first | (with_reducible exact Below.refl _ _) | (with_reducible assumption) | (with_reducible refine Below.ext ?_ ?_ _ _) | (with_reducible refine Below.alloc ?_ ?_ _) | (with_reducible refine Below.setCell ?_ ?_ _) | (with_reducible refine Below.drew ?_) | (with_reducible refine below_draws ?_ _) | go_size | (simp [size_ext]; done) | (simp [size_ext]; omega)))))).mono ?_; rw [decide_eq_true rfl]; rintro e w1 ⟨rfl, hb⟩; obtain ⟨otk5, dtk5, rfl⟩ := ext_of_below hb; clear hb tk5)
        | (go_at_call 13; have _t := tk6; refine (CO.out _ (by (repeat' (first | (with_reducible exact Below.refl _ _) | (with_reducible assumption) | (with_reducible refine Below.ext ?_ ?_ _ _) | (with_reducible refine Below.alloc ?_ ?_ _) | (with_reducible refine Below.setCell ?_ ?_ _) | (with_reducible refine Below.drew ?_) | (with_reducible refine below_draws ?_ _) | go_size | (simp [size_ext]; done) | (simp [size_ext]; omega))))).mono ?_; rintro e w1 ⟨rfl, hb⟩; obtain ⟨otk6, dtk6, rfl⟩ := ext_of_below hb; clear hb tk6)
        | (go_at_call 14; have _t := tk7; refine (CR.out _ (by (repeat' (first | (with_reducible exact Below.refl _ _) | (with_reducible assumption) | (with_reducible refine Below.ext ?_ ?_ _ _) | (with_reducible refine Below.alloc ?_ ?_ _) | (with_reducible refine Below.setCell ?_ ?_ _) | (with_reducible refine Below.drew ?_) | (with_reducible refine below_draws ?_ _) | go_size | (simp [size_ext]; done) | (simp [size_ext]; omega))))).mono ?_; rintro e w1 ⟨rfl, hb⟩; obtain ⟨otk7, dtk7, rfl⟩ := ext_of_below hb; clear hb tk7)
        | (go_at_call 11; have _t := tk8; refine (E0.out _ (by (repeat' (first | (with_reducible exact Below.refl _ _) | (with_reducible assumption) | (with_reducible refine Below.ext ?_ ?_ _ _) | (with_reducible refine Below.alloc ?_ ?_ _) | (with_reducible refine Below.setCell ?_ ?_ _) | (with_reducible refine Below.drew ?_) | (with_reducible refine below_draws ?_ _) | go_size | (simp [size_ext]; done) | (simp [size_ext]; omega))))).mono ?_; rintro e w1 ⟨rfl, hb⟩; obtain ⟨otk8, dtk8, rfl⟩ := ext_of_below hb; clear hb tk8))
      go_ret
      exact ⟨by simp, by (repeat' (first | (with_reducible exact Below.refl _ _) | (with_reducible assumption) | (with_reducible refine Below.ext ?_ ?_ _ _) | (with_reducible refine Below.alloc ?_ ?_ _) | (with_reducible refine Below.setCell ?_ ?_ _) | (with_reducible refine Below.drew ?_) | (with_reducible refine below_draws ?_ _) | go_size | (simp [size_ext]; done) | (simp [size_ext]; omega)))⟩
  · have CF := hid (hfault_bad h k)
    have CW := hid (write_bad h k)
    clear k
    by_cases hn : n < 4
    · have CR := hid (read_short A n c hn)
      clear hb
      go_enter Tryd.func3, Tryd.ntmps3
      go_wp2_with (first
        | (go_at_call 8; have _t := tk1; refine (CF.out _).mono ?_; rintro e w1 ⟨rfl, hb⟩; obtain ⟨otk1, dtk1, rfl⟩ := ext_of_below hb; clear hb tk1)
        | (go_at_call 10; have _t := tk3; refine (CW.out _).mono ?_; rintro e w1 ⟨rfl, hb⟩; obtain ⟨otk3, dtk3, rfl⟩ := ext_of_below hb; clear hb tk3)
        | (go_at_call 11; have _t := tk4; refine (E6.out _ (by (repeat' (first | (with_reducible exact Below.refl _ _) | (with_reducible assumption) | (with_reducible refine Below.ext ?_ ?_ _ _) | (with_reducible refine Below.alloc ?_ ?_ _) | (with_reducible refine Below.setCell ?_ ?_ _) | (with_reducible refine Below.drew ?_) | (with_reducible refine below_draws ?_ _) | go_size | (simp [size_ext]; done) | (simp [size_ext]; omega))))).mono ?_; rintro e w1 ⟨rfl, hb⟩; obtain ⟨otk4, dtk4, rfl⟩ := ext_of_below hb; clear hb tk4)
        | (go_at_call 12; have _t := tk5; refine (bytes_any _ _ _ _ _ 0 (rd_nil _ 0) _ _ _ _ 0 (rd_nil _ 0)).mono ?_; rw [decide_eq_true rfl]; rintro e w1 ⟨rfl, hb⟩; obtain ⟨otk5, dtk5, rfl⟩ := ext_of_below hb; clear hb tk5)
        | (go_at_call 14; have _t := tk7; refine (CR.out _).mono ?_; rintro e w1 ⟨rfl, hb⟩; obtain ⟨otk7, dtk7, rfl⟩ := ext_of_below hb; clear hb tk7)
        | (go_at_call 11; have _t := tk8; refine (E2.out _ (by (repeat' (first | (with_reducible exact Below.refl _ _) | (with_reducible assumption) | (with_reducible refine Below.ext ?_ ?_ _ _) | (with_reducible refine Below.alloc ?_ ?_ _) | (with_reducible refine Below.setCell ?_ ?_ _) | (with_reducible refine Below.drew ?_) | (with_reducible refine below_draws ?_ _) | go_size | (simp [size_ext]; done) | (simp [size_ext]; omega))))).mono ?_; rintro e w1 ⟨rfl, hb⟩; obtain ⟨otk8, dtk8, rfl⟩ := ext_of_below hb; clear hb tk8))
      go_ret
      exact ⟨by simp, by (repeat' (first | (with_reducible exact Below.refl _ _) | (with_reducible assumption) | (with_reducible refine Below.ext ?_ ?_ _ _) | (with_reducible refine Below.alloc ?_ ?_ _) | (with_reducible refine Below.setCell ?_ ?_ _) | (with_reducible refine Below.drew ?_) | (with_reducible refine below_draws ?_ _) | go_size | (simp [size_ext]; done) | (simp [size_ext]; omega)))⟩
    · obtain ⟨H, CR, CO⟩ := read_two hb (by omega)
      replace CR := hid CR
      replace CO := hid CO
      clear hb
      go_enter Tryd.func3, Tryd.ntmps3
      go_wp2_with (first
        | (go_at_call 8; have _t := tk1; refine (CF.out _).mono ?_; rintro e w1 ⟨rfl, hb⟩; obtain ⟨otk1, dtk1, rfl⟩ := ext_of_below hb; clear hb tk1)
        | (go_at_call 10; have _t := tk3; refine (CW.out _).mono ?_; rintro e w1 ⟨rfl, hb⟩; obtain ⟨otk3, dtk3, rfl⟩ := ext_of_below hb; clear hb tk3)
        | (go_at_call 11; have _t := tk4; refine (E6.out _ (by (repeat' (first | (with_reducible exact Below.refl _ _) | (with_reducible assumption) | (with_reducible refine Below.ext ?_ ?_ _ _) | (with_reducible refine Below.alloc ?_ ?_ _) | (with_reducible refine Below.setCell ?_ ?_ _) | (with_reducible refine Below.drew ?_) | (with_reducible refine below_draws ?_ _) | go_size | (simp [size_ext]; done) | (simp [size_ext]; omega))))).mono ?_; rintro e w1 ⟨rfl, hb⟩; obtain ⟨otk4, dtk4, rfl⟩ := ext_of_below hb; clear hb tk4)
        | (go_at_call 12; have _t := tk5; refine (bytes_any _ _ _ _ _ 0 (rd_nil _ 0) _ _ _ _ 0 (rd_nil _ 0)).mono ?_; rw [decide_eq_true rfl]; rintro e w1 ⟨rfl, hb⟩; obtain ⟨otk5, dtk5, rfl⟩ := ext_of_below hb; clear hb tk5)
        | (go_at_call 13; have _t := tk6; refine (CO.out _ (by (repeat' (first | (with_reducible exact Below.refl _ _) | (with_reducible assumption) | (with_reducible refine Below.ext ?_ ?_ _ _) | (with_reducible refine Below.alloc ?_ ?_ _) | (with_reducible refine Below.setCell ?_ ?_ _) | (with_reducible refine Below.drew ?_) | (with_reducible refine below_draws ?_ _) | go_size | (simp [size_ext]; done) | (simp [size_ext]; omega))))).mono ?_; rintro e w1 ⟨rfl, hb⟩; obtain ⟨otk6, dtk6, rfl⟩ := ext_of_below hb; clear hb tk6)
        | (go_at_call 14; have _t := tk7; refine (CR.out _ (by (repeat' (first | (with_reducible exact Below.refl _ _) | (with_reducible assumption) | (with_reducible refine Below.ext ?_ ?_ _ _) | (with_reducible refine Below.alloc ?_ ?_ _) | (with_reducible refine Below.setCell ?_ ?_ _) | (with_reducible refine Below.drew ?_) | (with_reducible refine below_draws ?_ _) | go_size | (simp [size_ext]; done) | (simp [size_ext]; omega))))).mono ?_; rintro e w1 ⟨rfl, hb⟩; obtain ⟨otk7, dtk7, rfl⟩ := ext_of_below hb; clear hb tk7)
        | (go_at_call 11; have _t := tk8; refine (E0.out _ (by (repeat' (first | (with_reducible exact Below.refl _ _) | (with_reducible assumption) | (with_reducible refine Below.ext ?_ ?_ _ _) | (with_reducible refine Below.alloc ?_ ?_ _) | (with_reducible refine Below.setCell ?_ ?_ _) | (with_reducible refine Below.drew ?_) | (with_reducible refine below_draws ?_ _) | go_size | (simp [size_ext]; done) | (simp [size_ext]; omega))))).mono ?_; rintro e w1 ⟨rfl, hb⟩; obtain ⟨otk8, dtk8, rfl⟩ := ext_of_below hb; clear hb tk8))
      go_ret
      exact ⟨by simp, by (repeat' (first | (with_reducible exact Below.refl _ _) | (with_reducible assumption) | (with_reducible refine Below.ext ?_ ?_ _ _) | (with_reducible refine Below.alloc ?_ ?_ _) | (with_reducible refine Below.setCell ?_ ?_ _) | (with_reducible refine Below.drew ?_) | (with_reducible refine below_draws ?_ _) | go_size | (simp [size_ext]; done) | (simp [size_ext]; omega)))⟩

set_option maxRecDepth 100000 in
theorem contract (H : Type) (enc : TypeId × Value → H) (W : World) (base : Nat) (args : Array Value) (ds gs : List (DataW H)) (before : List MemPlace)
    (hval : ∀ (j : Nat) t v, Tryd.f3.params[j]? = some t → args[j]? = some v → Value.okWide Tryd.prog W .any base t v)
    (hW : DataW.Whole enc Tryd.prog Tryd.f3.params.toList Rows.headTellsSpec.vars false W args.toList ds gs before) (hsz : (DataW.weightsEach Tryd.prog (Tryd.f3.params.toList ++ Rows.headTellsSpec.plain.varTypes Tryd.prog) (ds ++ gs)).all (· ≤ reachBytes) = true) (hL : Laid W) :
    Calls Tryd.prog 3 args W fun e W' => ∃ v, e = .returned v ∧ Rows.headTellsSpec.post enc Tryd.prog Tryd.f3 false true false false W args v W' := by
  have hW' := hW
  obtain ⟨p, q, hA0, hV, rfl, hfz, hnd⟩ := hW
  have hA : DataW.TrodAll enc Tryd.prog W 0 (fun _ => true) true Tryd.f3.params.toList args.toList ds p := hA0
  rw [Tryd.params3] at hA hval hsz
  obtain ⟨v0, vs0, d0, ds0, p0, q0, hargs, rfl, rfl, k0, r0⟩ := trodAll_cons hA
  obtain ⟨v1, vs1, d1, ds1, p1, q1, rfl, rfl, rfl, k1, r1⟩ := trodAll_cons r0
  obtain ⟨rfl, rfl, rfl⟩ := trodAll_nil r1
  obtain rfl : args = #[v0, v1] := by cases args; simp_all
  obtain ⟨rfl, rfl⟩ := trodVars_none hV
  have lt0 : ∀ x ∈ p0, x.block < W.heap.size := by obtain ⟨m, hm⟩ := k0; exact DataW.trod_lt m _ _ _ hm
  have lt1 : ∀ x ∈ p1, x.block < W.heap.size := by obtain ⟨m, hm⟩ := k1; exact DataW.trod_lt m _ _ _ hm
  have hsz' : ∀ k ∈ _, k ≤ reachBytes := fun k hk => of_decide_eq_true (List.all_eq_true.1 hsz k hk)
  have u0 : ∀ k ∈ d0.weights Tryd.prog 23, k ≤ reachBytes := fun k hk => hsz' k (by simp [DataW.weightsEach, hk])
  have u1 : ∀ k ∈ d1.weights Tryd.prog 24, k ≤ reachBytes := fun k hk => hsz' k (by simp [DataW.weightsEach, hk])
  obtain ⟨x0, cs0, rfl, w0, z0⟩ := arg_struct Tryd.underlying23 opens_header (hval 0 23 v0 rfl rfl) k0 u0
  obtain ⟨A1, n1, c1, l1, rfl, w1, z1⟩ := arg_slice Tryd.underlying24 (opens_slice Tryd.underlying24 (opens_u8 Tryd.underlying5) (by kernel_rfl) (by decide) (of_decide_eq_true (by kernel_rfl))) (hval 1 24 v1 rfl rfl) k1 u1
  clear hA0 hA
  refine (walk W hL x0 cs0 w0 A1 n1 c1 l1 w1).mono fun e W' ⟨he, bel⟩ => ?_
  subst he
  exact ⟨_, rfl, _, _, _, [], _, [], hW', trodAll_mk1 (shut_bool Tryd.underlying4 _), (trodAll_cons_mk (Below.trod laidOut (by kernel_rfl) (of_decide_eq_true (by kernel_rfl)) k0 bel lt0) (trodAll_cons_mk (Below.trod laidOut (by kernel_rfl) (of_decide_eq_true (by kernel_rfl)) k1 bel lt1) trodAll_mk0)), rfl, bel.frame _, fun h => by cases h⟩

set_option maxRecDepth 100000 in
theorem lifted (os : Os) (started : os.Started) (H : Type) (enc : TypeId × Value → H) :
    ReturnsInHanded {} Tryd.checked os 3 .any (fun w args => (Rows.headTellsSpec.pre enc Tryd.prog Tryd.f3 [] false w args ∧ laidMetH Tryd.prog laidL w) ∧ sizedMet enc Tryd.prog Tryd.f3 (OpenSpec.ofChange Rows.headTellsSpec) false w args) (Rows.headTellsSpec.post enc Tryd.prog Tryd.f3 false true false false) := by
  refine returnsInHanded_of_change_and (C := Tryd.checked) (X := fun w _ => laidMetH Tryd.prog laidL w) (fun _ _ _ hh h => h.of_heap hh) own started (by kernel_rfl) Tryd.func3
    (ChangeSpec.witness_at (enc := enc) (C := Tryd.checked) (os := os) (X := fun w _ => laidMetH Tryd.prog laidL w) false (laidWorld os) #[.agg #[.int .i64 0, .bool false, .int .i64 0, .bool false, .bool false, .bool false, .bool false, .bool false, .bool false, .bool false, .int .i64 0], .slice none 0 0] 8 rfl (by kernel_rfl) (by kernel_rfl) (by kernel_rfl) (by kernel_rfl) (by kernel_rfl) (laidWorld_met os _)) ?_
  intro W base args ds gs before hval hW _ hsz hL _
  exact contract H enc W base args ds gs before hval hW hsz (laid_of hL)

set_option maxRecDepth 100000 in
theorem said : Rows.HeadTellsSaid :=
  OpenClaim.holds_of_wide 3 Tryd.f3 rfl rfl rfl rfl rfl rfl rfl ⟨rfl, rfl, rfl, rfl, rfl⟩ rfl rfl rfl rfl rfl (by kernel_rfl) Tryd.func3 (by kernel_rfl)
    (of_decide_eq_true (by kernel_rfl)) (by unfold Func.isWrapper; first | (rw [if_pos (by decide +kernel)]; kernel_rfl) | (rw [if_neg (by decide +kernel)]; exact ⟨rfl, rfl⟩))
    (fun os started H enc _ => lifted os started H enc)
set_option maxRecDepth 100000 in
/-- the statement: the tied card -/
theorem proved : Rows.HeadTellsCardSaid :=
  Claim7.holds_tied_plain_at .later [] [.handle] true (true, "43c8b0af65a411a36547a9fc34b32c023afcbbf36dca1feb727a2cd0b49e13d4") true said (fun _ h => by cases h) (by kernel_rfl) (fun _ h => by cases h) headTells_row_tie rfl ⟨rfl, rfl⟩ (by kernel_rfl) rfl
    (fun f fn hf hfn => by
      obtain rfl : f = 3 := Option.some.inj ((show Tryd.prog.funcNamed "pointsman/pointsmanlaw1.HeadTells" = some 3 by kernel_rfl).symm.trans hf) |>.symm
      obtain rfl : fn = Tryd.f3 := (Option.some.inj (Tryd.func3.symm.trans hfn)).symm
      exact ⟨by kernel_rfl, fun j t ht => no_stand (by kernel_rfl) j t ht⟩)
    (by kernel_rfl)

end headTells
end Go.Proofs.YtbjjmikiefgnaaaDoor
