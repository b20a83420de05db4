/- subnet's Decode, of a subnet's bytes. -/
import Derived.Test.YtkdfiedemhjjjaaK17
namespace Go.Proofs.Ytkdfiedemhjjjaa
open Go.RowKit
set_option linter.unusedVariables false
set_option linter.unusedSimpArgs false

/-- the address that is told: filled up with 0 -/
def addrL (l : List UInt8) : List UInt8 := restL l ++ List.replicate (famN (decF l) - (restL l).length) 0
theorem zeros_drop (m r : Nat) : (List.replicate m (Value.int .u8 0)).drop r = bytesV (List.replicate (m - r) 0) := by
  simp [bytesV]

/-- the new block holds the address -/
theorem addr_rd {W : World} {l : List UInt8} {m r g : Nat} {zs : List Value} {new : Array Value} {T : TypeId} (hm : famN (decF l) = m) (hr : (restL l).length = r) (hrm : r ≤ m) (hm16 : m ≤ 16) (hz : zs = List.replicate m (Value.int .u8 0))
    (hnew : (List.map (fun b : UInt8 => Value.int .u8 (b.toNat : Int)) (restL l) ++ List.drop r zs).toArray = new) (hg : g = W.heap.size) :
    Rd u8R (W.alloc (.cells new T)) (W.alloc (.cells new T)).heap.size (some ⟨g, 0, none⟩) m m (addrL l) := by
  have hlen : (addrL l).length = m := by unfold addrL; rw [List.length_append, List.length_replicate, hm, hr]; omega
  have := rd_of_blk (addrL l) (Blk.new' (w := W) T new hg) (by
    subst hnew hz
    rw [zeros_drop]
    simp [addrL, hm, hr, bytesV]) (by omega)
  rwa [hlen] at this

set_option maxRecDepth 100000 in
set_option maxHeartbeats 8000000 in
theorem Decode_ok (w : World) (b o n c : Nat) (l : List UInt8) (h : Rd u8R w w.heap.size (some ⟨b, o, none⟩) n c l) (hn : 4 ≤ n) (hk : SOk (decF l) (decS l) (decC l) (famN (decF l))) (hr : RestOk l) :
    Calls Try.prog 26 #[.slice (some ⟨b, o, none⟩) n c] w fun e w' => ∃ A' m' c', e = .returned (.tuple #[subnetV (decF l) (decS l) (decC l) A' m' c', .nilIface]) ∧ m' = famN (decF l) ∧ Rd u8R w' w'.heap.size A' m' c' (addrL l) ∧ Below w.heap.size w w' := by
  have HR := hid hr
  clear hr
  obtain ⟨r, rfl⟩ : ∃ r, n = r + 4 := ⟨n - 4, by omega⟩
  have hcap := h.cap
  obtain ⟨q, rfl⟩ : ∃ q, c = q + 4 := ⟨c - 4, by omega⟩
  have hmax := h.max
  unfold maxLen at hmax
  obtain ⟨x0, hx0, c0, k0, lb⟩ := h.byte 0 (by omega)
  obtain ⟨x1, hx1, c1, k1, _⟩ := h.byte 1 (by omega)
  obtain ⟨x2, hx2, c2, k2, _⟩ := h.byte 2 (by omega)
  obtain ⟨x3, hx3, c3, k3, _⟩ := h.byte 3 (by omega)
  rw [Nat.add_zero] at c0
  have hF : decF l = (x0.toNat : Int) * 256 + (x1.toNat : Int) := by unfold decF; rw [hx0, hx1]
  have hS : decS l = (x2.toNat : Int) := by unfold decS; rw [hx2]
  have hC : decC l = (x3.toNat : Int) := by unfold decC; rw [hx3]
  have hR5 := h.drop (k := 4) (by omega)
  simp only [Nat.add_sub_cancel] at hR5
  have hlen := h.len
  have R5 := hid hR5
  have HL := hid hlen
  clear h hx0 hx1 hx2 hx3 hlen hR5
  have p0 : (0 : Int) ≤ (x0.toNat : Int) := by omega
  have p1 : (0 : Int) ≤ (x1.toNat : Int) := by omega
  have p2 : (0 : Int) ≤ (x2.toNat : Int) := by omega
  have p3 : (0 : Int) ≤ (x3.toNat : Int) := by omega
  have two := two_or x0 x1
  generalize (x0.toNat : Int) = y0 at *
  generalize (x1.toNat : Int) = y1 at *
  generalize (x2.toNat : Int) = y2 at *
  generalize (x3.toNat : Int) = y3 at *
  have p4 : 0 ≤ y0 * 256 + y1 := by omega
  have p5 : y0 * 256 + y1 ≤ 65535 := by omega
  rw [hF, hS, hC] at hk
  generalize y0 * 256 + y1 = F at *
  have HF := hid hF
  have HS := hid hS
  have HC := hid hC
  clear hF hS hC
  have v0 : IntKind.i64.wrap y0 = y0 := IntWalk.i64_in _ (by omega)
  have v01 : IntKind.i64.wrap (y0 * 256) = y0 * 256 := IntWalk.i64_in _ (by omega)
  have v1 : IntKind.i64.wrap y1 = y1 := IntWalk.i64_in _ (by omega)
  have v2 : IntKind.i64.wrap y2 = y2 := IntWalk.i64_in _ (by omega)
  have v3 : IntKind.i64.wrap y3 = y3 := IntWalk.i64_in _ (by omega)
  have j0 : (0 : Int) < (r : Int) + 4 := by omega
  have j1 : (1 : Int) < (r : Int) + 4 := by omega
  have j2 : (2 : Int) < (r : Int) + 4 := by omega
  have j3 : (3 : Int) < (r : Int) + 4 := by omega
  obtain ⟨m, hm, hfam, hm', s1, sc1⟩ := fam_size hk
  have HFAM := hid hfam
  have CS := hid (size_is F m hm)
  have lenR : (restL l).length = r := by unfold restL; rw [List.length_drop, HL.out]; omega
  clear hk hm hfam
  obtain ⟨k, hkk⟩ : ∃ k, sentN y2 = k := ⟨_, rfl⟩
  have q1 : IntKind.i64.wrap (y2 + 7) = y2 + 7 := IntWalk.i64_in _ (by omega)
  have q2 : (y2 + 7) / 8 = (k : Int) := by unfold sentN at hkk; omega
  have hrk : r = k := by have := HR.out.1; rw [lenR, HS.out, hkk] at this; exact this
  have e : ((r : Int) != (k : Int)) = false := by simp [hrk]
  have hd : decide (restL l = maskL (restL l) y2) = true := decide_eq_true (by have := HR.out.2; rwa [HS.out] at this)
  have HD := hid hd
  have hkm : (k : Int) ≤ m := by unfold sentN at hkk; omega
  have hrm : (r : Int) ≤ m := by omega
  have HLR := hid lenR
  clear hkk HR HL hd hrk lenR hkm
  have hmm : ∃ (M : Nat) (Z : Array Value), m = (M : Int) ∧ M ≤ 16 ∧ Z.size = M ∧ Z.toList = List.replicate M (Value.int .u8 0) ∧ ∀ w, (Instr.makeSlice 22 (.int .i64 m) (.int .i64 m)).run Try.prog w = .ok (.slice (some ⟨w.heap.size, 0, none⟩) M M) (w.alloc (.cells Z 5)) := by
    rcases hm' with rfl | rfl
    · exact ⟨4, #[.int .u8 0, .int .u8 0, .int .u8 0, .int .u8 0], rfl, by decide, rfl, rfl, fun _ => by kernel_rfl⟩
    · exact ⟨16, #[.int .u8 0, .int .u8 0, .int .u8 0, .int .u8 0, .int .u8 0, .int .u8 0, .int .u8 0, .int .u8 0, .int .u8 0, .int .u8 0, .int .u8 0, .int .u8 0, .int .u8 0, .int .u8 0, .int .u8 0, .int .u8 0], rfl, by decide, rfl, rfl, fun _ => by kernel_rfl⟩
  obtain ⟨M, Z, hmM, hM16, hZ, hZL, hmk⟩ := hmm
  have m4 : 4 ≤ m := by omega
  have m16 : m ≤ 16 := by omega
  have m0 : (m == 0) = false := by rw [beq_eq_false_iff_ne]; omega
  have hrM : r ≤ M := by omega
  have HFAM := hid (show famN F = M by have := HFAM.out; omega)
  have HZ := hid hZ
  have HZL := hid hZL
  clear hm' hmM hZ hZL hrm
  have tk1 : True := trivial
  by_cases hq : q = 0
  · obtain rfl : r = 0 := by omega
    subst hq
    have hR5 : Rd u8R w w.heap.size (some ⟨b, o, none⟩) 0 0 (restL l) := by
      have : restL l = [] := List.eq_nil_of_length_eq_zero HLR.out
      rw [this]
      exact ⟨rfl, Nat.le_refl _, by simp [maxLen], by simp, fun e => (by cases e), fun i hi => by simp at hi⟩
    have CM := hid fun w' (hb : Below w.heap.size w w') => mask_rd w' _ _ _ _ _ (hR5.below hb) y2 (by omega) (by omega)
    have R5 := hid hR5
    clear hn hcap hmax j0 j1 j2 j3 hR5
    simp only [Nat.zero_add]
    rw [Int.natCast_zero] at e
    go_enter Try.func26, Try.ntmps26
    go_wp2_with fail
    go_region_held3 (fun w' => w'.cell? ⟨b, o, none⟩ = some (.int .u8 y0) ∧ w'.cell? ⟨b, o + 1, none⟩ = some (.int .u8 y1) ∧ w'.cell? ⟨b, o + 2, none⟩ = some (.int .u8 y2) ∧ w'.cell? ⟨b, o + 3, none⟩ = some (.int .u8 y3)) (go_keep) (fail)
    all_goals
      clear v0 v01 v1 v2 v3 two
      go_wp2_with (first
        | (go_at_call 53; refine (CS.out _).mono ?_; rintro e w1 ⟨rfl, rfl⟩)
        | (go_at_call 52; have _t := tk1; refine (CM.out _ (by (repeat' (first | (with_reducible exact Below.refl _ _) | (with_reducible assumption) | (with_reducible refine below_ext0 ?_ _ _) | (with_reducible refine below_alloc0 ?_ _) | (with_reducible refine Below.ext ?_ ?_ _ _) | (with_reducible refine Below.alloc ?_ ?_ _) | (with_reducible refine Below.setCell ?_ ?_ _) | (with_reducible refine Below.drew ?_) | (with_reducible refine below_draws ?_ _) | go_size | (simp [size_ext]; done) | (simp [size_ext]; omega))))).mono ?_; rintro e w1 ⟨Atk1, ctk1, rfl, hr, hb⟩; obtain ⟨otk1, dtk1, rfl⟩ := ext_of_below hb; (try simp only [ext_drew, ext_drewN] at hr); have R6 := hid hr; clear hr; clear hb tk1)
        | (go_at_call 54; refine (equal_bytes _ _ _ _ _ _ (R5.out.below (by (repeat' (first | (with_reducible exact Below.refl _ _) | (with_reducible assumption) | (with_reducible refine below_ext0 ?_ _ _) | (with_reducible refine below_alloc0 ?_ _) | (with_reducible refine Below.ext ?_ ?_ _ _) | (with_reducible refine Below.alloc ?_ ?_ _) | (with_reducible refine Below.setCell ?_ ?_ _) | (with_reducible refine Below.drew ?_) | (with_reducible refine below_draws ?_ _) | go_size | (simp [size_ext]; done) | (simp [size_ext]; omega))))) _ _ _ _ _ (R6.out.below (by (repeat' (first | (with_reducible exact Below.refl _ _) | (with_reducible assumption) | (with_reducible refine below_ext0 ?_ _ _) | (with_reducible refine below_alloc0 ?_ _) | (with_reducible refine Below.ext ?_ ?_ _ _) | (with_reducible refine Below.alloc ?_ ?_ _) | (with_reducible refine Below.setCell ?_ ?_ _) | (with_reducible refine Below.drew ?_) | (with_reducible refine below_draws ?_ _) | go_size | (simp [size_ext]; done) | (simp [size_ext]; omega)))))).mono ?_; rw [HD.out]; rintro e w1 ⟨rfl, hb⟩; obtain ⟨otk2, dtk2, rfl⟩ := ext_of_below hb; clear hb)
        | (refine wpList_copy_new (o := ⟨some 78, _, _, _, _, _⟩) Z _ rfl (.tmp 76) (.tmp 77) 22 22 rfl 5 Try.underlying22 (by kernel_rfl) _ M M _ 0 0 rfl rfl (by simp [size_ext]) HZ.out _ ((R5.out.below (by (repeat' (first | (with_reducible exact Below.refl _ _) | (with_reducible assumption) | (with_reducible refine below_ext0 ?_ _ _) | (with_reducible refine below_alloc0 ?_ _) | (with_reducible refine Below.ext ?_ ?_ _ _) | (with_reducible refine Below.alloc ?_ ?_ _) | (with_reducible refine Below.setCell ?_ ?_ _) | (with_reducible refine Below.drew ?_) | (with_reducible refine below_draws ?_ _) | go_size | (simp [size_ext]; done) | (simp [size_ext]; omega))))).src_u8) hrM ?_; generalize hnew : (List.map (fun b => Value.int .u8 (b.toNat : Int)) (restL l) ++ List.drop 0 (Array.toList Z)).toArray = new; have HNEW := hid hnew; clear hnew))
      have HA := hid (fun (W : World) g hg => addr_rd (l := l) (W := W) (g := g) (T := 5) (by rw [HF.out]; exact HFAM.out) HLR.out hrM hM16 HZL.out HNEW.out hg)
      refine bodyPost_ret (v := .tuple #[subnetV F y2 y3 (some ⟨w.heap.size + 1 + 1 + otk1.size + otk2.size, 0, none⟩) M M, .nilIface]) (by simp [results, Try.results26, go_sem]) rfl ⟨_, _, _, by rw [HF.out, HS.out, HC.out], by rw [HF.out]; exact HFAM.out.symm, HA.out _ _ (by simp [size_ext]), ?_⟩
      (repeat' (first | (with_reducible exact Below.refl _ _) | (with_reducible assumption) | (with_reducible refine below_ext0 ?_ _ _) | (with_reducible refine below_alloc0 ?_ _) | (with_reducible refine Below.ext ?_ ?_ _ _) | (with_reducible refine Below.alloc ?_ ?_ _) | (with_reducible refine Below.setCell ?_ ?_ _) | (with_reducible refine Below.drew ?_) | (with_reducible refine below_draws ?_ _) | go_size | (simp [size_ext]; done) | (simp [size_ext]; omega)))
  · have R5' : Rd u8R w w.heap.size (some ⟨b, o + 4, none⟩) r q (restL l) := R5.out
    clear R5
    have R5 := hid R5'
    clear R5'
    have CM := hid fun w' (hb : Below w.heap.size w w') => mask_rd w' _ _ _ _ _ (R5.out.below hb) y2 (by omega) (by omega)
    go_enter Try.func26, Try.ntmps26
    go_wp2_with fail
    go_region_held3 (fun w' => w'.cell? ⟨b, o, none⟩ = some (.int .u8 y0) ∧ w'.cell? ⟨b, o + 1, none⟩ = some (.int .u8 y1) ∧ w'.cell? ⟨b, o + 2, none⟩ = some (.int .u8 y2) ∧ w'.cell? ⟨b, o + 3, none⟩ = some (.int .u8 y3)) (go_keep) (fail)
    all_goals
      clear v0 v01 v1 v2 v3 two
      go_wp2_with (first
        | (go_at_call 53; refine (CS.out _).mono ?_; rintro e w1 ⟨rfl, rfl⟩)
        | (go_at_call 52; have _t := tk1; refine (CM.out _ (by (repeat' (first | (with_reducible exact Below.refl _ _) | (with_reducible assumption) | (with_reducible refine below_ext0 ?_ _ _) | (with_reducible refine below_alloc0 ?_ _) | (with_reducible refine Below.ext ?_ ?_ _ _) | (with_reducible refine Below.alloc ?_ ?_ _) | (with_reducible refine Below.setCell ?_ ?_ _) | (with_reducible refine Below.drew ?_) | (with_reducible refine below_draws ?_ _) | go_size | (simp [size_ext]; done) | (simp [size_ext]; omega))))).mono ?_; rintro e w1 ⟨Atk1, ctk1, rfl, hr, hb⟩; obtain ⟨otk1, dtk1, rfl⟩ := ext_of_below hb; (try simp only [ext_drew, ext_drewN] at hr); have R6 := hid hr; clear hr; clear hb tk1)
        | (go_at_call 54; refine (equal_bytes _ _ _ _ _ _ (R5.out.below (by (repeat' (first | (with_reducible exact Below.refl _ _) | (with_reducible assumption) | (with_reducible refine below_ext0 ?_ _ _) | (with_reducible refine below_alloc0 ?_ _) | (with_reducible refine Below.ext ?_ ?_ _ _) | (with_reducible refine Below.alloc ?_ ?_ _) | (with_reducible refine Below.setCell ?_ ?_ _) | (with_reducible refine Below.drew ?_) | (with_reducible refine below_draws ?_ _) | go_size | (simp [size_ext]; done) | (simp [size_ext]; omega))))) _ _ _ _ _ (R6.out.below (by (repeat' (first | (with_reducible exact Below.refl _ _) | (with_reducible assumption) | (with_reducible refine below_ext0 ?_ _ _) | (with_reducible refine below_alloc0 ?_ _) | (with_reducible refine Below.ext ?_ ?_ _ _) | (with_reducible refine Below.alloc ?_ ?_ _) | (with_reducible refine Below.setCell ?_ ?_ _) | (with_reducible refine Below.drew ?_) | (with_reducible refine below_draws ?_ _) | go_size | (simp [size_ext]; done) | (simp [size_ext]; omega)))))).mono ?_; rw [HD.out]; rintro e w1 ⟨rfl, hb⟩; obtain ⟨otk2, dtk2, rfl⟩ := ext_of_below hb; clear hb)
        | (refine wpList_copy_new (o := ⟨some 78, _, _, _, _, _⟩) Z _ rfl (.tmp 76) (.tmp 77) 22 22 rfl 5 Try.underlying22 (by kernel_rfl) _ M M _ r q rfl rfl (by simp [size_ext]) HZ.out _ ((R5.out.below (by (repeat' (first | (with_reducible exact Below.refl _ _) | (with_reducible assumption) | (with_reducible refine below_ext0 ?_ _ _) | (with_reducible refine below_alloc0 ?_ _) | (with_reducible refine Below.ext ?_ ?_ _ _) | (with_reducible refine Below.alloc ?_ ?_ _) | (with_reducible refine Below.setCell ?_ ?_ _) | (with_reducible refine Below.drew ?_) | (with_reducible refine below_draws ?_ _) | go_size | (simp [size_ext]; done) | (simp [size_ext]; omega))))).src_u8) hrM ?_; generalize hnew : (List.map (fun b => Value.int .u8 (b.toNat : Int)) (restL l) ++ List.drop r (Array.toList Z)).toArray = new; have HNEW := hid hnew; clear hnew))
      have HA := hid (fun (W : World) g hg => addr_rd (l := l) (W := W) (g := g) (T := 5) (by rw [HF.out]; exact HFAM.out) HLR.out hrM hM16 HZL.out HNEW.out hg)
      refine bodyPost_ret (v := .tuple #[subnetV F y2 y3 (some ⟨w.heap.size + 1 + 1 + otk1.size + otk2.size, 0, none⟩) M M, .nilIface]) (by simp [results, Try.results26, go_sem]) rfl ⟨_, _, _, by rw [HF.out, HS.out, HC.out], by rw [HF.out]; exact HFAM.out.symm, HA.out _ _ (by simp [size_ext]), ?_⟩
      (repeat' (first | (with_reducible exact Below.refl _ _) | (with_reducible assumption) | (with_reducible refine below_ext0 ?_ _ _) | (with_reducible refine below_alloc0 ?_ _) | (with_reducible refine Below.ext ?_ ?_ _ _) | (with_reducible refine Below.alloc ?_ ?_ _) | (with_reducible refine Below.setCell ?_ ?_ _) | (with_reducible refine Below.drew ?_) | (with_reducible refine below_draws ?_ _) | go_size | (simp [size_ext]; done) | (simp [size_ext]; omega)))
end Go.Proofs.Ytkdfiedemhjjjaa
