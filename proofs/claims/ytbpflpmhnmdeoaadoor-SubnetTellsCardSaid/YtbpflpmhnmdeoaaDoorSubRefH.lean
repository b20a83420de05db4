/- The document's answers of subnets: SubnetOf, of numbers that may be. -/
import Derived.Test.YtbpflpmhnmdeoaaDoorSubRefG
import Derived.Deep.DeepCutAuto
import Derived.Deep.CutBlock
namespace Go.Proofs.YtbpflpmhnmdeoaaDoor
open Go.RowKit
set_option linter.unusedVariables false
set_option linter.unusedSimpArgs false

set_option maxRecDepth 100000 in
set_option maxHeartbeats 4000000 in
theorem subof_main {w : World} {b o n c : Nat} {l : List UInt8} (hM : Rd u8R w w.heap.size (some ⟨b, o, none⟩) n c l) (hn : 4 ≤ n) (hk : SOk (decF l) (decS l) (decC l) (famN (decF l))) :
    Calls Tryd.prog 29 #[.slice (some ⟨b, o, none⟩) n c] w fun e w' => ((RestOk l → ∃ A' c', e = .returned (.tuple #[subnetV (decF l) (decS l) (decC l) A' (famN (decF l)) c', .int .i64 0]) ∧ Rd u8R w' w'.heap.size A' (famN (decF l)) c' (addrL l)) ∧ (¬ RestOk l → e = .returned (.tuple #[subnetV 0 0 0 none 0 0, .int .i64 1]))) ∧ Below w.heap.size w w' := by
  have hcap := hM.cap
  have hlim := hM.lim
  simp only [u8R, Nat.mul_one] at hlim
  have hlen := hM.len
  obtain ⟨x2, hx2, c2, k2, lb⟩ := hM.byte 2 (by omega)
  obtain ⟨x3, hx3, c3, k3, _⟩ := hM.byte 3 (by omega)
  have hS : decS l = (x2.toNat : Int) := by unfold decS; rw [hx2]
  have hC : decC l = (x3.toNat : Int) := by unfold decC; rw [hx3]
  obtain ⟨F, hF⟩ : ∃ F, decF l = F := ⟨_, rfl⟩
  have CP := hid fun w' (hb : Below w.heap.size w w') => spair_at (hM.later hb) hn hF
  have hrl : (restL l).length = l.length - 4 := by unfold restL; rw [List.length_drop]
  have HM := hid hM
  have hsub := sub_again l (by omega) hk
  have hadr := layL_addr l hk
  rw [hF, hS, hC] at hk hsub
  rw [hF] at hadr
  obtain ⟨m, hm, hfam, hm', s1, sc1⟩ := fam_size hk
  have s0 : (0 : Int) ≤ (x2.toNat : Int) := by omega
  have s3 : (0 : Int) ≤ (x3.toNat : Int) := by omega
  have CW := hid (wide_is F m hm)
  have hmm : ∃ (M : Nat) (Z : Array Value), m = (M : Int) ∧ M ≤ 16 ∧ Z.size = M ∧ Z.toList = List.replicate M (Value.int .u8 0) ∧ ∀ w, (Instr.makeSlice 44 (.int .i64 m) (.int .i64 m)).run Tryd.prog w = .ok (.slice (some ⟨w.heap.size, 0, none⟩) M M) (w.alloc (.cells Z 5)) := by
    rcases hm' with rfl | rfl
    · exact ⟨4, #[.int .u8 0, .int .u8 0, .int .u8 0, .int .u8 0], rfl, by decide, rfl, rfl, fun _ => by kernel_rfl⟩
    · exact ⟨16, #[.int .u8 0, .int .u8 0, .int .u8 0, .int .u8 0, .int .u8 0, .int .u8 0, .int .u8 0, .int .u8 0, .int .u8 0, .int .u8 0, .int .u8 0, .int .u8 0, .int .u8 0, .int .u8 0, .int .u8 0, .int .u8 0], rfl, by decide, rfl, rfl, fun _ => by kernel_rfl⟩
  obtain ⟨M, Z, hmM, hM16, hZ, hZL, hmk⟩ := hmm
  subst hmM
  have m0 : ((M : Int) == 0) = false := by rw [beq_eq_false_iff_ne]; omega
  have hfM : famN F = M := by omega
  rw [hfM] at hk hsub hadr
  have HFAM := hid hfM
  have HSUB := hid hsub
  have HADR := hid hadr
  have HK2 := hid hk
  clear hfM hsub hadr
  have HZ := hid (And.intro hZ hZL)
  have HSC := hid (And.intro hS (And.intro hC hF))
  have m1 : (M : Int) ≤ 16 := by omega
  have m2 : 4 ≤ (M : Int) := by omega
  clear hM hx2 hx3 hk hS hC hF hm hfam hm' hZ hZL
  generalize (x2.toNat : Int) = y2 at *
  generalize (x3.toNat : Int) = y3 at *
  have v2 : IntKind.i64.wrap y2 = y2 := IntWalk.i64_in _ (by omega)
  have v3 : IntKind.i64.wrap y3 = y3 := IntWalk.i64_in _ (by omega)
  have v8 : IntKind.i64.wrap (8 * (M : Int)) = 8 * (M : Int) := IntWalk.i64_in _ (by omega)
  have j2 : (2 : Int) < (n : Int) := by omega
  have j3 : (3 : Int) < (n : Int) := by omega
  have j4 : 2 < n := by omega
  have j5 : 3 < n := by omega
  have h0 : ¬ (n : Int) < 4 := by omega
  have h1 : decide ((n : Int) < 4) = false := decide_eq_false h0
  have p0 : ¬ 8 * (M : Int) < y2 := by omega
  have p1 : decide (8 * (M : Int) < y2) = false := decide_eq_false p0
  have p2 : ¬ 8 * (M : Int) < y3 := by omega
  have p3 : decide (8 * (M : Int) < y3) = false := decide_eq_false p2
  have tk0 : True := trivial; have tk1 : True := trivial; have tk2 : True := trivial; have tk3 : True := trivial; have tk4 : True := trivial; have tk5 : True := trivial; have tk6 : True := trivial; have tk7 : True := trivial; have tk8 : True := trivial; have tk9 : True := trivial; have tk10 : True := trivial; have tk11 : True := trivial; have tk12 : True := trivial
  go_enter Tryd.func29, Tryd.ntmps29
  go_upto_region 3 with fail
  go_cut [4] (fun s4 wx => ∃ G : Nat, s4 = .pointer (some ⟨G, 0, none⟩) ∧ w.heap.size < G ∧ Blk wx G 56 #[.int .i64 F, .int .i64 y2, .int .i64 y3, .slice none 0 0] ∧ Blk wx w.heap.size 56 #[.int .i64 0, .int .i64 0, .int .i64 0, .slice none 0 0] ∧ Below w.heap.size w wx)
  case first =>
    go_region_held3 (fun w' => w'.cell? ⟨b, o + 2, none⟩ = some (.int .u8 y2) ∧ w'.cell? ⟨b, o + 3, none⟩ = some (.int .u8 y3)) (((try dsimp only); (repeat' apply And.intro) <;> (first | assumption | (go_simp; done)))) (first
      | (go_at_call 42; have _t := tk1; (with_reducible refine (CP.out _ (by (repeat' (first | (with_reducible exact Below.refl _ _) | (with_reducible assumption) | (with_reducible refine below_ext0 ?_ _ _) | (with_reducible refine below_alloc0 ?_ _) | (with_reducible refine Below.ext ?_ ?_ _ _) | (with_reducible refine Below.alloc ?_ ?_ _) | (with_reducible refine Below.setCell ?_ ?_ _) | (with_reducible refine Below.drew ?_) | (with_reducible refine below_draws ?_ _) | go_size | (simp [size_ext]; done) | (simp [size_ext]; omega))))).mono ?_); rintro e w1 ⟨rfl, hb⟩; obtain ⟨otk1, dtk1, rfl⟩ := ext_of_below hb; clear hb tk1))
    all_goals
      go_wp2_with fail
      go_meet
      exact ⟨_, rfl, (by first | omega | (simp [size_ext]; done) | (simp [size_ext]; omega)), (by (repeat' (first | (with_reducible assumption) | ((with_reducible refine Blk.new' _ _ ?_); (first | (simp [size_ext]; done) | (simp [size_ext]; omega))) | (with_reducible refine Blk.ext ?_ _ _) | (with_reducible refine Blk.drew ?_) | (with_reducible refine Blk.alloc ?_ _)))), (by (repeat' (first | (with_reducible assumption) | ((with_reducible refine Blk.new' _ _ ?_); (first | (simp [size_ext]; done) | (simp [size_ext]; omega))) | (with_reducible refine Blk.ext ?_ _ _) | (with_reducible refine Blk.drew ?_) | (with_reducible refine Blk.alloc ?_ _)))), (by (repeat' (first | (with_reducible exact Below.refl _ _) | (with_reducible assumption) | (with_reducible refine below_ext0 ?_ _ _) | (with_reducible refine below_alloc0 ?_ _) | (with_reducible refine Below.ext ?_ ?_ _ _) | (with_reducible refine Below.alloc ?_ ?_ _) | (with_reducible refine Below.setCell ?_ ?_ _) | (with_reducible refine Below.drew ?_) | (with_reducible refine below_draws ?_ _) | go_size | (simp [size_ext]; done) | (simp [size_ext]; omega))))⟩
  case rest =>
    obtain ⟨G, rfl, gG, ks0, kr0, hl0⟩ := hcut
    have KR0 := hid kr0
    have KS0 := hid ks0
    have HL0 := hid hl0
    have Glt := ks0.lt
    have e0 : wc.cell? ⟨G, 0, none⟩ = some (.int .i64 F) := ks0.cell 0
    have e1 : wc.cell? ⟨G, 1, none⟩ = some (.int .i64 y2) := ks0.cell 1
    have e2 : wc.cell? ⟨G, 2, none⟩ = some (.int .i64 y3) := ks0.cell 2
    have e3 : wc.cell? ⟨G, 3, none⟩ = some (.slice none 0 0) := ks0.cell 3
    have f3 : wc.frozen? ⟨G, 3, none⟩ = false := ks0.frozen 3
    clear ks0 kr0 hl0
    go_upto_block 0 with (go_at_call 38; (with_reducible refine (CW.out _).mono ?_); rintro e w1 ⟨rfl, hw⟩; subst w1)
    obtain ⟨g, hg⟩ : ∃ g, wc.heap.size = g := ⟨_, rfl⟩
    rw [hg] at Glt
    rw [hg]
    go_cut [6] (fun s6 wx => ∃ (i : Nat) (arr : Array Value), ((i = (restL l).length ∧ i ≤ M) ∨ (i = M ∧ M ≤ (restL l).length)) ∧ arr.toList = bytesV ((restL l).take i ++ List.replicate (M - i) 0) ∧ Blk wx g 5 arr ∧ Blk wx w.heap.size 56 #[.int .i64 0, .int .i64 0, .int .i64 0, .slice none 0 0] ∧ Blk wx G 56 #[.int .i64 F, .int .i64 y2, .int .i64 y3, .slice (some ⟨g, 0, none⟩) M M] ∧ Below w.heap.size w wx)
    case first =>
      have S0 := hid (show Blk ((wc.setCell ⟨G, 3, none⟩ (.slice (some ⟨g, 0, none⟩) M M)).alloc (.cells Z 5)) G 56 #[.int .i64 F, .int .i64 y2, .int .i64 y3, .slice (some ⟨g, 0, none⟩) M M] from by have := (KS0.out.set 3 (.slice (some ⟨g, 0, none⟩) M M)).alloc (.cells Z 5); simpa using this)
      have R0 := hid (Blk.alloc (KR0.out.far (p := ⟨G, 3, none⟩) (by simp only; omega) (.slice (some ⟨g, 0, none⟩) M M)) (.cells Z 5))
      have G0 := hid (Blk.new' (w := wc.setCell ⟨G, 3, none⟩ (.slice (some ⟨g, 0, none⟩) M M)) 5 Z (by simp; exact hg.symm))
      have L0 := hid (Below.alloc (Below.setCell HL0.out (p := ⟨G, 3, none⟩) (by simp only; omega) (.slice (some ⟨g, 0, none⟩) M M)) (by simp; have := HL0.out.size; exact this) (.cells Z 5) : Below w.heap.size w _)
      clear hg e0 e1 e2 e3 f3
      go_wp2_with fail
      go_loopg [6] M (fun gk v6 wi => ∃ i : Nat, i ≤ M ∧ i + 4 ≤ n ∧ gk = M - i ∧ v6 = .int .i64 ((i : Int) + 4) ∧ (∃ arr : Array Value, arr.toList = bytesV ((restL l).take i ++ List.replicate (M - i) 0) ∧ Blk wi g 5 arr) ∧ Blk wi w.heap.size 56 #[.int .i64 0, .int .i64 0, .int .i64 0, .slice none 0 0] ∧ Blk wi G 56 #[.int .i64 F, .int .i64 y2, .int .i64 y3, .slice (some ⟨g, 0, none⟩) M M] ∧ Below w.heap.size w wi)
      case atStart => exact ⟨0, Nat.zero_le _, by omega, by omega, rfl, ⟨Z, by rw [HZ.out.2]; simp [bytesV], G0.out⟩, R0.out, S0.out, L0.out⟩
      case round =>
        obtain ⟨i, hi, hi4, rfl, rfl, ⟨arr, harr, kz⟩, kr, ks, hlow⟩ := hrel
        have KZ := hid kz
        have KR := hid kr
        have KS := hid ks
        have HARR := hid harr
        have HLOW := hid hlow
        have e3 : wr.cell? ⟨G, 3, none⟩ = some (.slice (some ⟨g, 0, none⟩) M M) := ks.cell 3
        have zw := hlow.size
        clear kr ks harr hlow G0 S0 R0 L0
        have w4 : IntKind.i64.wrap ((i : Int) + 4 - 4) = (i : Int) := by rw [Int.add_sub_cancel]; exact IntWalk.i64_in _ (by omega)
        have w5 : IntKind.i64.wrap (i : Int) = (i : Int) := IntWalk.i64_in _ (by omega)
        by_cases h4n : i + 4 < n
        · have a0 : (i : Int) + 4 < (n : Int) := by omega
          have a1 : decide ((i : Int) + 4 < (n : Int)) = true := decide_eq_true a0
          by_cases hiM : i < M
          · have a2 : (i : Int) < (M : Int) := by omega
            have a3 : decide ((i : Int) < (M : Int)) = true := decide_eq_true a2
            obtain ⟨x, hx, cx, _, _⟩ := (HM.out.later HLOW.out).byte (i + 4) h4n
            have a4 : (i : Int) < (M : Int) := by omega
            have a5 : ((i : Int) + 4).toNat = i + 4 := by omega
            have cz : ∃ u, wr.cell? ⟨g, i, none⟩ = some u := by
              have := kz.cell i
              have hsz : arr.size = M := by rw [← Array.length_toList, HARR.out]; simp [bytesV]; omega
              exact ⟨_, by rw [this, Array.getElem?_eq_getElem (by omega)]⟩
            obtain ⟨u, cz⟩ := cz
            have fz : wr.frozen? ⟨g, i, none⟩ = false := kz.frozen i
            have hxr : (restL l)[i]? = some x := by
              rw [List.getD_eq_getElem?_getD] at hx
              unfold restL
              rw [List.getElem?_drop, Nat.add_comm 4 i]
              have hil : i + 4 < l.length := by omega
              rw [List.getElem?_eq_getElem hil] at hx ⊢
              exact congrArg some hx
            have HST := hid (lay_step (restL l) M i x hiM hxr)
            clear hx hxr kz
            go_wp2_with fail
            have a6 : (0 : Int) ≤ (i : Int) + 4 := by omega
            have a7 : (0 : Int) ≤ (i : Int) := by omega
            have a8 : ((i : Int) + 4).toNat < n := by omega
            have a9 : (i : Int).toNat < M := by omega
            go_region
            have w6 : IntKind.i64.wrap ((i : Int) + 4 + 1) = (i : Int) + 5 := by rw [Int.add_assoc]; exact IntWalk.i64_in _ (by omega)
            clear a0 a1 a2 a3 a4 a5 a6 a7 a8 a9
            go_wp2
            go_roundg (M - (i + 1))
            case measure => omega
            case rel =>
              refine ⟨i + 1, by omega, by omega, rfl, (by first | rfl | (congr 1; push_cast; omega)), ⟨_, ?_, (KZ.out.set i _).drew⟩, (KR.out.far (by simp; omega) _).drew, (KS.out.far (by simp; omega) _).drew, Below.drew (Below.setCell HLOW.out (by simp; omega) _)⟩
              rw [Array.toList_setIfInBounds, HARR.out]
              exact HST.out
          · have hiM2 : i = M := by omega
            have HLD := hid (show (i = (restL l).length ∧ i ≤ M) ∨ (i = M ∧ M ≤ (restL l).length) by rw [hrl]; omega)
            have a2 : ¬ (i : Int) < (M : Int) := by omega
            have a3 : decide ((i : Int) < (M : Int)) = false := decide_eq_false a2
            clear hiM2
            go_wp2_with fail
            go_meet
            exact ⟨i, arr, HLD.out, HARR.out, KZ.out, KR.out, KS.out, HLOW.out⟩
        · have HLD := hid (show (i = (restL l).length ∧ i ≤ M) ∨ (i = M ∧ M ≤ (restL l).length) by rw [hrl]; omega)
          have a0 : ¬ (i : Int) + 4 < (n : Int) := by omega
          have a1 : decide ((i : Int) + 4 < (n : Int)) = false := decide_eq_false a0
          go_wp2_with fail
          go_meet
          exact ⟨i, arr, HLD.out, HARR.out, KZ.out, KR.out, KS.out, HLOW.out⟩
    case rest =>
      obtain ⟨i, arr, hld, harr, kz, kr, ks, hlow⟩ := hcut
      have hrz : arr.toList = bytesV (layL l M) := by rw [harr, lay_done l M i hld]
      have RZ := rd_of_blk (layL l M) kz hrz (by rw [layL_len]; omega)
      rw [layL_len] at RZ
      have CB := sbytes_any RZ HK2.out
      obtain ⟨Ag, hAg⟩ : ∃ Ag, encL F y2 y3 (layL l M) = Ag := ⟨_, rfl⟩
      have hsub := HSUB.out
      rw [hAg] at CB hsub
      have CB' := hid CB
      have HS := hid hsub
      have HRZ := hid hrz
      have gz := kz.lt
      have KZ := hid kz
      have KR := hid kr
      have KS := hid ks
      have HLOW := hid hlow
      have t0 : wc.cell? ⟨G, 0, none⟩ = some (.int .i64 F) := ks.cell 0
      have t1 : wc.cell? ⟨G, 1, none⟩ = some (.int .i64 y2) := ks.cell 1
      have t2 : wc.cell? ⟨G, 2, none⟩ = some (.int .i64 y3) := ks.cell 2
      have t3 : wc.cell? ⟨G, 3, none⟩ = some (.slice (some ⟨g, 0, none⟩) M M) := ks.cell 3
      have zwc := hlow.size
      clear RZ CB hsub hAg hrz kz kr ks hlow harr hld hg e0 e1 e2 e3 f3
      go_upto_block 2 with (go_at_call 25; (with_reducible refine CB'.out.mono ?_); rintro e w9 ⟨A9, m9, c9, rfl, hr9, hb9⟩; have HR9 := hid hr9; have KR9 := hid (KR.out.below hb9 (by omega)); have KS9 := hid (KS.out.below hb9 (by omega)); have KZ9 := hid (KZ.out.below hb9 gz); have HM9 := hid (HM.out.later (HLOW.out.trans (hb9.mono (by omega)))); have HL9 := hid (HLOW.out.trans (hb9.mono (by omega)) : Below w.heap.size w w9); have z9 := hb9.size; clear hr9 hb9)
      clear t0 t1 t2 t3
      obtain ⟨eb, heb⟩ : ∃ x, ((m9 : Int) == (n : Int)) = x := ⟨_, rfl⟩
      rw [heb]
      have HEB := hid (show eb = true ↔ m9 = n by rw [← heb, beq_iff_eq]; omega)
      clear heb
      go_cut [8] (fun s8 wx => ∃ sm : Bool, s8 = .bool sm ∧ (sm = true ↔ Ag = l) ∧ Below w9.heap.size w9 wx)
      case first =>
        have agl := HR9.out.len
        have AGL := hid agl
        clear agl
        go_wp2_with fail
        go_loopg [8, 9] n (fun gk v8 v9 wi => ∃ (j : Nat) (sm : Bool), j ≤ n ∧ gk = n - j ∧ v8 = .bool sm ∧ v9 = .int .i64 (j : Int) ∧ (sm = true ↔ m9 = n ∧ Ag.take j = l.take j) ∧ Below w9.heap.size w9 wi)
        case atStart => exact ⟨0, eb, Nat.zero_le _, rfl, rfl, rfl, by rw [HEB.out]; simp, Below.refl _ _⟩
        case round =>
          obtain ⟨j, sm, hj, rfl, rfl, rfl, hsm, hbi⟩ := hrel
          have HSM := hid hsm
          have HBI := hid hbi
          clear hsm hbi
          cases sm with
          | false =>
            have HNE := hid (show (false = true ↔ Ag = l) from ⟨fun h => (by cases h), fun e => by
              have h1 := AGL.out
              rw [e] at h1
              exact HSM.out.2 ⟨by omega, by rw [e]⟩⟩)
            by_cases hjn : j < n
            · have d0 : (j : Int) < (n : Int) := by omega
              have d1 : decide ((j : Int) < (n : Int)) = true := decide_eq_true d0
              go_wp2_with fail
              go_meet
              exact ⟨false, rfl, HNE.out, HBI.out⟩
            · have d0 : ¬ (j : Int) < (n : Int) := by omega
              have d1 : decide ((j : Int) < (n : Int)) = false := decide_eq_false d0
              go_wp2_with fail
              go_meet
              exact ⟨false, rfl, HNE.out, HBI.out⟩
          | true =>
            obtain ⟨hmn, htk⟩ := HSM.out.1 rfl
            have u1 : m9 ≤ n := by omega
            have u2 : n ≤ m9 := by omega
            have HMN := hid hmn
            clear hmn
            by_cases hjn : j < n
            · have d0 : (j : Int) < (n : Int) := by omega
              have d1 : decide ((j : Int) < (n : Int)) = true := decide_eq_true d0
              have d3 : (j : Int) < (m9 : Int) := by omega
              have d4 : j < m9 := by omega
              obtain ⟨b9, o9, rfl, lb9⟩ := HR9.out.addr (by omega)
              obtain ⟨x, hx, cx, kx, _⟩ := (HR9.out.later HBI.out).byte j d4
              obtain ⟨y, hy, cy, ky, _⟩ := (HM9.out.later HBI.out).byte j hjn
              have HT := hid (take_next hx hy (by have := AGL.out; omega) (by omega) htk)
              clear hx hy htk
              have d2 : (0 : Int) ≤ (j : Int) := by omega
              have d5 : IntKind.i64.wrap ((j : Int) + 1) = (j : Int) + 1 := IntWalk.i64_in _ (by omega)
              by_cases hxy : x = y
              · have q : ((x.toNat : Int) == (y.toNat : Int)) = true := by rw [hxy]; simp
                have HXY := hid hxy
                clear hxy
                go_wp2_with fail
                go_region
                go_wp2
                go_roundg (n - (j + 1))
                case measure => omega
                case rel => exact ⟨j + 1, true, by omega, rfl, rfl, by first | rfl | go_num, ⟨fun _ => ⟨HMN.out, HT.out.2 HXY.out⟩, fun _ => rfl⟩, HBI.out.drew⟩
              · have q : ((x.toNat : Int) == (y.toNat : Int)) = false := by
                  rw [beq_eq_false_iff_ne]
                  intro h
                  exact hxy (UInt8.toNat_inj.1 (by omega))
                have HXY := hid hxy
                clear hxy
                go_wp2_with fail
                go_region
                go_wp2
                go_roundg (n - (j + 1))
                case measure => omega
                case rel => exact ⟨j + 1, false, by omega, rfl, rfl, by first | rfl | go_num, ⟨fun h => (by cases h), fun h => absurd (HT.out.1 h.2) HXY.out⟩, HBI.out.drew⟩
            · have d0 : ¬ (j : Int) < (n : Int) := by omega
              have d1 : decide ((j : Int) < (n : Int)) = false := decide_eq_false d0
              have hjn2 : j = n := by omega
              have hagl : Ag = l := (by
                have h1 := AGL.out
                rwa [hjn2, List.take_of_length_le (by omega), List.take_of_length_le (by omega)] at htk)
              have HAG := hid hagl
              clear htk hagl hjn2
              go_wp2_with fail
              go_meet
              exact ⟨true, rfl, ⟨fun _ => HAG.out, fun _ => rfl⟩, HBI.out⟩
      case rest =>
        obtain ⟨sm, rfl, hsm, hbi⟩ := hcut
        have HSM := hid hsm
        have HBI := hid hbi
        clear hsm hbi
        have KRi := hid (KR9.out.below HBI.out (by omega))
        have KSi := hid (KS9.out.below HBI.out (by omega))
        have r0 : wc.cell? ⟨G, 0, none⟩ = some (.int .i64 F) := KSi.out.cell 0
        have r1 : wc.cell? ⟨G, 1, none⟩ = some (.int .i64 y2) := KSi.out.cell 1
        have r2 : wc.cell? ⟨G, 2, none⟩ = some (.int .i64 y3) := KSi.out.cell 2
        have r3 : wc.cell? ⟨G, 3, none⟩ = some (.slice (some ⟨g, 0, none⟩) M M) := KSi.out.cell 3
        have q0 : wc.cell? ⟨w.heap.size, 0, none⟩ = some (.int .i64 0) := KRi.out.cell 0
        have q1 : wc.cell? ⟨w.heap.size, 1, none⟩ = some (.int .i64 0) := KRi.out.cell 1
        have q2 : wc.cell? ⟨w.heap.size, 2, none⟩ = some (.int .i64 0) := KRi.out.cell 2
        have q3 : wc.cell? ⟨w.heap.size, 3, none⟩ = some (.slice none 0 0) := KRi.out.cell 3
        have f0 := KRi.out.frozen 0
        have f1 := KRi.out.frozen 1
        have f2 := KRi.out.frozen 2
        have f3 := KRi.out.frozen 3
        cases sm with
        | false =>
          go_wp2
          have KE : Blk ((((wc.setCell ⟨w.heap.size, 0, none⟩ (.int .i64 0)).setCell ⟨w.heap.size, 1, none⟩ (.int .i64 0)).setCell ⟨w.heap.size, 2, none⟩ (.int .i64 0)).setCell ⟨w.heap.size, 3, none⟩ (.slice none 0 0)) w.heap.size 56 #[.int .i64 0, .int .i64 0, .int .i64 0, .slice none 0 0] := (Blk.set (Blk.set (Blk.set (Blk.set KRi.out 0 (.int .i64 0)) 1 (.int .i64 0)) 2 (.int .i64 0)) 3 (.slice none 0 0))
          have k0 : (((((wc.setCell ⟨w.heap.size, 0, none⟩ (.int .i64 0)).setCell ⟨w.heap.size, 1, none⟩ (.int .i64 0)).setCell ⟨w.heap.size, 2, none⟩ (.int .i64 0)).setCell ⟨w.heap.size, 3, none⟩ (.slice none 0 0))).cell? ⟨w.heap.size, 0, none⟩ = some (.int .i64 0) := KE.cell 0
          have k1 : (((((wc.setCell ⟨w.heap.size, 0, none⟩ (.int .i64 0)).setCell ⟨w.heap.size, 1, none⟩ (.int .i64 0)).setCell ⟨w.heap.size, 2, none⟩ (.int .i64 0)).setCell ⟨w.heap.size, 3, none⟩ (.slice none 0 0))).cell? ⟨w.heap.size, 1, none⟩ = some (.int .i64 0) := KE.cell 1
          have k2 : (((((wc.setCell ⟨w.heap.size, 0, none⟩ (.int .i64 0)).setCell ⟨w.heap.size, 1, none⟩ (.int .i64 0)).setCell ⟨w.heap.size, 2, none⟩ (.int .i64 0)).setCell ⟨w.heap.size, 3, none⟩ (.slice none 0 0))).cell? ⟨w.heap.size, 2, none⟩ = some (.int .i64 0) := KE.cell 2
          have k3 : (((((wc.setCell ⟨w.heap.size, 0, none⟩ (.int .i64 0)).setCell ⟨w.heap.size, 1, none⟩ (.int .i64 0)).setCell ⟨w.heap.size, 2, none⟩ (.int .i64 0)).setCell ⟨w.heap.size, 3, none⟩ (.slice none 0 0))).cell? ⟨w.heap.size, 3, none⟩ = some (.slice none 0 0) := KE.cell 3
          refine bodyPost_ret (v := .tuple #[subnetV 0 0 0 none 0 0, .int .i64 1]) (by simp [results, Tryd.results29, go_sem, k0, k1, k2, k3]) rfl ⟨⟨fun hr => absurd (HSM.out.2 (HS.out.2 hr)) (by simp), fun _ => rfl⟩, ?_⟩
          have HLi := HL9.out.trans (HBI.out.mono (by omega))
          (repeat' (first | (with_reducible exact Below.refl _ _) | (with_reducible assumption) | (with_reducible refine below_ext0 ?_ _ _) | (with_reducible refine below_alloc0 ?_ _) | (with_reducible refine Below.ext ?_ ?_ _ _) | (with_reducible refine Below.alloc ?_ ?_ _) | (with_reducible refine Below.setCell ?_ ?_ _) | (with_reducible refine Below.drew ?_) | (with_reducible refine below_draws ?_ _) | go_size | (simp [size_ext]; done) | (simp [size_ext]; omega)))
        | true =>
          go_wp2
          have KE : Blk ((((wc.setCell ⟨w.heap.size, 0, none⟩ (.int .i64 F)).setCell ⟨w.heap.size, 1, none⟩ (.int .i64 y2)).setCell ⟨w.heap.size, 2, none⟩ (.int .i64 y3)).setCell ⟨w.heap.size, 3, none⟩ (.slice (some ⟨g, 0, none⟩) M M)) w.heap.size 56 #[.int .i64 F, .int .i64 y2, .int .i64 y3, .slice (some ⟨g, 0, none⟩) M M] := (Blk.set (Blk.set (Blk.set (Blk.set KRi.out 0 (.int .i64 F)) 1 (.int .i64 y2)) 2 (.int .i64 y3)) 3 (.slice (some ⟨g, 0, none⟩) M M))
          have k0 : (((((wc.setCell ⟨w.heap.size, 0, none⟩ (.int .i64 F)).setCell ⟨w.heap.size, 1, none⟩ (.int .i64 y2)).setCell ⟨w.heap.size, 2, none⟩ (.int .i64 y3)).setCell ⟨w.heap.size, 3, none⟩ (.slice (some ⟨g, 0, none⟩) M M))).cell? ⟨w.heap.size, 0, none⟩ = some (.int .i64 F) := KE.cell 0
          have k1 : (((((wc.setCell ⟨w.heap.size, 0, none⟩ (.int .i64 F)).setCell ⟨w.heap.size, 1, none⟩ (.int .i64 y2)).setCell ⟨w.heap.size, 2, none⟩ (.int .i64 y3)).setCell ⟨w.heap.size, 3, none⟩ (.slice (some ⟨g, 0, none⟩) M M))).cell? ⟨w.heap.size, 1, none⟩ = some (.int .i64 y2) := KE.cell 1
          have k2 : (((((wc.setCell ⟨w.heap.size, 0, none⟩ (.int .i64 F)).setCell ⟨w.heap.size, 1, none⟩ (.int .i64 y2)).setCell ⟨w.heap.size, 2, none⟩ (.int .i64 y3)).setCell ⟨w.heap.size, 3, none⟩ (.slice (some ⟨g, 0, none⟩) M M))).cell? ⟨w.heap.size, 2, none⟩ = some (.int .i64 y3) := KE.cell 2
          have k3 : (((((wc.setCell ⟨w.heap.size, 0, none⟩ (.int .i64 F)).setCell ⟨w.heap.size, 1, none⟩ (.int .i64 y2)).setCell ⟨w.heap.size, 2, none⟩ (.int .i64 y3)).setCell ⟨w.heap.size, 3, none⟩ (.slice (some ⟨g, 0, none⟩) M M))).cell? ⟨w.heap.size, 3, none⟩ = some (.slice (some ⟨g, 0, none⟩) M M) := KE.cell 3
          refine bodyPost_ret (v := .tuple #[subnetV F y2 y3 (some ⟨g, 0, none⟩) M M, .int .i64 0]) (by simp [results, Tryd.results29, go_sem, k0, k1, k2, k3]) rfl ⟨⟨fun hr => ⟨_, _, by rw [HSC.out.1, HSC.out.2.1, HSC.out.2.2, HFAM.out], ?_⟩, fun h => absurd (HS.out.1 (HSM.out.1 (by simp))) h⟩, ?_⟩
          · rw [HSC.out.2.2, HFAM.out, ← HADR.out hr]
            have := rd_of_blk (layL l M) (((((KZ9.out.below HBI.out (by omega)).far (p := ⟨w.heap.size, 0, none⟩) (by simp; omega) (.int .i64 F)).far (p := ⟨w.heap.size, 1, none⟩) (by simp; omega) (.int .i64 y2)).far (p := ⟨w.heap.size, 2, none⟩) (by simp; omega) (.int .i64 y3)).far (p := ⟨w.heap.size, 3, none⟩) (by simp; omega) (.slice (some ⟨g, 0, none⟩) M M)) HRZ.out (by rw [layL_len]; omega)
            rw [layL_len] at this
            exact this
          · have HLi := HL9.out.trans (HBI.out.mono (by omega))
            (repeat' (first | (with_reducible exact Below.refl _ _) | (with_reducible assumption) | (with_reducible refine below_ext0 ?_ _ _) | (with_reducible refine below_alloc0 ?_ _) | (with_reducible refine Below.ext ?_ ?_ _ _) | (with_reducible refine Below.alloc ?_ ?_ _) | (with_reducible refine Below.setCell ?_ ?_ _) | (with_reducible refine Below.drew ?_) | (with_reducible refine below_draws ?_ _) | go_size | (simp [size_ext]; done) | (simp [size_ext]; omega)))
end Go.Proofs.YtbpflpmhnmdeoaaDoor
