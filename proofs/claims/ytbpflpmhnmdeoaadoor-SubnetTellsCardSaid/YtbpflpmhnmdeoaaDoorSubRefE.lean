/- The document's answers of subnets: SubnetBytes. -/
import Derived.Test.YtbpflpmhnmdeoaaDoorSubRefD
import Derived.Test.YtbpflpmhnmdeoaaDoorEncode
namespace Go.Proofs.YtbpflpmhnmdeoaaDoor
open Go.RowKit
set_option linter.unusedVariables false
set_option linter.unusedSimpArgs false

theorem own_less_b {w : World} {base base' : Nat} {e : TypeId} {size : Nat} {v : Value} {n : Nat} {xs : List Value} (h : w.ownsRow base e size v n xs) (hb : base' ≤ base) : w.ownsRow base' e size v n xs := by
  refine ⟨h.1, ?_⟩
  rcases h.2 with h | ⟨g, cap, cur, h1, h2, h3⟩
  · exact .inl h
  · exact .inr ⟨g, cap, cur, h1, Nat.le_trans hb h2, h3⟩
theorem src_of_blk {w : World} {t : TypeId} {g m size : Nat} {cs : Array Value} (hb : Blk w g t cs) (hm : cs.size = m * size) (hu : ∀ u ∈ cs.toList, u.oneCell' = true) : Src w (some ⟨g, 0, none⟩) m m size cs.toList := by
  refine ⟨by simpa using hm, fun ad ha j u h => ?_, fun h => (by cases h), hu⟩
  cases ha
  have := hb.cell j
  rw [add_none, Nat.zero_add, this]
  simpa using h
theorem spair_own (x : Int) (h0 : 0 ≤ x) (h1 : x ≤ 255) (w : World) :
    Calls Tryd.prog 39 #[.int .i64 x] w fun e w' => ∃ v, e = .returned v ∧ w'.ownsRow w.heap.size 5 1 v 2 [.int .u8 0, .int .u8 x] ∧ Below w.heap.size w w' := by
  have e1 : x / 256 = 0 := by omega
  have e2 : Int.tdiv x 256 = 0 := by rw [Int.tdiv_eq_ediv_of_nonneg h0]; exact e1
  have e3 : x % 256 = x := by omega
  have e4 : Int.tmod x 256 = x := by rw [Int.tmod_eq_emod_of_nonneg h0]; exact e3
  go_enter Tryd.func39, Tryd.ntmps39
  go_wp2
  go_ret
  exact ⟨_, rfl, own_lit _ _ rfl (Nat.le_refl _) rfl (by decide) rfl, by (repeat' (first | (with_reducible exact Below.refl _ _) | (with_reducible assumption) | (with_reducible refine below_ext0 ?_ _ _) | (with_reducible refine below_alloc0 ?_ _) | (with_reducible refine Below.ext ?_ ?_ _ _) | (with_reducible refine Below.alloc ?_ ?_ _) | (with_reducible refine Below.setCell ?_ ?_ _) | (with_reducible refine Below.drew ?_) | (with_reducible refine below_draws ?_ _) | go_size | (simp [size_ext]; done) | (simp [size_ext]; omega)))⟩

set_option maxRecDepth 100000 in
set_option maxHeartbeats 4000000 in
theorem sbytes_any {w : World} {f s sc : Int} {A : Option Addr} {n c : Nat} {l : List UInt8} (h : Rd u8R w w.heap.size A n c l) (hk : SOk f s sc n) :
    Calls Tryd.prog 25 #[subnetV f s sc A n c] w fun e w' => ∃ A' m' c', e = .returned (.slice A' m' c') ∧ Rd u8R w' w'.heap.size A' m' c' (encL f s sc l) ∧ Below w.heap.size w w' := by
  have hlen := h.len
  have hf : 1 ≤ f ∧ f ≤ 2 := by rcases hk.fam with ⟨h, _⟩ | ⟨h, _⟩ <;> omega
  have hn : n ≤ 16 := by rcases hk.fam with ⟨_, h⟩ | ⟨_, h⟩ <;> omega
  have s0 := hk.s0
  have s1 := hk.s1
  have c0 := hk.sc0
  have c1 := hk.sc1
  have CP := hid (spair_own f (by omega) (by omega))
  have CM := hid fun w' (hb : Below w.heap.size w w') => masked_own (h.later hb) s0 s1
  clear h hk
  have ws : IntKind.u8.wrap s = s := by simp [IntKind.wrap, IntKind.bits, IntKind.signed]; omega
  have wsc : IntKind.u8.wrap sc = sc := by simp [IntKind.wrap, IntKind.bits, IntKind.signed]; omega
  have tk0 : True := trivial; have tk1 : True := trivial; have tk2 : True := trivial; have tk3 : True := trivial; have tk4 : True := trivial; have tk5 : True := trivial; have tk6 : True := trivial; have tk7 : True := trivial; have tk8 : True := trivial; have tk9 : True := trivial; have tk10 : True := trivial; have tk11 : True := trivial; have tk12 : True := trivial
  go_enter Tryd.func25, Tryd.ntmps25
  go_wp2_with fail
  go_region_held3 (fun w' => w'.cell? ⟨w.heap.size, 0, none⟩ = some (.int .i64 f) ∧ w'.cell? ⟨w.heap.size, 1, none⟩ = some (.int .i64 s) ∧ w'.cell? ⟨w.heap.size, 2, none⟩ = some (.int .i64 sc)) (((try dsimp only); (repeat' apply And.intro) <;> (first | assumption | (go_simp; done)))) (first
    | (go_at_call 39; have _t := tk1; (with_reducible refine (CP.out _).mono ?_); rintro e w1 ⟨v1, rfl, ho, hb⟩; have kx := (Blk.below (by (repeat' (first | (with_reducible exact Blk.new _ _ _) | (with_reducible assumption) | (with_reducible refine Blk.ext ?_ _ _) | (with_reducible refine Blk.drew ?_) | (with_reducible refine Blk.alloc ?_ _)))) hb (by first | (simp; done) | (simp; omega)) : Blk w1 w.heap.size 56 #[.int .i64 f, .int .i64 s, .int .i64 sc, .slice A n c]); have x0 : w1.cell? ⟨w.heap.size, 0, none⟩ = some (.int .i64 f) := kx.cell 0; have x1 : w1.cell? ⟨w.heap.size, 1, none⟩ = some (.int .i64 s) := kx.cell 1; have x2 : w1.cell? ⟨w.heap.size, 2, none⟩ = some (.int .i64 sc) := kx.cell 2; have x3 : w1.cell? ⟨w.heap.size, 3, none⟩ = some (.slice A n c) := kx.cell 3; have z1 := hb.size; simp at z1; have zw : w.heap.size < w1.heap.size := (by omega); have HO1 := hid (own_less_b (base' := w.heap.size + 1) ho (by first | (simp; done) | (simp; omega))); have HB0 := hid hb; have HB1 := hid (Below.trans (by (repeat' (first | (with_reducible exact Below.refl _ _) | (with_reducible assumption) | (with_reducible refine below_ext0 ?_ _ _) | (with_reducible refine below_alloc0 ?_ _) | (with_reducible refine Below.ext ?_ ?_ _ _) | (with_reducible refine Below.alloc ?_ ?_ _) | (with_reducible refine Below.setCell ?_ ?_ _) | (with_reducible refine Below.drew ?_) | (with_reducible refine below_draws ?_ _) | go_size | (simp [size_ext]; done) | (simp [size_ext]; omega)))) (hb.mono (by first | (simp; done) | (simp; omega))) : Below w.heap.size w w1); have KX1 := hid kx; clear ho hb kx tk1)
    | (refine step_app rfl (.tmp 8) (.tmp 15) 44 rfl (w.heap.size + 1) 5 1 1 el_u8 v1 2 [.int .u8 0, .int .u8 f] rfl (HO1.out.alloc (.cells #[.int .u8 s, .int .u8 sc] 5)) (some ⟨w1.heap.size, 0, none⟩) 2 2 [.int .u8 s, .int .u8 sc] rfl (src_lit (w := w1) (t := 5) #[.int .u8 s, .int .u8 sc] rfl (by simp [Value.oneCell']) rfl) (by omega) (by unfold maxLen; omega) (by simp; omega) ?_; intro v9 w9 ho9 hg9 _; have hb9 := grown_below (HO1.out.alloc (.cells #[.int .u8 s, .int .u8 sc] 5)) hg9 (by simp; omega); have k9 := Blk.below (Blk.alloc KX1.out (.cells #[.int .u8 s, .int .u8 sc] 5)) hb9 (Nat.lt_succ_self _); have y0 : w9.cell? ⟨w.heap.size, 0, none⟩ = some (.int .i64 f) := k9.cell 0; have y1 : w9.cell? ⟨w.heap.size, 1, none⟩ = some (.int .i64 s) := k9.cell 1; have y2 : w9.cell? ⟨w.heap.size, 2, none⟩ = some (.int .i64 sc) := k9.cell 2; have y3 : w9.cell? ⟨w.heap.size, 3, none⟩ = some (.slice A n c) := k9.cell 3; have z9 := hb9.size; (try simp at z9); have HO9 := hid ho9; have HB9 := hid (Below.trans (Below.alloc HB1.out (by omega) (.cells #[.int .u8 s, .int .u8 sc] 5)) (hb9.mono (by omega)) : Below w.heap.size w w9); have K9 := hid k9; clear ho9 hg9 hb9 k9)
    | (refine step_app rfl (.tmp 8) (.tmp 15) 44 rfl (w.heap.size + 1) 5 1 1 el_u8 v1 2 [.int .u8 0, .int .u8 f] rfl HO1.out (some ⟨w.heap.size + 1, 0, none⟩) 2 2 [.int .u8 s, .int .u8 sc] rfl (src_of_blk (Blk.below (Blk.drew (Blk.new' 5 #[.int .u8 s, .int .u8 sc] (by simp))) HB0.out (by first | (simp; done) | (simp; omega))) rfl (by simp [Value.oneCell'])) (by omega) (by unfold maxLen; omega) (by omega) ?_; intro v9 w9 ho9 hg9 _; have hb9 := grown_below HO1.out hg9 (by omega); have k9 := Blk.below KX1.out hb9 (Nat.lt_succ_self _); have y0 : w9.cell? ⟨w.heap.size, 0, none⟩ = some (.int .i64 f) := k9.cell 0; have y1 : w9.cell? ⟨w.heap.size, 1, none⟩ = some (.int .i64 s) := k9.cell 1; have y2 : w9.cell? ⟨w.heap.size, 2, none⟩ = some (.int .i64 sc) := k9.cell 2; have y3 : w9.cell? ⟨w.heap.size, 3, none⟩ = some (.slice A n c) := k9.cell 3; have z9 := hb9.size; (try simp at z9); have HO9 := hid ho9; have HB9 := hid (Below.trans HB1.out (hb9.mono (by omega)) : Below w.heap.size w w9); have K9 := hid k9; clear ho9 hg9 hb9 k9))
  all_goals
    go_wp2_with (go_at_call 21; have _t := tk2; (with_reducible refine (CM.out _ HB9.out).mono ?_); rintro e w10 ⟨vm, rfl, hom, hbm⟩; obtain ⟨Am, cm, rfl, _⟩ := own_slice hom; have HOM := hid hom; have HO10 := hid (own_low HO9.out hbm (Nat.le_refl _)); have HLT9 := hid (fun g e => HO9.out.lt g e); have K10 := hid (Blk.below K9.out hbm (by omega)); have zm := hbm.size; have HB10 := hid (HB9.out.trans (hbm.mono (by omega)) : Below w.heap.size w w10); clear hom hbm tk2)
    go_loopg [3, 5] n (fun gk v3 v5 wi => ∃ i : Nat, i ≤ n ∧ gk = n - i ∧ v5 = .int .i64 (i : Int) ∧ wi.ownsRow (w.heap.size + 1) 5 1 v3 (4 + min i (sentN s)) ([.int .u8 0, .int .u8 f, .int .u8 s, .int .u8 sc] ++ bytesV ((maskL l s).take (min i (sentN s)))) ∧ wi.ownsRow w9.heap.size 5 1 (.slice Am n cm) n (bytesV (maskL l s)) ∧ ((Value.slice Am n cm).ownBlock = none ∨ (Value.slice Am n cm).ownBlock ≠ v3.ownBlock) ∧ Blk wi w.heap.size 56 #[.int .i64 f, .int .i64 s, .int .i64 sc, .slice A n c] ∧ Below w.heap.size w wi ∧ w9.heap.size ≤ wi.heap.size)
    case atStart =>
      refine ⟨0, Nat.zero_le _, rfl, rfl, by simpa [bytesV] using HO10.out, HOM.out, ?_, K10.out, HB10.out, zm⟩
      by_cases hb : (Value.slice Am n cm).ownBlock = none
      · exact .inl hb
      · right
        intro e
        obtain ⟨g, hg⟩ := Option.ne_none_iff_exists'.1 hb
        have h1 := (HOM.out.lt g hg).1
        have h2 := (HLT9.out g (by rw [← e]; exact hg)).2
        omega
    case round =>
      obtain ⟨i, hi, rfl, rfl, ho, hm, hap, hbx, hlow, hz9⟩ := hrel
      have HO := hid ho
      have HM := hid hm
      have HAP := hid hap
      have HBX := hid hbx
      have HLOW := hid hlow
      have hzw := hlow.size
      have b1 : wr.cell? ⟨w.heap.size, 1, none⟩ = some (.int .i64 s) := hbx.cell 1
      have hbl := hbx.lt
      obtain ⟨A5, c5, he5, hrm⟩ := own_rd_b hm (by omega) (by omega)
      cases he5
      clear ho hm hap hbx hlow
      by_cases hlt : i < n
      · obtain ⟨b, o, rfl, lb⟩ := hrm.addr (by omega)
        obtain ⟨x, hx, cx, _, lbx⟩ := hrm.byte i hlt
        have hil : i < (maskL l s).length := by rw [maskL_len, hlen]; exact hlt
        have htk : (maskL l s).take (i + 1) = (maskL l s).take i ++ [x] := by
          rw [List.take_succ_eq_append_getElem hil]
          rw [List.getD_eq_getElem?_getD, List.getElem?_eq_getElem hil] at hx
          rw [← hx]; rfl
        have HTK := hid htk
        clear htk hx hrm
        have g0 : (i : Int) < (n : Int) := by omega
        have w8 : IntKind.i64.wrap (8 * (i : Int)) = 8 * (i : Int) := IntWalk.i64_in _ (by omega)
        by_cases h8 : 8 * (i : Int) < s
        · have e8 : decide (8 * (i : Int) < s) = true := decide_eq_true h8
          have hsn : min i (sentN s) = i ∧ min (i + 1) (sentN s) = i + 1 := by unfold sentN; omega
          have HSN := hid hsn
          have ho := HO.out
          rw [hsn.1] at ho
          have HO2 := hid ho
          clear hsn ho HO
          go_wp2_with (at_builtin; refine wpList_appT rfl _ _ 44 rfl (w.heap.size + 1) 5 1 1 el_u8 u3 (4 + i) _ rfl (HO2.out.alloc _) _ 1 1 [.int .u8 (x.toNat : Int)] rfl (src_one _ rfl rfl) (by omega) (by unfold maxLen; omega) (by simp; omega) ?_; intro v11 w11 ho11 ha11; have hb11 := ha11.below (HO2.out.alloc _) (by simp; omega); have k11 := Blk.below (Blk.alloc HBX.out _) hb11 (Nat.lt_succ_self _); have z11 := hb11.size; (try simp only [World.size_alloc] at z11); have HO11 := hid ho11; have HM11 := hid (ha11.other (HM.out.alloc _) HAP.out); have HB11 := hid (Below.trans (Below.alloc HLOW.out (by omega) _) (hb11.mono (by omega)) : Below w.heap.size w w11); have K11 := hid k11; clear ho11 ha11 hb11 k11)
          go_roundg (n - (i + 1))
          case measure => omega
          case rel =>
            refine ⟨i + 1, by omega, rfl, by go_num, ?_, HM11.out.1, HM11.out.2, K11.out, HB11.out, by omega⟩
            rw [HSN.out.2, HTK.out]
            have := HO11.out
            simpa [bytesV, Nat.add_assoc] using this
        · have e8 : decide (8 * (i : Int) < s) = false := decide_eq_false h8
          have hsn : min (i + 1) (sentN s) = min i (sentN s) := by unfold sentN; omega
          have HSN := hid hsn
          clear hsn
          go_wp2
          go_roundg (n - (i + 1))
          case measure => omega
          case rel => exact ⟨i + 1, by omega, rfl, by go_num, by rw [HSN.out]; exact HO.out, HM.out, HAP.out, HBX.out, HLOW.out, hz9⟩
      · obtain rfl : n = i := by omega
        have hsn : min n (sentN s) = sentN s := by unfold sentN; omega
        have ho := HO.out
        rw [hsn, bytesV4 0 f s sc (by omega) (by omega) (by omega) (by omega)] at ho
        have hen : encL f s sc l = [0, UInt8.ofNat f.toNat, UInt8.ofNat s.toNat, UInt8.ofNat sc.toNat] ++ (maskL l s).take (sentN s) := rfl
        have HEN := hid hen
        have HO2 := hid ho
        clear ho hen hrm HO
        go_wp2
        go_ret
        obtain ⟨A', c', he, hr⟩ := own_rd_b (l := encL f s sc l) (by have := HO2.out; rw [HEN.out]; simpa [bytesV] using this) (by omega) (by unfold sentN; omega)
        exact ⟨A', _, c', by simpa using he, hr, HLOW.out⟩
end Go.Proofs.YtbpflpmhnmdeoaaDoor
