/- The document's answers of names as they are sent: Start, Packed. -/
import Derived.Test.YthccknobnpbdeaaDoorK11
import Derived.Laws.BytesArg
import Derived.Test.YthccknobnpbdeaaDoorK5
namespace Go.Proofs.YthccknobnpbdeaaDoor
open Go.RowKit
set_option linter.unusedVariables false
set_option linter.unusedSimpArgs false

set_option maxRecDepth 100000 in
set_option maxHeartbeats 4000000 in
theorem rstart_any (w : World) (A : Option Addr) (n c : Nat) (m : List UInt8) (hM : Rd u8R w w.heap.size A n c m) (A1 : Option Addr) (n1 c1 : Nat) (ss : List Int) (hS : Rd intR w w.heap.size A1 n1 c1 ss) (A2 : Option Addr) (n2 c2 : Nat) (l : List ByteArray) (hL : Rd strR w w.heap.size A2 n2 c2 l) :
    Calls Tryd.prog 46 #[.slice A n c, .slice A1 n1 c1, .slice A2 n2 c2] w fun e w' => e = .returned (.int .i64 (findS m l ss)) ∧ Below w.heap.size w w' := by
  have m1 := hS.max
  have k1 := hS.cap
  unfold maxLen at m1
  have HM := hid hM
  have HS := hid hS
  have HL := hid hL
  clear hM hS hL
  have tk0 : True := trivial; have tk1 : True := trivial; have tk2 : True := trivial; have tk3 : True := trivial; have tk4 : True := trivial; have tk5 : True := trivial; have tk6 : True := trivial; have tk7 : True := trivial; have tk8 : True := trivial; have tk9 : True := trivial; have tk10 : True := trivial; have tk11 : True := trivial; have tk12 : True := trivial
  go_enter Tryd.func46, Tryd.ntmps46
  go_wp2
  go_loopg [7] n1 (fun g v wi => ∃ k : Nat, k ≤ n1 ∧ g = n1 - k ∧ v = .int .i64 k ∧ Below w.heap.size w wi ∧ findS m l ss = findS m l (ss.drop k))
  case atStart => exact ⟨0, Nat.zero_le _, rfl, rfl, Below.refl _ _, rfl⟩
  case round =>
    obtain ⟨k, hk, rfl, rfl, hlow, ht⟩ := hrel
    have HT := hid ht
    have HLOW := hid hlow
    have hzw := hlow.size
    clear ht hlow
    by_cases hlt : k < n1
    · obtain ⟨b1, o1, rfl, hb1, hc0, z1, z2⟩ := HS.out.int k hlt
      have q1 : k < ss.length := by rw [HS.out.len]; exact hlt
      have st := findS_step (m := m) (n := l) q1
      obtain ⟨s, hs⟩ : ∃ s, ss[k] = s := ⟨_, rfl⟩
      rw [hs] at hc0 z1 z2
      rw [hs] at st
      have HST := hid st
      have hkz : (k : Int) < (n1 : Int) := by omega
      have hc1 := (HLOW.out.cell (p := ⟨b1, o1 + k, none⟩) hb1).trans hc0
      have HC0 := hid hc0
      have hb1r : b1 < wr.heap.size := by omega
      clear st hs hc0
      by_cases hbig : 16383 < s
      · go_wp2
        go_roundg (n1 - (k + 1))
        case measure => omega
        case rel => exact ⟨k + 1, by omega, rfl, by go_num, HLOW.out, by rw [HT.out, HST.out, if_neg (fun h => by have := h.1; omega)]⟩
      · have hbig' : s ≤ 16383 := by omega
        have CN := nameAt_any wr A n c m (HM.out.keep hzw (fun p hp => HLOW.out.cell hp)) s z2
        by_cases hf : (rdN m s).1 = 0
        · have CN' : Calls Tryd.prog 13 #[.slice A n c, .int .i64 s] wr fun e w2 => ∃ A' c', e = .returned (.agg #[.slice A' (rdN m s).2.1.length c', .int .i64 (rdN m s).2.2, .int .i64 0]) ∧ Rd strR w2 w2.heap.size A' (rdN m s).2.1.length c' (rdN m s).2.1 ∧ Below wr.heap.size wr w2 := by
            refine CN.mono ?_
            rintro e w2 ⟨hb2, A', c', he, hrd⟩
            rw [hf] at he
            exact ⟨A', c', he, hrd, hb2⟩
          have C1 := hid CN'
          have CE := hid fun w1 (hb : Below wr.heap.size wr w1) A' c' (hr : Rd strR w1 w1.heap.size A' (rdN m s).2.1.length c' (rdN m s).2.1) => rtexts_any w1 A' _ c' _ _ hr A2 n2 c2 l _ (HL.out.below (HLOW.out.trans (hb.mono hzw)))
          clear CN CN'
          by_cases he : (rdN m s).2.1 = l
          · have hd : decide ((rdN m s).2.1 = l) = true := decide_eq_true he
            have HD := hid hd
            have hfin : findS m l ss = s := by rw [HT.out, HST.out, if_pos ⟨hbig', hf, he⟩]
            have HF := hid hfin
            clear hfin he hd
            go_wp2_with (first
              | (go_at_call 13; (with_reducible refine C1.out.mono ?_); rintro e w1 ⟨A', c', rfl, hr, hb⟩; obtain ⟨oo, dd, rfl⟩ := ext_of_below hb; have HR1 := hid hr; clear hr hb)
              | (go_at_call 56; (with_reducible refine (CE.out _ (by (repeat' (first | (with_reducible exact Below.refl _ _) | (with_reducible assumption) | (with_reducible refine below_ext0 ?_ _ _) | (with_reducible refine below_alloc0 ?_ _) | (with_reducible refine Below.ext ?_ ?_ _ _) | (with_reducible refine Below.alloc ?_ ?_ _) | (with_reducible refine Below.setCell ?_ ?_ _) | (with_reducible refine Below.drew ?_) | (with_reducible refine below_draws ?_ _) | go_size | (simp [size_ext]; done) | (simp [size_ext]; omega)))) _ _ (HR1.out.later (by (repeat' (first | (with_reducible exact Below.refl _ _) | (with_reducible assumption) | (with_reducible refine below_ext0 ?_ _ _) | (with_reducible refine below_alloc0 ?_ _) | (with_reducible refine Below.ext ?_ ?_ _ _) | (with_reducible refine Below.alloc ?_ ?_ _) | (with_reducible refine Below.setCell ?_ ?_ _) | (with_reducible refine Below.drew ?_) | (with_reducible refine below_draws ?_ _) | go_size | (simp [size_ext]; done) | (simp [size_ext]; omega)))))).mono ?_); rw [HD.out]; rintro e w2 ⟨rfl, hb2⟩; obtain ⟨oo2, dd2, rfl⟩ := ext_of_below hb2; clear hb2))
            go_ret
            exact ⟨by rw [HF.out]; rfl, HLOW.out.trans ((show Below wr.heap.size wr _ by (repeat' (first | (with_reducible exact Below.refl _ _) | (with_reducible assumption) | (with_reducible refine below_ext0 ?_ _ _) | (with_reducible refine below_alloc0 ?_ _) | (with_reducible refine Below.ext ?_ ?_ _ _) | (with_reducible refine Below.alloc ?_ ?_ _) | (with_reducible refine Below.setCell ?_ ?_ _) | (with_reducible refine Below.drew ?_) | (with_reducible refine below_draws ?_ _) | go_size | (simp [size_ext]; done) | (simp [size_ext]; omega)))).mono hzw)⟩
          · have hd : decide ((rdN m s).2.1 = l) = false := decide_eq_false he
            have HD := hid hd
            have hfin : findS m l ss = findS m l (ss.drop (k + 1)) := by rw [HT.out, HST.out, if_neg fun h => he h.2.2]
            have HF := hid hfin
            clear hfin he hd
            go_wp2_with (first
              | (go_at_call 13; (with_reducible refine C1.out.mono ?_); rintro e w1 ⟨A', c', rfl, hr, hb⟩; obtain ⟨oo, dd, rfl⟩ := ext_of_below hb; have HR1 := hid hr; clear hr hb)
              | (go_at_call 56; (with_reducible refine (CE.out _ (by (repeat' (first | (with_reducible exact Below.refl _ _) | (with_reducible assumption) | (with_reducible refine below_ext0 ?_ _ _) | (with_reducible refine below_alloc0 ?_ _) | (with_reducible refine Below.ext ?_ ?_ _ _) | (with_reducible refine Below.alloc ?_ ?_ _) | (with_reducible refine Below.setCell ?_ ?_ _) | (with_reducible refine Below.drew ?_) | (with_reducible refine below_draws ?_ _) | go_size | (simp [size_ext]; done) | (simp [size_ext]; omega)))) _ _ (HR1.out.later (by (repeat' (first | (with_reducible exact Below.refl _ _) | (with_reducible assumption) | (with_reducible refine below_ext0 ?_ _ _) | (with_reducible refine below_alloc0 ?_ _) | (with_reducible refine Below.ext ?_ ?_ _ _) | (with_reducible refine Below.alloc ?_ ?_ _) | (with_reducible refine Below.setCell ?_ ?_ _) | (with_reducible refine Below.drew ?_) | (with_reducible refine below_draws ?_ _) | go_size | (simp [size_ext]; done) | (simp [size_ext]; omega)))))).mono ?_); rw [HD.out]; rintro e w2 ⟨rfl, hb2⟩; obtain ⟨oo2, dd2, rfl⟩ := ext_of_below hb2; clear hb2))
            go_roundg (n1 - (k + 1))
            case measure => omega
            case rel => exact ⟨k + 1, by omega, rfl, by go_num, HLOW.out.trans ((show Below wr.heap.size wr _ by (repeat' (first | (with_reducible exact Below.refl _ _) | (with_reducible assumption) | (with_reducible refine below_ext0 ?_ _ _) | (with_reducible refine below_alloc0 ?_ _) | (with_reducible refine Below.ext ?_ ?_ _ _) | (with_reducible refine Below.alloc ?_ ?_ _) | (with_reducible refine Below.setCell ?_ ?_ _) | (with_reducible refine Below.drew ?_) | (with_reducible refine below_draws ?_ _) | go_size | (simp [size_ext]; done) | (simp [size_ext]; omega)))).mono hzw), HF.out⟩
        · have hfin : findS m l ss = findS m l (ss.drop (k + 1)) := by rw [HT.out, HST.out, if_neg fun h => hf h.2.1]
          have HF := hid hfin
          obtain ⟨e0, he0⟩ : ∃ e0, (rdN m s).1 = e0 := ⟨_, rfl⟩
          have hne : (e0 == 0) = false := by rw [beq_eq_false_iff_ne, ← he0]; exact hf
          have CN' : Calls Tryd.prog 13 #[.slice A n c, .int .i64 s] wr fun e w2 => ∃ A' c', e = .returned (.agg #[.slice A' (rdN m s).2.1.length c', .int .i64 (rdN m s).2.2, .int .i64 e0]) ∧ Below wr.heap.size wr w2 := by
            refine CN.mono ?_
            rintro e w2 ⟨hb2, A', c', he, hrd⟩
            rw [he0] at he
            exact ⟨A', c', he, hb2⟩
          have C1 := hid CN'
          clear hfin CN CN' he0 hf
          go_wp2_with (go_at_call 13; (with_reducible refine C1.out.mono ?_); rintro e w1 ⟨A', c', rfl, hb⟩; obtain ⟨oo, dd, rfl⟩ := ext_of_below hb; clear hb)
          go_roundg (n1 - (k + 1))
          case measure => omega
          case rel => exact ⟨k + 1, by omega, rfl, by go_num, HLOW.out.trans ((show Below wr.heap.size wr _ by (repeat' (first | (with_reducible exact Below.refl _ _) | (with_reducible assumption) | (with_reducible refine below_ext0 ?_ _ _) | (with_reducible refine below_alloc0 ?_ _) | (with_reducible refine Below.ext ?_ ?_ _ _) | (with_reducible refine Below.alloc ?_ ?_ _) | (with_reducible refine Below.setCell ?_ ?_ _) | (with_reducible refine Below.drew ?_) | (with_reducible refine below_draws ?_ _) | go_size | (simp [size_ext]; done) | (simp [size_ext]; omega)))).mono hzw), HF.out⟩
    · have hfin : findS m l ss = -1 := by
        rw [HT.out, List.drop_eq_nil_of_le (by rw [HS.out.len]; omega)]; rfl
      have HF := hid hfin
      clear hfin
      go_wp2
      go_ret
      exact ⟨by rw [HF.out]; rfl, HLOW.out⟩
end Go.Proofs.YthccknobnpbdeaaDoor
/- The document's answers of names as they are sent: Packed. -/
namespace Go.Proofs.YthccknobnpbdeaaDoor
open Go.RowKit
set_option linter.unusedVariables false
set_option linter.unusedSimpArgs false

theorem packL_skip (m : List UInt8) (ss : List Int) (l : List ByteArray) : ∃ K, K ≤ l.length ∧ (∀ j, j < K → findS m (l.drop j) ss < 0) ∧ (K = l.length ∨ 0 ≤ findS m (l.drop K) ss) := by
  have key : ∀ d K, K ≤ l.length → l.length - K ≤ d → (∀ j, j < K → findS m (l.drop j) ss < 0) → ∃ K, K ≤ l.length ∧ (∀ j, j < K → findS m (l.drop j) ss < 0) ∧ (K = l.length ∨ 0 ≤ findS m (l.drop K) ss) := by
    intro d
    induction d with
    | zero => intro K h1 h2 h3; exact ⟨K, h1, h3, .inl (by omega)⟩
    | succ d ih =>
      intro K h1 h2 h3
      by_cases h4 : 0 ≤ findS m (l.drop K) ss
      · exact ⟨K, h1, h3, .inr h4⟩
      · by_cases h5 : K = l.length
        · exact ⟨K, h1, h3, .inl h5⟩
        · exact ih (K + 1) (by omega) (by omega) (fun j hj => by
            by_cases c : j = K
            · subst c; omega
            · exact h3 j (by omega))
  exact key l.length 0 (Nat.zero_le _) (by omega) (fun j hj => by omega)
theorem sent_take {l : List ByteArray} {X : List UInt8} {r : Nat} (hr : (sentL l).length = r) : (sentL l ++ X).take r = sentL l := by
  subst hr
  simp
theorem Rd.src_int {w : World} {B n c : Nat} {A : Option Addr} {l : List Int} (h : Rd intR w B A n c l) : Src w A n c 1 (intsV l) := by
  obtain ⟨ys, hr, hs⟩ := h.src (R := intR) fun a vs (hv : vs = _ ∧ _) u hu => by
    rw [hv.1] at hu
    simp at hu
    subst hu
    rfl
  obtain ⟨vss, h1, rfl, hv⟩ := hr
  have : vss = l.map fun s => [Value.int .i64 s] := by
    apply List.ext_getElem (by simpa using h1)
    intro i hi hi'
    simp only [List.getElem_map]
    exact (hv i (by omega) hi).1
  rw [this] at hs
  rw [flat_int] at hs
  exact hs
theorem rptr_cells (p : Int) (h0 : 0 ≤ p) (h1 : p ≤ 16383) : [Value.int .u8 (192 + p / 256), Value.int .u8 (p % 256)] = bytesV (ptrB p) := by
  obtain ⟨q, rfl⟩ : ∃ q : Nat, p = (q : Int) := ⟨p.toNat, by omega⟩
  simp only [bytesV, ptrB, List.map_cons, List.map_nil, Int.toNat_natCast, UInt8.toNat_ofNat']
  congr 2 <;> (try congr 1) <;> omega
theorem pkR_ok {w w' : World} {m : List UInt8} {ss : List Int} {l : List ByteArray} {v v' : Value} {X : List UInt8} {Y : List Int} (hp : packL m ss l m ss = (X, Y)) (ho : w'.ownsRow w.heap.size 5 1 v X.length (bytesV X)) (ha : w'.ownsRow w.heap.size 3 1 v' Y.length (intsV Y)) (hap : Apart v v')
    (hi : ∀ s ∈ Y, I64 s) (hb : Below w.heap.size w w') (hX : X.length ≤ 140737488355328) (hY : Y.length * 8 ≤ 140737488355328) :
    ∃ u u', Ending.returned (.tuple #[v, v']) = .returned (.tuple #[u, u']) ∧ OwnP w w' m ss l u u' ∧ Below w.heap.size w w' :=
  ⟨v, v', rfl, ownP_of hp ho ha hap hi hX hY, hb⟩
theorem rsrc_ptr {w1 : World} {t : TypeId} (p : Int) (h0 : 0 ≤ p) (h1 : p ≤ 16383) : Src (w1.alloc (.cells #[.int .u8 (192 + p / 256), .int .u8 (p % 256)] t)) (some ⟨w1.heap.size, 0, none⟩) 2 2 1 (bytesV (ptrB p)) := by
  rw [← rptr_cells p h0 h1]
  exact src_lit (w := w1) (t := t) #[.int .u8 (192 + p / 256), .int .u8 (p % 256)] rfl (by simp [Value.oneCell']) rfl

set_option maxRecDepth 100000 in
set_option maxHeartbeats 8000000 in
theorem packed_all (w : World) (A : Option Addr) (n c : Nat) (m : List UInt8) (hM : Rd u8R w w.heap.size A n c m) (A1 : Option Addr) (n1 c1 : Nat) (ss : List Int) (hS : Rd intR w w.heap.size A1 n1 c1 ss) (A2 : Option Addr) (n2 c2 : Nat) (l : List ByteArray) (hL : Rd strR w w.heap.size A2 n2 c2 l)
    (hlim : n + 256 ≤ 140737488355328) (hlim1 : n1 * 8 + 4096 ≤ 140737488355328) (hf : nameErr l = 0) (K : Nat) (hK : K = n2) (hKn : ∀ j, j < K → findS m (l.drop j) ss < 0) :
    Calls Tryd.prog 28 #[.slice A n c, .slice A1 n1 c1, .slice A2 n2 c2] w fun e w' => ∃ v v', e = .returned (.tuple #[v, v']) ∧ OwnP w w' m ss l v v' ∧ Below w.heap.size w w' := by
  have c2m := hL.max
  have c2c := hL.cap
  unfold maxLen at c2m
  have hok := nameErr_zero.1 hf
  have hls : lsum l ≤ 254 := by have := hok.2; rw [nsize_lsum] at this; omega
  have hll := lsum_len l
  have hln : l.length = n2 := hL.len
  have hn2 : n2 ≤ 254 := by omega
  have hmn : m.length = n := hM.len
  have hsn : ss.length = n1 := hS.len
  have S1 := hid hM.src_u8
  have S2 := hid (hS.src_int)
  have CF := hid fun w' (hb : Below w.heap.size w w') A' n' c' l' (hr : Rd strR w' w'.heap.size A' n' c' l') => rstart_any w' A n c m (hM.later hb) A1 n1 c1 ss (hS.later hb) A' n' c' l' hr
  have HL := hid hL
  have HOK := hid hok
  have HLN := hid hln
  have HMN := hid hmn
  have HSN := hid hsn
  have HI := hid hS.i64s
  have HKN := hid hKn
  have ab1 : (0 + n) * 1 ≤ 140737488355328 := by omega
  have ab2 : 0 + n ≤ maxLen := by unfold maxLen; omega
  have ab3 : (0 + n1) * 8 ≤ 140737488355328 := by omega
  have ab4 : 0 + n1 ≤ maxLen := by unfold maxLen; omega
  subst hK
  clear hM hL hS hok hf hln hmn hsn hKn
  have tk0 : True := trivial; have tk1 : True := trivial; have tk2 : True := trivial; have tk3 : True := trivial; have tk4 : True := trivial; have tk5 : True := trivial; have tk6 : True := trivial; have tk7 : True := trivial; have tk8 : True := trivial; have tk9 : True := trivial; have tk10 : True := trivial; have tk11 : True := trivial; have tk12 : True := trivial
  go_enter Tryd.func28, Tryd.ntmps28
  go_wp2
  go_loopg [8] K (fun gk u8 wi => ∃ k : Nat, k ≤ K ∧ gk = K - k ∧ u8 = .int .i64 (k : Int) ∧ Below w.heap.size w wi)
  case atStart => exact ⟨0, Nat.zero_le _, rfl, rfl, Below.refl _ _⟩
  case round =>
    obtain ⟨k, hk, rfl, rfl, hlow⟩ := hrel
    have hzw : w.heap.size ≤ wr.heap.size := hlow.size
    have HLOW := hid hlow
    clear hlow
    by_cases hlt : k < K
    · obtain ⟨b, o, rfl, lb⟩ := HL.out.addr (by omega)
      have CFK := CF.out wr HLOW.out _ _ _ _ ((HL.out.dropS (k := k) (by omega)).keep hzw fun p hp => HLOW.out.cell hp)
      obtain ⟨p0, hp0⟩ : ∃ p0, findS m (l.drop k) ss = p0 := ⟨_, rfl⟩
      have hneg := HKN.out k hlt
      rw [hp0] at CFK hneg
      replace CFK := hid CFK
      have hc0 : (k : Int) < (K : Int) := by omega
      have hcc : ¬ c2 = k := by omega
      clear hp0
      go_wp2_with (go_at_call 46; (with_reducible refine CFK.out.mono ?_); rintro e w1 ⟨rfl, hb1⟩; have HB1 := hid hb1; clear hb1)
      go_roundg (K - (k + 1))
      case measure => omega
      case rel => exact ⟨k + 1, by omega, rfl, by go_num, HLOW.out.trans (HB1.out.mono hzw)⟩
    · obtain rfl : k = K := by omega
      have w0 : w.heap.size ≤ wr.heap.size := hzw
      go_wp2_with (first
        | (at_builtin; have _t := tk2; refine wpList_appT rfl _ _ 22 rfl w.heap.size 5 1 1 el_u8 (.slice (some ⟨wr.heap.size, 0, none⟩) 0 0) 0 [] rfl (own_empty HLOW.out.size) _ n c _ rfl ((S1.out.later HLOW.out).later ((Below.refl _ _).alloc (Nat.le_refl _) _)) ab1 ab2 (by have := HLOW.out.size; simp; omega) ?_; intro v2 w2 ho2 ha2; have HO2 := hid ho2; have HB2 := hid ((HLOW.out.alloc HLOW.out.size _).trans (ha2.below (own_empty HLOW.out.size) (by have := HLOW.out.size; simp; omega))); clear ho2 ha2 tk2)
        | (at_builtin; have _t := tk3; refine wpList_appT rfl _ _ 74 rfl w.heap.size 3 1 8 el_int (.slice (some ⟨w2.heap.size, 0, none⟩) 0 0) 0 [] rfl (own_empty HB2.out.size) _ n1 c1 _ rfl ((S2.out.later HB2.out).later ((Below.refl _ _).alloc (Nat.le_refl _) _)) ab3 ab4 (by have := HB2.out.size; simp; omega) ?_; intro v3 w3 ho3 ha3; have HO3 := hid ho3; have HA3 := hid (ha3.other ((HO2.out).alloc _) (apart_of (m := w2.heap.size) (fun g e => (HO2.out.lt g e).2) (fun g e => by cases e; exact Nat.le_refl _))); have HB3 := hid ((HB2.out.alloc HB2.out.size _).trans (ha3.below (own_empty HB2.out.size) (by have := HB2.out.size; simp; omega))); clear ho3 ha3 tk3))
      go_loopg [9, 10, 11] k (fun gk u9 u10 u11 wi => ∃ (i : Nat) (al : List Int), i ≤ k ∧ gk = k - i ∧ u11 = .int .i64 (i : Int) ∧ PkS w m ss l k i wi u9 u10 al)
      case atStart =>
        refine ⟨0, ss, Nat.zero_le _, rfl, rfl, ?_, ?_, ?_, HB3.out, HI.out, by omega, ?_⟩
        · have := HA3.out.1
          rw [HMN.out]
          simpa [sentL, lsum] using this
        · rw [HSN.out]
          simpa using HO3.out
        · exact HA3.out.2
        · simp [sentL]
      case round =>
        obtain ⟨i, al, hi, rfl, rfl, hs⟩ := hrel
        have hzi : w.heap.size ≤ wr.heap.size := hs.bel.size
        have hal := hs.len
        have hlk := lsum_take l i
        have PS := hid hs
        clear hs
        by_cases hlti : i < k
        · obtain ⟨bi, oi, hA2, lbi⟩ := HL.out.addr (by omega)
          cases hA2
          have hkl : i < l.length := by rw [HLN.out]; omega
          have hdr : l.drop i = l[i] :: l.drop (i + 1) := List.drop_eq_getElem_cons hkl
          have htk : l.take (i + 1) = l.take i ++ [l[i]] := List.take_succ_eq_append_getElem hkl
          have hstep := PS.out.pack
          rw [hdr, packL, ← hdr, if_neg (by have := HKN.out i hlti; omega)] at hstep
          have hlx : labelOk l[i] = true := List.all_eq_true.1 HOK.out.1 _ (List.getElem_mem hkl)
          obtain ⟨x, hx⟩ : ∃ x, l[i] = x := ⟨_, rfl⟩
          rw [hx] at htk hlx hstep
          obtain ⟨r, hr⟩ : ∃ r, x.size + 1 = r := ⟨_, rfl⟩
          have hls1 : lsum (l.take (i + 1)) = lsum (l.take i) + r := by rw [htk, lsum_snoc, hr]
          have hle1 := lsum_take l (i + 1)
          have hxs : lsum [x] = r := by simp [lsum, hr]
          have hsl : (sentL [x]).length = r := by rw [sentL_len, hxs]
          obtain ⟨N, hN⟩ : ∃ N, m.length + lsum (l.take i) = N := ⟨_, rfl⟩
          have hlen : (m ++ sentL (l.take i)).length = N := by rw [List.length_append, sentL_len, hN]
          rw [hlen, List.append_assoc, ← sentL_append, ← htk] at hstep
          have ho10 := PS.out.out
          rw [hN] at ho10
          obtain ⟨A', cap', rfl, _, _, _⟩ := own_slice ho10
          have HO10 := hid ho10
          have hNb : N ≤ n + 254 := by have := HMN.out; omega
          have hXb : N + r ≤ n + 254 := by have := HMN.out; omega
          have HN := hid hN
          have HST := hid hstep
          have HTK := hid htk
          have HLS1 := hid hls1
          have HSL := hid hsl
          have hR1 : Rd strR w w.heap.size (some ⟨bi, oi + i, none⟩) 1 (c2 - i) [x] := by
            have := (HL.out.dropS (k := i) (by omega)).take (k := 1) (by omega)
            rw [List.drop_eq_getElem_cons hkl, hx] at this
            simpa using this
          have CS := fun W (hb : Below w.heap.size w W) => rsent_any W _ _ _ [x] (hR1.later hb) (by simp [hlx]) (by omega)
          rw [hxs] at CS
          replace CS := hid CS
          have q1 : (i : Int) < (k : Int) := by omega
          have q2 : (i : Int) + 1 ≤ (c2 : Int) := by omega
          have q3 : ¬ c2 = i := by omega
          have ab5 : (N + r) * 1 ≤ 140737488355328 := by omega
          have ab6 : N + r ≤ maxLen := by unfold maxLen; omega
          clear ho10 hN hstep htk hls1 hsl hxs hR1 hlx hx hdr hr hlen
          by_cases hbig : N ≤ 16383
          · have ab7 : (al.length + 1) * 8 ≤ 140737488355328 := by have := HSN.out; omega
            have ab8 : al.length + 1 ≤ maxLen := by unfold maxLen; omega
            go_wp2_with (first
              | (at_builtin; have _t := tk4; refine wpList_appT rfl _ _ 74 rfl w.heap.size 3 1 8 el_int u10 al.length _ rfl (PS.out.all.alloc _) _ 1 1 [.int .i64 (N : Int)] rfl (src_one _ rfl rfl) ab7 ab8 (by simp; omega) ?_; intro v5 w5 ho5 ha5; have HO5 := hid ho5; have HOUT := hid (ha5.other (HO10.out.alloc _) PS.out.apart); have HB5 := hid ((PS.out.bel.alloc hzi _).trans (ha5.below (PS.out.all.alloc _) (by simp; omega))); clear ho5 ha5 tk4)
              | (go_at_call 47; (with_reducible refine (CS.out _ HB5.out).mono ?_); rintro e w6 ⟨A6, c6, rfl, hr6, hb6⟩; obtain ⟨b6, o6, rfl, _⟩ := hr6.addr (by omega); have hc6 := hr6.cap; have HB6 := hid (HB5.out.trans (hb6.mono HB5.out.size)); have HO6 := hid (own_low HOUT.out.1 hb6 (Nat.le_refl _)); have HAL6 := hid (own_low HO5.out hb6 (Nat.le_refl _)); have hs6 := (hr6.take (k := r) (by omega)).src_u8; rw [sent_take HSL.out] at hs6; have HS6 := hid hs6; have q4 : (r : Int) ≤ (c6 : Int) := (by omega); clear hr6 hb6 hs6)
              | (at_builtin; have _t := tk5; refine wpList_appT rfl _ _ 22 rfl w.heap.size 5 1 1 el_u8 _ N _ rfl HO6.out _ r c6 _ rfl HS6.out ab5 ab6 HB6.out.size ?_; intro v7 w7 ho7 ha7; have HO7 := hid ho7; have HA7 := hid ha7; clear ho7 ha7 tk5))
            go_roundg (k - (i + 1))
            case measure => omega
            case rel =>
              obtain ⟨hall, hap⟩ := HA7.out.other HAL6.out (Apart.symm HOUT.out.2)
              have hst := HST.out
              rw [if_pos hbig] at hst
              refine ⟨i + 1, al ++ [(N : Int)], by omega, rfl, by go_num, ?_, by simpa [intsV] using hall, Apart.symm hap, HB6.out.trans (HA7.out.below HO6.out HB6.out.size), ?_, by simp; omega, hst⟩
              · have := HO7.out
                rw [HLS1.out, ← Nat.add_assoc, HN.out, HTK.out, sentL_append, ← List.append_assoc]
                simpa [bytesV] using this
              · intro s hs
                rcases List.mem_append.1 hs with h | h
                · exact PS.out.ints s h
                · obtain rfl := List.mem_singleton.1 h
                  unfold I64; omega
          · have hbig' : 16383 < N := by omega
            go_wp2_with (first
              | (go_at_call 47; (with_reducible refine (CS.out _ PS.out.bel).mono ?_); rintro e w6 ⟨A6, c6, rfl, hr6, hb6⟩; obtain ⟨b6, o6, rfl, _⟩ := hr6.addr (by omega); have hc6 := hr6.cap; have HB6 := hid (PS.out.bel.trans (hb6.mono hzi)); have HO6 := hid (own_low HO10.out hb6 (Nat.le_refl _)); have HAL6 := hid (own_low PS.out.all hb6 (Nat.le_refl _)); have hs6 := (hr6.take (k := r) (by omega)).src_u8; rw [sent_take HSL.out] at hs6; have HS6 := hid hs6; have q4 : (r : Int) ≤ (c6 : Int) := (by omega); clear hr6 hb6 hs6)
              | (at_builtin; have _t := tk5; refine wpList_appT rfl _ _ 22 rfl w.heap.size 5 1 1 el_u8 _ N _ rfl HO6.out _ r c6 _ rfl HS6.out ab5 ab6 HB6.out.size ?_; intro v7 w7 ho7 ha7; have HO7 := hid ho7; have HA7 := hid ha7; clear ho7 ha7 tk5))
            go_roundg (k - (i + 1))
            case measure => omega
            case rel =>
              obtain ⟨hall, hap⟩ := HA7.out.other HAL6.out (Apart.symm PS.out.apart)
              have hst := HST.out
              rw [if_neg hbig] at hst
              refine ⟨i + 1, al, by omega, rfl, by go_num, ?_, hall, Apart.symm hap, HB6.out.trans (HA7.out.below HO6.out HB6.out.size), PS.out.ints, by omega, hst⟩
              have := HO7.out
              rw [HLS1.out, ← Nat.add_assoc, HN.out, HTK.out, sentL_append, ← List.append_assoc]
              simpa [bytesV] using this
        · obtain rfl : i = k := by omega
          have hdr : l.drop i = [] := List.drop_eq_nil_of_le (by rw [HLN.out]; exact Nat.le_refl _)
          have hst := PS.out.pack
          rw [hdr, packL] at hst
          have HST := hid hst
          have ab5 : (m.length + lsum (l.take i) + 1) * 1 ≤ 140737488355328 := by have := HMN.out; omega
          have ab6 : m.length + lsum (l.take i) + 1 ≤ maxLen := by unfold maxLen; have := HMN.out; omega
          clear hst hdr
          go_wp2_with (at_builtin; refine wpList_appT rfl _ _ 22 rfl w.heap.size 5 1 1 el_u8 u9 (m.length + lsum (l.take i)) _ rfl (PS.out.out.alloc _) _ 1 1 [.int .u8 0] rfl (src_one _ rfl rfl) ab5 ab6 (by simp; omega) ?_; intro v5 w5 ho5 ha5; have HO5 := hid ho5; have HA5 := hid ha5; clear ho5 ha5)
          go_ret2
          obtain ⟨hall, hap⟩ := HA5.out.other (PS.out.all.alloc _) PS.out.apart.symm
          have hb5 := HA5.out.below (PS.out.out.alloc _) (by simp; omega)
          have hXl : (m ++ sentL (l.take i) ++ [0]).length = m.length + lsum (l.take i) + 1 := by rw [List.length_append, List.length_append, sentL_len]; rfl
          refine pkR_ok HST.out ?_ hall (Apart.symm hap) PS.out.ints ((PS.out.bel.alloc (by omega) _).trans hb5) (by omega) (by have := HSN.out; omega)
          rw [hXl]
          simpa [bytesV] using HO5.out
set_option maxRecDepth 100000 in
set_option maxHeartbeats 8000000 in
theorem packed_ptr (w : World) (A : Option Addr) (n c : Nat) (m : List UInt8) (hM : Rd u8R w w.heap.size A n c m) (A1 : Option Addr) (n1 c1 : Nat) (ss : List Int) (hS : Rd intR w w.heap.size A1 n1 c1 ss) (A2 : Option Addr) (n2 c2 : Nat) (l : List ByteArray) (hL : Rd strR w w.heap.size A2 n2 c2 l)
    (hlim : n + 256 ≤ 140737488355328) (hlim1 : n1 * 8 + 4096 ≤ 140737488355328) (hf : nameErr l = 0) (K : Nat) (hK : K < n2) (hKn : ∀ j, j < K → findS m (l.drop j) ss < 0) (hp : 0 ≤ findS m (l.drop K) ss) :
    Calls Tryd.prog 28 #[.slice A n c, .slice A1 n1 c1, .slice A2 n2 c2] w fun e w' => ∃ v v', e = .returned (.tuple #[v, v']) ∧ OwnP w w' m ss l v v' ∧ Below w.heap.size w w' := by
  have c2m := hL.max
  have c2c := hL.cap
  unfold maxLen at c2m
  have hok := nameErr_zero.1 hf
  have hls : lsum l ≤ 254 := by have := hok.2; rw [nsize_lsum] at this; omega
  have hll := lsum_len l
  have hln : l.length = n2 := hL.len
  have hn2 : n2 ≤ 254 := by omega
  have hmn : m.length = n := hM.len
  have hsn : ss.length = n1 := hS.len
  have S1 := hid hM.src_u8
  have S2 := hid (hS.src_int)
  have CF := hid fun w' (hb : Below w.heap.size w w') A' n' c' l' (hr : Rd strR w' w'.heap.size A' n' c' l') => rstart_any w' A n c m (hM.later hb) A1 n1 c1 ss (hS.later hb) A' n' c' l' hr
  have HL := hid hL
  have HOK := hid hok
  have HLN := hid hln
  have HMN := hid hmn
  have HSN := hid hsn
  have HI := hid hS.i64s
  have HKN := hid hKn
  have ab1 : (0 + n) * 1 ≤ 140737488355328 := by omega
  have ab2 : 0 + n ≤ maxLen := by unfold maxLen; omega
  have ab3 : (0 + n1) * 8 ≤ 140737488355328 := by omega
  have ab4 : 0 + n1 ≤ maxLen := by unfold maxLen; omega
  obtain ⟨p, hpp⟩ : ∃ p, findS m (l.drop K) ss = p := ⟨_, rfl⟩
  have hfo := findS_or m (l.drop K) ss
  rw [hpp] at hp hfo
  have hp1 : p ≤ 16383 := by rcases hfo with h | h <;> omega
  have HPP := hid hpp
  clear hfo hpp
  clear hM hL hS hok hf hln hmn hsn hKn
  have tk0 : True := trivial; have tk1 : True := trivial; have tk2 : True := trivial; have tk3 : True := trivial; have tk4 : True := trivial; have tk5 : True := trivial; have tk6 : True := trivial; have tk7 : True := trivial; have tk8 : True := trivial; have tk9 : True := trivial; have tk10 : True := trivial; have tk11 : True := trivial; have tk12 : True := trivial
  go_enter Tryd.func28, Tryd.ntmps28
  go_wp2
  go_loopg [8] K (fun gk u8 wi => ∃ k : Nat, k ≤ K ∧ gk = K - k ∧ u8 = .int .i64 (k : Int) ∧ Below w.heap.size w wi)
  case atStart => exact ⟨0, Nat.zero_le _, rfl, rfl, Below.refl _ _⟩
  case round =>
    obtain ⟨k, hk, rfl, rfl, hlow⟩ := hrel
    have hzw : w.heap.size ≤ wr.heap.size := hlow.size
    have HLOW := hid hlow
    clear hlow
    by_cases hlt : k < K
    · obtain ⟨b, o, rfl, lb⟩ := HL.out.addr (by omega)
      have CFK := CF.out wr HLOW.out _ _ _ _ ((HL.out.dropS (k := k) (by omega)).keep hzw fun p hp => HLOW.out.cell hp)
      obtain ⟨p0, hp0⟩ : ∃ p0, findS m (l.drop k) ss = p0 := ⟨_, rfl⟩
      have hneg := HKN.out k hlt
      rw [hp0] at CFK hneg
      replace CFK := hid CFK
      have hc0 : (k : Int) < (n2 : Int) := by omega
      have hcc : ¬ c2 = k := by omega
      clear hp0
      go_wp2_with (go_at_call 46; (with_reducible refine CFK.out.mono ?_); rintro e w1 ⟨rfl, hb1⟩; have HB1 := hid hb1; clear hb1)
      go_roundg (K - (k + 1))
      case measure => omega
      case rel => exact ⟨k + 1, by omega, rfl, by go_num, HLOW.out.trans (HB1.out.mono hzw)⟩
    · obtain rfl : k = K := by omega
      obtain ⟨b, o, rfl, lb⟩ := HL.out.addr (by omega)
      have CFK := CF.out wr HLOW.out _ _ _ _ ((HL.out.dropS (k := k) (by omega)).keep hzw fun p hp => HLOW.out.cell hp)
      rw [HPP.out] at CFK
      replace CFK := hid CFK
      have hc0 : (k : Int) < (n2 : Int) := by omega
      have hcc : ¬ c2 = k := by omega
      go_wp2_with (first
        | (go_at_call 46; have _t := tk1; (with_reducible refine CFK.out.mono ?_); rintro e w0 ⟨rfl, hb0⟩; have HB0 := hid (HLOW.out.trans (hb0.mono hzw)); clear hb0 tk1)
        | (at_builtin; have _t := tk2; refine wpList_appT rfl _ _ 22 rfl w.heap.size 5 1 1 el_u8 (.slice (some ⟨w0.heap.size, 0, none⟩) 0 0) 0 [] rfl (own_empty HB0.out.size) _ n c _ rfl ((S1.out.later HB0.out).later ((Below.refl _ _).alloc (Nat.le_refl _) _)) ab1 ab2 (by have := HB0.out.size; simp; omega) ?_; intro v2 w2 ho2 ha2; have HO2 := hid ho2; have HB2 := hid ((HB0.out.alloc HB0.out.size _).trans (ha2.below (own_empty HB0.out.size) (by have := HB0.out.size; simp; omega))); clear ho2 ha2 tk2)
        | (at_builtin; have _t := tk3; refine wpList_appT rfl _ _ 74 rfl w.heap.size 3 1 8 el_int (.slice (some ⟨w2.heap.size, 0, none⟩) 0 0) 0 [] rfl (own_empty HB2.out.size) _ n1 c1 _ rfl ((S2.out.later HB2.out).later ((Below.refl _ _).alloc (Nat.le_refl _) _)) ab3 ab4 (by have := HB2.out.size; simp; omega) ?_; intro v3 w3 ho3 ha3; have HO3 := hid ho3; have HA3 := hid (ha3.other ((HO2.out).alloc _) (apart_of (m := w2.heap.size) (fun g e => (HO2.out.lt g e).2) (fun g e => by cases e; exact Nat.le_refl _))); have HB3 := hid ((HB2.out.alloc HB2.out.size _).trans (ha3.below (own_empty HB2.out.size) (by have := HB2.out.size; simp; omega))); clear ho3 ha3 tk3))
      go_loopg [9, 10, 11] k (fun gk u9 u10 u11 wi => ∃ (i : Nat) (al : List Int), i ≤ k ∧ gk = k - i ∧ u11 = .int .i64 (i : Int) ∧ PkS w m ss l n2 i wi u9 u10 al)
      case atStart =>
        refine ⟨0, ss, Nat.zero_le _, rfl, rfl, ?_, ?_, ?_, HB3.out, HI.out, by omega, ?_⟩
        · have := HA3.out.1
          rw [HMN.out]
          simpa [sentL, lsum] using this
        · rw [HSN.out]
          simpa using HO3.out
        · exact HA3.out.2
        · simp [sentL]
      case round =>
        obtain ⟨i, al, hi, rfl, rfl, hs⟩ := hrel
        have hzi : w.heap.size ≤ wr.heap.size := hs.bel.size
        have hal := hs.len
        have hlk := lsum_take l i
        have PS := hid hs
        clear hs
        by_cases hlti : i < k
        · have hkl : i < l.length := by rw [HLN.out]; omega
          have hdr : l.drop i = l[i] :: l.drop (i + 1) := List.drop_eq_getElem_cons hkl
          have htk : l.take (i + 1) = l.take i ++ [l[i]] := List.take_succ_eq_append_getElem hkl
          have hstep := PS.out.pack
          rw [hdr, packL, ← hdr, if_neg (by have := HKN.out i hlti; omega)] at hstep
          have hlx : labelOk l[i] = true := List.all_eq_true.1 HOK.out.1 _ (List.getElem_mem hkl)
          obtain ⟨x, hx⟩ : ∃ x, l[i] = x := ⟨_, rfl⟩
          rw [hx] at htk hlx hstep
          obtain ⟨r, hr⟩ : ∃ r, x.size + 1 = r := ⟨_, rfl⟩
          have hls1 : lsum (l.take (i + 1)) = lsum (l.take i) + r := by rw [htk, lsum_snoc, hr]
          have hle1 := lsum_take l (i + 1)
          have hxs : lsum [x] = r := by simp [lsum, hr]
          have hsl : (sentL [x]).length = r := by rw [sentL_len, hxs]
          obtain ⟨N, hN⟩ : ∃ N, m.length + lsum (l.take i) = N := ⟨_, rfl⟩
          have hlen : (m ++ sentL (l.take i)).length = N := by rw [List.length_append, sentL_len, hN]
          rw [hlen, List.append_assoc, ← sentL_append, ← htk] at hstep
          have ho10 := PS.out.out
          rw [hN] at ho10
          obtain ⟨A', cap', rfl, _, _, _⟩ := own_slice ho10
          have HO10 := hid ho10
          have hNb : N ≤ n + 254 := by have := HMN.out; omega
          have hXb : N + r ≤ n + 254 := by have := HMN.out; omega
          have HN := hid hN
          have HST := hid hstep
          have HTK := hid htk
          have HLS1 := hid hls1
          have HSL := hid hsl
          have hR1 : Rd strR w w.heap.size (some ⟨b, o + i, none⟩) 1 (c2 - i) [x] := by
            have := (HL.out.dropS (k := i) (by omega)).take (k := 1) (by omega)
            rw [List.drop_eq_getElem_cons hkl, hx] at this
            simpa using this
          have CS := fun W (hb : Below w.heap.size w W) => rsent_any W _ _ _ [x] (hR1.later hb) (by simp [hlx]) (by omega)
          rw [hxs] at CS
          replace CS := hid CS
          have q1 : (i : Int) < (k : Int) := by omega
          have q2 : (i : Int) + 1 ≤ (c2 : Int) := by omega
          have q3 : ¬ c2 = i := by omega
          have ab5 : (N + r) * 1 ≤ 140737488355328 := by omega
          have ab6 : N + r ≤ maxLen := by unfold maxLen; omega
          clear ho10 hN hstep htk hls1 hsl hxs hR1 hlx hx hdr hr hlen
          by_cases hbig : N ≤ 16383
          · have ab7 : (al.length + 1) * 8 ≤ 140737488355328 := by have := HSN.out; omega
            have ab8 : al.length + 1 ≤ maxLen := by unfold maxLen; omega
            go_wp2_with (first
              | (at_builtin; have _t := tk4; refine wpList_appT rfl _ _ 74 rfl w.heap.size 3 1 8 el_int u10 al.length _ rfl (PS.out.all.alloc _) _ 1 1 [.int .i64 (N : Int)] rfl (src_one _ rfl rfl) ab7 ab8 (by simp; omega) ?_; intro v5 w5 ho5 ha5; have HO5 := hid ho5; have HOUT := hid (ha5.other (HO10.out.alloc _) PS.out.apart); have HB5 := hid ((PS.out.bel.alloc hzi _).trans (ha5.below (PS.out.all.alloc _) (by simp; omega))); clear ho5 ha5 tk4)
              | (go_at_call 47; (with_reducible refine (CS.out _ HB5.out).mono ?_); rintro e w6 ⟨A6, c6, rfl, hr6, hb6⟩; obtain ⟨b6, o6, rfl, _⟩ := hr6.addr (by omega); have hc6 := hr6.cap; have HB6 := hid (HB5.out.trans (hb6.mono HB5.out.size)); have HO6 := hid (own_low HOUT.out.1 hb6 (Nat.le_refl _)); have HAL6 := hid (own_low HO5.out hb6 (Nat.le_refl _)); have hs6 := (hr6.take (k := r) (by omega)).src_u8; rw [sent_take HSL.out] at hs6; have HS6 := hid hs6; have q4 : (r : Int) ≤ (c6 : Int) := (by omega); clear hr6 hb6 hs6)
              | (at_builtin; have _t := tk5; refine wpList_appT rfl _ _ 22 rfl w.heap.size 5 1 1 el_u8 _ N _ rfl HO6.out _ r c6 _ rfl HS6.out ab5 ab6 HB6.out.size ?_; intro v7 w7 ho7 ha7; have HO7 := hid ho7; have HA7 := hid ha7; clear ho7 ha7 tk5))
            go_roundg (k - (i + 1))
            case measure => omega
            case rel =>
              obtain ⟨hall, hap⟩ := HA7.out.other HAL6.out (Apart.symm HOUT.out.2)
              have hst := HST.out
              rw [if_pos hbig] at hst
              refine ⟨i + 1, al ++ [(N : Int)], by omega, rfl, by go_num, ?_, by simpa [intsV] using hall, Apart.symm hap, HB6.out.trans (HA7.out.below HO6.out HB6.out.size), ?_, by simp; omega, hst⟩
              · have := HO7.out
                rw [HLS1.out, ← Nat.add_assoc, HN.out, HTK.out, sentL_append, ← List.append_assoc]
                simpa [bytesV] using this
              · intro s hs
                rcases List.mem_append.1 hs with h | h
                · exact PS.out.ints s h
                · obtain rfl := List.mem_singleton.1 h
                  unfold I64; omega
          · have hbig' : 16383 < N := by omega
            go_wp2_with (first
              | (go_at_call 47; (with_reducible refine (CS.out _ PS.out.bel).mono ?_); rintro e w6 ⟨A6, c6, rfl, hr6, hb6⟩; obtain ⟨b6, o6, rfl, _⟩ := hr6.addr (by omega); have hc6 := hr6.cap; have HB6 := hid (PS.out.bel.trans (hb6.mono hzi)); have HO6 := hid (own_low HO10.out hb6 (Nat.le_refl _)); have HAL6 := hid (own_low PS.out.all hb6 (Nat.le_refl _)); have hs6 := (hr6.take (k := r) (by omega)).src_u8; rw [sent_take HSL.out] at hs6; have HS6 := hid hs6; have q4 : (r : Int) ≤ (c6 : Int) := (by omega); clear hr6 hb6 hs6)
              | (at_builtin; have _t := tk5; refine wpList_appT rfl _ _ 22 rfl w.heap.size 5 1 1 el_u8 _ N _ rfl HO6.out _ r c6 _ rfl HS6.out ab5 ab6 HB6.out.size ?_; intro v7 w7 ho7 ha7; have HO7 := hid ho7; have HA7 := hid ha7; clear ho7 ha7 tk5))
            go_roundg (k - (i + 1))
            case measure => omega
            case rel =>
              obtain ⟨hall, hap⟩ := HA7.out.other HAL6.out (Apart.symm PS.out.apart)
              have hst := HST.out
              rw [if_neg hbig] at hst
              refine ⟨i + 1, al, by omega, rfl, by go_num, ?_, hall, Apart.symm hap, HB6.out.trans (HA7.out.below HO6.out HB6.out.size), PS.out.ints, by omega, hst⟩
              have := HO7.out
              rw [HLS1.out, ← Nat.add_assoc, HN.out, HTK.out, sentL_append, ← List.append_assoc]
              simpa [bytesV] using this
        · obtain rfl : i = k := by omega
          have CFK2 := CF.out wr PS.out.bel _ _ _ _ ((HL.out.dropS (k := i) (by omega)).keep hzi fun p hp => PS.out.bel.cell hp)
          rw [HPP.out] at CFK2
          replace CFK2 := hid CFK2
          have hst := PS.out.pack
          rw [List.drop_eq_getElem_cons (show i < l.length by rw [HLN.out]; omega), packL, ← List.drop_eq_getElem_cons, HPP.out, if_pos hp] at hst
          have HST := hid hst
          have e0 : ((i : Int) == (n2 : Int)) = false := by rw [beq_eq_false_iff_ne]; omega
          have ab5 : (m.length + lsum (l.take i) + 2) * 1 ≤ 140737488355328 := by have := HMN.out; omega
          have ab6 : m.length + lsum (l.take i) + 2 ≤ maxLen := by unfold maxLen; have := HMN.out; omega
          clear hst
          go_wp2_with (first
            | (go_at_call 46; have _t := tk6; (with_reducible refine CFK2.out.mono ?_); rintro e w8 ⟨rfl, hb8⟩; have HB8 := hid hb8; have hz8 := hb8.size; clear hb8 tk6)
            | (at_builtin; have _t := tk7; refine wpList_appT rfl _ _ 22 rfl w.heap.size 5 1 1 el_u8 u9 (m.length + lsum (l.take i)) _ rfl ((own_low PS.out.out HB8.out (Nat.le_refl _)).alloc _) _ 2 2 (bytesV (ptrB p)) rfl (rsrc_ptr p hp hp1) ab5 ab6 (by simp; omega) ?_; intro v5 w5 ho5 ha5; have HO5 := hid ho5; have HA5 := hid ha5; clear ho5 ha5 tk7))
          go_ret2
          obtain ⟨hall, hap⟩ := HA5.out.other ((own_low PS.out.all HB8.out (Nat.le_refl _)).alloc _) PS.out.apart.symm
          have hb5 := HA5.out.below ((own_low PS.out.out HB8.out (Nat.le_refl _)).alloc _) (by simp; omega)
          have hXl : (m ++ sentL (l.take i) ++ ptrB p).length = m.length + lsum (l.take i) + 2 := by rw [List.length_append, List.length_append, sentL_len]; rfl
          refine pkR_ok HST.out ?_ hall (Apart.symm hap) PS.out.ints (((PS.out.bel.trans (HB8.out.mono hzi)).alloc (by omega) _).trans hb5) (by omega) (by have := HSN.out; omega)
          rw [hXl]
          simpa [bytesV] using HO5.out
end Go.Proofs.YthccknobnpbdeaaDoor
/- The document's Packed, whichever way it goes. -/
namespace Go.Proofs.YthccknobnpbdeaaDoor
open Go.RowKit
set_option linter.unusedVariables false
set_option linter.unusedSimpArgs false

theorem packed_own (w : World) (A : Option Addr) (n c : Nat) (m : List UInt8) (hM : Rd u8R w w.heap.size A n c m) (A1 : Option Addr) (n1 c1 : Nat) (ss : List Int) (hS : Rd intR w w.heap.size A1 n1 c1 ss) (A2 : Option Addr) (n2 c2 : Nat) (l : List ByteArray) (hL : Rd strR w w.heap.size A2 n2 c2 l)
    (hlim : n + 256 ≤ 140737488355328) (hlim1 : n1 * 8 + 4096 ≤ 140737488355328) (hf : nameErr l = 0) :
    Calls Tryd.prog 28 #[.slice A n c, .slice A1 n1 c1, .slice A2 n2 c2] w fun e w' => ∃ v v', e = .returned (.tuple #[v, v']) ∧ OwnP w w' m ss l v v' ∧ Below w.heap.size w w' := by
  obtain ⟨K, h1, h2, h3⟩ := packL_skip m ss l
  have hl := hL.len
  by_cases hk : K = l.length
  · exact packed_all w A n c m hM A1 n1 c1 ss hS A2 n2 c2 l hL hlim hlim1 hf K (by omega) h2
  · rcases h3 with h3 | h3
    · exact absurd h3 hk
    · exact packed_ptr w A n c m hM A1 n1 c1 ss hS A2 n2 c2 l hL hlim hlim1 hf K (by omega) h2 h3
theorem packed_ok {w : World} {A : Option Addr} {n c : Nat} {m : List UInt8} {A1 : Option Addr} {n1 c1 : Nat} {ss : List Int} {A2 : Option Addr} {n2 c2 : Nat} {l : List ByteArray} (hM : Rd u8R w w.heap.size A n c m) (hS : Rd intR w w.heap.size A1 n1 c1 ss) (hL : Rd strR w w.heap.size A2 n2 c2 l) (hlim : n + 256 ≤ 140737488355328) (hlim1 : n1 * 8 + 4096 ≤ 140737488355328) (hf : nameErr l = 0) {X : List UInt8} {Y : List Int} (hX : m ++ packT m ss l = X) (hY : ss ++ packN m ss l m.length = Y) {k k2 : Nat} (hk : X.length = k) (hk2 : Y.length = k2) :
    Calls Tryd.prog 28 #[.slice A n c, .slice A1 n1 c1, .slice A2 n2 c2] w fun e w' => ∃ A' c' A2 c2, e = .returned (.tuple #[.slice A' k c', .slice A2 k2 c2]) ∧ (Rd u8R w' w'.heap.size A' k c' X ∧ Rd intR w' w'.heap.size A2 k2 c2 Y) ∧ Below w.heap.size w w' := by
  refine (packed_own w A n c m hM A1 n1 c1 ss hS A2 n2 c2 l hL hlim hlim1 hf).mono ?_
  rintro e w' ⟨v, v', rfl, ho, hb⟩
  obtain ⟨A', c', A2, c2, rfl, rfl, hr, hr2⟩ := ho.rd hb.size
  rw [hX] at hr
  rw [hY] at hr2
  rw [hX, hY, hk, hk2]
  rw [hk] at hr
  rw [hk2] at hr2
  exact ⟨A', c', A2, c2, rfl, ⟨hr, hr2⟩, hb⟩
end Go.Proofs.YthccknobnpbdeaaDoor
/- Plain laws of names in a row: three-way comparison, one behind the other; ends of names. No walk. -/
namespace Go.Proofs.YthccknobnpbdeaaDoor
open Go.RowKit
set_option linter.unusedVariables false
set_option linter.unusedSimpArgs false

structure Ord3 {α : Type} (c : α → α → Int) : Prop where
  tri : ∀ x y, c x y = -1 ∨ c x y = 0 ∨ c x y = 1
  anti : ∀ x y, c y x = - c x y
  trans : ∀ x y z, c x y ≤ 0 → c y z ≤ 0 → c x z ≤ 0
def lex {α : Type} (c : α → α → Int) : List α → List α → Int
  | [], [] => 0
  | [], _ :: _ => -1
  | _ :: _, [] => 1
  | a :: l, b :: m => if c a b = 0 then lex c l m else c a b
theorem Ord3.zero_trans {α : Type} {c : α → α → Int} (h : Ord3 c) {x y z : α} (h1 : c x y = 0) (h2 : c y z = 0) : c x z = 0 := by
  have a := h.trans x y z (by omega) (by omega)
  have b := h.trans z y x (by rw [h.anti]; omega) (by rw [h.anti]; omega)
  rw [h.anti] at b
  omega
theorem Ord3.lt_of {α : Type} {c : α → α → Int} (h : Ord3 c) {x y z : α} (h1 : c x y ≤ 0) (h2 : c y z ≤ 0) (h3 : c x z = 0) : c x y = 0 ∧ c y z = 0 := by
  have a := h.trans y z x h2 (by rw [h.anti]; omega)
  have b := h.trans z x y (by rw [h.anti]; omega) h1
  rw [h.anti] at a b
  omega
theorem lex_ord {α : Type} {c : α → α → Int} (h : Ord3 c) : Ord3 (lex c) := by
  refine ⟨?_, ?_, ?_⟩
  · intro x
    induction x with
    | nil => intro y; cases y <;> simp [lex]
    | cons a l ih =>
      intro y
      cases y with
      | nil => simp [lex]
      | cons b m =>
        unfold lex
        split
        · exact ih m
        · exact h.tri a b
  · intro x
    induction x with
    | nil => intro y; cases y <;> simp [lex]
    | cons a l ih =>
      intro y
      cases y with
      | nil => simp [lex]
      | cons b m =>
        unfold lex
        have := h.anti a b
        by_cases e : c a b = 0
        · rw [if_pos e, if_pos (by omega)]; exact ih m
        · rw [if_neg e, if_neg (by omega)]; exact this
  · intro x
    induction x with
    | nil => intro y z _ _; cases z <;> simp [lex]
    | cons a l ih =>
      intro y z h1 h2
      cases y with
      | nil => simp [lex] at h1
      | cons b m =>
        cases z with
        | nil => simp [lex] at h2
        | cons d r =>
          unfold lex at h1 h2 ⊢
          by_cases e1 : c a b = 0
          · rw [if_pos e1] at h1
            by_cases e2 : c b d = 0
            · rw [if_pos e2] at h2
              rw [if_pos (h.zero_trans e1 e2)]
              exact ih m r h1 h2
            · rw [if_neg e2] at h2
              have ht := h.trans a b d (by omega) h2
              have hne : c a d ≠ 0 := fun e3 => e2 (h.lt_of (by omega) h2 e3).2
              rw [if_neg hne]; exact ht
          · rw [if_neg e1] at h1
            by_cases e2 : c b d = 0
            · rw [if_pos e2] at h2
              have ht := h.trans a b d h1 (by omega)
              have hne : c a d ≠ 0 := fun e3 => e1 (h.lt_of h1 (by omega) e3).1
              rw [if_neg hne]; exact ht
            · rw [if_neg e2] at h2
              have ht := h.trans a b d h1 h2
              have hne : c a d ≠ 0 := fun e3 => e1 (h.lt_of h1 h2 e3).1
              rw [if_neg hne]; exact ht
theorem lex_zero {α β : Type} {c : α → α → Int} {f : α → β} (h : ∀ x y, c x y = 0 ↔ f x = f y) : ∀ x y, lex c x y = 0 ↔ x.map f = y.map f := by
  intro x
  induction x with
  | nil => intro y; cases y <;> simp [lex]
  | cons a l ih =>
    intro y
    cases y with
    | nil => simp [lex]
    | cons b m =>
      unfold lex
      simp only [List.map_cons, List.cons.injEq, ← h, ← ih]
      by_cases e : c a b = 0
      · simp [e]
      · simp [e]
/-- what begins with another one is not ahead of it -/
theorem lex_prefix {α β : Type} {c : α → α → Int} {f : α → β} (h : ∀ x y, c x y = 0 ↔ f x = f y) : ∀ x y : List α, y.map f <+: x.map f → 0 ≤ lex c x y := by
  intro x
  induction x with
  | nil =>
    intro y hp
    cases y with
    | nil => simp [lex]
    | cons b m => have := hp.length_le; simp at this
  | cons a l ih =>
    intro y hp
    cases y with
    | nil => simp [lex]
    | cons b m =>
      simp only [List.map_cons, List.cons_prefix_cons] at hp
      unfold lex
      rw [if_pos ((h a b).2 hp.1.symm)]
      exact ih m hp.2

def cmpByte (a b : UInt8) : Int := if a < b then -1 else if b < a then 1 else 0
theorem cmpByte_ord : Ord3 cmpByte := by
  refine ⟨fun x y => ?_, fun x y => ?_, fun x y z h1 h2 => ?_⟩
  · unfold cmpByte; split <;> (try split) <;> simp
  · unfold cmpByte
    simp only [UInt8.lt_iff_toNat_lt]
    split <;> split <;> (try split) <;> (try omega) <;> simp
  · unfold cmpByte at *
    simp only [UInt8.lt_iff_toNat_lt] at *
    split at h1 <;> (try split at h1) <;> split at h2 <;> (try split at h2) <;> (try omega) <;> (split <;> (try split) <;> omega)
theorem cmpByte_zero (x y : UInt8) : cmpByte x y = 0 ↔ id x = id y := by
  unfold cmpByte
  simp only [UInt8.lt_iff_toNat_lt, id]
  constructor
  · intro h
    split at h
    · cases h
    · split at h
      · cases h
      · exact UInt8.toNat_inj.1 (by omega)
  · rintro rfl; simp
theorem compareBytes_lex : ∀ a b : List UInt8, Go.Lib.compareBytes a b = lex cmpByte a b := by
  intro a
  induction a with
  | nil => intro b; cases b <;> rfl
  | cons x l ih =>
    intro b
    cases b with
    | nil => rfl
    | cons y m =>
      rw [Go.Lib.compareBytes, lex, ih m]
      unfold cmpByte
      by_cases h1 : x < y
      · simp [h1]
      · by_cases h2 : y < x
        · simp [h1, h2]
        · simp [h1, h2]
theorem smallS_inj (a b : ByteArray) : smallL a.data.toList = smallL b.data.toList ↔ smallS a = smallS b := by
  unfold smallS
  constructor
  · intro h; rw [h]
  · intro h
    injection h with h
    have := congrArg Array.toList h
    simpa using this
theorem cmpB_ord : Ord3 cmpB := by
  have h := lex_ord cmpByte_ord
  refine ⟨fun x y => ?_, fun x y => ?_, fun x y z => ?_⟩
  · unfold cmpB; rw [compareBytes_lex]; exact h.tri _ _
  · unfold cmpB; rw [compareBytes_lex, compareBytes_lex]; exact h.anti _ _
  · unfold cmpB; rw [compareBytes_lex, compareBytes_lex, compareBytes_lex]; exact h.trans _ _ _
theorem cmpB_zero (x y : ByteArray) : cmpB x y = 0 ↔ smallS x = smallS y := by
  unfold cmpB
  rw [compareBytes_lex, lex_zero cmpByte_zero, ← smallS_inj]
  simp
theorem cmpL_lex : ∀ a b : List ByteArray, cmpL a b = lex cmpB a b := by
  intro a
  induction a with
  | nil => intro b; cases b <;> rfl
  | cons x l ih =>
    intro b
    cases b with
    | nil => rfl
    | cons y m => rw [cmpL, lex, ih m]
theorem cmpL_ord : Ord3 cmpL := by
  have h := lex_ord cmpB_ord
  refine ⟨fun x y => ?_, fun x y => ?_, fun x y z => ?_⟩
  · rw [cmpL_lex]; exact h.tri _ _
  · rw [cmpL_lex, cmpL_lex]; exact h.anti _ _
  · rw [cmpL_lex, cmpL_lex, cmpL_lex]; exact h.trans _ _ _
theorem cmpL_zero (x y : List ByteArray) : cmpL x y = 0 ↔ x.map smallS = y.map smallS := by
  rw [cmpL_lex]; exact lex_zero cmpB_zero x y

/-- which one is ahead, as Compare has it -/
def cmpN (a b : List ByteArray) : Int := cmpL a.reverse b.reverse
theorem cmpN_zero (a b : List ByteArray) : cmpN a b = 0 ↔ a.map smallS = b.map smallS := by
  unfold cmpN
  rw [cmpL_zero, List.map_reverse, List.map_reverse]
  exact List.reverse_inj
theorem sameL_iff (a b : List ByteArray) : sameL a b = decide (cmpN a b = 0) := by
  unfold sameL
  rw [decide_eq_decide]
  exact (cmpN_zero a b).symm
theorem underL_iff (a b : List ByteArray) : underL a b = true ↔ b.map smallS <:+ a.map smallS := by
  unfold underL sameL
  simp only [Bool.and_eq_true, decide_eq_true_eq]
  constructor
  · rintro ⟨_, h⟩
    rw [← h, List.map_drop]
    exact List.drop_suffix _ _
  · intro h
    have hl := h.length_le
    simp only [List.length_map] at hl
    refine ⟨hl, ?_⟩
    have := List.suffix_iff_eq_drop.1 h
    rw [List.map_drop, this]
    simp
theorem under_ge {a b : List ByteArray} (h : underL a b = true) : 0 ≤ cmpN a b := by
  unfold cmpN
  rw [cmpL_lex]
  refine lex_prefix cmpB_zero _ _ ?_
  rw [List.map_reverse, List.map_reverse, List.reverse_prefix]
  exact (underL_iff a b).1 h
theorem under_both (a b : List ByteArray) : (underL a b && underL b a) = decide (cmpN a b = 0) := by
  rw [Bool.eq_iff_iff, Bool.and_eq_true, underL_iff, underL_iff, decide_eq_true_iff, cmpN_zero]
  constructor
  · rintro ⟨h1, h2⟩
    exact (h2.eq_of_length (Nat.le_antisymm h2.length_le h1.length_le))
  · intro h
    rw [h]
    exact ⟨List.suffix_refl _, List.suffix_refl _⟩
theorem under_trans {a b c : List ByteArray} (h1 : underL a b = true) (h2 : underL b c = true) : underL a c = true := by
  rw [underL_iff] at *
  exact h2.trans h1
theorem under_self (a : List ByteArray) : underL a a = true := (underL_iff a a).2 (List.suffix_refl _)
theorem under_nil (a : List ByteArray) : underL a [] = true := (underL_iff a []).2 (List.nil_suffix)
theorem lowB_lowB (b : UInt8) : lowB (lowB b) = lowB b := by
  unfold lowB
  have := b.toNat_lt
  by_cases h : 65 ≤ b.toNat ∧ b.toNat ≤ 90
  · rw [if_pos h, UInt8.toNat_ofNat', Nat.mod_eq_of_lt (by omega), if_neg (by omega)]
  · rw [if_neg h, if_neg h]
theorem smallS_smallS (s : ByteArray) : smallS (smallS s) = smallS s := by
  unfold smallS smallL
  simp [lowB_lowB]
theorem fold_fold (a : List ByteArray) : (a.map smallS).map smallS = a.map smallS := by
  rw [List.map_map]
  exact List.map_congr_left fun s _ => smallS_smallS s
end Go.Proofs.YthccknobnpbdeaaDoor
/- The document's answers of names: NameFault, Small, Folded, Numbers, Labels. -/
namespace Go.Proofs.YthccknobnpbdeaaDoor
open Go.RowKit
set_option linter.unusedVariables false
set_option linter.unusedSimpArgs false

set_option maxRecDepth 100000 in
set_option maxHeartbeats 1000000 in
theorem nfault_any (w : World) (A : Option Addr) (n c : Nat) (l : List ByteArray) (B : Nat) (h : Rd strR w B A n c l) :
    Calls Tryd.prog 26 #[.slice A n c] w fun e w' => e = .returned (.int .i64 (nameErr l)) ∧ w' = w := by
  have hm := h.max
  have hcap := h.cap
  unfold maxLen at hm
  have H := hid h
  clear h
  go_enter Tryd.func26, Tryd.ntmps26
  go_wp2
  go_loop [3, 4] (fun v3 v4 => ∃ (k : Nat) (s : Int), k ≤ n ∧ v4 = .int .i64 (k : Int) ∧ v3 = .int .i64 s ∧ s ≤ 400 ∧ 0 ≤ s ∧ (s ≤ 255 → s = (nsize (l.take k) : Int)) ∧ (255 < s → 255 < (nsize (l.take k) : Int)) ∧ (l.take k).all labelOk = true) (fun _ v => n - (intOf v).toNat)
  case atStart => exact ⟨0, 1, by omega, rfl, rfl, by omega, by omega, by simp [nsize], by omega, by simp⟩
  case round =>
    obtain ⟨k, s, hk, rfl, rfl, s1, s0, hs, hs', hall⟩ := hrel
    have HS := hid (And.intro hs hs')
    have HALL := hid hall
    clear hs hs' hall
    by_cases hlt : k < n
    · obtain ⟨b, off, rfl, _, hc, hsz⟩ := H.out.str k hlt
      have hkl : k < l.length := by rw [H.out.len]; exact hlt
      have htk : l.take (k + 1) = l.take k ++ [l[k]] := List.take_succ_eq_append_getElem hkl
      have HTK := hid htk
      obtain ⟨x, hx⟩ : ∃ x, l[k] = x := ⟨_, rfl⟩
      rw [hx] at hc hsz
      have HX := hid hx
      clear htk hx
      have hkz : (k : Int) < (n : Int) := by omega
      have ways : x.size < 1 ∨ (1 ≤ x.size ∧ 63 < x.size) ∨ (1 ≤ x.size ∧ x.size ≤ 63) := by omega
      rcases ways with hb | ⟨hb, hb'⟩ | ⟨hb, hb'⟩
      · have hr : nameErr l = 3 := by
          unfold nameErr
          rw [if_neg]
          intro h
          have := List.all_eq_true.1 h x (by rw [← HX.out]; exact List.getElem_mem _)
          unfold labelOk at this
          simp at this
          omega
        have HR := hid hr
        have hz : ((x.size : Int) == 0) = true := by rw [beq_iff_eq]; omega
        have hz' : (x.size == 0) = true := by rw [beq_iff_eq]; omega
        clear hr hb
        go_wp2
        go_ret
        exact ⟨by rw [HR.out]; rfl, rfl⟩
      · have hr : nameErr l = 3 := by
          unfold nameErr
          rw [if_neg]
          intro h
          have := List.all_eq_true.1 h x (by rw [← HX.out]; exact List.getElem_mem _)
          unfold labelOk at this
          simp at this
          omega
        have HR := hid hr
        have hz : ((x.size : Int) == 0) = false := by rw [beq_eq_false_iff_ne]; omega
        have hz' : (x.size == 0) = false := by rw [beq_eq_false_iff_ne]; omega
        clear hr
        go_wp2
        go_ret
        exact ⟨by rw [HR.out]; rfl, rfl⟩
      · have hall' : (l.take (k + 1)).all labelOk = true := by
          rw [HTK.out, List.all_append, HALL.out, HX.out]
          unfold labelOk
          simp [hb, hb']
        have hsn : nsize (l.take (k + 1)) = nsize (l.take k) + (x.size + 1) := by rw [HTK.out, nsize_snoc, HX.out]
        have HALL' := hid hall'
        have HSN := hid hsn
        have hz : ((x.size : Int) == 0) = false := by rw [beq_eq_false_iff_ne]; omega
        have hz' : (x.size == 0) = false := by rw [beq_eq_false_iff_ne]; omega
        clear hall' hsn
        by_cases hbig : s ≤ 255
        · go_wp2
          go_round
          case rel => exact ⟨k + 1, s + ((x.size : Int) + 1), by omega, by go_num, rfl, by omega, by omega, fun _ => by rw [HSN.out]; have := HS.out.1 hbig; omega, fun _ => by rw [HSN.out]; have := HS.out.1 hbig; omega, HALL'.out⟩
          case measure => simp [intOf]; omega
        · go_wp2
          go_round
          case rel => exact ⟨k + 1, s, by omega, by go_num, rfl, by omega, by omega, fun _ => by omega, fun _ => by rw [HSN.out]; have := HS.out.2 (by omega); omega, HALL'.out⟩
          case measure => simp [intOf]; omega
    · have hkn : l.take k = l := List.take_of_length_le (by rw [H.out.len]; omega)
      have hS := HS.out
      rw [hkn] at hS
      have hA : l.all labelOk = true := by have := HALL.out; rwa [hkn] at this
      by_cases hbig : 255 < s
      · have hr : nameErr l = 5 := by unfold nameErr; rw [if_pos hA, if_neg (by have := hS.2 hbig; omega)]
        have HR := hid hr
        clear hr hkn hS hA
        go_wp2
        go_ret
        exact ⟨by rw [HR.out]; rfl, rfl⟩
      · have hr : nameErr l = 0 := by unfold nameErr; rw [if_pos hA, if_pos (by have := hS.1 (by omega); omega)]
        have HR := hid hr
        clear hr hkn hS hA
        go_wp2
        go_ret
        exact ⟨by rw [HR.out]; rfl, rfl⟩

/-! Folded -/
/-- 'string(b)', b a row of the call's own -/
theorem conv_own {w : World} {base n : Nat} {v : Value} {l : List UInt8} (h : w.ownsRow base 5 1 v n (bytesV l)) : (convert 22 9 v).run Tryd.prog w = .ok (.string ⟨l.toArray⟩) w := by
  have hl : l.length = n := by have := h.1; simpa [bytesV] using this
  rcases h.2 with ⟨rfl, rfl⟩ | ⟨g, cap, cur, rfl, hb, hh, hnc, hcm, hcs, ht⟩
  · have : l = [] := List.eq_nil_of_length_eq_zero hl
    subst this
    exact run_convert_bytes_nil _ 22 5 Tryd.underlying22 Tryd.underlying5 0 0 9 Tryd.underlying9
  · have := run_convert_bytes_back w 22 9 5 ⟨g, 0, none⟩ cap l Tryd.underlying22 Tryd.underlying5 Tryd.underlying9 (by
      intro j hj
      have := h.cells (g := g) rfl j (.int .u8 (l[j].toNat : Int)) (by rw [bytesV, List.getElem?_map, List.getElem?_eq_getElem hj]; rfl)
      simpa using this)
    rwa [hl] at this

/-! Labels -/
theorem lex_byte_nil (a : List UInt8) (k : Nat) (b : List UInt8) (ha : a.length = k ∨ b.length = k) (hk : k ≤ a.length) (hk' : k ≤ b.length) : lex cmpByte (a.drop k) (b.drop k) = if a.length < b.length then -1 else if b.length < a.length then 1 else 0 := by
  rcases ha with h | h
  · rw [List.drop_eq_nil_of_le (by omega)]
    by_cases e : b.length = k
    · rw [List.drop_eq_nil_of_le (by omega), if_neg (by omega), if_neg (by omega)]; rfl
    · rw [List.drop_eq_getElem_cons (by omega), if_pos (by omega)]; rfl
  · rw [show b.drop k = [] from List.drop_eq_nil_of_le (by omega)]
    by_cases e : a.length = k
    · rw [List.drop_eq_nil_of_le (by omega), if_neg (by omega), if_neg (by omega)]; rfl
    · rw [List.drop_eq_getElem_cons (by omega), if_neg (by omega), if_pos (by omega)]; rfl
theorem cmpB_lex (a b : ByteArray) : cmpB a b = lex cmpByte (smallL a.data.toList) (smallL b.data.toList) := by unfold cmpB; exact compareBytes_lex _ _

theorem lex_step {x y : UInt8} {l m : List UInt8} {k : Nat} (hl : k < l.length) (hm : k < m.length) (hx : l[k] = x) (hy : m[k] = y) : lex cmpByte (l.drop k) (m.drop k) = if cmpByte x y = 0 then lex cmpByte (l.drop (k + 1)) (m.drop (k + 1)) else cmpByte x y := by
  rw [List.drop_eq_getElem_cons hl, List.drop_eq_getElem_cons hm, lex, hx, hy]

end Go.Proofs.YthccknobnpbdeaaDoor
/- The document's answers of records: two bytes, RecordFault, RecordAt. -/
namespace Go.Proofs.YthccknobnpbdeaaDoor
open Go.RowKit
set_option linter.unusedVariables false
set_option linter.unusedSimpArgs false

theorem rpair_any {w : World} (x : Int) (h0 : 0 ≤ x) (h1 : x ≤ 65535) :
    Calls Tryd.prog 25 #[.int .i64 x] w fun e w' => ∃ A' c', e = .returned (.slice A' 2 c') ∧ Rd u8R w' w'.heap.size A' 2 c' (two2 x) ∧ Below w.heap.size w w' := by
  have hc : Rd u8R (w.alloc (.cells #[.int .u8 (x / 256), .int .u8 (x % 256)] 5)) (w.alloc (.cells #[.int .u8 (x / 256), .int .u8 (x % 256)] 5)).heap.size (some ⟨w.heap.size, 0, none⟩) 2 2 (two2 x) := by
    refine rd_lit 5 _ (two2 x) 2 rfl ?_ rfl (by omega)
    simp only [two2, List.map_cons, List.map_nil, UInt8.toNat_ofNat']
    congr 2 <;> (try congr 1) <;> omega
  have HC := hid hc
  clear hc
  go_enter Tryd.func25, Tryd.ntmps25
  go_wp2
  go_ret
  exact ⟨_, _, rfl, HC.out, (by (repeat' (first | (with_reducible exact Below.refl _ _) | (with_reducible assumption) | (with_reducible refine below_ext0 ?_ _ _) | (with_reducible refine below_alloc0 ?_ _) | (with_reducible refine Below.ext ?_ ?_ _ _) | (with_reducible refine Below.alloc ?_ ?_ _) | (with_reducible refine Below.setCell ?_ ?_ _) | (with_reducible refine Below.drew ?_) | (with_reducible refine below_draws ?_ _) | go_size | (simp [size_ext]; done) | (simp [size_ext]; omega))))⟩
theorem rpair_at {w : World} {B b o n c : Nat} {m : List UInt8} (hM : Rd u8R w B (some ⟨b, o, none⟩) n c m) (p : Nat) {x : Int} (hx : x = (p : Int)) (hp : p + 2 ≤ n) {k : Nat} (hk : at2 m p = k) :
    Calls Tryd.prog 12 #[.slice (some ⟨b, o, none⟩) n c, .int .i64 x] w fun e w' => e = .returned (.int .i64 (k : Int)) ∧ Below w.heap.size w w' := by
  obtain ⟨x0, x1, hxy, c0, c1, lb⟩ := hM.two p hp
  subst hx
  rw [hk] at hxy
  have hc := hM.cap
  have hm := hM.max
  have hl := hM.lim
  simp only [u8R, Nat.mul_one] at hl
  unfold maxLen at hm
  have hx := x0.toNat_lt
  have hy := x1.toNat_lt
  have hkk : (x0.toNat : Int) * 256 + (x1.toNat : Int) = (k : Int) := by omega
  have p0 : (0 : Int) ≤ (x0.toNat : Int) := by omega
  have p1 : (0 : Int) ≤ (x1.toNat : Int) := by omega
  have p2 : (x0.toNat : Int) ≤ 255 := by omega
  have p3 : (x1.toNat : Int) ≤ 255 := by omega
  clear hM hxy hk hx hy
  generalize (x0.toNat : Int) = y0 at *
  generalize (x1.toNat : Int) = y1 at *
  have v0 : IntKind.i64.wrap y0 = y0 := IntWalk.i64_in _ (by omega)
  have v01 : IntKind.i64.wrap (y0 * 256) = y0 * 256 := IntWalk.i64_in _ (by omega)
  have v1 : IntKind.i64.wrap y1 = y1 := IntWalk.i64_in _ (by omega)
  have vk : IntKind.i64.wrap (k : Int) = (k : Int) := IntWalk.i64_in _ (by omega)
  have v3 : IntKind.i64.wrap ((p : Int) + 1) = (p : Int) + 1 := IntWalk.i64_in _ (by omega)
  have j0 : (p : Int) < (n : Int) := by omega
  have j1 : (p : Int) + 1 < (n : Int) := by omega
  have j2 : p < n := by omega
  have j3 : p + 1 < n := by omega
  have j4 : (0 : Int) ≤ (p : Int) := by omega
  have j5 : (0 : Int) ≤ (p : Int) + 1 := by omega
  rw [Nat.add_assoc] at c1
  have c1' : w.cell? ⟨b, o + ((p : Int) + 1).toNat, none⟩ = some (.int .u8 y1) := by rw [show ((p : Int) + 1).toNat = p + 1 by omega]; exact c1
  go_enter Tryd.func12, Tryd.ntmps12
  go_wp2_with fail
  go_region_held3 (fun w' => w'.cell? ⟨b, o + p, none⟩ = some (.int .u8 y0) ∧ w'.cell? ⟨b, o + (p + 1), none⟩ = some (.int .u8 y1)) (go_keep) (fail)
  all_goals go_wp2
  all_goals go_ret
  all_goals exact ⟨by first | rfl | (rw [vk]; rfl) | (simp [vk]; done), by (repeat' (first | (with_reducible exact Below.refl _ _) | (with_reducible assumption) | (with_reducible refine below_ext0 ?_ _ _) | (with_reducible refine below_alloc0 ?_ _) | (with_reducible refine Below.ext ?_ ?_ _ _) | (with_reducible refine Below.alloc ?_ ?_ _) | (with_reducible refine Below.setCell ?_ ?_ _) | (with_reducible refine Below.drew ?_) | (with_reducible refine below_draws ?_ _) | go_size | (simp [size_ext]; done) | (simp [size_ext]; omega)))⟩
theorem rword_any (w : World) (x : Int) (hx : I64 x) : Calls Tryd.prog 27 #[.int .i64 x] w fun e w' => e = .returned (.bool (decide (0 ≤ x) && decide (x ≤ 65535))) ∧ Below w.heap.size w w' := by
  by_cases h0 : 0 ≤ x
  · have e0 : decide (0 ≤ x) = true := decide_eq_true h0
    by_cases h1 : x ≤ 65535
    · have e1 : decide (x ≤ 65535) = true := decide_eq_true h1
      go_enter Tryd.func27, Tryd.ntmps27
      go_wp2
      go_ret
      exact ⟨by simp [h0, h1], (by (repeat' (first | (with_reducible exact Below.refl _ _) | (with_reducible assumption) | (with_reducible refine below_ext0 ?_ _ _) | (with_reducible refine below_alloc0 ?_ _) | (with_reducible refine Below.ext ?_ ?_ _ _) | (with_reducible refine Below.alloc ?_ ?_ _) | (with_reducible refine Below.setCell ?_ ?_ _) | (with_reducible refine Below.drew ?_) | (with_reducible refine below_draws ?_ _) | go_size | (simp [size_ext]; done) | (simp [size_ext]; omega))))⟩
    · have e1 : decide (x ≤ 65535) = false := decide_eq_false h1
      have h2 : 65535 < x := by omega
      go_enter Tryd.func27, Tryd.ntmps27
      go_wp2
      go_ret
      exact ⟨by simp [h0, h1], (by (repeat' (first | (with_reducible exact Below.refl _ _) | (with_reducible assumption) | (with_reducible refine below_ext0 ?_ _ _) | (with_reducible refine below_alloc0 ?_ _) | (with_reducible refine Below.ext ?_ ?_ _ _) | (with_reducible refine Below.alloc ?_ ?_ _) | (with_reducible refine Below.setCell ?_ ?_ _) | (with_reducible refine Below.drew ?_) | (with_reducible refine below_draws ?_ _) | go_size | (simp [size_ext]; done) | (simp [size_ext]; omega))))⟩
  · have e0 : decide (0 ≤ x) = false := decide_eq_false h0
    have h2 : x < 0 := by omega
    go_enter Tryd.func27, Tryd.ntmps27
    go_wp2
    go_ret
    exact ⟨by simp [h0], (by (repeat' (first | (with_reducible exact Below.refl _ _) | (with_reducible assumption) | (with_reducible refine below_ext0 ?_ _ _) | (with_reducible refine below_alloc0 ?_ _) | (with_reducible refine Below.ext ?_ ?_ _ _) | (with_reducible refine Below.alloc ?_ ?_ _) | (with_reducible refine Below.setCell ?_ ?_ _) | (with_reducible refine Below.drew ?_) | (with_reducible refine below_draws ?_ _) | go_size | (simp [size_ext]; done) | (simp [size_ext]; omega))))⟩
end Go.Proofs.YthccknobnpbdeaaDoor
