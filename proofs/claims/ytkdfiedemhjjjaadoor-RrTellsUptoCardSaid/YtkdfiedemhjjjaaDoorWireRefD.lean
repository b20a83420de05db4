/- The document's answers of names as they are sent: Packed. -/
import Derived.Test.YtkdfiedemhjjjaaDoorWireRefC
namespace Go.Proofs.YtkdfiedemhjjjaaDoor
open Go.RowKit
set_option linter.unusedVariables false

theorem packL_skip (m : List UInt8) (ss : List Int) (l : List ByteArray) : ∃ K, K ≤ l.length ∧ (∀ j, j < K → findS m (l.drop j) ss < 0) ∧ (K = l.length ∨ 0 ≤ findS m (l.drop K) ss) := by
  have key : ∀ d K, K ≤ l.length → l.length - K ≤ d → (∀ j, j < K → findS m (l.drop j) ss < 0) → ∃ K, K ≤ l.length ∧ (∀ j, j < K → findS m (l.drop j) ss < 0) ∧ (K = l.length ∨ 0 ≤ findS m (l.drop K) ss) := by
    intro d
    induction d with
    | zero => intro K h1 h2 h3; exact ⟨K, h1, h3, .inl (by omega)⟩
    | succ d ih =>
      intro K h1 h2 h3
      by_cases h4 : 0 ≤ findS m (l.drop K) ss
      · exact ⟨K, h1, h3, .inr h4⟩
      · by_cases h5 : K = l.length
        · exact ⟨K, h1, h3, .inl h5⟩
        · exact ih (K + 1) (by omega) (by omega) (fun j hj => by
            by_cases c : j = K
            · subst c; omega
            · exact h3 j (by omega))
  exact key l.length 0 (Nat.zero_le _) (by omega) (fun j hj => by omega)
theorem sent_take {l : List ByteArray} {X : List UInt8} {r : Nat} (hr : (sentL l).length = r) : (sentL l ++ X).take r = sentL l := by
  subst hr
  simp
theorem Rd.src_int {w : World} {B n c : Nat} {A : Option Addr} {l : List Int} (h : Rd intR w B A n c l) : Src w A n c 1 (intsV l) := by
  obtain ⟨ys, hr, hs⟩ := h.src (R := intR) fun a vs (hv : vs = _ ∧ _) u hu => by
    rw [hv.1] at hu
    simp at hu
    subst hu
    rfl
  obtain ⟨vss, h1, rfl, hv⟩ := hr
  have : vss = l.map fun s => [Value.int .i64 s] := by
    apply List.ext_getElem (by simpa using h1)
    intro i hi hi'
    simp only [List.getElem_map]
    exact (hv i (by omega) hi).1
  rw [this] at hs
  rw [flat_int] at hs
  exact hs
theorem rptr_cells (p : Int) (h0 : 0 ≤ p) (h1 : p ≤ 16383) : [Value.int .u8 (192 + p / 256), Value.int .u8 (p % 256)] = bytesV (ptrB p) := by
  obtain ⟨q, rfl⟩ : ∃ q : Nat, p = (q : Int) := ⟨p.toNat, by omega⟩
  simp only [bytesV, ptrB, List.map_cons, List.map_nil, Int.toNat_natCast, UInt8.toNat_ofNat']
  congr 2 <;> (try congr 1) <;> omega
theorem pkR_ok {w w' : World} {m : List UInt8} {ss : List Int} {l : List ByteArray} {v v' : Value} {X : List UInt8} {Y : List Int} (hp : packL m ss l m ss = (X, Y)) (ho : w'.ownsRow w.heap.size 5 1 v X.length (bytesV X)) (ha : w'.ownsRow w.heap.size 3 1 v' Y.length (intsV Y)) (hap : Apart v v')
    (hi : ∀ s ∈ Y, I64 s) (hb : Below w.heap.size w w') (hX : X.length ≤ 140737488355328) (hY : Y.length * 8 ≤ 140737488355328) :
    ∃ u u', Ending.returned (.tuple #[v, v']) = .returned (.tuple #[u, u']) ∧ OwnP w w' m ss l u u' ∧ Below w.heap.size w w' :=
  ⟨v, v', rfl, ownP_of hp ho ha hap hi hX hY, hb⟩
theorem rsrc_ptr {w1 : World} {t : TypeId} (p : Int) (h0 : 0 ≤ p) (h1 : p ≤ 16383) : Src (w1.alloc (.cells #[.int .u8 (192 + p / 256), .int .u8 (p % 256)] t)) (some ⟨w1.heap.size, 0, none⟩) 2 2 1 (bytesV (ptrB p)) := by
  rw [← rptr_cells p h0 h1]
  exact src_lit (w := w1) (t := t) #[.int .u8 (192 + p / 256), .int .u8 (p % 256)] rfl (by simp [Value.oneCell']) rfl

set_option maxRecDepth 100000 in
set_option maxHeartbeats 8000000 in
theorem packed_all (w : World) (A : Option Addr) (n c : Nat) (m : List UInt8) (hM : Rd u8R w w.heap.size A n c m) (A1 : Option Addr) (n1 c1 : Nat) (ss : List Int) (hS : Rd intR w w.heap.size A1 n1 c1 ss) (A2 : Option Addr) (n2 c2 : Nat) (l : List ByteArray) (hL : Rd strR w w.heap.size A2 n2 c2 l)
    (hlim : n + 256 ≤ 140737488355328) (hlim1 : n1 * 8 + 4096 ≤ 140737488355328) (hf : nameErr l = 0) (K : Nat) (hK : K = n2) (hKn : ∀ j, j < K → findS m (l.drop j) ss < 0) :
    Calls Tryd.prog 43 #[.slice A n c, .slice A1 n1 c1, .slice A2 n2 c2] w fun e w' => ∃ v v', e = .returned (.tuple #[v, v']) ∧ OwnP w w' m ss l v v' ∧ Below w.heap.size w w' := by
  have c2m := hL.max
  have c2c := hL.cap
  unfold maxLen at c2m
  have hok := nameErr_zero.1 hf
  have hls : lsum l ≤ 254 := by have := hok.2; rw [nsize_lsum] at this; omega
  have hll := lsum_len l
  have hln : l.length = n2 := hL.len
  have hn2 : n2 ≤ 254 := by omega
  have hmn : m.length = n := hM.len
  have hsn : ss.length = n1 := hS.len
  have S1 := hid hM.src_u8
  have S2 := hid (hS.src_int)
  have CF := hid fun w' (hb : Below w.heap.size w w') A' n' c' l' (hr : Rd strR w' w'.heap.size A' n' c' l') => rstart_any w' A n c m (hM.later hb) A1 n1 c1 ss (hS.later hb) A' n' c' l' hr
  have HL := hid hL
  have HOK := hid hok
  have HLN := hid hln
  have HMN := hid hmn
  have HSN := hid hsn
  have HI := hid hS.i64s
  have HKN := hid hKn
  have ab1 : (0 + n) * 1 ≤ 140737488355328 := by omega
  have ab2 : 0 + n ≤ maxLen := by unfold maxLen; omega
  have ab3 : (0 + n1) * 8 ≤ 140737488355328 := by omega
  have ab4 : 0 + n1 ≤ maxLen := by unfold maxLen; omega
  subst hK
  clear hM hL hS hok hf hln hmn hsn hKn
  have tk0 : True := trivial; have tk1 : True := trivial; have tk2 : True := trivial; have tk3 : True := trivial; have tk4 : True := trivial; have tk5 : True := trivial; have tk6 : True := trivial; have tk7 : True := trivial; have tk8 : True := trivial; have tk9 : True := trivial; have tk10 : True := trivial; have tk11 : True := trivial; have tk12 : True := trivial
  go_enter Tryd.func43, Tryd.ntmps43
  go_wp2
  go_loopg [8] K (fun gk u8 wi => ∃ k : Nat, k ≤ K ∧ gk = K - k ∧ u8 = .int .i64 (k : Int) ∧ Below w.heap.size w wi)
  case atStart => exact ⟨0, Nat.zero_le _, rfl, rfl, Below.refl _ _⟩
  case round =>
    obtain ⟨k, hk, rfl, rfl, hlow⟩ := hrel
    have hzw : w.heap.size ≤ wr.heap.size := hlow.size
    have HLOW := hid hlow
    clear hlow
    by_cases hlt : k < K
    · obtain ⟨b, o, rfl, lb⟩ := HL.out.addr (by omega)
      have CFK := CF.out wr HLOW.out _ _ _ _ ((HL.out.dropS (k := k) (by omega)).keep hzw fun p hp => HLOW.out.cell hp)
      obtain ⟨p0, hp0⟩ : ∃ p0, findS m (l.drop k) ss = p0 := ⟨_, rfl⟩
      have hneg := HKN.out k hlt
      rw [hp0] at CFK hneg
      replace CFK := hid CFK
      have hc0 : (k : Int) < (K : Int) := by omega
      have hcc : ¬ c2 = k := by omega
      clear hp0
      go_wp2_with (go_at_call 70; (with_reducible refine CFK.out.mono ?_); rintro e w1 ⟨rfl, hb1⟩; have HB1 := hid hb1; clear hb1)
      go_roundg (K - (k + 1))
      case measure => omega
      case rel => exact ⟨k + 1, by omega, rfl, by go_num, HLOW.out.trans (HB1.out.mono hzw)⟩
    · obtain rfl : k = K := by omega
      have w0 : w.heap.size ≤ wr.heap.size := hzw
      go_wp2_with (first
        | (at_builtin; have _t := tk2; refine wpList_appT rfl _ _ 22 rfl w.heap.size 5 1 1 el_u8 (.slice (some ⟨wr.heap.size, 0, none⟩) 0 0) 0 [] rfl (own_empty HLOW.out.size) _ n c _ rfl ((S1.out.later HLOW.out).later ((Below.refl _ _).alloc (Nat.le_refl _) _)) ab1 ab2 (by have := HLOW.out.size; simp; omega) ?_; intro v2 w2 ho2 ha2; have HO2 := hid ho2; have HB2 := hid ((HLOW.out.alloc HLOW.out.size _).trans (ha2.below (own_empty HLOW.out.size) (by have := HLOW.out.size; simp; omega))); clear ho2 ha2 tk2)
        | (at_builtin; have _t := tk3; refine wpList_appT rfl _ _ 23 rfl w.heap.size 3 1 8 el_int (.slice (some ⟨w2.heap.size, 0, none⟩) 0 0) 0 [] rfl (own_empty HB2.out.size) _ n1 c1 _ rfl ((S2.out.later HB2.out).later ((Below.refl _ _).alloc (Nat.le_refl _) _)) ab3 ab4 (by have := HB2.out.size; simp; omega) ?_; intro v3 w3 ho3 ha3; have HO3 := hid ho3; have HA3 := hid (ha3.other ((HO2.out).alloc _) (apart_of (m := w2.heap.size) (fun g e => (HO2.out.lt g e).2) (fun g e => by cases e; exact Nat.le_refl _))); have HB3 := hid ((HB2.out.alloc HB2.out.size _).trans (ha3.below (own_empty HB2.out.size) (by have := HB2.out.size; simp; omega))); clear ho3 ha3 tk3))
      go_loopg [9, 10, 11] k (fun gk u9 u10 u11 wi => ∃ (i : Nat) (al : List Int), i ≤ k ∧ gk = k - i ∧ u11 = .int .i64 (i : Int) ∧ PkS w m ss l k i wi u9 u10 al)
      case atStart =>
        refine ⟨0, ss, Nat.zero_le _, rfl, rfl, ?_, ?_, ?_, HB3.out, HI.out, by omega, ?_⟩
        · have := HA3.out.1
          rw [HMN.out]
          simpa [sentL, lsum] using this
        · rw [HSN.out]
          simpa using HO3.out
        · exact HA3.out.2
        · simp [sentL]
      case round =>
        obtain ⟨i, al, hi, rfl, rfl, hs⟩ := hrel
        have hzi : w.heap.size ≤ wr.heap.size := hs.bel.size
        have hal := hs.len
        have hlk := lsum_take l i
        have PS := hid hs
        clear hs
        by_cases hlti : i < k
        · obtain ⟨bi, oi, hA2, lbi⟩ := HL.out.addr (by omega)
          cases hA2
          have hkl : i < l.length := by rw [HLN.out]; omega
          have hdr : l.drop i = l[i] :: l.drop (i + 1) := List.drop_eq_getElem_cons hkl
          have htk : l.take (i + 1) = l.take i ++ [l[i]] := List.take_succ_eq_append_getElem hkl
          have hstep := PS.out.pack
          rw [hdr, packL, ← hdr, if_neg (by have := HKN.out i hlti; omega)] at hstep
          have hlx : labelOk l[i] = true := List.all_eq_true.1 HOK.out.1 _ (List.getElem_mem hkl)
          obtain ⟨x, hx⟩ : ∃ x, l[i] = x := ⟨_, rfl⟩
          rw [hx] at htk hlx hstep
          obtain ⟨r, hr⟩ : ∃ r, x.size + 1 = r := ⟨_, rfl⟩
          have hls1 : lsum (l.take (i + 1)) = lsum (l.take i) + r := by rw [htk, lsum_snoc, hr]
          have hle1 := lsum_take l (i + 1)
          have hxs : lsum [x] = r := by simp [lsum, hr]
          have hsl : (sentL [x]).length = r := by rw [sentL_len, hxs]
          obtain ⟨N, hN⟩ : ∃ N, m.length + lsum (l.take i) = N := ⟨_, rfl⟩
          have hlen : (m ++ sentL (l.take i)).length = N := by rw [List.length_append, sentL_len, hN]
          rw [hlen, List.append_assoc, ← sentL_append, ← htk] at hstep
          have ho10 := PS.out.out
          rw [hN] at ho10
          obtain ⟨A', cap', rfl, _, _, _⟩ := own_slice ho10
          have HO10 := hid ho10
          have hNb : N ≤ n + 254 := by have := HMN.out; omega
          have hXb : N + r ≤ n + 254 := by have := HMN.out; omega
          have HN := hid hN
          have HST := hid hstep
          have HTK := hid htk
          have HLS1 := hid hls1
          have HSL := hid hsl
          have hR1 : Rd strR w w.heap.size (some ⟨bi, oi + i, none⟩) 1 (c2 - i) [x] := by
            have := (HL.out.dropS (k := i) (by omega)).take (k := 1) (by omega)
            rw [List.drop_eq_getElem_cons hkl, hx] at this
            simpa using this
          have CS := fun W (hb : Below w.heap.size w W) => rsent_any W _ _ _ [x] (hR1.later hb) (by simp [hlx]) (by omega)
          rw [hxs] at CS
          replace CS := hid CS
          have q1 : (i : Int) < (k : Int) := by omega
          have q2 : (i : Int) + 1 ≤ (c2 : Int) := by omega
          have q3 : ¬ c2 = i := by omega
          have ab5 : (N + r) * 1 ≤ 140737488355328 := by omega
          have ab6 : N + r ≤ maxLen := by unfold maxLen; omega
          clear ho10 hN hstep htk hls1 hsl hxs hR1 hlx hx hdr hr hlen
          by_cases hbig : N ≤ 16383
          · have ab7 : (al.length + 1) * 8 ≤ 140737488355328 := by have := HSN.out; omega
            have ab8 : al.length + 1 ≤ maxLen := by unfold maxLen; omega
            go_wp2_with (first
              | (at_builtin; have _t := tk4; refine wpList_appT rfl _ _ 23 rfl w.heap.size 3 1 8 el_int u10 al.length _ rfl (PS.out.all.alloc _) _ 1 1 [.int .i64 (N : Int)] rfl (src_one _ rfl rfl) ab7 ab8 (by simp; omega) ?_; intro v5 w5 ho5 ha5; have HO5 := hid ho5; have HOUT := hid (ha5.other (HO10.out.alloc _) PS.out.apart); have HB5 := hid ((PS.out.bel.alloc hzi _).trans (ha5.below (PS.out.all.alloc _) (by simp; omega))); clear ho5 ha5 tk4)
              | (go_at_call 71; (with_reducible refine (CS.out _ HB5.out).mono ?_); rintro e w6 ⟨A6, c6, rfl, hr6, hb6⟩; obtain ⟨b6, o6, rfl, _⟩ := hr6.addr (by omega); have hc6 := hr6.cap; have HB6 := hid (HB5.out.trans (hb6.mono HB5.out.size)); have HO6 := hid (own_low HOUT.out.1 hb6 (Nat.le_refl _)); have HAL6 := hid (own_low HO5.out hb6 (Nat.le_refl _)); have hs6 := (hr6.take (k := r) (by omega)).src_u8; rw [sent_take HSL.out] at hs6; have HS6 := hid hs6; have q4 : (r : Int) ≤ (c6 : Int) := (by omega); clear hr6 hb6 hs6)
              | (at_builtin; have _t := tk5; refine wpList_appT rfl _ _ 22 rfl w.heap.size 5 1 1 el_u8 _ N _ rfl HO6.out _ r c6 _ rfl HS6.out ab5 ab6 HB6.out.size ?_; intro v7 w7 ho7 ha7; have HO7 := hid ho7; have HA7 := hid ha7; clear ho7 ha7 tk5))
            go_roundg (k - (i + 1))
            case measure => omega
            case rel =>
              obtain ⟨hall, hap⟩ := HA7.out.other HAL6.out (Apart.symm HOUT.out.2)
              have hst := HST.out
              rw [if_pos hbig] at hst
              refine ⟨i + 1, al ++ [(N : Int)], by omega, rfl, by go_num, ?_, by simpa [intsV] using hall, Apart.symm hap, HB6.out.trans (HA7.out.below HO6.out HB6.out.size), ?_, by simp; omega, hst⟩
              · have := HO7.out
                rw [HLS1.out, ← Nat.add_assoc, HN.out, HTK.out, sentL_append, ← List.append_assoc]
                simpa [bytesV] using this
              · intro s hs
                rcases List.mem_append.1 hs with h | h
                · exact PS.out.ints s h
                · obtain rfl := List.mem_singleton.1 h
                  unfold I64; omega
          · have hbig' : 16383 < N := by omega
            go_wp2_with (first
              | (go_at_call 71; (with_reducible refine (CS.out _ PS.out.bel).mono ?_); rintro e w6 ⟨A6, c6, rfl, hr6, hb6⟩; obtain ⟨b6, o6, rfl, _⟩ := hr6.addr (by omega); have hc6 := hr6.cap; have HB6 := hid (PS.out.bel.trans (hb6.mono hzi)); have HO6 := hid (own_low HO10.out hb6 (Nat.le_refl _)); have HAL6 := hid (own_low PS.out.all hb6 (Nat.le_refl _)); have hs6 := (hr6.take (k := r) (by omega)).src_u8; rw [sent_take HSL.out] at hs6; have HS6 := hid hs6; have q4 : (r : Int) ≤ (c6 : Int) := (by omega); clear hr6 hb6 hs6)
              | (at_builtin; have _t := tk5; refine wpList_appT rfl _ _ 22 rfl w.heap.size 5 1 1 el_u8 _ N _ rfl HO6.out _ r c6 _ rfl HS6.out ab5 ab6 HB6.out.size ?_; intro v7 w7 ho7 ha7; have HO7 := hid ho7; have HA7 := hid ha7; clear ho7 ha7 tk5))
            go_roundg (k - (i + 1))
            case measure => omega
            case rel =>
              obtain ⟨hall, hap⟩ := HA7.out.other HAL6.out (Apart.symm PS.out.apart)
              have hst := HST.out
              rw [if_neg hbig] at hst
              refine ⟨i + 1, al, by omega, rfl, by go_num, ?_, hall, Apart.symm hap, HB6.out.trans (HA7.out.below HO6.out HB6.out.size), PS.out.ints, by omega, hst⟩
              have := HO7.out
              rw [HLS1.out, ← Nat.add_assoc, HN.out, HTK.out, sentL_append, ← List.append_assoc]
              simpa [bytesV] using this
        · obtain rfl : i = k := by omega
          have hdr : l.drop i = [] := List.drop_eq_nil_of_le (by rw [HLN.out]; exact Nat.le_refl _)
          have hst := PS.out.pack
          rw [hdr, packL] at hst
          have HST := hid hst
          have ab5 : (m.length + lsum (l.take i) + 1) * 1 ≤ 140737488355328 := by have := HMN.out; omega
          have ab6 : m.length + lsum (l.take i) + 1 ≤ maxLen := by unfold maxLen; have := HMN.out; omega
          clear hst hdr
          go_wp2_with (at_builtin; refine wpList_appT rfl _ _ 22 rfl w.heap.size 5 1 1 el_u8 u9 (m.length + lsum (l.take i)) _ rfl (PS.out.out.alloc _) _ 1 1 [.int .u8 0] rfl (src_one _ rfl rfl) ab5 ab6 (by simp; omega) ?_; intro v5 w5 ho5 ha5; have HO5 := hid ho5; have HA5 := hid ha5; clear ho5 ha5)
          go_ret2
          obtain ⟨hall, hap⟩ := HA5.out.other (PS.out.all.alloc _) PS.out.apart.symm
          have hb5 := HA5.out.below (PS.out.out.alloc _) (by simp; omega)
          have hXl : (m ++ sentL (l.take i) ++ [0]).length = m.length + lsum (l.take i) + 1 := by rw [List.length_append, List.length_append, sentL_len]; rfl
          refine pkR_ok HST.out ?_ hall (Apart.symm hap) PS.out.ints ((PS.out.bel.alloc (by omega) _).trans hb5) (by omega) (by have := HSN.out; omega)
          rw [hXl]
          simpa [bytesV] using HO5.out
set_option maxRecDepth 100000 in
set_option maxHeartbeats 8000000 in
theorem packed_ptr (w : World) (A : Option Addr) (n c : Nat) (m : List UInt8) (hM : Rd u8R w w.heap.size A n c m) (A1 : Option Addr) (n1 c1 : Nat) (ss : List Int) (hS : Rd intR w w.heap.size A1 n1 c1 ss) (A2 : Option Addr) (n2 c2 : Nat) (l : List ByteArray) (hL : Rd strR w w.heap.size A2 n2 c2 l)
    (hlim : n + 256 ≤ 140737488355328) (hlim1 : n1 * 8 + 4096 ≤ 140737488355328) (hf : nameErr l = 0) (K : Nat) (hK : K < n2) (hKn : ∀ j, j < K → findS m (l.drop j) ss < 0) (hp : 0 ≤ findS m (l.drop K) ss) :
    Calls Tryd.prog 43 #[.slice A n c, .slice A1 n1 c1, .slice A2 n2 c2] w fun e w' => ∃ v v', e = .returned (.tuple #[v, v']) ∧ OwnP w w' m ss l v v' ∧ Below w.heap.size w w' := by
  have c2m := hL.max
  have c2c := hL.cap
  unfold maxLen at c2m
  have hok := nameErr_zero.1 hf
  have hls : lsum l ≤ 254 := by have := hok.2; rw [nsize_lsum] at this; omega
  have hll := lsum_len l
  have hln : l.length = n2 := hL.len
  have hn2 : n2 ≤ 254 := by omega
  have hmn : m.length = n := hM.len
  have hsn : ss.length = n1 := hS.len
  have S1 := hid hM.src_u8
  have S2 := hid (hS.src_int)
  have CF := hid fun w' (hb : Below w.heap.size w w') A' n' c' l' (hr : Rd strR w' w'.heap.size A' n' c' l') => rstart_any w' A n c m (hM.later hb) A1 n1 c1 ss (hS.later hb) A' n' c' l' hr
  have HL := hid hL
  have HOK := hid hok
  have HLN := hid hln
  have HMN := hid hmn
  have HSN := hid hsn
  have HI := hid hS.i64s
  have HKN := hid hKn
  have ab1 : (0 + n) * 1 ≤ 140737488355328 := by omega
  have ab2 : 0 + n ≤ maxLen := by unfold maxLen; omega
  have ab3 : (0 + n1) * 8 ≤ 140737488355328 := by omega
  have ab4 : 0 + n1 ≤ maxLen := by unfold maxLen; omega
  obtain ⟨p, hpp⟩ : ∃ p, findS m (l.drop K) ss = p := ⟨_, rfl⟩
  have hfo := findS_or m (l.drop K) ss
  rw [hpp] at hp hfo
  have hp1 : p ≤ 16383 := by rcases hfo with h | h <;> omega
  have HPP := hid hpp
  clear hfo hpp
  clear hM hL hS hok hf hln hmn hsn hKn
  have tk0 : True := trivial; have tk1 : True := trivial; have tk2 : True := trivial; have tk3 : True := trivial; have tk4 : True := trivial; have tk5 : True := trivial; have tk6 : True := trivial; have tk7 : True := trivial; have tk8 : True := trivial; have tk9 : True := trivial; have tk10 : True := trivial; have tk11 : True := trivial; have tk12 : True := trivial
  go_enter Tryd.func43, Tryd.ntmps43
  go_wp2
  go_loopg [8] K (fun gk u8 wi => ∃ k : Nat, k ≤ K ∧ gk = K - k ∧ u8 = .int .i64 (k : Int) ∧ Below w.heap.size w wi)
  case atStart => exact ⟨0, Nat.zero_le _, rfl, rfl, Below.refl _ _⟩
  case round =>
    obtain ⟨k, hk, rfl, rfl, hlow⟩ := hrel
    have hzw : w.heap.size ≤ wr.heap.size := hlow.size
    have HLOW := hid hlow
    clear hlow
    by_cases hlt : k < K
    · obtain ⟨b, o, rfl, lb⟩ := HL.out.addr (by omega)
      have CFK := CF.out wr HLOW.out _ _ _ _ ((HL.out.dropS (k := k) (by omega)).keep hzw fun p hp => HLOW.out.cell hp)
      obtain ⟨p0, hp0⟩ : ∃ p0, findS m (l.drop k) ss = p0 := ⟨_, rfl⟩
      have hneg := HKN.out k hlt
      rw [hp0] at CFK hneg
      replace CFK := hid CFK
      have hc0 : (k : Int) < (n2 : Int) := by omega
      have hcc : ¬ c2 = k := by omega
      clear hp0
      go_wp2_with (go_at_call 70; (with_reducible refine CFK.out.mono ?_); rintro e w1 ⟨rfl, hb1⟩; have HB1 := hid hb1; clear hb1)
      go_roundg (K - (k + 1))
      case measure => omega
      case rel => exact ⟨k + 1, by omega, rfl, by go_num, HLOW.out.trans (HB1.out.mono hzw)⟩
    · obtain rfl : k = K := by omega
      obtain ⟨b, o, rfl, lb⟩ := HL.out.addr (by omega)
      have CFK := CF.out wr HLOW.out _ _ _ _ ((HL.out.dropS (k := k) (by omega)).keep hzw fun p hp => HLOW.out.cell hp)
      rw [HPP.out] at CFK
      replace CFK := hid CFK
      have hc0 : (k : Int) < (n2 : Int) := by omega
      have hcc : ¬ c2 = k := by omega
      go_wp2_with (first
        | (go_at_call 70; have _t := tk1; (with_reducible refine CFK.out.mono ?_); rintro e w0 ⟨rfl, hb0⟩; have HB0 := hid (HLOW.out.trans (hb0.mono hzw)); clear hb0 tk1)
        | (at_builtin; have _t := tk2; refine wpList_appT rfl _ _ 22 rfl w.heap.size 5 1 1 el_u8 (.slice (some ⟨w0.heap.size, 0, none⟩) 0 0) 0 [] rfl (own_empty HB0.out.size) _ n c _ rfl ((S1.out.later HB0.out).later ((Below.refl _ _).alloc (Nat.le_refl _) _)) ab1 ab2 (by have := HB0.out.size; simp; omega) ?_; intro v2 w2 ho2 ha2; have HO2 := hid ho2; have HB2 := hid ((HB0.out.alloc HB0.out.size _).trans (ha2.below (own_empty HB0.out.size) (by have := HB0.out.size; simp; omega))); clear ho2 ha2 tk2)
        | (at_builtin; have _t := tk3; refine wpList_appT rfl _ _ 23 rfl w.heap.size 3 1 8 el_int (.slice (some ⟨w2.heap.size, 0, none⟩) 0 0) 0 [] rfl (own_empty HB2.out.size) _ n1 c1 _ rfl ((S2.out.later HB2.out).later ((Below.refl _ _).alloc (Nat.le_refl _) _)) ab3 ab4 (by have := HB2.out.size; simp; omega) ?_; intro v3 w3 ho3 ha3; have HO3 := hid ho3; have HA3 := hid (ha3.other ((HO2.out).alloc _) (apart_of (m := w2.heap.size) (fun g e => (HO2.out.lt g e).2) (fun g e => by cases e; exact Nat.le_refl _))); have HB3 := hid ((HB2.out.alloc HB2.out.size _).trans (ha3.below (own_empty HB2.out.size) (by have := HB2.out.size; simp; omega))); clear ho3 ha3 tk3))
      go_loopg [9, 10, 11] k (fun gk u9 u10 u11 wi => ∃ (i : Nat) (al : List Int), i ≤ k ∧ gk = k - i ∧ u11 = .int .i64 (i : Int) ∧ PkS w m ss l n2 i wi u9 u10 al)
      case atStart =>
        refine ⟨0, ss, Nat.zero_le _, rfl, rfl, ?_, ?_, ?_, HB3.out, HI.out, by omega, ?_⟩
        · have := HA3.out.1
          rw [HMN.out]
          simpa [sentL, lsum] using this
        · rw [HSN.out]
          simpa using HO3.out
        · exact HA3.out.2
        · simp [sentL]
      case round =>
        obtain ⟨i, al, hi, rfl, rfl, hs⟩ := hrel
        have hzi : w.heap.size ≤ wr.heap.size := hs.bel.size
        have hal := hs.len
        have hlk := lsum_take l i
        have PS := hid hs
        clear hs
        by_cases hlti : i < k
        · have hkl : i < l.length := by rw [HLN.out]; omega
          have hdr : l.drop i = l[i] :: l.drop (i + 1) := List.drop_eq_getElem_cons hkl
          have htk : l.take (i + 1) = l.take i ++ [l[i]] := List.take_succ_eq_append_getElem hkl
          have hstep := PS.out.pack
          rw [hdr, packL, ← hdr, if_neg (by have := HKN.out i hlti; omega)] at hstep
          have hlx : labelOk l[i] = true := List.all_eq_true.1 HOK.out.1 _ (List.getElem_mem hkl)
          obtain ⟨x, hx⟩ : ∃ x, l[i] = x := ⟨_, rfl⟩
          rw [hx] at htk hlx hstep
          obtain ⟨r, hr⟩ : ∃ r, x.size + 1 = r := ⟨_, rfl⟩
          have hls1 : lsum (l.take (i + 1)) = lsum (l.take i) + r := by rw [htk, lsum_snoc, hr]
          have hle1 := lsum_take l (i + 1)
          have hxs : lsum [x] = r := by simp [lsum, hr]
          have hsl : (sentL [x]).length = r := by rw [sentL_len, hxs]
          obtain ⟨N, hN⟩ : ∃ N, m.length + lsum (l.take i) = N := ⟨_, rfl⟩
          have hlen : (m ++ sentL (l.take i)).length = N := by rw [List.length_append, sentL_len, hN]
          rw [hlen, List.append_assoc, ← sentL_append, ← htk] at hstep
          have ho10 := PS.out.out
          rw [hN] at ho10
          obtain ⟨A', cap', rfl, _, _, _⟩ := own_slice ho10
          have HO10 := hid ho10
          have hNb : N ≤ n + 254 := by have := HMN.out; omega
          have hXb : N + r ≤ n + 254 := by have := HMN.out; omega
          have HN := hid hN
          have HST := hid hstep
          have HTK := hid htk
          have HLS1 := hid hls1
          have HSL := hid hsl
          have hR1 : Rd strR w w.heap.size (some ⟨b, o + i, none⟩) 1 (c2 - i) [x] := by
            have := (HL.out.dropS (k := i) (by omega)).take (k := 1) (by omega)
            rw [List.drop_eq_getElem_cons hkl, hx] at this
            simpa using this
          have CS := fun W (hb : Below w.heap.size w W) => rsent_any W _ _ _ [x] (hR1.later hb) (by simp [hlx]) (by omega)
          rw [hxs] at CS
          replace CS := hid CS
          have q1 : (i : Int) < (k : Int) := by omega
          have q2 : (i : Int) + 1 ≤ (c2 : Int) := by omega
          have q3 : ¬ c2 = i := by omega
          have ab5 : (N + r) * 1 ≤ 140737488355328 := by omega
          have ab6 : N + r ≤ maxLen := by unfold maxLen; omega
          clear ho10 hN hstep htk hls1 hsl hxs hR1 hlx hx hdr hr hlen
          by_cases hbig : N ≤ 16383
          · have ab7 : (al.length + 1) * 8 ≤ 140737488355328 := by have := HSN.out; omega
            have ab8 : al.length + 1 ≤ maxLen := by unfold maxLen; omega
            go_wp2_with (first
              | (at_builtin; have _t := tk4; refine wpList_appT rfl _ _ 23 rfl w.heap.size 3 1 8 el_int u10 al.length _ rfl (PS.out.all.alloc _) _ 1 1 [.int .i64 (N : Int)] rfl (src_one _ rfl rfl) ab7 ab8 (by simp; omega) ?_; intro v5 w5 ho5 ha5; have HO5 := hid ho5; have HOUT := hid (ha5.other (HO10.out.alloc _) PS.out.apart); have HB5 := hid ((PS.out.bel.alloc hzi _).trans (ha5.below (PS.out.all.alloc _) (by simp; omega))); clear ho5 ha5 tk4)
              | (go_at_call 71; (with_reducible refine (CS.out _ HB5.out).mono ?_); rintro e w6 ⟨A6, c6, rfl, hr6, hb6⟩; obtain ⟨b6, o6, rfl, _⟩ := hr6.addr (by omega); have hc6 := hr6.cap; have HB6 := hid (HB5.out.trans (hb6.mono HB5.out.size)); have HO6 := hid (own_low HOUT.out.1 hb6 (Nat.le_refl _)); have HAL6 := hid (own_low HO5.out hb6 (Nat.le_refl _)); have hs6 := (hr6.take (k := r) (by omega)).src_u8; rw [sent_take HSL.out] at hs6; have HS6 := hid hs6; have q4 : (r : Int) ≤ (c6 : Int) := (by omega); clear hr6 hb6 hs6)
              | (at_builtin; have _t := tk5; refine wpList_appT rfl _ _ 22 rfl w.heap.size 5 1 1 el_u8 _ N _ rfl HO6.out _ r c6 _ rfl HS6.out ab5 ab6 HB6.out.size ?_; intro v7 w7 ho7 ha7; have HO7 := hid ho7; have HA7 := hid ha7; clear ho7 ha7 tk5))
            go_roundg (k - (i + 1))
            case measure => omega
            case rel =>
              obtain ⟨hall, hap⟩ := HA7.out.other HAL6.out (Apart.symm HOUT.out.2)
              have hst := HST.out
              rw [if_pos hbig] at hst
              refine ⟨i + 1, al ++ [(N : Int)], by omega, rfl, by go_num, ?_, by simpa [intsV] using hall, Apart.symm hap, HB6.out.trans (HA7.out.below HO6.out HB6.out.size), ?_, by simp; omega, hst⟩
              · have := HO7.out
                rw [HLS1.out, ← Nat.add_assoc, HN.out, HTK.out, sentL_append, ← List.append_assoc]
                simpa [bytesV] using this
              · intro s hs
                rcases List.mem_append.1 hs with h | h
                · exact PS.out.ints s h
                · obtain rfl := List.mem_singleton.1 h
                  unfold I64; omega
          · have hbig' : 16383 < N := by omega
            go_wp2_with (first
              | (go_at_call 71; (with_reducible refine (CS.out _ PS.out.bel).mono ?_); rintro e w6 ⟨A6, c6, rfl, hr6, hb6⟩; obtain ⟨b6, o6, rfl, _⟩ := hr6.addr (by omega); have hc6 := hr6.cap; have HB6 := hid (PS.out.bel.trans (hb6.mono hzi)); have HO6 := hid (own_low HO10.out hb6 (Nat.le_refl _)); have HAL6 := hid (own_low PS.out.all hb6 (Nat.le_refl _)); have hs6 := (hr6.take (k := r) (by omega)).src_u8; rw [sent_take HSL.out] at hs6; have HS6 := hid hs6; have q4 : (r : Int) ≤ (c6 : Int) := (by omega); clear hr6 hb6 hs6)
              | (at_builtin; have _t := tk5; refine wpList_appT rfl _ _ 22 rfl w.heap.size 5 1 1 el_u8 _ N _ rfl HO6.out _ r c6 _ rfl HS6.out ab5 ab6 HB6.out.size ?_; intro v7 w7 ho7 ha7; have HO7 := hid ho7; have HA7 := hid ha7; clear ho7 ha7 tk5))
            go_roundg (k - (i + 1))
            case measure => omega
            case rel =>
              obtain ⟨hall, hap⟩ := HA7.out.other HAL6.out (Apart.symm PS.out.apart)
              have hst := HST.out
              rw [if_neg hbig] at hst
              refine ⟨i + 1, al, by omega, rfl, by go_num, ?_, hall, Apart.symm hap, HB6.out.trans (HA7.out.below HO6.out HB6.out.size), PS.out.ints, by omega, hst⟩
              have := HO7.out
              rw [HLS1.out, ← Nat.add_assoc, HN.out, HTK.out, sentL_append, ← List.append_assoc]
              simpa [bytesV] using this
        · obtain rfl : i = k := by omega
          have CFK2 := CF.out wr PS.out.bel _ _ _ _ ((HL.out.dropS (k := i) (by omega)).keep hzi fun p hp => PS.out.bel.cell hp)
          rw [HPP.out] at CFK2
          replace CFK2 := hid CFK2
          have hst := PS.out.pack
          rw [List.drop_eq_getElem_cons (show i < l.length by rw [HLN.out]; omega), packL, ← List.drop_eq_getElem_cons, HPP.out, if_pos hp] at hst
          have HST := hid hst
          have e0 : ((i : Int) == (n2 : Int)) = false := by rw [beq_eq_false_iff_ne]; omega
          have ab5 : (m.length + lsum (l.take i) + 2) * 1 ≤ 140737488355328 := by have := HMN.out; omega
          have ab6 : m.length + lsum (l.take i) + 2 ≤ maxLen := by unfold maxLen; have := HMN.out; omega
          clear hst
          go_wp2_with (first
            | (go_at_call 70; have _t := tk6; (with_reducible refine CFK2.out.mono ?_); rintro e w8 ⟨rfl, hb8⟩; have HB8 := hid hb8; have hz8 := hb8.size; clear hb8 tk6)
            | (at_builtin; have _t := tk7; refine wpList_appT rfl _ _ 22 rfl w.heap.size 5 1 1 el_u8 u9 (m.length + lsum (l.take i)) _ rfl ((own_low PS.out.out HB8.out (Nat.le_refl _)).alloc _) _ 2 2 (bytesV (ptrB p)) rfl (rsrc_ptr p hp hp1) ab5 ab6 (by simp; omega) ?_; intro v5 w5 ho5 ha5; have HO5 := hid ho5; have HA5 := hid ha5; clear ho5 ha5 tk7))
          go_ret2
          obtain ⟨hall, hap⟩ := HA5.out.other ((own_low PS.out.all HB8.out (Nat.le_refl _)).alloc _) PS.out.apart.symm
          have hb5 := HA5.out.below ((own_low PS.out.out HB8.out (Nat.le_refl _)).alloc _) (by simp; omega)
          have hXl : (m ++ sentL (l.take i) ++ ptrB p).length = m.length + lsum (l.take i) + 2 := by rw [List.length_append, List.length_append, sentL_len]; rfl
          refine pkR_ok HST.out ?_ hall (Apart.symm hap) PS.out.ints (((PS.out.bel.trans (HB8.out.mono hzi)).alloc (by omega) _).trans hb5) (by omega) (by have := HSN.out; omega)
          rw [hXl]
          simpa [bytesV] using HO5.out
end Go.Proofs.YtkdfiedemhjjjaaDoor
