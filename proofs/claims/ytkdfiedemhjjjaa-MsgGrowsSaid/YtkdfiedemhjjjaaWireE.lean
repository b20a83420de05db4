/- wire: Pack. -/
import Derived.Test.YtkdfiedemhjjjaaWireD
namespace Go.Proofs.Ytkdfiedemhjjjaa
open Go.RowKit
set_option linter.unusedVariables false

def PkE (w : World) (m : List UInt8) (ss : List Int) (l : List ByteArray) (e : Ending) (w' : World) : Prop :=
  Below w.heap.size w w' ∧ if nameErr l = 0 then ∃ A' c' A2 c2, e = .returned (.tuple #[.slice A' (m ++ packT m ss l).length c', .slice A2 (ss ++ packN m ss l m.length).length c2, .nilIface]) ∧ Rd u8R w' w'.heap.size A' (m ++ packT m ss l).length c' (m ++ packT m ss l) ∧ Rd intR w' w'.heap.size A2 (ss ++ packN m ss l m.length).length c2 (ss ++ packN m ss l m.length)
    else e = .returned (.tuple #[.slice none 0 0, .slice none 0 0, .iface 65 (.int .i64 (nameErr l))])

theorem own_less {w : World} {base base' : Nat} {e : TypeId} {size : Nat} {v : Value} {n : Nat} {xs : List Value} (h : w.ownsRow base e size v n xs) (hb : base' ≤ base) : w.ownsRow base' e size v n xs := by
  refine ⟨h.1, ?_⟩
  rcases h.2 with h | ⟨g, cap, cur, h1, h2, h3⟩
  · exact .inl h
  · exact .inr ⟨g, cap, cur, h1, Nat.le_trans hb h2, h3⟩
/-- two rows of the call's own lie apart -/
def Apart (u v : Value) : Prop := u.ownBlock = none ∨ u.ownBlock ≠ v.ownBlock
theorem Apart.symm {u v : Value} (h : Apart u v) : Apart v u := by
  unfold Apart at *
  cases eu : u.ownBlock with
  | none => cases ev : v.ownBlock <;> simp
  | some a =>
    rw [eu] at h
    rcases h with h | h
    · cases h
    · right; exact Ne.symm h
theorem apart_of {u v : Value} {m : Nat} (h1 : ∀ g, u.ownBlock = some g → g < m) (h2 : ∀ g, v.ownBlock = some g → m ≤ g) : Apart u v := by
  unfold Apart
  cases eu : u.ownBlock with
  | none => exact .inl rfl
  | some a =>
    right
    intro e
    have := h1 a eu
    have := h2 a e.symm
    omega

theorem ptr_cells (p : Int) (h0 : 0 ≤ p) (h1 : p ≤ 16383) : [Value.int .u8 (bits .or .i64 192 (p / 256) % 256), Value.int .u8 (p % 256)] = bytesV (ptrB p) := by
  obtain ⟨q, rfl⟩ : ∃ q : Nat, p = (q : Int) := ⟨p.toNat, by omega⟩
  have h := b64_or 192 (q / 256) (by omega) (by omega)
  have h2 := or_low 3 (q / 256) 6 (by omega)
  have e : bits .or .i64 192 ((q : Int) / 256) = ((192 + q / 256 : Nat) : Int) := by
    have e1 : ((q : Int) / 256) = ((q / 256 : Nat) : Int) := by omega
    rw [e1, show (192 : Int) = ((192 : Nat) : Int) from rfl, h]
    rw [show (192 : Nat) = 3 * 2 ^ 6 from rfl, h2]
  rw [e]
  simp only [bytesV, ptrB, List.map_cons, List.map_nil, Int.toNat_natCast, UInt8.toNat_ofNat']
  congr 2 <;> (try congr 1) <;> omega
theorem src_ptr {w1 : World} {t : TypeId} (p : Int) (h0 : 0 ≤ p) (h1 : p ≤ 16383) : Src (w1.alloc (.cells #[.int .u8 (bits .or .i64 192 (p / 256) % 256), .int .u8 (p % 256)] t)) (some ⟨w1.heap.size, 0, none⟩) 2 2 1 (bytesV (ptrB p)) := by
  rw [← ptr_cells p h0 h1]
  exact src_lit (w := w1) (t := t) #[.int .u8 (bits .or .i64 192 (p / 256) % 256), .int .u8 (p % 256)] rfl (by simp [Value.oneCell']) rfl

/-- where Pack is -/
structure PkS (w : World) (m : List UInt8) (ss : List Int) (l : List ByteArray) (n2 k : Nat) (wi : World) (v10 v11 : Value) (al : List Int) : Prop where
  out : wi.ownsRow w.heap.size 5 1 v10 (m.length + lsum (l.take k)) (bytesV (m ++ sentL (l.take k)))
  all : wi.ownsRow w.heap.size 3 1 v11 al.length (intsV al)
  apart : Apart v10 v11
  bel : Below w.heap.size w wi
  ints : ∀ s ∈ al, I64 s
  len : al.length ≤ ss.length + k
  pack : packL m ss l m ss = packL m ss (l.drop k) (m ++ sentL (l.take k)) al

theorem lsum_take (l : List ByteArray) (k : Nat) : lsum (l.take k) ≤ lsum l := by
  have : lsum l = lsum (l.take k) + lsum (l.drop k) := by
    rw [← sentL_len, ← sentL_len, ← sentL_len, ← List.length_append, ← sentL_append, List.take_append_drop]
  omega
theorem own_rd_int {w : World} {base n : Nat} {v : Value} {l : List Int} (h : w.ownsRow base 3 1 v n (intsV l)) (hi : ∀ s ∈ l, I64 s) (hb : base ≤ w.heap.size) (hn : n * 8 ≤ 140737488355328) : ∃ A c, v = .slice A n c ∧ Rd intR w w.heap.size A n c l :=
  rd_of_own (R := intR) h (rels_int hi) (by have := h.1; simpa [intsV] using this) hb (by simpa [intR] using hn) (by decide)

/-- what Pack hands back: two rows of the call's own -/
structure OwnP (w w' : World) (m : List UInt8) (ss : List Int) (l : List ByteArray) (v v' : Value) : Prop where
  out : w'.ownsRow w.heap.size 5 1 v (m ++ packT m ss l).length (bytesV (m ++ packT m ss l))
  all : w'.ownsRow w.heap.size 3 1 v' (ss ++ packN m ss l m.length).length (intsV (ss ++ packN m ss l m.length))
  apart : Apart v v'
  ints : ∀ s ∈ ss ++ packN m ss l m.length, I64 s
  lenX : (m ++ packT m ss l).length ≤ 140737488355328
  lenY : (ss ++ packN m ss l m.length).length * 8 ≤ 140737488355328
theorem OwnP.rd {w w' : World} {m : List UInt8} {ss : List Int} {l : List ByteArray} {v v' : Value} (h : OwnP w w' m ss l v v') (hb : w.heap.size ≤ w'.heap.size) :
    ∃ A' c' A2 c2, v = .slice A' (m ++ packT m ss l).length c' ∧ v' = .slice A2 (ss ++ packN m ss l m.length).length c2 ∧ Rd u8R w' w'.heap.size A' (m ++ packT m ss l).length c' (m ++ packT m ss l) ∧ Rd intR w' w'.heap.size A2 (ss ++ packN m ss l m.length).length c2 (ss ++ packN m ss l m.length) := by
  obtain ⟨A', c', rfl, hr⟩ := own_rd_u8 h.out hb h.lenX
  obtain ⟨A2, c2, rfl, hr2⟩ := own_rd_int h.all h.ints hb h.lenY
  exact ⟨A', c', A2, c2, rfl, rfl, hr, hr2⟩
theorem ownP_of {w w' : World} {m : List UInt8} {ss : List Int} {l : List ByteArray} {v v' : Value} {X : List UInt8} {Y : List Int} (hp : packL m ss l m ss = (X, Y)) (ho : w'.ownsRow w.heap.size 5 1 v X.length (bytesV X)) (ha : w'.ownsRow w.heap.size 3 1 v' Y.length (intsV Y)) (hap : Apart v v')
    (hi : ∀ s ∈ Y, I64 s) (hX : X.length ≤ 140737488355328) (hY : Y.length * 8 ≤ 140737488355328) : OwnP w w' m ss l v v' := by
  rw [packL_eq] at hp
  simp only [Prod.mk.injEq] at hp
  obtain ⟨rfl, rfl⟩ := hp
  exact ⟨ho, ha, hap, hi, hX, hY⟩
def PkO (w : World) (m : List UInt8) (ss : List Int) (l : List ByteArray) (e : Ending) (w' : World) : Prop :=
  Below w.heap.size w w' ∧ if nameErr l = 0 then ∃ v v', e = .returned (.tuple #[v, v', .nilIface]) ∧ OwnP w w' m ss l v v'
    else e = .returned (.tuple #[.slice none 0 0, .slice none 0 0, .iface 65 (.int .i64 (nameErr l))])
/-- the end: what Pack hands back -/
theorem pkE_ok {w w' : World} {m : List UInt8} {ss : List Int} {l : List ByteArray} {v v' : Value} {X : List UInt8} {Y : List Int} (hf : nameErr l = 0) (hp : packL m ss l m ss = (X, Y)) (ho : w'.ownsRow w.heap.size 5 1 v X.length (bytesV X)) (ha : w'.ownsRow w.heap.size 3 1 v' Y.length (intsV Y)) (hap : Apart v v')
    (hi : ∀ s ∈ Y, I64 s) (hb : Below w.heap.size w w') (hX : X.length ≤ 140737488355328) (hY : Y.length * 8 ≤ 140737488355328) : PkO w m ss l (.returned (.tuple #[v, v', .nilIface])) w' := by
  refine ⟨hb, ?_⟩
  rw [if_pos hf]
  exact ⟨v, v', rfl, ownP_of hp ho ha hap hi hX hY⟩

set_option maxRecDepth 100000 in
set_option maxHeartbeats 8000000 in
theorem pack_own (w : World) (A : Option Addr) (n c : Nat) (m : List UInt8) (hM : Rd u8R w w.heap.size A n c m) (A1 : Option Addr) (n1 c1 : Nat) (ss : List Int) (hS : Rd intR w w.heap.size A1 n1 c1 ss) (A2 : Option Addr) (n2 c2 : Nat) (l : List ByteArray) (hL : Rd strR w w.heap.size A2 n2 c2 l)
    (hlim : n + 256 ≤ 140737488355328) (hlim1 : n1 * 8 + 4096 ≤ 140737488355328) :
    Calls Try.prog 28 #[.slice A n c, .slice A1 n1 c1, .slice A2 n2 c2] w (PkO w m ss l) := by
  have CK := name_check w A2 n2 c2 l _ hL
  have c2m := hL.max
  have c2c := hL.cap
  unfold maxLen at c2m
  by_cases hf : nameErr l = 0
  · rw [hf, errV_zero] at CK
    replace CK := hid CK
    have hok := nameErr_zero.1 hf
    have hls : lsum l ≤ 254 := by have := hok.2; rw [nsize_lsum] at this; omega
    have hll := lsum_len l
    have hln : l.length = n2 := hL.len
    have hn2 : n2 ≤ 254 := by omega
    have hmn : m.length = n := hM.len
    have hsn : ss.length = n1 := hS.len
    have CC := hid (clone_bytes w A n c m _ hM)
    have CI := hid fun w' (hb : Below w.heap.size w w') => clone_ints w' A1 n1 c1 ss _ (hS.below hb)
    have CF := hid fun w' (hb : Below w.heap.size w w') A' n' c' l' (hr : Rd strR w' w'.heap.size A' n' c' l') => find_any w' A n c m (hM.later hb) A1 n1 c1 ss (hS.later hb) A' n' c' l' hr
    have HL := hid hL
    have HM := hid hM
    have HS := hid hS
    have HOK := hid hok
    have HF := hid hf
    have HLN := hid hln
    have HMN := hid hmn
    have HSN := hid hsn
    have HI := hid hS.i64s
    clear hM hL hS hok hf hln hmn hsn
    have tk0 : True := trivial; have tk1 : True := trivial; have tk2 : True := trivial; have tk3 : True := trivial; have tk4 : True := trivial; have tk5 : True := trivial; have tk6 : True := trivial; have tk7 : True := trivial; have tk8 : True := trivial; have tk9 : True := trivial; have tk10 : True := trivial; have tk11 : True := trivial; have tk12 : True := trivial
    go_enter Try.func28, Try.ntmps28
    go_wp2_with (first
      | (go_at_call 55; refine CK.out.mono ?_; rintro e w1 ⟨rfl, hw⟩; subst w1)
      | (go_at_call 31; refine CC.out.mono ?_; rintro e w1 ⟨v1, rfl, ho1, hb1⟩; have HO1 := hid ho1; have HB1 := hid hb1; have hz1 := hb1.size; clear ho1 hb1)
      | (go_at_call 56; refine (CI.out _ HB1.out).mono ?_; rintro e w2 ⟨v2, rfl, ho2, hb2⟩; have HO2 := hid ho2; have HB2 := hid hb2; have hz2 := hb2.size; clear ho2 hb2))
    go_loopg [10, 11, 25] n2 (fun gk u10 u11 u25 wi => ∃ (k : Nat) (al : List Int), k ≤ n2 ∧ gk = n2 - k ∧ u25 = .int .i64 (k : Int) ∧ PkS w m ss l n2 k wi u10 u11 al)
    case atStart =>
      refine ⟨0, ss, Nat.zero_le _, rfl, rfl, ?_, ?_, ?_, HB1.out.trans (HB2.out.mono hz1), HI.out, by omega, ?_⟩
      · have := own_low HO1.out HB2.out (Nat.le_refl _)
        rw [HMN.out]
        simpa [sentL, lsum] using this
      · rw [HSN.out]
        exact own_less HO2.out hz1
      · exact apart_of (m := w1.heap.size) (fun g e => (HO1.out.lt g e).2) (fun g e => (HO2.out.lt g e).1)
      · simp [sentL]
    case round =>
      obtain ⟨k, al, hk, rfl, rfl, hs⟩ := hrel
      have hzw : w.heap.size ≤ wr.heap.size := hs.bel.size
      have hal := hs.len
      have hlk := lsum_take l k
      have PS := hid hs
      clear hs CC CI HO1 HO2 HB1 HB2 CK
      by_cases hlt : k < n2
      · obtain ⟨b, o, rfl, lb⟩ := HL.out.addr (by omega)
        have CFK := hid (CF.out wr PS.out.bel _ _ _ _ ((HL.out.dropS (k := k) (by omega)).keep hzw fun p hp => PS.out.bel.cell hp))
        have hkl : k < l.length := by rw [HLN.out]; exact hlt
        have hdr : l.drop k = l[k] :: l.drop (k + 1) := List.drop_eq_getElem_cons hkl
        have htk : l.take (k + 1) = l.take k ++ [l[k]] := List.take_succ_eq_append_getElem hkl
        have hstep := PS.out.pack
        rw [hdr, packL, ← hdr] at hstep
        have hlx : labelOk l[k] = true := List.all_eq_true.1 HOK.out.1 _ (List.getElem_mem hkl)
        obtain ⟨x, hx⟩ : ∃ x, l[k] = x := ⟨_, rfl⟩
        rw [hx] at htk hlx hstep
        have hls1 : lsum (l.take (k + 1)) = lsum (l.take k) + (x.size + 1) := by rw [htk, lsum_snoc]
        have hle1 := lsum_take l (k + 1)
        have hfo := findS_or m (l.drop k) ss
        obtain ⟨p, hp⟩ : ∃ p, findS m (l.drop k) ss = p := ⟨_, rfl⟩
        rw [hp] at CFK hfo hstep
        have HST := hid hstep
        have HTK := hid htk
        have HLS1 := hid hls1
        have HX := hid hx
        have hc0 : k + 1 ≤ n2 := by omega
        have hcc : ¬ c2 = k := by omega
        have wk : IntKind.i64.wrap ((k : Int) + 1) = (k : Int) + 1 := IntWalk.i64_in _ (by omega)
        clear hstep htk hls1 hdr hp hx
        by_cases hp0 : 0 ≤ p
        · have hp1 : p ≤ 16383 := by rcases hfo with h | h <;> omega
          clear hfo
          have ab1 : (m.length + lsum (l.take k) + 2) * 1 ≤ 140737488355328 := by have := HMN.out; omega
          have ab2 : m.length + lsum (l.take k) + 2 ≤ maxLen := by unfold maxLen; have := HMN.out; omega
          go_wp2_with (first
            | (go_at_call 57; (with_reducible refine CFK.out.mono ?_); rintro e w1 ⟨rfl, hb1⟩; have HB1 := hid hb1; have hz1 := hb1.size; clear hb1)
            | (at_builtin; refine wpList_appT rfl _ _ 22 rfl w.heap.size 5 1 1 el_u8 u10 (m.length + lsum (l.take k)) _ rfl ((own_low PS.out.out HB1.out (Nat.le_refl _)).alloc _) _ 2 2 (bytesV (ptrB p)) rfl (src_ptr p hp0 hp1) ab1 ab2 (by simp; omega) ?_; intro v3 w3 ho3 ha3; have HO3 := hid ho3; have HA3 := hid ha3; clear ho3 ha3))
          go_ret3
          have hst := HST.out
          rw [if_pos hp0] at hst
          obtain ⟨hall, hap⟩ := HA3.out.other ((own_low PS.out.all HB1.out (Nat.le_refl _)).alloc _) PS.out.apart.symm
          have hb3 := HA3.out.below ((own_low PS.out.out HB1.out (Nat.le_refl _)).alloc _) (by simp; omega)
          have hXl : (m ++ sentL (l.take k) ++ ptrB p).length = m.length + lsum (l.take k) + 2 := by rw [List.length_append, List.length_append, sentL_len]; rfl
          refine pkE_ok HF.out hst ?_ hall (Apart.symm hap) PS.out.ints (((PS.out.bel.trans (HB1.out.mono hzw)).alloc (by omega) _).trans hb3) (by omega) (by have := HSN.out; omega)
          rw [hXl]
          simpa [bytesV] using HO3.out
        · have hn0 : p < 0 := by omega
          clear hfo
          obtain ⟨N, hN⟩ : ∃ N, m.length + lsum (l.take k) = N := ⟨_, rfl⟩
          have ho10 := PS.out.out
          rw [hN] at ho10
          obtain ⟨A', cap', rfl, _, _, _⟩ := own_slice ho10
          have HO10 := hid ho10
          have HN := hid hN
          have hNb : N ≤ n + 254 := by have := HMN.out; omega
          have hR1 : Rd strR w w.heap.size (some ⟨b, o + k, none⟩) 1 (c2 - k) [x] := by
            have := (HL.out.dropS (k := k) (by omega)).take (k := 1) (by omega)
            rw [List.drop_eq_getElem_cons hkl, HX.out] at this
            simpa using this
          have HR1 := hid hR1
          have hsx : (sentL [x]).length = x.size + 1 := sentL_one x
          have hxs : lsum [x] = x.size + 1 := by simp [lsum]
          have HSX := hid (And.intro hsx hxs)
          have hXb : N + (x.size + 1) ≤ 140737488355328 := by have := HLS1.out; have := HMN.out; omega
          have hst := HST.out
          rw [if_neg hp0] at hst
          have hlen : (m ++ sentL (l.take k)).length = N := by rw [List.length_append, sentL_len, hN]
          rw [hlen, List.append_assoc, ← sentL_append, ← HTK.out] at hst
          have HST2 := hid hst
          have HLX := hid hlx
          clear ho10 hN hR1 hsx hxs hst hlen hlx
          by_cases hbig : N ≤ 16383
          · have ab1 : (al.length + 1) * 8 ≤ 140737488355328 := by have := HSN.out; omega
            have ab2 : al.length + 1 ≤ maxLen := by unfold maxLen; omega
            go_wp2_with (first
              | (go_at_call 57; (with_reducible refine CFK.out.mono ?_); rintro e w1 ⟨rfl, hb1⟩; have HB1 := hid hb1; have hz1 := hb1.size; clear hb1)
              | (at_builtin; refine wpList_appT rfl _ _ 23 rfl w.heap.size 3 1 8 el_int u11 al.length _ rfl ((own_low PS.out.all HB1.out (Nat.le_refl _)).alloc _) _ 1 1 [.int .i64 (N : Int)] rfl (src_one _ rfl rfl) ab1 ab2 (by simp; omega) ?_; intro v3 w3 ho3 ha3; have hz3 := ha3.grown.size; have HO3 := hid ho3; have HA3 := hid ha3; have HOUT := hid (ha3.other ((own_low HO10.out HB1.out (Nat.le_refl _)).alloc _) PS.out.apart); have HB3 := hid (((PS.out.bel.trans (HB1.out.mono hzw)).alloc (by omega) _).trans (ha3.below ((own_low PS.out.all HB1.out (Nat.le_refl _)).alloc _) (by simp; omega))); have CS := hid (sent_any w3 w.heap.size N _ _ HOUT.out.1 (by simp at hz3; omega) _ _ _ [x] (HR1.out.below HB3.out) (by simp [HLX.out]) (by rw [HSX.out.2]; exact hXb)); clear ho3 ha3)
              | (go_at_call 58; (with_reducible refine CS.out.mono ?_); rintro e w4 ⟨v4, rfl, ho4, ha4⟩; have HO4 := hid ho4; have HA4 := hid ha4; clear ho4 ha4))
            go_roundg (n2 - (k + 1))
            case measure => omega
            case rel =>
              obtain ⟨hall, hap⟩ := HA4.out.other HO3.out (Apart.symm HOUT.out.2)
              have hst := HST2.out
              rw [if_pos hbig] at hst
              refine ⟨k + 1, al ++ [(N : Int)], by omega, rfl, by go_num, ?_, by simpa [intsV] using hall, Apart.symm hap, HB3.out.trans (HA4.out.below HOUT.out.1 (by simp at hz3; omega)), ?_, by simp; omega, hst⟩
              · have := HO4.out
                rw [HSX.out.2] at this
                rw [HLS1.out, ← Nat.add_assoc, HN.out, HTK.out, sentL_append, ← List.append_assoc]
                exact this
              · intro s hs
                rcases List.mem_append.1 hs with h | h
                · exact PS.out.ints s h
                · obtain rfl := List.mem_singleton.1 h
                  unfold I64; omega
          · have hbig' : 16383 < N := by omega
            go_wp2_with (first
              | (go_at_call 57; (with_reducible refine CFK.out.mono ?_); rintro e w1 ⟨rfl, hb1⟩; have HB1 := hid hb1; have hz1 := hb1.size; have HOUT := hid (own_low HO10.out hb1 (Nat.le_refl _)); have HB3 := hid (PS.out.bel.trans (hb1.mono hzw)); have CS := hid (sent_any w1 w.heap.size N _ _ HOUT.out (by omega) _ _ _ [x] (HR1.out.below HB3.out) (by simp [HLX.out]) (by rw [HSX.out.2]; exact hXb)); clear hb1)
              | (go_at_call 58; (with_reducible refine CS.out.mono ?_); rintro e w4 ⟨v4, rfl, ho4, ha4⟩; have HO4 := hid ho4; have HA4 := hid ha4; clear ho4 ha4))
            go_roundg (n2 - (k + 1))
            case measure => omega
            case rel =>
              obtain ⟨hall, hap⟩ := HA4.out.other (own_low PS.out.all HB1.out (Nat.le_refl _)) PS.out.apart.symm
              have hst := HST2.out
              rw [if_neg hbig] at hst
              refine ⟨k + 1, al, by omega, rfl, by go_num, ?_, hall, Apart.symm hap, HB3.out.trans (HA4.out.below HOUT.out (by omega)), PS.out.ints, by omega, hst⟩
              have := HO4.out
              rw [HSX.out.2] at this
              rw [HLS1.out, ← Nat.add_assoc, HN.out, HTK.out, sentL_append, ← List.append_assoc]
              exact this
      · obtain rfl : k = n2 := by omega
        have hdr : l.drop k = [] := List.drop_eq_nil_of_le (by rw [HLN.out]; exact Nat.le_refl _)
        have hst := PS.out.pack
        rw [hdr, packL] at hst
        have HST := hid hst
        have ab1 : (m.length + lsum (l.take k) + 1) * 1 ≤ 140737488355328 := by have := HMN.out; omega
        have ab2 : m.length + lsum (l.take k) + 1 ≤ maxLen := by unfold maxLen; have := HMN.out; omega
        clear hst hdr
        go_wp2_with (at_builtin; refine wpList_appT rfl _ _ 22 rfl w.heap.size 5 1 1 el_u8 u10 (m.length + lsum (l.take k)) _ rfl (PS.out.out.alloc _) _ 1 1 [.int .u8 0] rfl (src_one _ rfl rfl) ab1 ab2 (by simp; omega) ?_; intro v3 w3 ho3 ha3; have HO3 := hid ho3; have HA3 := hid ha3; clear ho3 ha3)
        go_ret3
        obtain ⟨hall, hap⟩ := HA3.out.other (PS.out.all.alloc _) PS.out.apart.symm
        have hb3 := HA3.out.below (PS.out.out.alloc _) (by simp; omega)
        have hXl : (m ++ sentL (l.take k) ++ [0]).length = m.length + lsum (l.take k) + 1 := by rw [List.length_append, List.length_append, sentL_len]; rfl
        refine pkE_ok HF.out HST.out ?_ hall (Apart.symm hap) PS.out.ints ((PS.out.bel.alloc (by omega) _).trans hb3) (by omega) (by have := HSN.out; omega)
        rw [hXl]
        simpa [bytesV] using HO3.out
  · rw [errV_ne hf] at CK
    replace CK := hid CK
    have HF := hid hf
    clear hM hL hS hf
    go_enter Try.func28, Try.ntmps28
    go_wp2_with (go_at_call 55; refine CK.out.mono ?_; rintro e w1 ⟨rfl, hw⟩; subst w1)
    go_ret3
    refine ⟨Below.refl _ _, ?_⟩
    rw [if_neg HF.out]
    rfl
theorem pack_any (w : World) (A : Option Addr) (n c : Nat) (m : List UInt8) (hM : Rd u8R w w.heap.size A n c m) (A1 : Option Addr) (n1 c1 : Nat) (ss : List Int) (hS : Rd intR w w.heap.size A1 n1 c1 ss) (A2 : Option Addr) (n2 c2 : Nat) (l : List ByteArray) (hL : Rd strR w w.heap.size A2 n2 c2 l)
    (hlim : n + 256 ≤ 140737488355328) (hlim1 : n1 * 8 + 4096 ≤ 140737488355328) :
    Calls Try.prog 28 #[.slice A n c, .slice A1 n1 c1, .slice A2 n2 c2] w (PkE w m ss l) := by
  refine (pack_own w A n c m hM A1 n1 c1 ss hS A2 n2 c2 l hL hlim hlim1).mono ?_
  rintro e w' ⟨hb, he⟩
  refine ⟨hb, ?_⟩
  by_cases hf : nameErr l = 0
  · rw [if_pos hf] at he ⊢
    obtain ⟨v, v', rfl, ho⟩ := he
    obtain ⟨A', c', A2, c2, rfl, rfl, hr, hr2⟩ := ho.rd hb.size
    exact ⟨A', c', A2, c2, rfl, hr, hr2⟩
  · rw [if_neg hf] at he ⊢
    exact he
end Go.Proofs.Ytkdfiedemhjjjaa
