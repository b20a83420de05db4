/- wire: Pack. -/
import Derived.Test.YthccknobnpbdeaaDoorK3
import Derived.Test.YthccknobnpbdeaaDoorK1
import Derived.Deep.LoopGhost
import Derived.Deep.QuietTactic
import Derived.BigQuiet
import Derived.Test.YthccknobnpbdeaaDoorK2
import Derived.Deep.DrawnRows
namespace Go.Proofs.YthccknobnpbdeaaDoor
open Go.RowKit
set_option linter.unusedVariables false
set_option linter.unusedSimpArgs false

def PkE (w : World) (m : List UInt8) (ss : List Int) (l : List ByteArray) (e : Ending) (w' : World) : Prop :=
  Below w.heap.size w w' ∧ if nameErr l = 0 then ∃ A' c' A2 c2, e = .returned (.tuple #[.slice A' (m ++ packT m ss l).length c', .slice A2 (ss ++ packN m ss l m.length).length c2, .nilIface]) ∧ Rd u8R w' w'.heap.size A' (m ++ packT m ss l).length c' (m ++ packT m ss l) ∧ Rd intR w' w'.heap.size A2 (ss ++ packN m ss l m.length).length c2 (ss ++ packN m ss l m.length)
    else e = .returned (.tuple #[.slice none 0 0, .slice none 0 0, .iface 29 (.int .i64 (nameErr l))])

theorem own_less {w : World} {base base' : Nat} {e : TypeId} {size : Nat} {v : Value} {n : Nat} {xs : List Value} (h : w.ownsRow base e size v n xs) (hb : base' ≤ base) : w.ownsRow base' e size v n xs := by
  refine ⟨h.1, ?_⟩
  rcases h.2 with h | ⟨g, cap, cur, h1, h2, h3⟩
  · exact .inl h
  · exact .inr ⟨g, cap, cur, h1, Nat.le_trans hb h2, h3⟩
/-- two rows of the call's own lie apart -/
def Apart (u v : Value) : Prop := u.ownBlock = none ∨ u.ownBlock ≠ v.ownBlock
theorem Apart.symm {u v : Value} (h : Apart u v) : Apart v u := by
  unfold Apart at *
  cases eu : u.ownBlock with
  | none => cases ev : v.ownBlock <;> simp
  | some a =>
    rw [eu] at h
    rcases h with h | h
    · cases h
    · right; exact Ne.symm h
theorem apart_of {u v : Value} {m : Nat} (h1 : ∀ g, u.ownBlock = some g → g < m) (h2 : ∀ g, v.ownBlock = some g → m ≤ g) : Apart u v := by
  unfold Apart
  cases eu : u.ownBlock with
  | none => exact .inl rfl
  | some a =>
    right
    intro e
    have := h1 a eu
    have := h2 a e.symm
    omega

theorem ptr_cells (p : Int) (h0 : 0 ≤ p) (h1 : p ≤ 16383) : [Value.int .u8 (bits .or .i64 192 (p / 256) % 256), Value.int .u8 (p % 256)] = bytesV (ptrB p) := by
  obtain ⟨q, rfl⟩ : ∃ q : Nat, p = (q : Int) := ⟨p.toNat, by omega⟩
  have h := b64_or 192 (q / 256) (by omega) (by omega)
  have h2 := or_low 3 (q / 256) 6 (by omega)
  have e : bits .or .i64 192 ((q : Int) / 256) = ((192 + q / 256 : Nat) : Int) := by
    have e1 : ((q : Int) / 256) = ((q / 256 : Nat) : Int) := by omega
    rw [e1, show (192 : Int) = ((192 : Nat) : Int) from rfl, h]
    rw [show (192 : Nat) = 3 * 2 ^ 6 from rfl, h2]
  rw [e]
  simp only [bytesV, ptrB, List.map_cons, List.map_nil, Int.toNat_natCast, UInt8.toNat_ofNat']
  congr 2 <;> (try congr 1) <;> omega
theorem src_ptr {w1 : World} {t : TypeId} (p : Int) (h0 : 0 ≤ p) (h1 : p ≤ 16383) : Src (w1.alloc (.cells #[.int .u8 (bits .or .i64 192 (p / 256) % 256), .int .u8 (p % 256)] t)) (some ⟨w1.heap.size, 0, none⟩) 2 2 1 (bytesV (ptrB p)) := by
  rw [← ptr_cells p h0 h1]
  exact src_lit (w := w1) (t := t) #[.int .u8 (bits .or .i64 192 (p / 256) % 256), .int .u8 (p % 256)] rfl (by simp [Value.oneCell']) rfl

/-- where Pack is -/
structure PkS (w : World) (m : List UInt8) (ss : List Int) (l : List ByteArray) (n2 k : Nat) (wi : World) (v10 v11 : Value) (al : List Int) : Prop where
  out : wi.ownsRow w.heap.size 5 1 v10 (m.length + lsum (l.take k)) (bytesV (m ++ sentL (l.take k)))
  all : wi.ownsRow w.heap.size 3 1 v11 al.length (intsV al)
  apart : Apart v10 v11
  bel : Below w.heap.size w wi
  ints : ∀ s ∈ al, I64 s
  len : al.length ≤ ss.length + k
  pack : packL m ss l m ss = packL m ss (l.drop k) (m ++ sentL (l.take k)) al

theorem lsum_take (l : List ByteArray) (k : Nat) : lsum (l.take k) ≤ lsum l := by
  have : lsum l = lsum (l.take k) + lsum (l.drop k) := by
    rw [← sentL_len, ← sentL_len, ← sentL_len, ← List.length_append, ← sentL_append, List.take_append_drop]
  omega
theorem own_rd_int {w : World} {base n : Nat} {v : Value} {l : List Int} (h : w.ownsRow base 3 1 v n (intsV l)) (hi : ∀ s ∈ l, I64 s) (hb : base ≤ w.heap.size) (hn : n * 8 ≤ 140737488355328) : ∃ A c, v = .slice A n c ∧ Rd intR w w.heap.size A n c l :=
  rd_of_own (R := intR) h (rels_int hi) (by have := h.1; simpa [intsV] using this) hb (by simpa [intR] using hn) (by decide)

/-- what Pack hands back: two rows of the call's own -/
structure OwnP (w w' : World) (m : List UInt8) (ss : List Int) (l : List ByteArray) (v v' : Value) : Prop where
  out : w'.ownsRow w.heap.size 5 1 v (m ++ packT m ss l).length (bytesV (m ++ packT m ss l))
  all : w'.ownsRow w.heap.size 3 1 v' (ss ++ packN m ss l m.length).length (intsV (ss ++ packN m ss l m.length))
  apart : Apart v v'
  ints : ∀ s ∈ ss ++ packN m ss l m.length, I64 s
  lenX : (m ++ packT m ss l).length ≤ 140737488355328
  lenY : (ss ++ packN m ss l m.length).length * 8 ≤ 140737488355328
theorem OwnP.rd {w w' : World} {m : List UInt8} {ss : List Int} {l : List ByteArray} {v v' : Value} (h : OwnP w w' m ss l v v') (hb : w.heap.size ≤ w'.heap.size) :
    ∃ A' c' A2 c2, v = .slice A' (m ++ packT m ss l).length c' ∧ v' = .slice A2 (ss ++ packN m ss l m.length).length c2 ∧ Rd u8R w' w'.heap.size A' (m ++ packT m ss l).length c' (m ++ packT m ss l) ∧ Rd intR w' w'.heap.size A2 (ss ++ packN m ss l m.length).length c2 (ss ++ packN m ss l m.length) := by
  obtain ⟨A', c', rfl, hr⟩ := own_rd_u8 h.out hb h.lenX
  obtain ⟨A2, c2, rfl, hr2⟩ := own_rd_int h.all h.ints hb h.lenY
  exact ⟨A', c', A2, c2, rfl, rfl, hr, hr2⟩
theorem ownP_of {w w' : World} {m : List UInt8} {ss : List Int} {l : List ByteArray} {v v' : Value} {X : List UInt8} {Y : List Int} (hp : packL m ss l m ss = (X, Y)) (ho : w'.ownsRow w.heap.size 5 1 v X.length (bytesV X)) (ha : w'.ownsRow w.heap.size 3 1 v' Y.length (intsV Y)) (hap : Apart v v')
    (hi : ∀ s ∈ Y, I64 s) (hX : X.length ≤ 140737488355328) (hY : Y.length * 8 ≤ 140737488355328) : OwnP w w' m ss l v v' := by
  rw [packL_eq] at hp
  simp only [Prod.mk.injEq] at hp
  obtain ⟨rfl, rfl⟩ := hp
  exact ⟨ho, ha, hap, hi, hX, hY⟩
def PkO (w : World) (m : List UInt8) (ss : List Int) (l : List ByteArray) (e : Ending) (w' : World) : Prop :=
  Below w.heap.size w w' ∧ if nameErr l = 0 then ∃ v v', e = .returned (.tuple #[v, v', .nilIface]) ∧ OwnP w w' m ss l v v'
    else e = .returned (.tuple #[.slice none 0 0, .slice none 0 0, .iface 29 (.int .i64 (nameErr l))])
/-- the end: what Pack hands back -/
theorem pkE_ok {w w' : World} {m : List UInt8} {ss : List Int} {l : List ByteArray} {v v' : Value} {X : List UInt8} {Y : List Int} (hf : nameErr l = 0) (hp : packL m ss l m ss = (X, Y)) (ho : w'.ownsRow w.heap.size 5 1 v X.length (bytesV X)) (ha : w'.ownsRow w.heap.size 3 1 v' Y.length (intsV Y)) (hap : Apart v v')
    (hi : ∀ s ∈ Y, I64 s) (hb : Below w.heap.size w w') (hX : X.length ≤ 140737488355328) (hY : Y.length * 8 ≤ 140737488355328) : PkO w m ss l (.returned (.tuple #[v, v', .nilIface])) w' := by
  refine ⟨hb, ?_⟩
  rw [if_pos hf]
  exact ⟨v, v', rfl, ownP_of hp ho ha hap hi hX hY⟩

set_option maxRecDepth 100000 in
set_option maxHeartbeats 8000000 in
theorem pack_own (w : World) (A : Option Addr) (n c : Nat) (m : List UInt8) (hM : Rd u8R w w.heap.size A n c m) (A1 : Option Addr) (n1 c1 : Nat) (ss : List Int) (hS : Rd intR w w.heap.size A1 n1 c1 ss) (A2 : Option Addr) (n2 c2 : Nat) (l : List ByteArray) (hL : Rd strR w w.heap.size A2 n2 c2 l)
    (hlim : n + 256 ≤ 140737488355328) (hlim1 : n1 * 8 + 4096 ≤ 140737488355328) :
    Calls Tryd.prog 48 #[.slice A n c, .slice A1 n1 c1, .slice A2 n2 c2] w (PkO w m ss l) := by
  have CK := name_check w A2 n2 c2 l _ hL
  have c2m := hL.max
  have c2c := hL.cap
  unfold maxLen at c2m
  by_cases hf : nameErr l = 0
  · rw [hf, errV_zero] at CK
    replace CK := hid CK
    have hok := nameErr_zero.1 hf
    have hls : lsum l ≤ 254 := by have := hok.2; rw [nsize_lsum] at this; omega
    have hll := lsum_len l
    have hln : l.length = n2 := hL.len
    have hn2 : n2 ≤ 254 := by omega
    have hmn : m.length = n := hM.len
    have hsn : ss.length = n1 := hS.len
    have CC := hid (clone_bytes w A n c m _ hM)
    have CI := hid fun w' (hb : Below w.heap.size w w') => clone_ints w' A1 n1 c1 ss _ (hS.below hb)
    have CF := hid fun w' (hb : Below w.heap.size w w') A' n' c' l' (hr : Rd strR w' w'.heap.size A' n' c' l') => find_any w' A n c m (hM.later hb) A1 n1 c1 ss (hS.later hb) A' n' c' l' hr
    have HL := hid hL
    have HM := hid hM
    have HS := hid hS
    have HOK := hid hok
    have HF := hid hf
    have HLN := hid hln
    have HMN := hid hmn
    have HSN := hid hsn
    have HI := hid hS.i64s
    clear hM hL hS hok hf hln hmn hsn
    have tk0 : True := trivial; have tk1 : True := trivial; have tk2 : True := trivial; have tk3 : True := trivial; have tk4 : True := trivial; have tk5 : True := trivial; have tk6 : True := trivial; have tk7 : True := trivial; have tk8 : True := trivial; have tk9 : True := trivial; have tk10 : True := trivial; have tk11 : True := trivial; have tk12 : True := trivial
    go_enter Tryd.func48, Tryd.ntmps48
    go_wp2_with (first
      | (go_at_call 57; refine CK.out.mono ?_; rintro e w1 ⟨rfl, hw⟩; subst w1)
      | (go_at_call 42; refine CC.out.mono ?_; rintro e w1 ⟨v1, rfl, ho1, hb1⟩; have HO1 := hid ho1; have HB1 := hid hb1; have hz1 := hb1.size; clear ho1 hb1)
      | (go_at_call 58; refine (CI.out _ HB1.out).mono ?_; rintro e w2 ⟨v2, rfl, ho2, hb2⟩; have HO2 := hid ho2; have HB2 := hid hb2; have hz2 := hb2.size; clear ho2 hb2))
    go_loopg [10, 11, 25] n2 (fun gk u10 u11 u25 wi => ∃ (k : Nat) (al : List Int), k ≤ n2 ∧ gk = n2 - k ∧ u25 = .int .i64 (k : Int) ∧ PkS w m ss l n2 k wi u10 u11 al)
    case atStart =>
      refine ⟨0, ss, Nat.zero_le _, rfl, rfl, ?_, ?_, ?_, HB1.out.trans (HB2.out.mono hz1), HI.out, by omega, ?_⟩
      · have := own_low HO1.out HB2.out (Nat.le_refl _)
        rw [HMN.out]
        simpa [sentL, lsum] using this
      · rw [HSN.out]
        exact own_less HO2.out hz1
      · exact apart_of (m := w1.heap.size) (fun g e => (HO1.out.lt g e).2) (fun g e => (HO2.out.lt g e).1)
      · simp [sentL]
    case round =>
      obtain ⟨k, al, hk, rfl, rfl, hs⟩ := hrel
      have hzw : w.heap.size ≤ wr.heap.size := hs.bel.size
      have hal := hs.len
      have hlk := lsum_take l k
      have PS := hid hs
      clear hs CC CI HO1 HO2 HB1 HB2 CK
      by_cases hlt : k < n2
      · obtain ⟨b, o, rfl, lb⟩ := HL.out.addr (by omega)
        have CFK := hid (CF.out wr PS.out.bel _ _ _ _ ((HL.out.dropS (k := k) (by omega)).keep hzw fun p hp => PS.out.bel.cell hp))
        have hkl : k < l.length := by rw [HLN.out]; exact hlt
        have hdr : l.drop k = l[k] :: l.drop (k + 1) := List.drop_eq_getElem_cons hkl
        have htk : l.take (k + 1) = l.take k ++ [l[k]] := List.take_succ_eq_append_getElem hkl
        have hstep := PS.out.pack
        rw [hdr, packL, ← hdr] at hstep
        have hlx : labelOk l[k] = true := List.all_eq_true.1 HOK.out.1 _ (List.getElem_mem hkl)
        obtain ⟨x, hx⟩ : ∃ x, l[k] = x := ⟨_, rfl⟩
        rw [hx] at htk hlx hstep
        have hls1 : lsum (l.take (k + 1)) = lsum (l.take k) + (x.size + 1) := by rw [htk, lsum_snoc]
        have hle1 := lsum_take l (k + 1)
        have hfo := findS_or m (l.drop k) ss
        obtain ⟨p, hp⟩ : ∃ p, findS m (l.drop k) ss = p := ⟨_, rfl⟩
        rw [hp] at CFK hfo hstep
        have HST := hid hstep
        have HTK := hid htk
        have HLS1 := hid hls1
        have HX := hid hx
        have hc0 : k + 1 ≤ n2 := by omega
        have hcc : ¬ c2 = k := by omega
        have wk : IntKind.i64.wrap ((k : Int) + 1) = (k : Int) + 1 := IntWalk.i64_in _ (by omega)
        clear hstep htk hls1 hdr hp hx
        by_cases hp0 : 0 ≤ p
        · have hp1 : p ≤ 16383 := by rcases hfo with h | h <;> omega
          clear hfo
          have ab1 : (m.length + lsum (l.take k) + 2) * 1 ≤ 140737488355328 := by have := HMN.out; omega
          have ab2 : m.length + lsum (l.take k) + 2 ≤ maxLen := by unfold maxLen; have := HMN.out; omega
          go_wp2_with (first
            | (go_at_call 59; (with_reducible refine CFK.out.mono ?_); rintro e w1 ⟨rfl, hb1⟩; have HB1 := hid hb1; have hz1 := hb1.size; clear hb1)
            | (at_builtin; refine wpList_appT rfl _ _ 22 rfl w.heap.size 5 1 1 el_u8 u10 (m.length + lsum (l.take k)) _ rfl ((own_low PS.out.out HB1.out (Nat.le_refl _)).alloc _) _ 2 2 (bytesV (ptrB p)) rfl (src_ptr p hp0 hp1) ab1 ab2 (by simp; omega) ?_; intro v3 w3 ho3 ha3; have HO3 := hid ho3; have HA3 := hid ha3; clear ho3 ha3))
          go_ret3
          have hst := HST.out
          rw [if_pos hp0] at hst
          obtain ⟨hall, hap⟩ := HA3.out.other ((own_low PS.out.all HB1.out (Nat.le_refl _)).alloc _) PS.out.apart.symm
          have hb3 := HA3.out.below ((own_low PS.out.out HB1.out (Nat.le_refl _)).alloc _) (by simp; omega)
          have hXl : (m ++ sentL (l.take k) ++ ptrB p).length = m.length + lsum (l.take k) + 2 := by rw [List.length_append, List.length_append, sentL_len]; rfl
          refine pkE_ok HF.out hst ?_ hall (Apart.symm hap) PS.out.ints (((PS.out.bel.trans (HB1.out.mono hzw)).alloc (by omega) _).trans hb3) (by omega) (by have := HSN.out; omega)
          rw [hXl]
          simpa [bytesV] using HO3.out
        · have hn0 : p < 0 := by omega
          clear hfo
          obtain ⟨N, hN⟩ : ∃ N, m.length + lsum (l.take k) = N := ⟨_, rfl⟩
          have ho10 := PS.out.out
          rw [hN] at ho10
          obtain ⟨A', cap', rfl, _, _, _⟩ := own_slice ho10
          have HO10 := hid ho10
          have HN := hid hN
          have hNb : N ≤ n + 254 := by have := HMN.out; omega
          have hR1 : Rd strR w w.heap.size (some ⟨b, o + k, none⟩) 1 (c2 - k) [x] := by
            have := (HL.out.dropS (k := k) (by omega)).take (k := 1) (by omega)
            rw [List.drop_eq_getElem_cons hkl, HX.out] at this
            simpa using this
          have HR1 := hid hR1
          have hsx : (sentL [x]).length = x.size + 1 := sentL_one x
          have hxs : lsum [x] = x.size + 1 := by simp [lsum]
          have HSX := hid (And.intro hsx hxs)
          have hXb : N + (x.size + 1) ≤ 140737488355328 := by have := HLS1.out; have := HMN.out; omega
          have hst := HST.out
          rw [if_neg hp0] at hst
          have hlen : (m ++ sentL (l.take k)).length = N := by rw [List.length_append, sentL_len, hN]
          rw [hlen, List.append_assoc, ← sentL_append, ← HTK.out] at hst
          have HST2 := hid hst
          have HLX := hid hlx
          clear ho10 hN hR1 hsx hxs hst hlen hlx
          by_cases hbig : N ≤ 16383
          · have ab1 : (al.length + 1) * 8 ≤ 140737488355328 := by have := HSN.out; omega
            have ab2 : al.length + 1 ≤ maxLen := by unfold maxLen; omega
            go_wp2_with (first
              | (go_at_call 59; (with_reducible refine CFK.out.mono ?_); rintro e w1 ⟨rfl, hb1⟩; have HB1 := hid hb1; have hz1 := hb1.size; clear hb1)
              | (at_builtin; refine wpList_appT rfl _ _ 74 rfl w.heap.size 3 1 8 el_int u11 al.length _ rfl ((own_low PS.out.all HB1.out (Nat.le_refl _)).alloc _) _ 1 1 [.int .i64 (N : Int)] rfl (src_one _ rfl rfl) ab1 ab2 (by simp; omega) ?_; intro v3 w3 ho3 ha3; have hz3 := ha3.grown.size; have HO3 := hid ho3; have HA3 := hid ha3; have HOUT := hid (ha3.other ((own_low HO10.out HB1.out (Nat.le_refl _)).alloc _) PS.out.apart); have HB3 := hid (((PS.out.bel.trans (HB1.out.mono hzw)).alloc (by omega) _).trans (ha3.below ((own_low PS.out.all HB1.out (Nat.le_refl _)).alloc _) (by simp; omega))); have CS := hid (sent_any w3 w.heap.size N _ _ HOUT.out.1 (by simp at hz3; omega) _ _ _ [x] (HR1.out.below HB3.out) (by simp [HLX.out]) (by rw [HSX.out.2]; exact hXb)); clear ho3 ha3)
              | (go_at_call 60; (with_reducible refine CS.out.mono ?_); rintro e w4 ⟨v4, rfl, ho4, ha4⟩; have HO4 := hid ho4; have HA4 := hid ha4; clear ho4 ha4))
            go_roundg (n2 - (k + 1))
            case measure => omega
            case rel =>
              obtain ⟨hall, hap⟩ := HA4.out.other HO3.out (Apart.symm HOUT.out.2)
              have hst := HST2.out
              rw [if_pos hbig] at hst
              refine ⟨k + 1, al ++ [(N : Int)], by omega, rfl, by go_num, ?_, by simpa [intsV] using hall, Apart.symm hap, HB3.out.trans (HA4.out.below HOUT.out.1 (by simp at hz3; omega)), ?_, by simp; omega, hst⟩
              · have := HO4.out
                rw [HSX.out.2] at this
                rw [HLS1.out, ← Nat.add_assoc, HN.out, HTK.out, sentL_append, ← List.append_assoc]
                exact this
              · intro s hs
                rcases List.mem_append.1 hs with h | h
                · exact PS.out.ints s h
                · obtain rfl := List.mem_singleton.1 h
                  unfold I64; omega
          · have hbig' : 16383 < N := by omega
            go_wp2_with (first
              | (go_at_call 59; (with_reducible refine CFK.out.mono ?_); rintro e w1 ⟨rfl, hb1⟩; have HB1 := hid hb1; have hz1 := hb1.size; have HOUT := hid (own_low HO10.out hb1 (Nat.le_refl _)); have HB3 := hid (PS.out.bel.trans (hb1.mono hzw)); have CS := hid (sent_any w1 w.heap.size N _ _ HOUT.out (by omega) _ _ _ [x] (HR1.out.below HB3.out) (by simp [HLX.out]) (by rw [HSX.out.2]; exact hXb)); clear hb1)
              | (go_at_call 60; (with_reducible refine CS.out.mono ?_); rintro e w4 ⟨v4, rfl, ho4, ha4⟩; have HO4 := hid ho4; have HA4 := hid ha4; clear ho4 ha4))
            go_roundg (n2 - (k + 1))
            case measure => omega
            case rel =>
              obtain ⟨hall, hap⟩ := HA4.out.other (own_low PS.out.all HB1.out (Nat.le_refl _)) PS.out.apart.symm
              have hst := HST2.out
              rw [if_neg hbig] at hst
              refine ⟨k + 1, al, by omega, rfl, by go_num, ?_, hall, Apart.symm hap, HB3.out.trans (HA4.out.below HOUT.out (by omega)), PS.out.ints, by omega, hst⟩
              have := HO4.out
              rw [HSX.out.2] at this
              rw [HLS1.out, ← Nat.add_assoc, HN.out, HTK.out, sentL_append, ← List.append_assoc]
              exact this
      · obtain rfl : k = n2 := by omega
        have hdr : l.drop k = [] := List.drop_eq_nil_of_le (by rw [HLN.out]; exact Nat.le_refl _)
        have hst := PS.out.pack
        rw [hdr, packL] at hst
        have HST := hid hst
        have ab1 : (m.length + lsum (l.take k) + 1) * 1 ≤ 140737488355328 := by have := HMN.out; omega
        have ab2 : m.length + lsum (l.take k) + 1 ≤ maxLen := by unfold maxLen; have := HMN.out; omega
        clear hst hdr
        go_wp2_with (at_builtin; refine wpList_appT rfl _ _ 22 rfl w.heap.size 5 1 1 el_u8 u10 (m.length + lsum (l.take k)) _ rfl (PS.out.out.alloc _) _ 1 1 [.int .u8 0] rfl (src_one _ rfl rfl) ab1 ab2 (by simp; omega) ?_; intro v3 w3 ho3 ha3; have HO3 := hid ho3; have HA3 := hid ha3; clear ho3 ha3)
        go_ret3
        obtain ⟨hall, hap⟩ := HA3.out.other (PS.out.all.alloc _) PS.out.apart.symm
        have hb3 := HA3.out.below (PS.out.out.alloc _) (by simp; omega)
        have hXl : (m ++ sentL (l.take k) ++ [0]).length = m.length + lsum (l.take k) + 1 := by rw [List.length_append, List.length_append, sentL_len]; rfl
        refine pkE_ok HF.out HST.out ?_ hall (Apart.symm hap) PS.out.ints ((PS.out.bel.alloc (by omega) _).trans hb3) (by omega) (by have := HSN.out; omega)
        rw [hXl]
        simpa [bytesV] using HO3.out
  · rw [errV_ne hf] at CK
    replace CK := hid CK
    have HF := hid hf
    clear hM hL hS hf
    go_enter Tryd.func48, Tryd.ntmps48
    go_wp2_with (go_at_call 57; refine CK.out.mono ?_; rintro e w1 ⟨rfl, hw⟩; subst w1)
    go_ret3
    refine ⟨Below.refl _ _, ?_⟩
    rw [if_neg HF.out]
    rfl
theorem pack_any (w : World) (A : Option Addr) (n c : Nat) (m : List UInt8) (hM : Rd u8R w w.heap.size A n c m) (A1 : Option Addr) (n1 c1 : Nat) (ss : List Int) (hS : Rd intR w w.heap.size A1 n1 c1 ss) (A2 : Option Addr) (n2 c2 : Nat) (l : List ByteArray) (hL : Rd strR w w.heap.size A2 n2 c2 l)
    (hlim : n + 256 ≤ 140737488355328) (hlim1 : n1 * 8 + 4096 ≤ 140737488355328) :
    Calls Tryd.prog 48 #[.slice A n c, .slice A1 n1 c1, .slice A2 n2 c2] w (PkE w m ss l) := by
  refine (pack_own w A n c m hM A1 n1 c1 ss hS A2 n2 c2 l hL hlim hlim1).mono ?_
  rintro e w' ⟨hb, he⟩
  refine ⟨hb, ?_⟩
  by_cases hf : nameErr l = 0
  · rw [if_pos hf] at he ⊢
    obtain ⟨v, v', rfl, ho⟩ := he
    obtain ⟨A', c', A2, c2, rfl, rfl, hr, hr2⟩ := ho.rd hb.size
    exact ⟨A', c', A2, c2, rfl, hr, hr2⟩
  · rw [if_neg hf] at he ⊢
    exact he
end Go.Proofs.YthccknobnpbdeaaDoor
/- What the statements ask alike: are two lists the same? -/
namespace Go.Proofs.YthccknobnpbdeaaDoor
open Go.RowKit
set_option linter.unusedVariables false
set_option linter.unusedSimpArgs false

theorem below_draws {B : Nat} {a w : World} (h : Below B a w) (n : Nat) : Below B a (w.drewN n) := ⟨h.os, h.tape, h.output, h.size, h.block⟩

theorem take_succ_eq {α : Type} {l m : List α} {k : Nat} (h : l.take k = m.take k) (hl : k < l.length) (hm : k < m.length) (he : l[k] = m[k]) : l.take (k + 1) = m.take (k + 1) := by
  rw [List.take_succ_eq_append_getElem hl, List.take_succ_eq_append_getElem hm, h, he]

end Go.Proofs.YthccknobnpbdeaaDoor
/- Are two lists of bytes the same? -/
namespace Go.Proofs.YthccknobnpbdeaaDoor
open Go.RowKit
set_option linter.unusedVariables false
set_option linter.unusedSimpArgs false

set_option maxHeartbeats 2000000 in
theorem bytes_any (w : World) (A1 : Option Addr) (n1 c1 : Nat) (l1 : List UInt8) (B1 : Nat) (h1 : Rd u8R w B1 A1 n1 c1 l1) (A2 : Option Addr) (n2 c2 : Nat) (l2 : List UInt8) (B2 : Nat) (h2 : Rd u8R w B2 A2 n2 c2 l2) :
    Calls Tryd.prog 10 #[.slice A1 n1 c1, .slice A2 n2 c2] w fun e w' => e = .returned (.bool (decide (l1 = l2))) ∧ Below w.heap.size w w' := by
  have m1 := h1.max
  have k1 := h1.cap
  have m2 := h2.max
  have k2 := h2.cap
  unfold maxLen at m1 m2
  have H1 := hid h1
  have H2 := hid h2
  clear h1 h2
  by_cases hn : n1 = n2
  · subst hn
    go_enter Tryd.func10, Tryd.ntmps10
    go_wp2
    go_loopg [5] n1 (fun g v wi => ∃ k m : Nat, k ≤ n1 ∧ g = n1 - k ∧ v = .int .i64 k ∧ wi = w.drewN m ∧ l1.take k = l2.take k)
    case atStart => exact ⟨0, 0, Nat.zero_le _, rfl, rfl, rfl, rfl⟩
    case round =>
      obtain ⟨k, m, hk, rfl, rfl, rfl, ht⟩ := hrel
      have HT := hid ht
      clear ht
      by_cases hlt : k < n1
      · obtain ⟨b1, o1, rfl, _, hc1⟩ := H1.out.u8 k hlt
        obtain ⟨b2, o2, rfl, _, hc2⟩ := H2.out.u8 k hlt
        have q1 : k < l1.length := by rw [H1.out.len]; exact hlt
        have q2 : k < l2.length := by rw [H2.out.len]; exact hlt
        have hkz : (k : Int) < (n1 : Int) := by omega
        by_cases he : l1[k] = l2[k]
        · have hv : (((l1[k]).toNat : Int) != ((l2[k]).toNat : Int)) = false := by rw [he]; simp
          have HE := hid he
          clear he
          go_wp2_with fail
          go_quiet (fail)
          go_wp2
          go_roundg (n1 - (k + 1))
          case measure => omega
          case rel => exact ⟨k + 1, _, by omega, rfl, by go_num, rfl, take_succ_eq HT.out q1 q2 HE.out⟩
        · have hv : (((l1[k]).toNat : Int) != ((l2[k]).toNat : Int)) = true := by
            rw [bne_iff_ne]
            intro h
            exact he (UInt8.toNat_inj.1 (by omega))
          have hr : decide (l1 = l2) = false := decide_eq_false fun h => he (by simp [h])
          clear he
          go_wp2_with fail
          go_quiet (fail)
          go_wp2
          go_ret
          exact ⟨by first | rfl | (rw [hr]; rfl), by (repeat' (first | (with_reducible exact Below.refl _ _) | (with_reducible assumption) | (with_reducible refine below_ext0 ?_ _ _) | (with_reducible refine below_alloc0 ?_ _) | (with_reducible refine Below.ext ?_ ?_ _ _) | (with_reducible refine Below.alloc ?_ ?_ _) | (with_reducible refine Below.setCell ?_ ?_ _) | (with_reducible refine Below.drew ?_) | (with_reducible refine below_draws ?_ _) | go_size | (simp [size_ext]; done) | (simp [size_ext]; omega)))⟩
      · have hr : decide (l1 = l2) = true := decide_eq_true (by
          have h := HT.out
          rwa [List.take_of_length_le (by have := H1.out.len; omega), List.take_of_length_le (by have := H2.out.len; omega)] at h)
        go_wp2
        go_ret
        exact ⟨by first | rfl | (rw [hr]; rfl), by (repeat' (first | (with_reducible exact Below.refl _ _) | (with_reducible assumption) | (with_reducible refine below_ext0 ?_ _ _) | (with_reducible refine below_alloc0 ?_ _) | (with_reducible refine Below.ext ?_ ?_ _ _) | (with_reducible refine Below.alloc ?_ ?_ _) | (with_reducible refine Below.setCell ?_ ?_ _) | (with_reducible refine Below.drew ?_) | (with_reducible refine below_draws ?_ _) | go_size | (simp [size_ext]; done) | (simp [size_ext]; omega)))⟩
  · have hv : ((n1 : Int) != (n2 : Int)) = true := by rw [bne_iff_ne]; omega
    have hr : decide (l1 = l2) = false := decide_eq_false fun h => hn (by rw [← H1.out.len, ← H2.out.len, h])
    go_enter Tryd.func10, Tryd.ntmps10
    go_wp2
    go_ret
    exact ⟨by first | rfl | (rw [hr]; rfl), Below.refl _ _⟩
end Go.Proofs.YthccknobnpbdeaaDoor
/- wire: contracts of Write, Read, Pack as the laws meet them, one for each way. -/
namespace Go.Proofs.YthccknobnpbdeaaDoor
open Go.RowKit
set_option linter.unusedVariables false
set_option linter.unusedSimpArgs false

section
variable {w : World} {A : Option Addr} {n c : Nat} {m : List UInt8} {A1 : Option Addr} {n1 c1 : Nat} {ss : List Int} {A2 : Option Addr} {n2 c2 : Nat} {l : List ByteArray}
theorem read_ok (hM : Rd u8R w w.heap.size A n c m) {at_ nx : Int} (hr : rdN m at_ = (0, l, nx)) {k : Nat} (hk : l.length = k) :
    Calls Tryd.prog 17 #[.slice A n c, .int .i64 at_] w fun e w' => ∃ A' c', e = .returned (.tuple #[.slice A' k c', .int .i64 nx, .nilIface]) ∧ Rd strR w' w'.heap.size A' k c' l ∧ Below w.heap.size w w' := by
  refine (wread_any w A n c m hM at_).mono ?_
  rintro e w' ⟨hb, he⟩
  rw [hr, if_pos rfl] at he
  obtain ⟨A', c', he, hr'⟩ := he
  simp only [hk] at he hr'
  exact ⟨A', c', he, hr', hb⟩
theorem read_bad (hM : Rd u8R w w.heap.size A n c m) {at_ : Int} {k : Int} (hr : (rdN m at_).1 = k) (hk : k ≠ 0) :
    Calls Tryd.prog 17 #[.slice A n c, .int .i64 at_] w fun e w' => e = .returned (.tuple #[.slice none 0 0, .int .i64 0, .iface 29 (.int .i64 k)]) ∧ Below w.heap.size w w' := by
  refine (wread_any w A n c m hM at_).mono ?_
  rintro e w' ⟨hb, he⟩
  rw [if_neg (by rw [hr]; exact hk), hr] at he
  exact ⟨he, hb⟩
theorem pack_ok (hM : Rd u8R w w.heap.size A n c m) (hS : Rd intR w w.heap.size A1 n1 c1 ss) (hL : Rd strR w w.heap.size A2 n2 c2 l) (hlim : n + 256 ≤ 140737488355328) (hlim1 : n1 * 8 + 4096 ≤ 140737488355328) (hf : nameErr l = 0) {X : List UInt8} {Y : List Int} (hX : m ++ packT m ss l = X) (hY : ss ++ packN m ss l m.length = Y) {k k2 : Nat} (hk : X.length = k) (hk2 : Y.length = k2) :
    Calls Tryd.prog 48 #[.slice A n c, .slice A1 n1 c1, .slice A2 n2 c2] w fun e w' => ∃ A' c' A2 c2, e = .returned (.tuple #[.slice A' k c', .slice A2 k2 c2, .nilIface]) ∧ (Rd u8R w' w'.heap.size A' k c' X ∧ Rd intR w' w'.heap.size A2 k2 c2 Y) ∧ Below w.heap.size w w' := by
  refine (pack_any w A n c m hM A1 n1 c1 ss hS A2 n2 c2 l hL hlim hlim1).mono ?_
  rintro e w' ⟨hb, he⟩
  rw [if_pos hf, hX, hY, hk, hk2] at he
  obtain ⟨A', c', A2, c2, he, hr, hr2⟩ := he
  exact ⟨A', c', A2, c2, he, ⟨hr, hr2⟩, hb⟩
theorem pack_bad (hM : Rd u8R w w.heap.size A n c m) (hS : Rd intR w w.heap.size A1 n1 c1 ss) (hL : Rd strR w w.heap.size A2 n2 c2 l) (hlim : n + 256 ≤ 140737488355328) (hlim1 : n1 * 8 + 4096 ≤ 140737488355328) {k : Int} (hf : nameErr l = k) (hk : k ≠ 0) :
    Calls Tryd.prog 48 #[.slice A n c, .slice A1 n1 c1, .slice A2 n2 c2] w fun e w' => e = .returned (.tuple #[.slice none 0 0, .slice none 0 0, .iface 29 (.int .i64 k)]) ∧ Below w.heap.size w w' := by
  refine (pack_any w A n c m hM A1 n1 c1 ss hS A2 n2 c2 l hL hlim hlim1).mono ?_
  rintro e w' ⟨hb, he⟩
  rw [if_neg (by rw [hf]; exact hk), hf] at he
  exact ⟨he, hb⟩
end

/-! the fact that each law opens with: 'a' sent -/
theorem rd_one {w : World} {g : Nat} (t : TypeId) (s : ByteArray) (hs : s.size ≤ 140737488355328) (hg : g = w.heap.size) : Rd strR (w.alloc (.cells #[.string s] t)) (w.alloc (.cells #[.string s] t)).heap.size (some ⟨g, 0, none⟩) 1 1 [s] := by
  subst hg
  have h : Blk (w.alloc (.cells #[.string s] t)) w.heap.size t #[.string s] := Blk.new w t _
  refine ⟨rfl, Nat.le_refl _, by simp [maxLen], by simp [strR], fun e => (by cases e), fun i hi => ?_⟩
  obtain rfl : i = 0 := by simpa using hi
  refine ⟨w.heap.size, 0, _, rfl, h.lt, ⟨rfl, hs⟩, fun j u hu => ?_⟩
  have hj : j = 0 := by
    cases j with
    | zero => rfl
    | succ j => simp at hu
  subst hj
  simp at hu
  subst hu
  simp [h.cell]
theorem bytes_yes {w : World} {A1 : Option Addr} {n1 c1 B1 : Nat} {l : List UInt8} {A2 : Option Addr} {n2 c2 B2 : Nat} (h1 : Rd u8R w B1 A1 n1 c1 l) (h2 : Rd u8R w B2 A2 n2 c2 l) :
    Calls Tryd.prog 10 #[.slice A1 n1 c1, .slice A2 n2 c2] w fun e w' => e = .returned (.bool true) ∧ Below w.heap.size w w' := by
  have := bytes_any w A1 n1 c1 l B1 h1 A2 n2 c2 l B2 h2
  rwa [decide_eq_true rfl] at this
theorem texts_yes {w : World} {A1 : Option Addr} {n1 c1 B1 : Nat} {l : List ByteArray} {A2 : Option Addr} {n2 c2 B2 : Nat} (h1 : Rd strR w B1 A1 n1 c1 l) (h2 : Rd strR w B2 A2 n2 c2 l) :
    Calls Tryd.prog 21 #[.slice A1 n1 c1, .slice A2 n2 c2] w fun e w' => e = .returned (.bool true) ∧ Below w.heap.size w w' := by
  have := texts_any w A1 n1 c1 l B1 h1 A2 n2 c2 l B2 h2
  rwa [decide_eq_true rfl] at this
theorem rd_fact {w : World} {g : Nat} (t : TypeId) (hg : g = w.heap.size) : Rd u8R (w.alloc (.cells #[.int .u8 1, .int .u8 97, .int .u8 0] t)) (w.alloc (.cells #[.int .u8 1, .int .u8 97, .int .u8 0] t)).heap.size (some ⟨g, 0, none⟩) 3 3 [1, 97, 0] :=
  rd_lit t _ [1, 97, 0] 3 hg rfl rfl (by omega)

theorem own_empty {w : World} {base : Nat} {e : TypeId} (hb : base ≤ w.heap.size) : (w.alloc (.cells #[] e)).ownsRow base e 1 (.slice (some ⟨w.heap.size, 0, none⟩) 0 0) 0 [] :=
  own_lit (size := 1) #[] [] rfl hb rfl (by decide) rfl
end Go.Proofs.YthccknobnpbdeaaDoor
/- rr: two bytes as a number; the fixed part of a record. -/
namespace Go.Proofs.YthccknobnpbdeaaDoor
open Go.RowKit
set_option linter.unusedVariables false
set_option linter.unusedSimpArgs false

theorem below_ext0 {w w' : World} (h : Below w.heap.size w w') (os : Array Obj) (d : Nat) : Below w.heap.size w (ext w' os d) := Below.ext h h.size os d
theorem below_alloc0 {w w' : World} (h : Below w.heap.size w w') (o : Obj) : Below w.heap.size w (w'.alloc o) := Below.alloc h h.size o
theorem results_tmp4 {fn : Func} {t u v x : Tmp} (h : fn.results = #[.tmp t, .tmp u, .tmp v, .tmp x]) (tmps : Array Value) (P : Program) (w : World) :
    (results fn tmps).run P w = .ok (.tuple #[tmps.getD t undef, tmps.getD u undef, tmps.getD v undef, tmps.getD x undef]) w := by
  simp [results, h]
/-- two bytes of a slice -/
theorem Rd.two {w : World} {B n c b o : Nat} {m : List UInt8} (hM : Rd u8R w B (some ⟨b, o, none⟩) n c m) (p : Nat) (hp : p + 2 ≤ n) :
    ∃ x y : UInt8, at2 m p = x.toNat * 256 + y.toNat ∧ w.cell? ⟨b, o + p, none⟩ = some (.int .u8 (x.toNat : Int)) ∧ w.cell? ⟨b, o + p + 1, none⟩ = some (.int .u8 (y.toNat : Int)) ∧ b < B := by
  obtain ⟨x, hx, c0, _, lb⟩ := hM.byte p (by omega)
  obtain ⟨y, hy, c1, _, _⟩ := hM.byte (p + 1) (by omega)
  exact ⟨x, y, by unfold at2; rw [hx, hy], c0, c1, lb⟩
/-- a slice with two bounds, wherever its end stands -/
theorem slice_two {w : World} {B n c i j : Nat} {A : Option Addr} {m : List UInt8} (hM : Rd u8R w B A n c m) (hij : i ≤ j) (hj : j ≤ n) (hA : 0 < n) {a b : Int} (ha : a = (i : Int)) (hb : b = (j : Int)) :
    ∃ S C, (∀ w' : World, (Instr.slice 22 (.slice A n c) (some (.int .i64 a)) (some (.int .i64 b)) none).run Tryd.prog w' = .ok (.slice S (j - i) C) w') ∧ Rd u8R w B S (j - i) C ((m.drop i).take (j - i)) := by
  subst ha hb
  have hcap := hM.cap
  obtain ⟨g, o, rfl, hg⟩ := hM.addr hA
  have h1 : (j : Int) ≤ (c : Int) := by omega
  have h2 : (i : Int) ≤ (j : Int) := by omega
  have hsz : (Tryd.prog.info? 5).map (·.size) = some 1 := by kernel_rfl
  by_cases hc : c = i
  · refine ⟨some ⟨g, o, none⟩, 0, ?_, ?_⟩
    · intro w'
      obtain rfl : j = c := by omega
      subst hc
      simp [Instr.slice, Instr.sliceBounds, Instr.sliceBound, go_sem, Tryd.underlying22]
    · have e : j - i = 0 := by omega
      rw [e]
      exact ⟨by simp, Nat.le_refl _, by simp [maxLen], by simp, fun e => (by cases e), fun i hi => by simp at hi⟩
  · refine ⟨some ⟨g, o + i, none⟩, c - i, ?_, (hM.dropB (k := i) (by omega)).take (by omega)⟩
    intro w'
    have e3 : j ≤ c := by omega
    simp [Instr.slice, Instr.sliceBounds, Instr.sliceBound, go_sem, Tryd.underlying22, e3, hij, hc]
theorem two_rr {w : World} {B b o n c : Nat} {m : List UInt8} (hM : Rd u8R w B (some ⟨b, o, none⟩) n c m) (h2 : 2 ≤ n) {k : Nat} (hk : at2 m 0 = k) :
    Calls Tryd.prog 41 #[.slice (some ⟨b, o, none⟩) n c] w fun e w' => e = .returned (.int .i64 (k : Int)) ∧ Below w.heap.size w w' := by
  obtain ⟨x, y, hxy, c0, c1, lb⟩ := hM.two 0 (by omega)
  rw [hk] at hxy
  rw [Nat.add_zero] at c0 c1
  have hc := hM.cap
  have hm := hM.max
  unfold maxLen at hm
  have two := two_or x y
  have hx := x.toNat_lt
  have hy := y.toNat_lt
  have hkk : (x.toNat : Int) * 256 + (y.toNat : Int) = (k : Int) := by omega
  rw [hkk] at two
  have p0 : (0 : Int) ≤ (x.toNat : Int) := by omega
  have p1 : (0 : Int) ≤ (y.toNat : Int) := by omega
  have p2 : (x.toNat : Int) ≤ 255 := by omega
  have p3 : (y.toNat : Int) ≤ 255 := by omega
  clear hM hkk hxy hk hx hy
  generalize (x.toNat : Int) = y0 at *
  generalize (y.toNat : Int) = y1 at *
  have v0 : IntKind.i64.wrap y0 = y0 := IntWalk.i64_in _ (by omega)
  have v01 : IntKind.i64.wrap (y0 * 256) = y0 * 256 := IntWalk.i64_in _ (by omega)
  have v1 : IntKind.i64.wrap y1 = y1 := IntWalk.i64_in _ (by omega)
  have j0 : (0 : Int) < (n : Int) := by omega
  have j1 : (1 : Int) < (n : Int) := by omega
  have j2 : 0 < n := by omega
  have j3 : 1 < n := by omega
  go_enter Tryd.func41, Tryd.ntmps41
  go_wp2_with fail
  go_region_held3 (fun w' => w'.cell? ⟨b, o, none⟩ = some (.int .u8 y0) ∧ w'.cell? ⟨b, o + 1, none⟩ = some (.int .u8 y1)) (go_keep) (fail)
  all_goals go_wp2
  all_goals go_ret
  all_goals exact ⟨rfl, by (repeat' (first | (with_reducible exact Below.refl _ _) | (with_reducible assumption) | (with_reducible refine below_ext0 ?_ _ _) | (with_reducible refine below_alloc0 ?_ _) | (with_reducible refine Below.ext ?_ ?_ _ _) | (with_reducible refine Below.alloc ?_ ?_ _) | (with_reducible refine Below.setCell ?_ ?_ _) | (with_reducible refine Below.drew ?_) | (with_reducible refine below_draws ?_ _) | go_size | (simp [size_ext]; done) | (simp [size_ext]; omega)))⟩

set_option maxRecDepth 100000 in
set_option maxHeartbeats 2000000 in
theorem fixed_ok {w : World} {A : Option Addr} {n c : Nat} {m : List UInt8} (hM : Rd u8R w w.heap.size A n c m) {at_ : Int} {l : List ByteArray} {p en : Nat} (hr : rrF m at_ = (0, l, p, en)) {k : Nat} (hk : l.length = k) :
    Calls Tryd.prog 40 #[.slice A n c, .int .i64 at_] w fun e w' => ∃ A' c', e = .returned (.tuple #[.slice A' k c', .int .i64 (p : Int), .int .i64 (en : Int), .nilIface]) ∧ Rd strR w' w'.heap.size A' k c' l ∧ Below w.heap.size w w' := by
  obtain ⟨h1, h2, h3, h4⟩ := rrF_ok.1 hr
  have hn := hM.len
  have hcap := hM.cap
  have hmax := hM.max
  have hlim := hM.lim
  simp only [u8R, Nat.mul_one] at hlim
  unfold maxLen at hmax
  rw [hn] at h2 h4
  obtain ⟨b, o, rfl, lb⟩ := hM.addr (by omega)
  have CR := hid (read_ok hM h1 hk)
  obtain ⟨t, ht⟩ : ∃ t, at2 m (p + 8) = t := ⟨_, rfl⟩
  have ht1 : t ≤ 65535 := by rw [← ht]; exact at2_le _ _
  have CT := hid fun w' (hb : Below w.heap.size w w') => two_rr ((hM.later hb).dropB (k := p + 8) (by omega)) (by omega) ((at2_drop m (p + 8) 0).trans ht)
  rw [ht] at h3
  subst h3
  clear hr hn ht hM h1 hk
  have w1 : IntKind.i64.wrap ((n : Int) - (p : Int)) = (n : Int) - (p : Int) := IntWalk.i64_in _ (by omega)
  have w2 : IntKind.i64.wrap ((p : Int) + 10) = (p : Int) + 10 := IntWalk.i64_in _ (by omega)
  have w3 : IntKind.i64.wrap ((p : Int) + 8) = (p : Int) + 8 := IntWalk.i64_in _ (by omega)
  have w4 : IntKind.i64.wrap ((p : Int) + 10 + (t : Int)) = (p : Int) + 10 + (t : Int) := IntWalk.i64_in _ (by omega)
  have q1 : ¬ ((n : Int) - (p : Int) < 10) := by omega
  have q1' : decide ((n : Int) - (p : Int) < 10) = false := decide_eq_false q1
  have q2 : (0 : Int) ≤ (p : Int) + 8 := by omega
  have q3 : (p : Int) + 8 ≤ (n : Int) := by omega
  have q4 : ¬ ((n : Int) < (p : Int) + 10 + (t : Int)) := by omega
  have q5 : decide ((n : Int) < (p : Int) + 10 + (t : Int)) = false := decide_eq_false q4
  have q6 : p + 8 ≤ n := by omega
  have q7 : ¬ c = p + 8 := by omega
  have tk0 : True := trivial; have tk1 : True := trivial; have tk2 : True := trivial; have tk3 : True := trivial; have tk4 : True := trivial; have tk5 : True := trivial; have tk6 : True := trivial; have tk7 : True := trivial; have tk8 : True := trivial; have tk9 : True := trivial; have tk10 : True := trivial; have tk11 : True := trivial; have tk12 : True := trivial
  go_enter Tryd.func40, Tryd.ntmps40
  go_wp2_with (first
    | (go_at_call 17; have _t := tk1; (with_reducible refine (CR.out).mono ?_); rintro e w1 ⟨Atk1, ctk1, rfl, hr, hb⟩; obtain ⟨otk1, dtk1, rfl⟩ := ext_of_below hb; (try simp only [ext_drew, ext_drewN] at hr); have R1 := hid hr; clear hr; clear hb tk1)
    | (go_at_call 41; have _t := tk2; (with_reducible refine (CT.out _ (by (repeat' (first | (with_reducible exact Below.refl _ _) | (with_reducible assumption) | (with_reducible refine below_ext0 ?_ _ _) | (with_reducible refine below_alloc0 ?_ _) | (with_reducible refine Below.ext ?_ ?_ _ _) | (with_reducible refine Below.alloc ?_ ?_ _) | (with_reducible refine Below.setCell ?_ ?_ _) | (with_reducible refine Below.drew ?_) | (with_reducible refine below_draws ?_ _) | go_size | (simp [size_ext]; done) | (simp [size_ext]; omega))))).mono ?_); rintro e w1 ⟨rfl, hb⟩; obtain ⟨otk2, dtk2, rfl⟩ := ext_of_below hb; clear hb tk2))
  ((try simp only [Exit.inBlock, Exit.then]); refine bodyPost_ret (results_tmp4 rfl _ _ _) rfl ?_)
  exact ⟨_, _, by simp, R1.out.later (by (repeat' (first | (with_reducible exact Below.refl _ _) | (with_reducible assumption) | (with_reducible refine below_ext0 ?_ _ _) | (with_reducible refine below_alloc0 ?_ _) | (with_reducible refine Below.ext ?_ ?_ _ _) | (with_reducible refine Below.alloc ?_ ?_ _) | (with_reducible refine Below.setCell ?_ ?_ _) | (with_reducible refine Below.drew ?_) | (with_reducible refine below_draws ?_ _) | go_size | (simp [size_ext]; done) | (simp [size_ext]; omega)))), (by (repeat' (first | (with_reducible exact Below.refl _ _) | (with_reducible assumption) | (with_reducible refine below_ext0 ?_ _ _) | (with_reducible refine below_alloc0 ?_ _) | (with_reducible refine Below.ext ?_ ?_ _ _) | (with_reducible refine Below.alloc ?_ ?_ _) | (with_reducible refine Below.setCell ?_ ?_ _) | (with_reducible refine Below.drew ?_) | (with_reducible refine below_draws ?_ _) | go_size | (simp [size_ext]; done) | (simp [size_ext]; omega))))⟩

/-- the ways that end in a fault -/
theorem fixed_bad {w : World} {A : Option Addr} {n c : Nat} {m : List UInt8} (hM : Rd u8R w w.heap.size A n c m) {at_ k : Int} (hr : (rrF m at_).1 = k) (hk : k ≠ 0) :
    Calls Tryd.prog 40 #[.slice A n c, .int .i64 at_] w fun e w' => e = .returned (.tuple #[.slice none 0 0, .int .i64 0, .int .i64 0, .iface 29 (.int .i64 k)]) ∧ Below w.heap.size w w' := by
  have hn := hM.len
  have hcap := hM.cap
  have hmax := hM.max
  have hlim := hM.lim
  simp only [u8R, Nat.mul_one] at hlim
  unfold maxLen at hmax
  by_cases h0 : (rdN m at_).1 = 0
  · have hrd : rdN m at_ = (0, (rdN m at_).2.1, (rdN m at_).2.2) := by rw [← h0]
    obtain ⟨a, p, rfl, hp, hnm, _⟩ := rdN_ok.1 hrd
    rw [hp] at hrd
    have hlt := hnm.lt
    rw [hn] at hlt
    unfold rrF at hr
    rw [if_pos h0, hp, Int.toNat_natCast, hn] at hr
    obtain ⟨b, o, rfl, lb⟩ := hM.addr (by omega)
    have CR := hid (read_ok hM hrd rfl)
    generalize (rdN m (a : Int)).2.1.length = nl at *
    have w1 : IntKind.i64.wrap ((n : Int) - (p : Int)) = (n : Int) - (p : Int) := IntWalk.i64_in _ (by omega)
    have w2 : IntKind.i64.wrap ((p : Int) + 10) = (p : Int) + 10 := IntWalk.i64_in _ (by omega)
    have w3 : IntKind.i64.wrap ((p : Int) + 8) = (p : Int) + 8 := IntWalk.i64_in _ (by omega)
    by_cases hs : p + 10 ≤ n
    · obtain ⟨t, ht⟩ : ∃ t, at2 m (p + 8) = t := ⟨_, rfl⟩
      have ht1 : t ≤ 65535 := by rw [← ht]; exact at2_le _ _
      have CT := hid fun w' (hb : Below w.heap.size w w') => two_rr ((hM.later hb).dropB (k := p + 8) (by omega)) (by omega) ((at2_drop m (p + 8) 0).trans ht)
      rw [ht] at hr
      have h1 : ¬ (p + 10 + t ≤ n) := fun h => by rw [if_pos ⟨hs, h⟩] at hr; exact hk hr.symm
      rw [if_neg (fun h => h1 h.2)] at hr
      obtain rfl : k = 2 := hr.symm
      clear hr h0 hrd hp hnm ht hM hk hn
      have w4 : IntKind.i64.wrap ((p : Int) + 10 + (t : Int)) = (p : Int) + 10 + (t : Int) := IntWalk.i64_in _ (by omega)
      have q1 : ¬ ((n : Int) - (p : Int) < 10) := by omega
      have q1' : decide ((n : Int) - (p : Int) < 10) = false := decide_eq_false q1
      have q2 : (0 : Int) ≤ (p : Int) + 8 := by omega
      have q3 : (p : Int) + 8 ≤ (n : Int) := by omega
      have q4 : (n : Int) < (p : Int) + 10 + (t : Int) := by omega
      have q5 : decide ((n : Int) < (p : Int) + 10 + (t : Int)) = true := decide_eq_true q4
      have q6 : p + 8 ≤ n := by omega
      have q7 : ¬ c = p + 8 := by omega
      have tk0 : True := trivial; have tk1 : True := trivial; have tk2 : True := trivial; have tk3 : True := trivial; have tk4 : True := trivial; have tk5 : True := trivial; have tk6 : True := trivial; have tk7 : True := trivial; have tk8 : True := trivial; have tk9 : True := trivial; have tk10 : True := trivial; have tk11 : True := trivial; have tk12 : True := trivial
      go_enter Tryd.func40, Tryd.ntmps40
      go_wp2_with (first
        | (go_at_call 17; have _t := tk1; (with_reducible refine (CR.out).mono ?_); rintro e w1 ⟨Atk1, ctk1, rfl, hr, hb⟩; obtain ⟨otk1, dtk1, rfl⟩ := ext_of_below hb; (try simp only [ext_drew, ext_drewN] at hr); have R1 := hid hr; clear hr; clear hb tk1)
        | (go_at_call 41; have _t := tk2; (with_reducible refine (CT.out _ (by (repeat' (first | (with_reducible exact Below.refl _ _) | (with_reducible assumption) | (with_reducible refine below_ext0 ?_ _ _) | (with_reducible refine below_alloc0 ?_ _) | (with_reducible refine Below.ext ?_ ?_ _ _) | (with_reducible refine Below.alloc ?_ ?_ _) | (with_reducible refine Below.setCell ?_ ?_ _) | (with_reducible refine Below.drew ?_) | (with_reducible refine below_draws ?_ _) | go_size | (simp [size_ext]; done) | (simp [size_ext]; omega))))).mono ?_); rintro e w1 ⟨rfl, hb⟩; obtain ⟨otk2, dtk2, rfl⟩ := ext_of_below hb; clear hb tk2))
      ((try simp only [Exit.inBlock, Exit.then]); refine bodyPost_ret (results_tmp4 rfl _ _ _) rfl ?_)
      exact ⟨by simp, (by (repeat' (first | (with_reducible exact Below.refl _ _) | (with_reducible assumption) | (with_reducible refine below_ext0 ?_ _ _) | (with_reducible refine below_alloc0 ?_ _) | (with_reducible refine Below.ext ?_ ?_ _ _) | (with_reducible refine Below.alloc ?_ ?_ _) | (with_reducible refine Below.setCell ?_ ?_ _) | (with_reducible refine Below.drew ?_) | (with_reducible refine below_draws ?_ _) | go_size | (simp [size_ext]; done) | (simp [size_ext]; omega))))⟩
    · rw [if_neg (fun h => hs h.1)] at hr
      obtain rfl : k = 2 := hr.symm
      clear hr h0 hrd hp hnm hM hk hn
      have q1 : ((n : Int) - (p : Int) < 10) := by omega
      have q1' : decide ((n : Int) - (p : Int) < 10) = true := decide_eq_true q1
      have tk0 : True := trivial; have tk1 : True := trivial; have tk2 : True := trivial; have tk3 : True := trivial; have tk4 : True := trivial; have tk5 : True := trivial; have tk6 : True := trivial; have tk7 : True := trivial; have tk8 : True := trivial; have tk9 : True := trivial; have tk10 : True := trivial; have tk11 : True := trivial; have tk12 : True := trivial
      go_enter Tryd.func40, Tryd.ntmps40
      go_wp2_with (go_at_call 17; have _t := tk1; (with_reducible refine (CR.out).mono ?_); rintro e w1 ⟨Atk1, ctk1, rfl, hr, hb⟩; obtain ⟨otk1, dtk1, rfl⟩ := ext_of_below hb; (try simp only [ext_drew, ext_drewN] at hr); have R1 := hid hr; clear hr; clear hb tk1)
      ((try simp only [Exit.inBlock, Exit.then]); refine bodyPost_ret (results_tmp4 rfl _ _ _) rfl ?_)
      exact ⟨by simp, (by (repeat' (first | (with_reducible exact Below.refl _ _) | (with_reducible assumption) | (with_reducible refine below_ext0 ?_ _ _) | (with_reducible refine below_alloc0 ?_ _) | (with_reducible refine Below.ext ?_ ?_ _ _) | (with_reducible refine Below.alloc ?_ ?_ _) | (with_reducible refine Below.setCell ?_ ?_ _) | (with_reducible refine Below.drew ?_) | (with_reducible refine below_draws ?_ _) | go_size | (simp [size_ext]; done) | (simp [size_ext]; omega))))⟩
  · unfold rrF at hr
    rw [if_neg h0] at hr
    have CR := hid (read_bad hM hr hk)
    clear hM h0 hr
    have tk0 : True := trivial; have tk1 : True := trivial; have tk2 : True := trivial; have tk3 : True := trivial; have tk4 : True := trivial; have tk5 : True := trivial; have tk6 : True := trivial; have tk7 : True := trivial; have tk8 : True := trivial; have tk9 : True := trivial; have tk10 : True := trivial; have tk11 : True := trivial; have tk12 : True := trivial
    go_enter Tryd.func40, Tryd.ntmps40
    go_wp2_with (go_at_call 17; have _t := tk1; (with_reducible refine (CR.out).mono ?_); rintro e w1 ⟨rfl, hb⟩; obtain ⟨otk1, dtk1, rfl⟩ := ext_of_below hb; clear hb tk1)
    ((try simp only [Exit.inBlock, Exit.then]); refine bodyPost_ret (results_tmp4 rfl _ _ _) rfl ?_)
    exact ⟨by simp, (by (repeat' (first | (with_reducible exact Below.refl _ _) | (with_reducible assumption) | (with_reducible refine below_ext0 ?_ _ _) | (with_reducible refine below_alloc0 ?_ _) | (with_reducible refine Below.ext ?_ ?_ _ _) | (with_reducible refine Below.alloc ?_ ?_ _) | (with_reducible refine Below.setCell ?_ ?_ _) | (with_reducible refine Below.drew ?_) | (with_reducible refine below_draws ?_ _) | go_size | (simp [size_ext]; done) | (simp [size_ext]; omega))))⟩
theorem clone_rd {w : World} {A : Option Addr} {n c B : Nat} {m : List UInt8} (hM : Rd u8R w B A n c m) (hn : n ≤ 140737488355328) :
    Calls Tryd.prog 42 #[.slice A n c] w fun e w' => ∃ A' c', e = .returned (.slice A' n c') ∧ Rd u8R w' w'.heap.size A' n c' m ∧ Below w.heap.size w w' := by
  refine (clone_bytes w A n c m _ hM).mono ?_
  rintro e w' ⟨v, rfl, ho, hb⟩
  have hl := hM.len
  subst hl
  obtain ⟨A', c', rfl, hr⟩ := own_rd_u8 ho hb.size hn
  exact ⟨A', c', rfl, hr, hb⟩
end Go.Proofs.YthccknobnpbdeaaDoor
/- rr: Write. -/
namespace Go.Proofs.YthccknobnpbdeaaDoor
open Go.RowKit
set_option linter.unusedVariables false
set_option linter.unusedSimpArgs false

/-- what Write hands back: two rows of the call's own -/
structure RrO (w w' : World) (m : List UInt8) (ss : List Int) (r : RecT) (v v' : Value) : Prop where
  out : w'.ownsRow w.heap.size 5 1 v (recB m ss r).length (bytesV (recB m ss r))
  all : w'.ownsRow w.heap.size 3 1 v' (ss ++ packN m ss r.1 m.length).length (intsV (ss ++ packN m ss r.1 m.length))
  ints : ∀ s ∈ ss ++ packN m ss r.1 m.length, I64 s
  lenX : (recB m ss r).length ≤ m.length + 65535 + 265
  lenY : (ss ++ packN m ss r.1 m.length).length ≤ ss.length + 255
theorem rr_cells (P d : List UInt8) (T C L : Int) (n : Nat) (hn : d.length = n) (hT : 0 ≤ T ∧ T ≤ 65535) (hC : 0 ≤ C ∧ C ≤ 65535) (hL : 0 ≤ L ∧ L ≤ 4294967295) (hd : n ≤ 65535) :
    bytesV P ++ [Value.int .u8 (T / 256), .int .u8 (T % 256), .int .u8 (C / 256), .int .u8 (C % 256)] ++ [Value.int .u8 (L / 16777216), .int .u8 (L / 65536 % 256), .int .u8 (L / 256 % 256), .int .u8 (L % 256), .int .u8 ((n : Int) / 256), .int .u8 ((n : Int) % 256)] ++ (d.map fun b => Value.int .u8 (b.toNat : Int)) = bytesV (P ++ recTail T C L d) := by
  subst hn
  have c : ∀ x : Int, 0 ≤ x → x ≤ 255 → ((UInt8.ofNat x.toNat).toNat : Int) = x := fun x h0 h1 => by rw [UInt8.toNat_ofNat']; omega
  simp only [recTail, two2, bytesV, List.map_append, List.map_cons, List.map_nil]
  rw [c (T / 256 % 256) (by omega) (by omega), c (T % 256) (by omega) (by omega), c (C / 256 % 256) (by omega) (by omega), c (C % 256) (by omega) (by omega), c (L / 65536 / 256 % 256) (by omega) (by omega), c (L / 65536 % 256) (by omega) (by omega), c (L % 65536 / 256 % 256) (by omega) (by omega), c (L % 65536 % 256) (by omega) (by omega), c ((d.length : Int) / 256 % 256) (by omega) (by omega), c ((d.length : Int) % 256) (by omega) (by omega)]
  rw [show T / 256 % 256 = T / 256 by omega, show C / 256 % 256 = C / 256 by omega, show L / 65536 / 256 % 256 = L / 16777216 by omega, show L % 65536 / 256 % 256 = L / 256 % 256 by omega, show L % 65536 % 256 = L % 256 by omega, show (d.length : Int) / 256 % 256 = (d.length : Int) / 256 by omega]
  simp

set_option maxRecDepth 100000 in
set_option maxHeartbeats 4000000 in
theorem rwrite_ok {w : World} {A : Option Addr} {n c : Nat} {m : List UInt8} (hM : Rd u8R w w.heap.size A n c m) {A1 : Option Addr} {n1 c1 : Nat} {ss : List Int} (hS : Rd intR w w.heap.size A1 n1 c1 ss) {A3 : Option Addr} {n3 c3 : Nat} {l : List ByteArray} (hL : Rd strR w w.heap.size A3 n3 c3 l) {T C L : Int} {A4 : Option Addr} {n4 c4 : Nat} {d : List UInt8} (hD : Rd u8R w w.heap.size A4 n4 c4 d)
    (hlim : n + 65536 + 512 ≤ 140737488355328) (hlim1 : n1 * 8 + 4096 ≤ 140737488355328) (hf : recErr (l, T, C, L, d, ()) = 0) :
    Calls Tryd.prog 49 #[.slice A n c, .slice A1 n1 c1, .agg #[.slice A3 n3 c3, .int .i64 T, .int .i64 C, .int .i64 L, .slice A4 n4 c4]] w fun e w' => ∃ v v', e = .returned (.tuple #[v, v', .nilIface]) ∧ RrO w w' m ss (l, T, C, L, d, ()) v v' ∧ Below w.heap.size w w' := by
  obtain ⟨h0, ⟨t1, t2⟩, ⟨u1, u2⟩, ⟨x1, x2⟩, h4⟩ := recErr_zero hf
  simp only at h0 t1 t2 u1 u2 x1 x2 h4
  have hmn := hM.len
  have hdn := hD.len
  have hsn := hS.len
  have hn := hM.cap
  have hok := nameErr_zero.1 h0
  have hls : lsum l ≤ 254 := by have := hok.2; rw [nsize_lsum] at this; omega
  have hp := packT_len m ss l hok.1
  have hXl : (m ++ packT m ss l).length ≤ n + 255 := by rw [List.length_append]; omega
  have hXe : recB m ss (l, T, C, L, d, ()) = m ++ packT m ss l ++ recTail T C L d := rfl
  have CP : ∀ w', Below w.heap.size w w' → Calls Tryd.prog 48 #[.slice A n c, .slice A1 n1 c1, .slice A3 n3 c3] w' fun e w2 => ∃ v v', e = .returned (.tuple #[v, v', .nilIface]) ∧ OwnP w' w2 m ss l v v' ∧ Below w'.heap.size w' w2 := fun w' hb => by
    refine (pack_own w' A n c m (hM.later hb) A1 n1 c1 ss (hS.later hb) A3 n3 c3 l (hL.later hb) (by omega) (by omega)).mono ?_
    rintro e w2 ⟨hb2, he⟩
    rw [if_pos h0] at he
    obtain ⟨v, v', he, ho⟩ := he
    exact ⟨v, v', he, ho, hb2⟩
  replace CP := hid CP
  have SD := hid fun w' (hb : Below w.heap.size w w') => (hD.later hb).src_u8
  have d4 : n4 ≤ 65535 := by omega
  have HX := hid hXe
  have hl1 : (recB m ss (l, T, C, L, d, ())).length ≤ m.length + 65535 + 265 := by rw [hXe, List.length_append, recTail_len, hmn]; omega
  have hl2 : (ss ++ packN m ss l m.length).length ≤ ss.length + 255 := by
    have h1 := packN_len m ss l m.length
    have h2 := lsum_len l
    rw [List.length_append]; omega
  have HLB := hid (And.intro hl1 hl2)
  clear hl1 hl2
  have HDN := hid hdn
  obtain ⟨N, hN⟩ : ∃ N, (m ++ packT m ss l).length = N := ⟨_, rfl⟩
  have HN := hid hN
  have hNb : N ≤ n + 255 := by omega
  clear hM hS hL hD hf hok hp hXl hXe hN hls hmn hdn hsn
  have r0 : ¬ T < 0 := by omega
  have r1 : ¬ 65535 < T := by omega
  have r2 : ¬ C < 0 := by omega
  have r3 : ¬ 65535 < C := by omega
  have r4 : ¬ L < 0 := by omega
  have r5 : ¬ 0 < L / 4294967296 := by omega
  have r6 : ¬ (65535 : Int) < (n4 : Int) := by omega
  have e0 : decide (T < 0) = false := decide_eq_false r0
  have e1 : decide (65535 < T) = false := decide_eq_false r1
  have e2 : decide (C < 0) = false := decide_eq_false r2
  have e3 : decide (65535 < C) = false := decide_eq_false r3
  have e4 : decide (L < 0) = false := decide_eq_false r4
  have e5 : decide (0 < L / 4294967296) = false := decide_eq_false r5
  have e6 : decide ((65535 : Int) < (n4 : Int)) = false := decide_eq_false r6
  have ab1 : (N + 4) * 1 ≤ 140737488355328 := by omega
  have ab2 : N + 4 ≤ maxLen := by unfold maxLen; omega
  have ab3 : (N + 4 + 6) * 1 ≤ 140737488355328 := by omega
  have ab4 : N + 4 + 6 ≤ maxLen := by unfold maxLen; omega
  have ab5 : (N + 4 + 6 + n4) * 1 ≤ 140737488355328 := by omega
  have ab6 : N + 4 + 6 + n4 ≤ maxLen := by unfold maxLen; omega
  have tk0 : True := trivial; have tk1 : True := trivial; have tk2 : True := trivial; have tk3 : True := trivial; have tk4 : True := trivial; have tk5 : True := trivial; have tk6 : True := trivial; have tk7 : True := trivial; have tk8 : True := trivial; have tk9 : True := trivial; have tk10 : True := trivial; have tk11 : True := trivial; have tk12 : True := trivial
  go_enter Tryd.func49, Tryd.ntmps49
  go_wp2_with (first
    | (go_at_call 48; have _t := tk1; (with_reducible refine (CP.out _ (by (repeat' (first | (with_reducible exact Below.refl _ _) | (with_reducible assumption) | (with_reducible refine below_ext0 ?_ _ _) | (with_reducible refine below_alloc0 ?_ _) | (with_reducible refine Below.ext ?_ ?_ _ _) | (with_reducible refine Below.alloc ?_ ?_ _) | (with_reducible refine Below.setCell ?_ ?_ _) | (with_reducible refine Below.drew ?_) | (with_reducible refine below_draws ?_ _) | go_size | (simp [size_ext]; done) | (simp [size_ext]; omega))))).mono ?_); rintro e w1 ⟨v1, v1', rfl, ho1, hb1⟩; have ho1' := own_less (base' := w.heap.size + 1) ho1.out (by simp); rw [HN.out] at ho1'; have HO1 := hid ho1'; have HP1 := hid ho1; have HB1 := hid hb1; have z1 := hb1.size; simp only [World.size_alloc] at z1; have k1 := (Blk.new w 53 #[.slice A3 n3 c3, .int .i64 T, .int .i64 C, .int .i64 L, .slice A4 n4 c4]).below hb1 (by simp); have c10 := k1.cell 0; have c11 := k1.cell 1; have c12 := k1.cell 2; have c13 := k1.cell 3; have c14 := k1.cell 4; have KB1 := hid k1; clear ho1 ho1' hb1 k1 tk1)
    | (at_builtin; have _t := tk2; refine wpList_appT rfl _ _ 22 rfl (w.heap.size + 1) 5 1 1 el_u8 v1 N _ rfl (HO1.out.alloc _) _ 4 4 _ rfl (src_lit _ rfl (by simp [Value.oneCell']) rfl) ab1 ab2 (by simp; omega) ?_; intro v2 w2 ho2 ha2; have hb2 := ha2.below (HO1.out.alloc _) (by simp; omega); have k2 := (KB1.out.alloc _).below hb2 (by omega); have c20 := k2.cell 0; have c21 := k2.cell 1; have c22 := k2.cell 2; have c23 := k2.cell 3; have c24 := k2.cell 4; have z2 := hb2.size; simp only [World.size_alloc] at z2; have HO2 := hid ho2; have HA2 := hid ha2; have HB2 := hid hb2; have KB2 := hid k2; clear ho2 ha2 hb2 k2 tk2)
    | (at_builtin; have _t := tk3; refine wpList_appT rfl _ _ 22 rfl (w.heap.size + 1) 5 1 1 el_u8 v2 (N + 4) _ rfl (HO2.out.alloc _) _ 6 6 _ rfl (src_lit _ rfl (by simp [Value.oneCell']) rfl) ab3 ab4 (by simp; omega) ?_; intro v3 w3 ho3 ha3; have hb3 := ha3.below (HO2.out.alloc _) (by simp; omega); have k3 := (KB2.out.alloc _).below hb3 (by omega); have c30 := k3.cell 0; have c31 := k3.cell 1; have c32 := k3.cell 2; have c33 := k3.cell 3; have c34 := k3.cell 4; have z3 := hb3.size; simp only [World.size_alloc] at z3; have HW3 := hid (Below.trans ((Below.trans ((Below.trans ((Below.refl w.heap.size w).alloc (Nat.le_refl _) _) (HB1.out.mono (by simp))).alloc (by omega) _) (HB2.out.mono (by omega))).alloc (by omega) _) (hb3.mono (by omega))); have HO3 := hid ho3; have HA3 := hid ha3; have HB3 := hid hb3; clear ho3 ha3 hb3 k3 tk3)
    | (at_builtin; have _t := tk4; refine wpList_appT rfl _ _ 22 rfl (w.heap.size + 1) 5 1 1 el_u8 v3 (N + 4 + 6) _ rfl HO3.out _ n4 c4 _ rfl (SD.out _ HW3.out) ab5 ab6 (by omega) ?_; intro v5 w5 ho5 ha5; have HO5 := hid ho5; have HA5 := hid ha5; clear ho5 ha5 tk4))
  go_ret3
  have hlen : (recB m ss (l, T, C, L, d, ())).length = N + 4 + 6 + n4 := by rw [HX.out, List.length_append, recTail_len, HN.out, HDN.out]; omega
  refine ⟨v5, v1', rfl, ⟨?_, ?_, HP1.out.ints, HLB.out.1, HLB.out.2⟩, ?_⟩
  · rw [hlen, HX.out, ← rr_cells _ _ _ _ _ n4 HDN.out ⟨t1, t2⟩ ⟨u1, u2⟩ ⟨x1, x2⟩ d4]
    exact own_less HO5.out (by omega)
  · obtain ⟨hall, _⟩ := ((HA2.out.alloc.trans HA3.out.alloc).trans HA5.out).other HP1.out.all HP1.out.apart.symm
    exact own_less hall (by simp)
  · exact HW3.out.trans ((HA5.out.below HO3.out (by omega)).mono (by omega))
/-- what is not as it may be -/
theorem rwrite_bad {w : World} {A : Option Addr} {n c : Nat} {m : List UInt8} (hM : Rd u8R w w.heap.size A n c m) {A1 : Option Addr} {n1 c1 : Nat} {ss : List Int} (hS : Rd intR w w.heap.size A1 n1 c1 ss) {A3 : Option Addr} {n3 c3 : Nat} {l : List ByteArray} (hL : Rd strR w w.heap.size A3 n3 c3 l) {T C L : Int} {A4 : Option Addr} {n4 c4 : Nat} {d : List UInt8} (hD : Rd u8R w w.heap.size A4 n4 c4 d) (hT : I64 T) (hC : I64 C) (hTL : I64 L)
    (hlim : n + 65536 + 512 ≤ 140737488355328) (hlim1 : n1 * 8 + 4096 ≤ 140737488355328) {k : Int} (hf : recErr (l, T, C, L, d, ()) = k) (hk : k ≠ 0) :
    Calls Tryd.prog 49 #[.slice A n c, .slice A1 n1 c1, .agg #[.slice A3 n3 c3, .int .i64 T, .int .i64 C, .int .i64 L, .slice A4 n4 c4]] w fun e w' => e = .returned (.tuple #[.slice none 0 0, .slice none 0 0, .iface 29 (.int .i64 k)]) ∧ Below w.heap.size w w' := by
  by_cases h0 : nameErr l = 0
  · have CP : ∀ w', Below w.heap.size w w' → Calls Tryd.prog 48 #[.slice A n c, .slice A1 n1 c1, .slice A3 n3 c3] w' fun e w2 => ∃ v v', e = .returned (.tuple #[v, v', .nilIface]) ∧ Below w'.heap.size w' w2 := fun w' hb => by
      refine (pack_own w' A n c m (hM.later hb) A1 n1 c1 ss (hS.later hb) A3 n3 c3 l (hL.later hb) (by omega) (by omega)).mono ?_
      rintro e w2 ⟨hb2, he⟩
      rw [if_pos h0] at he
      obtain ⟨v, v', he, ho⟩ := he
      exact ⟨v, v', he, hb2⟩
    replace CP := hid CP
    have hdn := hD.len
    have hdm := hD.lim
    simp only [u8R, Nat.mul_one] at hdm
    obtain ⟨a1, a2⟩ := hT
    obtain ⟨b1, b2⟩ := hC
    obtain ⟨g1, g2⟩ := hTL
    unfold recErr at hf
    rw [if_pos h0] at hf
    simp only at hf
    rw [hdn] at hf
    clear hM hS hL hD
    have ways : (k = 6 ∧ ((T < 0) ∨ (0 ≤ T ∧ 65535 < T) ∨ (0 ≤ T ∧ T ≤ 65535 ∧ C < 0) ∨ (0 ≤ T ∧ T ≤ 65535 ∧ 0 ≤ C ∧ 65535 < C) ∨ (0 ≤ T ∧ T ≤ 65535 ∧ 0 ≤ C ∧ C ≤ 65535 ∧ L < 0) ∨ (0 ≤ T ∧ T ≤ 65535 ∧ 0 ≤ C ∧ C ≤ 65535 ∧ 0 ≤ L ∧ 4294967295 < L))) ∨ (k = 7 ∧ 0 ≤ T ∧ T ≤ 65535 ∧ 0 ≤ C ∧ C ≤ 65535 ∧ 0 ≤ L ∧ L ≤ 4294967295 ∧ 65535 < n4) := by
      split at hf
      · rename_i h
        split at hf
        · exact absurd hf.symm hk
        · exact .inr ⟨hf.symm, h.1, h.2.1, h.2.2.1, h.2.2.2.1, h.2.2.2.2.1, h.2.2.2.2.2, by omega⟩
      · rename_i h
        exact .inl ⟨hf.symm, by omega⟩
    clear hf hk hlim hlim1
    rcases ways with ⟨rfl, h⟩ | ⟨rfl, q1, q2, q3, q4, q5, q6, q7⟩
    · rcases h with q1 | ⟨q1, q2⟩ | ⟨q1, q2, q3⟩ | ⟨q1, q2, q3, q4⟩ | ⟨q1, q2, q3, q4, q5⟩ | ⟨q1, q2, q3, q4, q5, q6⟩
      all_goals
        try (have p0 : ¬ (T < 0) := by omega)
        try (have p0 : T < 0 := by omega)
        try (have e0 : decide (T < 0) = false := decide_eq_false (by omega))
        try (have e0 : decide (T < 0) = true := decide_eq_true (by omega))
        try (have p1 : ¬ (65535 < T) := by omega)
        try (have p1 : 65535 < T := by omega)
        try (have e1 : decide (65535 < T) = false := decide_eq_false (by omega))
        try (have e1 : decide (65535 < T) = true := decide_eq_true (by omega))
        try (have p2 : ¬ (C < 0) := by omega)
        try (have p2 : C < 0 := by omega)
        try (have e2 : decide (C < 0) = false := decide_eq_false (by omega))
        try (have e2 : decide (C < 0) = true := decide_eq_true (by omega))
        try (have p3 : ¬ (65535 < C) := by omega)
        try (have p3 : 65535 < C := by omega)
        try (have e3 : decide (65535 < C) = false := decide_eq_false (by omega))
        try (have e3 : decide (65535 < C) = true := decide_eq_true (by omega))
        try (have p4 : ¬ (L < 0) := by omega)
        try (have p4 : L < 0 := by omega)
        try (have e4 : decide (L < 0) = false := decide_eq_false (by omega))
        try (have e4 : decide (L < 0) = true := decide_eq_true (by omega))
        try (have p5 : ¬ (0 < L / 4294967296) := by omega)
        try (have p5 : 0 < L / 4294967296 := by omega)
        try (have e5 : decide (0 < L / 4294967296) = false := decide_eq_false (by omega))
        try (have e5 : decide (0 < L / 4294967296) = true := decide_eq_true (by omega))
        try (have p6 : ¬ ((65535 : Int) < (n4 : Int)) := by omega)
        try (have p6 : (65535 : Int) < (n4 : Int) := by omega)
        try (have e6 : decide ((65535 : Int) < (n4 : Int)) = false := decide_eq_false (by omega))
        try (have e6 : decide ((65535 : Int) < (n4 : Int)) = true := decide_eq_true (by omega))
        have tk0 : True := trivial; have tk1 : True := trivial; have tk2 : True := trivial; have tk3 : True := trivial; have tk4 : True := trivial; have tk5 : True := trivial; have tk6 : True := trivial; have tk7 : True := trivial; have tk8 : True := trivial; have tk9 : True := trivial; have tk10 : True := trivial; have tk11 : True := trivial; have tk12 : True := trivial
        go_enter Tryd.func49, Tryd.ntmps49
        go_wp2_with (go_at_call 48; (with_reducible refine (CP.out _ (by (repeat' (first | (with_reducible exact Below.refl _ _) | (with_reducible assumption) | (with_reducible refine below_ext0 ?_ _ _) | (with_reducible refine below_alloc0 ?_ _) | (with_reducible refine Below.ext ?_ ?_ _ _) | (with_reducible refine Below.alloc ?_ ?_ _) | (with_reducible refine Below.setCell ?_ ?_ _) | (with_reducible refine Below.drew ?_) | (with_reducible refine below_draws ?_ _) | go_size | (simp [size_ext]; done) | (simp [size_ext]; omega))))).mono ?_); rintro e w1 ⟨v1, v1', rfl, hb1⟩; obtain ⟨o1, d1, rfl⟩ := ext_of_below hb1; clear hb1)
        go_ret3
        exact ⟨rfl, (by (repeat' (first | (with_reducible exact Below.refl _ _) | (with_reducible assumption) | (with_reducible refine below_ext0 ?_ _ _) | (with_reducible refine below_alloc0 ?_ _) | (with_reducible refine Below.ext ?_ ?_ _ _) | (with_reducible refine Below.alloc ?_ ?_ _) | (with_reducible refine Below.setCell ?_ ?_ _) | (with_reducible refine Below.drew ?_) | (with_reducible refine below_draws ?_ _) | go_size | (simp [size_ext]; done) | (simp [size_ext]; omega))))⟩
    · skip
      try (have p0 : ¬ (T < 0) := by omega)
      try (have p0 : T < 0 := by omega)
      try (have e0 : decide (T < 0) = false := decide_eq_false (by omega))
      try (have e0 : decide (T < 0) = true := decide_eq_true (by omega))
      try (have p1 : ¬ (65535 < T) := by omega)
      try (have p1 : 65535 < T := by omega)
      try (have e1 : decide (65535 < T) = false := decide_eq_false (by omega))
      try (have e1 : decide (65535 < T) = true := decide_eq_true (by omega))
      try (have p2 : ¬ (C < 0) := by omega)
      try (have p2 : C < 0 := by omega)
      try (have e2 : decide (C < 0) = false := decide_eq_false (by omega))
      try (have e2 : decide (C < 0) = true := decide_eq_true (by omega))
      try (have p3 : ¬ (65535 < C) := by omega)
      try (have p3 : 65535 < C := by omega)
      try (have e3 : decide (65535 < C) = false := decide_eq_false (by omega))
      try (have e3 : decide (65535 < C) = true := decide_eq_true (by omega))
      try (have p4 : ¬ (L < 0) := by omega)
      try (have p4 : L < 0 := by omega)
      try (have e4 : decide (L < 0) = false := decide_eq_false (by omega))
      try (have e4 : decide (L < 0) = true := decide_eq_true (by omega))
      try (have p5 : ¬ (0 < L / 4294967296) := by omega)
      try (have p5 : 0 < L / 4294967296 := by omega)
      try (have e5 : decide (0 < L / 4294967296) = false := decide_eq_false (by omega))
      try (have e5 : decide (0 < L / 4294967296) = true := decide_eq_true (by omega))
      try (have p6 : ¬ ((65535 : Int) < (n4 : Int)) := by omega)
      try (have p6 : (65535 : Int) < (n4 : Int) := by omega)
      try (have e6 : decide ((65535 : Int) < (n4 : Int)) = false := decide_eq_false (by omega))
      try (have e6 : decide ((65535 : Int) < (n4 : Int)) = true := decide_eq_true (by omega))
      have tk0 : True := trivial; have tk1 : True := trivial; have tk2 : True := trivial; have tk3 : True := trivial; have tk4 : True := trivial; have tk5 : True := trivial; have tk6 : True := trivial; have tk7 : True := trivial; have tk8 : True := trivial; have tk9 : True := trivial; have tk10 : True := trivial; have tk11 : True := trivial; have tk12 : True := trivial
      go_enter Tryd.func49, Tryd.ntmps49
      go_wp2_with (go_at_call 48; (with_reducible refine (CP.out _ (by (repeat' (first | (with_reducible exact Below.refl _ _) | (with_reducible assumption) | (with_reducible refine below_ext0 ?_ _ _) | (with_reducible refine below_alloc0 ?_ _) | (with_reducible refine Below.ext ?_ ?_ _ _) | (with_reducible refine Below.alloc ?_ ?_ _) | (with_reducible refine Below.setCell ?_ ?_ _) | (with_reducible refine Below.drew ?_) | (with_reducible refine below_draws ?_ _) | go_size | (simp [size_ext]; done) | (simp [size_ext]; omega))))).mono ?_); rintro e w1 ⟨v1, v1', rfl, hb1⟩; obtain ⟨o1, d1, rfl⟩ := ext_of_below hb1; clear hb1)
      go_ret3
      exact ⟨rfl, (by (repeat' (first | (with_reducible exact Below.refl _ _) | (with_reducible assumption) | (with_reducible refine below_ext0 ?_ _ _) | (with_reducible refine below_alloc0 ?_ _) | (with_reducible refine Below.ext ?_ ?_ _ _) | (with_reducible refine Below.alloc ?_ ?_ _) | (with_reducible refine Below.setCell ?_ ?_ _) | (with_reducible refine Below.drew ?_) | (with_reducible refine below_draws ?_ _) | go_size | (simp [size_ext]; done) | (simp [size_ext]; omega))))⟩
  · have CP : ∀ w', Below w.heap.size w w' → Calls Tryd.prog 48 #[.slice A n c, .slice A1 n1 c1, .slice A3 n3 c3] w' fun e w2 => e = .returned (.tuple #[.slice none 0 0, .slice none 0 0, .iface 29 (.int .i64 k)]) ∧ Below w'.heap.size w' w2 := fun w' hb => by
      unfold recErr at hf
      rw [if_neg h0] at hf
      exact pack_bad (hM.later hb) (hS.later hb) (hL.later hb) (by omega) (by omega) hf hk
    replace CP := hid CP
    clear hM hS hL hD h0 hf hlim hlim1
    have tk0 : True := trivial; have tk1 : True := trivial; have tk2 : True := trivial; have tk3 : True := trivial; have tk4 : True := trivial; have tk5 : True := trivial; have tk6 : True := trivial; have tk7 : True := trivial; have tk8 : True := trivial; have tk9 : True := trivial; have tk10 : True := trivial; have tk11 : True := trivial; have tk12 : True := trivial
    go_enter Tryd.func49, Tryd.ntmps49
    go_wp2_with (go_at_call 48; have _t := tk1; (with_reducible refine (CP.out _ (by (repeat' (first | (with_reducible exact Below.refl _ _) | (with_reducible assumption) | (with_reducible refine below_ext0 ?_ _ _) | (with_reducible refine below_alloc0 ?_ _) | (with_reducible refine Below.ext ?_ ?_ _ _) | (with_reducible refine Below.alloc ?_ ?_ _) | (with_reducible refine Below.setCell ?_ ?_ _) | (with_reducible refine Below.drew ?_) | (with_reducible refine below_draws ?_ _) | go_size | (simp [size_ext]; done) | (simp [size_ext]; omega))))).mono ?_); rintro e w1 ⟨rfl, hb⟩; obtain ⟨otk1, dtk1, rfl⟩ := ext_of_below hb; clear hb tk1)
    go_ret3
    exact ⟨rfl, (by (repeat' (first | (with_reducible exact Below.refl _ _) | (with_reducible assumption) | (with_reducible refine below_ext0 ?_ _ _) | (with_reducible refine below_alloc0 ?_ _) | (with_reducible refine Below.ext ?_ ?_ _ _) | (with_reducible refine Below.alloc ?_ ?_ _) | (with_reducible refine Below.setCell ?_ ?_ _) | (with_reducible refine Below.drew ?_) | (with_reducible refine below_draws ?_ _) | go_size | (simp [size_ext]; done) | (simp [size_ext]; omega))))⟩
end Go.Proofs.YthccknobnpbdeaaDoor
/- msg: the writer's question and record. -/
namespace Go.Proofs.YthccknobnpbdeaaDoor
open Go.RowKit
set_option linter.unusedVariables false
set_option linter.unusedSimpArgs false

/-- the writer's cells -/
@[reducible] def wrC (A : Option Addr) (n c : Nat) (A1 : Option Addr) (n1 c1 : Nat) : Array Value := #[.slice A n c, .slice A1 n1 c1]
/-- what the writer holds behind a step -/
structure WrO (w w' : World) (g : Nat) (b : List UInt8) (ss : List Int) : Prop where
  ex : ∃ A n c A1 n1 c1, Blk w' g 85 (wrC A n c A1 n1 c1) ∧ Rd u8R w' w'.heap.size A n c b ∧ Rd intR w' w'.heap.size A1 n1 c1 ss ∧ w'.ownsRow w.heap.size 5 1 (.slice A n c) n (bytesV b)
  grown : w.grownBy w' (some g)
theorem below_grown {w w' : World} (h : Below w.heap.size w w') (r : Option Nat) : w.grownBy w' r := ⟨h.os, h.tape, h.output, h.size, fun k hk _ => h.block k hk⟩
theorem q_cells (P : List UInt8) (T C : Int) (hT : 0 ≤ T ∧ T ≤ 65535) (hC : 0 ≤ C ∧ C ≤ 65535) :
    bytesV P ++ [Value.int .u8 (T / 256), .int .u8 (T % 256), .int .u8 (C / 256), .int .u8 (C % 256)] = bytesV (P ++ (two2 T ++ two2 C)) := by
  have c : ∀ x : Int, 0 ≤ x → x ≤ 255 → ((UInt8.ofNat x.toNat).toNat : Int) = x := fun x h0 h1 => by rw [UInt8.toNat_ofNat']; omega
  simp only [two2, bytesV, List.map_append, List.map_cons, List.map_nil]
  rw [c (T / 256 % 256) (by omega) (by omega), c (T % 256) (by omega) (by omega), c (C / 256 % 256) (by omega) (by omega), c (C % 256) (by omega) (by omega)]
  rw [show T / 256 % 256 = T / 256 by omega, show C / 256 % 256 = C / 256 by omega]
  simp

theorem wr_end {w w2 : World} {g : Nat} {A A' A2 B2 : Option Addr} {n c n1 c1 n2 c2 n' c' : Nat} {X : List UInt8} {Y : List Int} (hk : Blk w2 g 85 (wrC A n c A2 n1 c1)) (hX : Rd u8R w2 w2.heap.size B2 n2 c2 X) (hY : Rd intR w2 w2.heap.size A' n' c' Y) (hb : Below w.heap.size w w2) (hg : g < w.heap.size) (hO : w2.ownsRow w.heap.size 5 1 (.slice B2 n2 c2) n2 (bytesV X)) :
    WrO w ((w2.setCell ⟨g, 0, none⟩ (.slice B2 n2 c2)).setCell ⟨g, 1, none⟩ (.slice A' n' c')) g X Y := by
  have hne : (Value.slice B2 n2 c2).ownBlock ≠ some g := fun e => by have := (hO.lt g e).1; omega
  refine ⟨⟨B2, n2, c2, A', n', c', ?_, ?_, ?_, (hO.kept (grown_set 0 _) (.inr hne)).kept (grown_set 1 _) (.inr hne)⟩, ((below_grown hb _).trans (grown_set _ _)).trans (grown_set _ _)⟩
  · have := (hk.set 0 (.slice B2 n2 c2)).set 1 (.slice A' n' c')
    simpa [wrC] using this
  · exact hX.near_u8 (((NearP.of_sim (SimP.refl _ _)).set (FreeB.of_blk hk (by simp [IsU8])) _).set (FreeB.of_blk hk (by simp [IsU8])) _)
  · exact hY.near_int (((NearP.of_sim (SimP.refl _ _)).set (FreeB.of_blk hk (by simp [IsI64])) _).set (FreeB.of_blk hk (by simp [IsI64])) _)

set_option maxRecDepth 100000 in
set_option maxHeartbeats 4000000 in
theorem wquestion_ok {w : World} {g : Nat} {A : Option Addr} {n c : Nat} {A1 : Option Addr} {n1 c1 : Nat} (hB : Blk w g 85 (wrC A n c A1 n1 c1)) {b : List UInt8} (hM : Rd u8R w w.heap.size A n c b) {ss : List Int} (hS : Rd intR w w.heap.size A1 n1 c1 ss) {A3 : Option Addr} {n3 c3 : Nat} {l : List ByteArray} (hL : Rd strR w w.heap.size A3 n3 c3 l) {T C : Int}
    (hlim : n + 65536 + 512 ≤ 140737488355328) (hlim1 : n1 * 8 + 4096 ≤ 140737488355328) (hf : qErr (l, T, C, ()) = 0) :
    Calls Tryd.prog 33 #[.pointer (some ⟨g, 0, none⟩), .agg #[.slice A3 n3 c3, .int .i64 T, .int .i64 C]] w fun e w' => e = .returned .nilIface ∧ WrO w w' g (qB b ss (l, T, C, ())) (stS b ss l) := by
  obtain ⟨h0, ⟨t1, t2⟩, ⟨u1, u2⟩⟩ := qErr_zero hf
  simp only at h0 t1 t2 u1 u2
  have hmn := hM.len
  have hsn := hS.len
  have hok := nameErr_zero.1 h0
  have hls : lsum l ≤ 254 := by have := hok.2; rw [nsize_lsum] at this; omega
  have hp := packT_len b ss l hok.1
  have hXl : (b ++ packT b ss l).length ≤ n + 255 := by rw [List.length_append]; omega
  have hl2 : (stS b ss l).length ≤ n1 + 255 := by
    have h1 := packN_len b ss l b.length
    have h2 := lsum_len l
    unfold stS
    rw [List.length_append]; omega
  have hg := hB.lt
  have CP : ∀ w', Below w.heap.size w w' → Calls Tryd.prog 48 #[.slice A n c, .slice A1 n1 c1, .slice A3 n3 c3] w' fun e w2 => ∃ v A' n' c', e = .returned (.tuple #[v, .slice A' n' c', .nilIface]) ∧ OwnP w' w2 b ss l v (.slice A' n' c') ∧ Below w'.heap.size w' w2 := fun w' hb => by
    refine (pack_own w' A n c b (hM.later hb) A1 n1 c1 ss (hS.later hb) A3 n3 c3 l (hL.later hb) (by omega) (by omega)).mono ?_
    rintro e w2 ⟨hb2, he⟩
    rw [if_pos h0] at he
    obtain ⟨v, v', he, ho⟩ := he
    obtain ⟨A', c', rfl, _⟩ := own_slice ho.all
    exact ⟨v, A', _, c', he, ho, hb2⟩
  replace CP := hid CP
  have c0 : w.cell? ⟨g, 0, none⟩ = some (.slice A n c) := hB.cell 0
  have c1' : w.cell? ⟨g, 1, none⟩ = some (.slice A1 n1 c1) := hB.cell 1
  have HB := hid hB
  obtain ⟨N, hN⟩ : ∃ N, (b ++ packT b ss l).length = N := ⟨_, rfl⟩
  have HN := hid hN
  have HL2 := hid hl2
  have hNb : N ≤ n + 255 := by omega
  clear hM hS hL hf hok hp hXl hN hls hmn hsn hB hl2
  have r0 : ¬ T < 0 := by omega
  have r1 : ¬ 65535 < T := by omega
  have r2 : ¬ C < 0 := by omega
  have r3 : ¬ 65535 < C := by omega
  have e0 : decide (T < 0) = false := decide_eq_false r0
  have e1 : decide (65535 < T) = false := decide_eq_false r1
  have e2 : decide (C < 0) = false := decide_eq_false r2
  have e3 : decide (65535 < C) = false := decide_eq_false r3
  have ab1 : (N + 4) * 1 ≤ 140737488355328 := by omega
  have ab2 : N + 4 ≤ maxLen := by unfold maxLen; omega
  have tk0 : True := trivial; have tk1 : True := trivial; have tk2 : True := trivial; have tk3 : True := trivial; have tk4 : True := trivial; have tk5 : True := trivial; have tk6 : True := trivial; have tk7 : True := trivial; have tk8 : True := trivial; have tk9 : True := trivial; have tk10 : True := trivial; have tk11 : True := trivial; have tk12 : True := trivial
  go_enter Tryd.func33, Tryd.ntmps33
  go_wp2_with fail
  go_region_held3 (fun w' => w'.cell? ⟨g, 0, none⟩ = some (.slice A n c) ∧ w'.cell? ⟨g, 1, none⟩ = some (.slice A1 n1 c1) ∧ w'.cell? ⟨w.heap.size, 0, none⟩ = some (.slice A3 n3 c3)) (((try dsimp only); (repeat' apply And.intro) <;> (first | assumption | (go_simp; done)))) (first
    | (go_at_call 48; have _t := tk1; (with_reducible refine (CP.out _ (by (repeat' (first | (with_reducible exact Below.refl _ _) | (with_reducible assumption) | (with_reducible refine below_ext0 ?_ _ _) | (with_reducible refine below_alloc0 ?_ _) | (with_reducible refine Below.ext ?_ ?_ _ _) | (with_reducible refine Below.alloc ?_ ?_ _) | (with_reducible refine Below.setCell ?_ ?_ _) | (with_reducible refine Below.drew ?_) | (with_reducible refine below_draws ?_ _) | go_size | (simp [size_ext]; done) | (simp [size_ext]; omega))))).mono ?_); rintro e w1 ⟨v1, A', n', c', rfl, ho1, hb1⟩; have hB0 := HB.out; have hk := (Blk.below (by (repeat' (first | (with_reducible exact Blk.new _ _ _) | (with_reducible assumption) | (with_reducible refine Blk.ext ?_ _ _) | (with_reducible refine Blk.drew ?_) | (with_reducible refine Blk.alloc ?_ _)))) hb1 (by simp; omega) : Blk w1 g 85 (wrC A n c A1 n1 c1)); have kx := (Blk.below (by (repeat' (first | (with_reducible exact Blk.new _ _ _) | (with_reducible assumption) | (with_reducible refine Blk.ext ?_ _ _) | (with_reducible refine Blk.drew ?_) | (with_reducible refine Blk.alloc ?_ _)))) hb1 (by simp) : Blk w1 w.heap.size 51 #[.slice A3 n3 c3, .int .i64 T, .int .i64 C]); have x0 : w1.cell? ⟨w.heap.size, 0, none⟩ = some (.slice A3 n3 c3) := kx.cell 0; have x1 : w1.cell? ⟨w.heap.size, 1, none⟩ = some (.int .i64 T) := kx.cell 1; have x2 : w1.cell? ⟨w.heap.size, 2, none⟩ = some (.int .i64 C) := kx.cell 2; have y0 : w1.cell? ⟨g, 0, none⟩ = some (.slice A n c) := hk.cell 0; have y1 : w1.cell? ⟨g, 1, none⟩ = some (.slice A1 n1 c1) := hk.cell 1; have z1 := hb1.size; simp at z1; have ho1' := own_less (base' := w.heap.size + 1) ho1.out (by simp); rw [HN.out] at ho1'; have HO1 := hid ho1'; have HP1 := hid ho1; have HB1 := hid (Below.trans (by (repeat' (first | (with_reducible exact Below.refl _ _) | (with_reducible assumption) | (with_reducible refine below_ext0 ?_ _ _) | (with_reducible refine below_alloc0 ?_ _) | (with_reducible refine Below.ext ?_ ?_ _ _) | (with_reducible refine Below.alloc ?_ ?_ _) | (with_reducible refine Below.setCell ?_ ?_ _) | (with_reducible refine Below.drew ?_) | (with_reducible refine below_draws ?_ _) | go_size | (simp [size_ext]; done) | (simp [size_ext]; omega)))) (hb1.mono (by simp)) : Below w.heap.size w w1); have KX1 := hid kx; have KB1 := hid hk; clear ho1 ho1' hb1 kx hk hB0 tk1))
  all_goals
    go_wp2_with (at_builtin; have _t := tk2; refine wpList_appT rfl _ _ 22 rfl (w.heap.size + 1) 5 1 1 el_u8 v1 N _ rfl (HO1.out.alloc _) _ 4 4 _ rfl (src_lit _ rfl (by simp [Value.oneCell']) rfl) ab1 ab2 (by simp; omega) ?_; intro v2 w2 ho2 ha2; have hb2 := ha2.below (HO1.out.alloc _) (by simp; omega); have hk := (KB1.out.alloc _).below (w' := w2) (B := g + 1) ⟨hb2.os, hb2.tape, hb2.output, hb2.size, fun k hk => ha2.grown.block k (by simp; omega) (fun e => by have := HO1.out.lt k e.symm; omega)⟩ (by omega); have y20 : w2.cell? ⟨g, 0, none⟩ = some (.slice A n c) := hk.cell 0; have y21 : w2.cell? ⟨g, 1, none⟩ = some (.slice A1 n1 c1) := hk.cell 1; have g20 : w2.frozen? ⟨g, 0, none⟩ = false := hk.frozen 0; have g21 : w2.frozen? ⟨g, 1, none⟩ = false := hk.frozen 1; have z2 := hb2.size; simp only [World.size_alloc] at z2; obtain ⟨A2, c2, rfl, _⟩ := own_slice ho2; have HO2 := hid ho2; have HA2 := hid ha2; have HB2 := hid hb2; have KB2 := hid hk; clear ho2 ha2 hb2 hk tk2)
    go_ret
    have ho := HO2.out
    rw [q_cells _ _ _ ⟨t1, t2⟩ ⟨u1, u2⟩] at ho
    obtain ⟨A5, c5, he5, hr5⟩ := own_rd_u8 (l := qB b ss (l, T, C, ())) ho (by omega) (by omega)
    cases he5
    obtain ⟨hall, _⟩ := (HA2.out.alloc).other HP1.out.all HP1.out.apart.symm
    have hl2 := HL2.out
    obtain ⟨A6, c6, he6, hr6⟩ := own_rd_int hall HP1.out.ints (by simp; omega) (by unfold stS at hl2; omega)
    cases he6
    exact ⟨rfl, wr_end KB2.out hr5 hr6 (Below.trans (Below.alloc HB1.out (by omega) _) (HB2.out.mono (by omega))) hg (own_less ho (by omega))⟩

set_option maxRecDepth 100000 in
set_option maxHeartbeats 4000000 in
theorem wrecord_ok {w : World} {g : Nat} {A : Option Addr} {n c : Nat} {A1 : Option Addr} {n1 c1 : Nat} (hB : Blk w g 85 (wrC A n c A1 n1 c1)) {b : List UInt8} (hM : Rd u8R w w.heap.size A n c b) {ss : List Int} (hS : Rd intR w w.heap.size A1 n1 c1 ss) {A3 : Option Addr} {n3 c3 : Nat} {l : List ByteArray} (hL : Rd strR w w.heap.size A3 n3 c3 l) {T C L : Int} {A4 : Option Addr} {n4 c4 : Nat} {d : List UInt8} (hD : Rd u8R w w.heap.size A4 n4 c4 d)
    (hlim : n + 65536 + 512 ≤ 140737488355328) (hlim1 : n1 * 8 + 4096 ≤ 140737488355328) (hn : n ≤ 70368744177664) (hn1 : n1 ≤ 70368744177) (hf : recErr (l, T, C, L, d, ()) = 0) :
    Calls Tryd.prog 34 #[.pointer (some ⟨g, 0, none⟩), .agg #[.slice A3 n3 c3, .int .i64 T, .int .i64 C, .int .i64 L, .slice A4 n4 c4]] w fun e w' => e = .returned .nilIface ∧ WrO w w' g (recB b ss (l, T, C, L, d, ())) (stS b ss l) := by
  have hg := hB.lt
  have hlb := hM.len
  have hls := hS.len
  have CP : ∀ w', Below w.heap.size w w' → Calls Tryd.prog 49 #[.slice A n c, .slice A1 n1 c1, .agg #[.slice A3 n3 c3, .int .i64 T, .int .i64 C, .int .i64 L, .slice A4 n4 c4]] w' fun e w2 => ∃ A2 n2 c2 A' n' c', e = .returned (.tuple #[.slice A2 n2 c2, .slice A' n' c', .nilIface]) ∧ (Rd u8R w2 w2.heap.size A2 n2 c2 (recB b ss (l, T, C, L, d, ())) ∧ Rd intR w2 w2.heap.size A' n' c' (stS b ss l) ∧ w2.ownsRow w'.heap.size 5 1 (.slice A2 n2 c2) n2 (bytesV (recB b ss (l, T, C, L, d, ())))) ∧ Below w'.heap.size w' w2 := fun w' hb => by
    refine (rwrite_ok (hM.later hb) (hS.later hb) (hL.later hb) (hD.later hb) hlim hlim1 hf).mono ?_
    rintro e w2 ⟨v, v', he, ho, hb2⟩
    have hy := ho.lenY
    simp only at hy
    have hx := ho.lenX
    have ha := ho.all
    have hi := ho.ints
    simp only at ha hi
    obtain ⟨A2, c2, rfl, hr⟩ := own_rd_u8 ho.out hb2.size (by omega)
    obtain ⟨A', c', rfl, hr2⟩ := own_rd_int ha hi hb2.size (by omega)
    exact ⟨A2, _, c2, A', _, c', he, ⟨hr, hr2, ho.out⟩, hb2⟩
  replace CP := hid CP
  have c0 : w.cell? ⟨g, 0, none⟩ = some (.slice A n c) := hB.cell 0
  have c1' : w.cell? ⟨g, 1, none⟩ = some (.slice A1 n1 c1) := hB.cell 1
  have HB := hid hB
  clear hM hS hL hD hf hB hlb hls
  have tk0 : True := trivial; have tk1 : True := trivial; have tk2 : True := trivial; have tk3 : True := trivial; have tk4 : True := trivial; have tk5 : True := trivial; have tk6 : True := trivial; have tk7 : True := trivial; have tk8 : True := trivial; have tk9 : True := trivial; have tk10 : True := trivial; have tk11 : True := trivial; have tk12 : True := trivial
  go_enter Tryd.func34, Tryd.ntmps34
  go_wp2_with fail
  go_region_held3 (fun w' => w'.cell? ⟨g, 0, none⟩ = some (.slice A n c) ∧ w'.cell? ⟨g, 1, none⟩ = some (.slice A1 n1 c1) ∧ w'.cell? ⟨w.heap.size, 0, none⟩ = some (.slice A3 n3 c3) ∧ w'.cell? ⟨w.heap.size, 1, none⟩ = some (.int .i64 T) ∧ w'.cell? ⟨w.heap.size, 2, none⟩ = some (.int .i64 C) ∧ w'.cell? ⟨w.heap.size, 3, none⟩ = some (.int .i64 L) ∧ w'.cell? ⟨w.heap.size, 4, none⟩ = some (.slice A4 n4 c4)) (((try dsimp only); (repeat' apply And.intro) <;> (first | assumption | (go_simp; done)))) (first
    | (go_at_call 49; have _t := tk1; (with_reducible refine (CP.out _ (by (repeat' (first | (with_reducible exact Below.refl _ _) | (with_reducible assumption) | (with_reducible refine below_ext0 ?_ _ _) | (with_reducible refine below_alloc0 ?_ _) | (with_reducible refine Below.ext ?_ ?_ _ _) | (with_reducible refine Below.alloc ?_ ?_ _) | (with_reducible refine Below.setCell ?_ ?_ _) | (with_reducible refine Below.drew ?_) | (with_reducible refine below_draws ?_ _) | go_size | (simp [size_ext]; done) | (simp [size_ext]; omega))))).mono ?_); rintro e w1 ⟨A2, n2, c2, A', n', c', rfl, ⟨hr, hr2, hro⟩, hb1⟩; have HRO := hid (own_less hro (base' := w.heap.size) (by simp)); clear hro; have hB0 := HB.out; have hk := (Blk.below (by (repeat' (first | (with_reducible exact Blk.new _ _ _) | (with_reducible assumption) | (with_reducible refine Blk.ext ?_ _ _) | (with_reducible refine Blk.drew ?_) | (with_reducible refine Blk.alloc ?_ _)))) hb1 (by simp; omega) : Blk w1 g 85 (wrC A n c A1 n1 c1)); have kx := (Blk.below (by (repeat' (first | (with_reducible exact Blk.new _ _ _) | (with_reducible assumption) | (with_reducible refine Blk.ext ?_ _ _) | (with_reducible refine Blk.drew ?_) | (with_reducible refine Blk.alloc ?_ _)))) hb1 (by simp) : Blk w1 w.heap.size 53 #[.slice A3 n3 c3, .int .i64 T, .int .i64 C, .int .i64 L, .slice A4 n4 c4]); have x0 : w1.cell? ⟨w.heap.size, 0, none⟩ = some (.slice A3 n3 c3) := kx.cell 0; have x1 : w1.cell? ⟨w.heap.size, 1, none⟩ = some (.int .i64 T) := kx.cell 1; have x2 : w1.cell? ⟨w.heap.size, 2, none⟩ = some (.int .i64 C) := kx.cell 2; have x3 : w1.cell? ⟨w.heap.size, 3, none⟩ = some (.int .i64 L) := kx.cell 3; have x4 : w1.cell? ⟨w.heap.size, 4, none⟩ = some (.slice A4 n4 c4) := kx.cell 4; have y0 : w1.cell? ⟨g, 0, none⟩ = some (.slice A n c) := hk.cell 0; have y1 : w1.cell? ⟨g, 1, none⟩ = some (.slice A1 n1 c1) := hk.cell 1; have g0 : w1.frozen? ⟨g, 0, none⟩ = false := hk.frozen 0; have g1 : w1.frozen? ⟨g, 1, none⟩ = false := hk.frozen 1; have z1 := hb1.size; simp at z1; have HB1 := hid (Below.trans (by (repeat' (first | (with_reducible exact Below.refl _ _) | (with_reducible assumption) | (with_reducible refine below_ext0 ?_ _ _) | (with_reducible refine below_alloc0 ?_ _) | (with_reducible refine Below.ext ?_ ?_ _ _) | (with_reducible refine Below.alloc ?_ ?_ _) | (with_reducible refine Below.setCell ?_ ?_ _) | (with_reducible refine Below.drew ?_) | (with_reducible refine below_draws ?_ _) | go_size | (simp [size_ext]; done) | (simp [size_ext]; omega)))) (hb1.mono (by simp)) : Below w.heap.size w w1); have KB1 := hid hk; have R1 := hid hr; have R2 := hid hr2; clear hr hr2 hb1 kx hk hB0 tk1))
  all_goals
    go_wp2
    go_ret
    exact ⟨rfl, wr_end KB1.out R1.out R2.out HB1.out hg HRO.out⟩
end Go.Proofs.YthccknobnpbdeaaDoor
