/- wire: the reader's labels; Read. -/
import Derived.Test.YtkdfiedemhjjjaaWireA
import Derived.Test.YtkdfiedemhjjjaaNameC
import Derived.Laws.BytesArg
namespace Go.Proofs.Ytkdfiedemhjjjaa
open Go.RowKit
set_option linter.unusedVariables false

theorem Rd.dropB {w : World} {B n c b o k : Nat} {l : List UInt8} (h : Rd u8R w B (some ⟨b, o, none⟩) n c l) (hk : k ≤ n) : Rd u8R w B (some ⟨b, o + k, none⟩) (n - k) (c - k) (l.drop k) := by
  have hc := h.cap
  have hm := h.max
  have hl := h.lim
  refine ⟨by rw [List.length_drop, h.len], by omega, by omega, ?_, fun e => (by cases e), fun i hi => ?_⟩
  · simp only [u8R] at hl ⊢; omega
  · have hi' : k + i < l.length := by rw [List.length_drop] at hi; omega
    obtain ⟨b', off, vs, e, hb, hr, hcell⟩ := h.at_ (k + i) hi'
    cases e
    refine ⟨b, o + k, vs, rfl, hb, by rw [List.getElem_drop]; exact hr, fun j u hu => ?_⟩
    have := hcell j u hu
    simpa [u8R, Nat.add_assoc] using this
/-- 'string(b)' of a slice of bytes -/
theorem Rd.conv {w : World} {B n c b o : Nat} {l : List UInt8} (h : Rd u8R w B (some ⟨b, o, none⟩) n c l) : (convert 22 9 (.slice (some ⟨b, o, none⟩) n c)).run Try.prog w = .ok (.string ⟨l.toArray⟩) w := by
  have := run_convert_bytes_back w 22 9 5 ⟨b, o, none⟩ c l Try.underlying22 Try.underlying5 Try.underlying9 (by
    intro j hj
    obtain ⟨b0, o0, e, _, hc⟩ := h.u8 j (by rw [← h.len]; exact hj)
    cases e
    rw [add_none]
    exact hc)
  rwa [h.len] at this
theorem Rd.get {w : World} {B n c b o : Nat} {l : List UInt8} (h : Rd u8R w B (some ⟨b, o, none⟩) n c l) (i : Nat) (hi : i < n) : ∃ x : UInt8, l[i]? = some x ∧ w.cell? ⟨b, o + i, none⟩ = some (.int .u8 (x.toNat : Int)) ∧ b < B := by
  obtain ⟨b0, o0, e, hb, hc⟩ := h.u8 i hi
  cases e
  exact ⟨_, List.getElem?_eq_getElem (by rw [h.len]; exact hi), hc, hb⟩
theorem grown_belowB {w w' : World} {g : Nat} (h : w.grownBy w' (some g)) (hg : g ≤ w.heap.size) : Below g w w' :=
  ⟨h.os, h.tape, h.output, h.size, fun k hk => h.block k (by omega) (fun e => by cases e; omega)⟩
theorem own_grown {w w' : World} {base : Nat} {e : TypeId} {size : Nat} {v : Value} {n g : Nat} {xs : List Value} (h : w.ownsRow base e size v n xs) (hg : w.grownBy w' (some g)) (hb : g < base) : w'.ownsRow base e size v n xs :=
  h.kept hg (by
    cases e : v.ownBlock with
    | none => exact .inl rfl
    | some k =>
      right
      have := (h.lt k e).1
      intro h
      cases h
      omega)
theorem lsum_snoc (l : List ByteArray) (s : ByteArray) : lsum (l ++ [s]) = lsum l + (s.size + 1) := by simp [lsum]
theorem lsum_len (l : List ByteArray) : l.length ≤ lsum l := by
  induction l with
  | nil => simp
  | cons a l ih => rw [lsum_cons, List.length_cons]; omega
theorem lsum_mem {l : List ByteArray} {s : ByteArray} (h : s ∈ l) : s.size ≤ lsum l := by
  induction l with
  | nil => simp at h
  | cons a l ih =>
    rw [lsum_cons]
    rcases List.mem_cons.1 h with rfl | h
    · omega
    · have := ih h; omega

/-- where the reader is -/
structure LabS (w : World) (g : Nat) (T : TypeId) (A : Option Addr) (n c : Nat) (m : List UInt8) (at0 : Nat) (wi : World) (v : Value) (low at_ : Nat) (next : Int) (out : List ByteArray) : Prop where
  blk : Blk wi g T (rdrC A n c at_ low next (lsum out : Int))
  own : wi.ownsRow w.heap.size 9 1 v out.length (strsV out)
  bel : Below g w wi
  atn : at_ ≤ n
  lown : low ≤ n
  size : lsum out ≤ 254
  fault : (nm m at0 at0 1).1 = (nm m low at_ (lsum out + 1)).1
  labs : (nm m at0 at0 1).2.1 = out ++ (nm m low at_ (lsum out + 1)).2.1
  behind : ((nm m at0 at0 1).2.2 : Int) = if next = 0 then ((nm m low at_ (lsum out + 1)).2.2 : Int) else next

/-- what labels tells -/
def LabE (w : World) (g : Nat) (T : TypeId) (A : Option Addr) (n c : Nat) (m : List UInt8) (at0 : Nat) (e : Ending) (w' : World) : Prop :=
  Below g w w' ∧ if (nm m at0 at0 1).1 = 0 then ∃ A' c' at1 lo1 sz1, e = .returned (.tuple #[.slice A' (nm m at0 at0 1).2.1.length c', .nilIface]) ∧ Rd strR w' w'.heap.size A' (nm m at0 at0 1).2.1.length c' (nm m at0 at0 1).2.1 ∧ Blk w' g T (rdrC A n c at1 lo1 ((nm m at0 at0 1).2.2 : Int) sz1)
    else e = .returned (.tuple #[.slice none 0 0, .iface 65 (.int .i64 (nm m at0 at0 1).1)])
theorem labE_bad {w : World} {g : Nat} {T : TypeId} {A : Option Addr} {n c : Nat} {m : List UInt8} {at0 : Nat} {w' : World} {k : Int} (h : (nm m at0 at0 1).1 = k) (hk : k ≠ 0) (hb : Below g w w') :
    LabE w g T A n c m at0 (.returned (.tuple #[.slice none 0 0, .iface 65 (.int .i64 k)])) w' := by
  refine ⟨hb, ?_⟩
  rw [if_neg (by rw [h]; exact hk), h]

theorem labE_ok {w : World} {g : Nat} {T : TypeId} {A : Option Addr} {n c : Nat} {m : List UInt8} {at0 : Nat} {w' : World} {out : List ByteArray} {v : Value} {at1 lo1 next sz1 : Int} (h : (nm m at0 at0 1).1 = 0) (hl : (nm m at0 at0 1).2.1 = out) (hn : ((nm m at0 at0 1).2.2 : Int) = next)
    (hown : w'.ownsRow w.heap.size 9 1 v out.length (strsV out)) (hz : lsum out ≤ 254) (hw : w.heap.size ≤ w'.heap.size) (hB : Blk w' g T (rdrC A n c at1 lo1 next sz1)) (hb : Below g w w') : LabE w g T A n c m at0 (.returned (.tuple #[v, .nilIface])) w' := by
  have hlen := lsum_len out
  obtain ⟨A', c', rfl, hr⟩ := rd_of_own (R := strR) hown (rels_str fun s hs => by have := lsum_mem hs; omega) rfl hw (by simp only [strR]; omega) (by decide)
  refine ⟨hb, ?_⟩
  rw [if_pos h, hl]
  exact ⟨A', c', at1, lo1, sz1, rfl, hr, by rw [hn]; exact hB⟩

set_option maxRecDepth 100000 in
set_option maxHeartbeats 8000000 in
theorem labels_any (w : World) (g : Nat) (T : TypeId) (A : Option Addr) (n c : Nat) (m : List UInt8) (at0 : Nat) (hM : Rd u8R w g A n c m) (hB : Blk w g T (rdrC A n c at0 at0 0 0)) (hat : at0 < n) :
    Calls Try.prog 61 #[.pointer (some ⟨g, 0, none⟩)] w (LabE w g T A n c m at0) := by
  have hm := hM.max
  have hcap := hM.cap
  have hcm := hM.max
  have hgw := hB.lt
  unfold maxLen at hm
  obtain ⟨b, o, rfl, hbg⟩ := hM.addr (by omega)
  have hln := hid hM.len
  have HM := hid hM
  have HB := hid hB
  clear hM hB
  have tk0 : True := trivial; have tk1 : True := trivial; have tk2 : True := trivial; have tk3 : True := trivial; have tk4 : True := trivial; have tk5 : True := trivial; have tk6 : True := trivial; have tk7 : True := trivial; have tk8 : True := trivial; have tk9 : True := trivial; have tk10 : True := trivial; have tk11 : True := trivial; have tk12 : True := trivial
  go_enter Try.func61, Try.ntmps61
  go_wp2
  go_loopg [4] (at0 * (n + 1) + (n - at0)) (fun gk v4 wi => ∃ (low at_ : Nat) (next : Int) (out : List ByteArray), gk = low * (n + 1) + (n - at_) ∧ LabS w g T (some ⟨b, o, none⟩) n c m at0 wi v4 low at_ next out)
  case atStart =>
    refine ⟨at0, at0, 0, [], rfl, HB.out, World.ownsRow_nil _ _ _ _, Below.refl _ _, by omega, by omega, by simp [lsum], ?_, ?_, ?_⟩
    · rfl
    · rfl
    · rfl
  case round =>
    obtain ⟨low, at_, next, out, rfl, hs⟩ := hrel
    have hat' := hs.atn
    have hlow := hs.lown
    have hsz := hs.size
    have hgr : g < wr.heap.size := hs.blk.lt
    have hg0 : g ≤ wr.heap.size := Nat.le_of_lt hgr
    have HS := hid hs
    clear hs
    by_cases hend : n ≤ at_
    · have CT := hid (take_short wr g n c _ at_ 1 low next (lsum out) T HS.out.blk (by omega) (by omega) (by omega) hcap hcm)
      have hr : (nm m at0 at0 1).1 = 2 := by rw [HS.out.fault, nm_end (by rw [hln.out]; exact hend)]
      have HR := hid hr
      clear hr
      go_wp2_with (go_at_call 63; refine CT.out.mono ?_; rintro e w1 ⟨rfl, hb1, hg1, hz1⟩; have HG1 := hid hg1; clear hb1 hg1 hz1)
      go_ret2
      exact labE_bad HR.out (by decide) (HS.out.bel.trans (grown_belowB HG1.out hg0))
    · obtain ⟨x, hx, cx, _⟩ := (HM.out.below HS.out.bel).get at_ (by omega)
      have CT := hid (take_ok wr g b o n c at_ 1 low next (lsum out) T HS.out.blk (by omega) (Nat.le_refl _) hcap hcm)
      have hx1 := x.toNat_lt
      have HX := hid hx
      clear hx
      have ways : x.toNat = 0 ∨ (192 ≤ x.toNat ∧ n ≤ at_ + 1) ∨ (192 ≤ x.toNat ∧ at_ + 1 < n) ∨ (63 < x.toNat ∧ x.toNat < 192) ∨ (1 ≤ x.toNat ∧ x.toNat ≤ 63) := by omega
      rcases ways with h0 | ⟨h1, h2⟩ | ⟨h1, h2⟩ | ⟨h1, h2⟩ | ⟨h1, h2⟩
      · have hz0 : x = 0 := by rw [← UInt8.toNat_inj]; exact h0
        have t0 := nm_zero (low := low) (size := lsum out + 1) HX.out h0
        have hr : (nm m at0 at0 1).1 = 0 := by rw [HS.out.fault, t0]
        have hl : (nm m at0 at0 1).2.1 = out := by rw [HS.out.labs, t0, List.append_nil]
        have hn : ((nm m at0 at0 1).2.2 : Int) = if next = 0 then ((at_ + 1 : Nat) : Int) else next := by rw [HS.out.behind, t0]
        have HR := hid (And.intro hr (And.intro hl hn))
        have e0 : ((x.toNat : Int) == 0) = true := by rw [beq_iff_eq]; omega
        have wz : w.heap.size ≤ wr.heap.size := HS.out.bel.size
        clear hr hl hn t0 hz0
        by_cases hn0 : next = 0
        · subst hn0
          go_wp2_with (go_at_call 63; have _t := tk1; refine CT.out.mono ?_; rintro e w1 ⟨rfl, hb1, hg1, hz1⟩; have cx1 : w1.cell? ⟨b, o + at_, none⟩ = some (.int .u8 (x.toNat : Int)) := hg1.cell cx (by simp; omega); have c1 : w1.cell? ⟨g, 1, none⟩ = some (.int .i64 ((at_ + 1 : Nat) : Int)) := hb1.cell 1; have c3 : w1.cell? ⟨g, 3, none⟩ = some (.int .i64 0) := hb1.cell 3; have f3 : w1.frozen? ⟨g, 3, none⟩ = false := hb1.frozen 3; have hlt1 : g < w1.heap.size := hb1.lt; have HB1 := hid hb1; have HG1 := hid hg1; have HZ1 := hid hz1; clear hb1 hg1 hz1 tk1)
          go_ret2
          obtain ⟨hr, hl, hn⟩ := HR.out
          simp only [↓reduceIte] at hn
          refine labE_ok hr hl hn (own_far (own_grown HS.out.own HG1.out hgw) hgw _) hsz (by simp; have := HZ1.out; omega) (HB1.out.set 3 _) (HS.out.bel.trans (grown_belowB (HG1.out.trans (grown_set _ _)) hg0))
        · have en : (next == 0) = false := by rw [beq_eq_false_iff_ne]; exact hn0
          go_wp2_with (go_at_call 63; have _t := tk1; refine CT.out.mono ?_; rintro e w1 ⟨rfl, hb1, hg1, hz1⟩; have cx1 : w1.cell? ⟨b, o + at_, none⟩ = some (.int .u8 (x.toNat : Int)) := hg1.cell cx (by simp; omega); have c1 : w1.cell? ⟨g, 1, none⟩ = some (.int .i64 ((at_ + 1 : Nat) : Int)) := hb1.cell 1; have c3 : w1.cell? ⟨g, 3, none⟩ = some (.int .i64 next) := hb1.cell 3; have f3 : w1.frozen? ⟨g, 3, none⟩ = false := hb1.frozen 3; have hlt1 : g < w1.heap.size := hb1.lt; have HB1 := hid hb1; have HG1 := hid hg1; have HZ1 := hid hz1; clear hb1 hg1 hz1 tk1)
          go_ret2
          obtain ⟨hr, hl, hn⟩ := HR.out
          rw [if_neg hn0] at hn
          exact labE_ok hr hl hn (own_grown HS.out.own HG1.out hgw) hsz (by have := HZ1.out; omega) HB1.out (HS.out.bel.trans (grown_belowB HG1.out hg0))
      · have hr : (nm m at0 at0 1).1 = 2 := by rw [HS.out.fault, nm_ptr_short HX.out h1 (by rw [hln.out]; exact h2)]
        have HR := hid hr
        have CJ := hid fun w' (hB : Blk w' g T (rdrC (some ⟨b, o, none⟩) n c ((at_ + 1 : Nat) : Int) low next (lsum out : Int))) => jump_short w' g n c (at_ + 1) _ low next (lsum out) T hB (by omega) (by omega) hcap hcm (x.toNat : Int)
        have e0 : ((x.toNat : Int) == 0) = false := by rw [beq_eq_false_iff_ne]; omega
        have e1 : (192 : Int) ≤ (x.toNat : Int) := by omega
        clear hr
        go_wp2_with (first
          | (go_at_call 63; have _t := tk1; refine CT.out.mono ?_; rintro e w1 ⟨rfl, hb1, hg1, hz1⟩; have cx1 : w1.cell? ⟨b, o + at_, none⟩ = some (.int .u8 (x.toNat : Int)) := hg1.cell cx (by simp; omega); have c1 : w1.cell? ⟨g, 1, none⟩ = some (.int .i64 ((at_ + 1 : Nat) : Int)) := hb1.cell 1; have c3 : w1.cell? ⟨g, 3, none⟩ = some (.int .i64 next) := hb1.cell 3; have f3 : w1.frozen? ⟨g, 3, none⟩ = false := hb1.frozen 3; have hlt1 : g < w1.heap.size := hb1.lt; have HB1 := hid hb1; have HG1 := hid hg1; have HZ1 := hid hz1; clear hb1 hg1 hz1 tk1)
          | (go_at_call 64; refine (CJ.out _ HB1.out).mono ?_; rintro e w2 ⟨rfl, hg2, hz2⟩; have HG2 := hid hg2; clear hg2 hz2))
        go_ret2
        exact labE_bad HR.out (by decide) (HS.out.bel.trans (grown_belowB (HG1.out.trans HG2.out) hg0))
      · obtain ⟨y, hy, cy, _⟩ := (HM.out.below HS.out.bel).get (at_ + 1) (by omega)
        obtain ⟨to, hto⟩ : ∃ to : Nat, (x.toNat - 192) * 256 + y.toNat = to := ⟨_, rfl⟩
        have hy1 := y.toNat_lt
        have t0 := nm_ptr (low := low) (size := lsum out + 1) HX.out h1 hy hto
        have HT := hid t0
        have CJ := hid fun w' (hB : Blk w' g T (rdrC (some ⟨b, o, none⟩) n c ((at_ + 1 : Nat) : Int) low next (lsum out : Int))) (hc : w'.cell? ⟨b, o + (at_ + 1), none⟩ = some (.int .u8 (y.toNat : Int))) => jump_ok w' g b o n c (at_ + 1) low next (lsum out) T hB (by omega) hcap hcm x y h1 hc hbg to hto
        have e0 : ((x.toNat : Int) == 0) = false := by rw [beq_eq_false_iff_ne]; omega
        have e1 : (192 : Int) ≤ (x.toNat : Int) := by omega
        clear hto t0 hy
        by_cases hlt : to < low
        · go_wp2_with (first
            | (go_at_call 63; have _t := tk1; refine CT.out.mono ?_; rintro e w1 ⟨rfl, hb1, hg1, hz1⟩; have cx1 : w1.cell? ⟨b, o + at_, none⟩ = some (.int .u8 (x.toNat : Int)) := hg1.cell cx (by simp; omega); have c1 : w1.cell? ⟨g, 1, none⟩ = some (.int .i64 ((at_ + 1 : Nat) : Int)) := hb1.cell 1; have c3 : w1.cell? ⟨g, 3, none⟩ = some (.int .i64 next) := hb1.cell 3; have f3 : w1.frozen? ⟨g, 3, none⟩ = false := hb1.frozen 3; have hlt1 : g < w1.heap.size := hb1.lt; have HB1 := hid hb1; have HG1 := hid hg1; have HZ1 := hid hz1; clear hb1 hg1 hz1 tk1)
            | (go_at_call 64; refine (CJ.out _ HB1.out (HG1.out.cell cy (by simp; omega))).mono ?_; rw [if_pos hlt]; rintro e w2 ⟨rfl, hb2, hg2, hz2⟩; have HB2 := hid (hb2 hlt); have HG2 := hid hg2; have HZ2 := hid hz2; clear hg2 hz2 hb2))
          go_roundg (to * (n + 1) + (n - to))
          case measure =>
            have : (to + 1) * (n + 1) ≤ low * (n + 1) := Nat.mul_le_mul_right _ hlt
            rw [Nat.succ_mul] at this
            omega
          case rel =>
            have t0 := HT.out
            rw [if_pos hlt] at t0
            refine ⟨to, to, _, out, rfl, HB2.out, own_grown (own_grown HS.out.own HG1.out hgw) HG2.out hgw, HS.out.bel.trans (grown_belowB (HG1.out.trans HG2.out) hg0), by omega, by omega, hsz, ?_, ?_, ?_⟩
            · rw [HS.out.fault, t0]
            · rw [HS.out.labs, t0]
            · rw [HS.out.behind, t0]
              by_cases hn0 : next = 0
              · rw [if_pos hn0]
                dsimp only
                rw [if_neg (by omega)]
              · rw [if_neg hn0, if_neg hn0]
        · have hr : (nm m at0 at0 1).1 = 4 := by rw [HS.out.fault, HT.out, if_neg hlt]
          have HR := hid hr
          clear hr
          go_wp2_with (first
            | (go_at_call 63; have _t := tk1; refine CT.out.mono ?_; rintro e w1 ⟨rfl, hb1, hg1, hz1⟩; have cx1 : w1.cell? ⟨b, o + at_, none⟩ = some (.int .u8 (x.toNat : Int)) := hg1.cell cx (by simp; omega); have c1 : w1.cell? ⟨g, 1, none⟩ = some (.int .i64 ((at_ + 1 : Nat) : Int)) := hb1.cell 1; have c3 : w1.cell? ⟨g, 3, none⟩ = some (.int .i64 next) := hb1.cell 3; have f3 : w1.frozen? ⟨g, 3, none⟩ = false := hb1.frozen 3; have hlt1 : g < w1.heap.size := hb1.lt; have HB1 := hid hb1; have HG1 := hid hg1; have HZ1 := hid hz1; clear hb1 hg1 hz1 tk1)
            | (go_at_call 64; refine (CJ.out _ HB1.out (HG1.out.cell cy (by simp; omega))).mono ?_; rw [if_neg hlt]; rintro e w2 ⟨rfl, hb2, hg2, hz2⟩; have HG2 := hid hg2; clear hg2 hz2 hb2))
          go_ret2
          exact labE_bad HR.out (by decide) (HS.out.bel.trans (grown_belowB (HG1.out.trans HG2.out) hg0))
      · have hr : (nm m at0 at0 1).1 = 3 := by rw [HS.out.fault, nm_big HX.out h1 h2]
        have HR := hid hr
        have e0 : ((x.toNat : Int) == 0) = false := by rw [beq_eq_false_iff_ne]; omega
        have e1 : (x.toNat : Int) < 192 := by omega
        have e2 : (63 : Int) < (x.toNat : Int) := by omega
        clear hr
        go_wp2_with (go_at_call 63; have _t := tk1; refine CT.out.mono ?_; rintro e w1 ⟨rfl, hb1, hg1, hz1⟩; have cx1 : w1.cell? ⟨b, o + at_, none⟩ = some (.int .u8 (x.toNat : Int)) := hg1.cell cx (by simp; omega); have c1 : w1.cell? ⟨g, 1, none⟩ = some (.int .i64 ((at_ + 1 : Nat) : Int)) := hb1.cell 1; have c3 : w1.cell? ⟨g, 3, none⟩ = some (.int .i64 next) := hb1.cell 3; have f3 : w1.frozen? ⟨g, 3, none⟩ = false := hb1.frozen 3; have hlt1 : g < w1.heap.size := hb1.lt; have HB1 := hid hb1; have HG1 := hid hg1; have HZ1 := hid hz1; clear hb1 hg1 hz1 tk1)
        go_ret2
        exact labE_bad HR.out (by decide) (HS.out.bel.trans (grown_belowB HG1.out hg0))
      · have e0 : ((x.toNat : Int) == 0) = false := by rw [beq_eq_false_iff_ne]; omega
        have e1 : (x.toNat : Int) < 192 := by omega
        have e2 : (x.toNat : Int) ≤ 63 := by omega
        obtain ⟨xn, hxn⟩ : ∃ xn, x.toNat = xn := ⟨_, rfl⟩
        by_cases hs1 : n < at_ + 1 + x.toNat
        · have hr : (nm m at0 at0 1).1 = 2 := by rw [HS.out.fault, nm_lab_short HX.out h1 h2 (by rw [hln.out]; exact hs1)]
          have HR := hid hr
          have CT2 := hid fun w' (hB : Blk w' g T (rdrC (some ⟨b, o, none⟩) n c ((at_ + 1 : Nat) : Int) low next (lsum out : Int))) => take_short w' g n c _ (at_ + 1) x.toNat low next (lsum out) T hB hs1 (by omega) (by omega) hcap hcm
          clear hr hxn
          go_wp2_with (first
            | (go_at_call 63; have _t := tk1; refine CT.out.mono ?_; rintro e w1 ⟨rfl, hb1, hg1, hz1⟩; have cx1 : w1.cell? ⟨b, o + at_, none⟩ = some (.int .u8 (x.toNat : Int)) := hg1.cell cx (by simp; omega); have c1 : w1.cell? ⟨g, 1, none⟩ = some (.int .i64 ((at_ + 1 : Nat) : Int)) := hb1.cell 1; have c3 : w1.cell? ⟨g, 3, none⟩ = some (.int .i64 next) := hb1.cell 3; have f3 : w1.frozen? ⟨g, 3, none⟩ = false := hb1.frozen 3; have hlt1 : g < w1.heap.size := hb1.lt; have HB1 := hid hb1; have HG1 := hid hg1; have HZ1 := hid hz1; clear hb1 hg1 hz1 tk1)
            | (go_at_call 63; have _t := tk2; refine (CT2.out _ HB1.out).mono ?_; rintro e w2 ⟨rfl, hb2, hg2, hz2⟩; have HG2 := hid hg2; clear hg2 hz2 hb2 tk2))
          go_ret2
          exact labE_bad HR.out (by decide) (HS.out.bel.trans (grown_belowB (HG1.out.trans HG2.out) hg0))
        · have CT2 := hid fun w' (hB : Blk w' g T (rdrC (some ⟨b, o, none⟩) n c ((at_ + 1 : Nat) : Int) low next (lsum out : Int))) => take_ok w' g b o n c (at_ + 1) x.toNat low next (lsum out) T hB (by omega) h1 hcap hcm
          by_cases hbig : lsum out + (x.toNat + 1) ≤ 254
          · have hconv : ∀ W, Below g wr W → (convert 22 9 (.slice (some ⟨b, o + (at_ + 1), none⟩) x.toNat (c - (at_ + 1)))).run Try.prog W = .ok (.string (segB m (at_ + 1) x.toNat)) W := by
              intro W hW
              exact (((HM.out.below (HS.out.bel.trans hW)).dropB (k := at_ + 1) (by omega)).take (k := x.toNat) (by omega)).conv
            have hseg := segB_size m (at_ + 1) x.toNat (by rw [hln.out]; omega)
            have ht := nm_lab (low := low) (size := lsum out + 1) HX.out h1 h2 (by rw [hln.out]; omega) (by omega)
            obtain ⟨sg, hsg⟩ : ∃ sg, segB m (at_ + 1) x.toNat = sg := ⟨_, rfl⟩
            rw [hsg] at hconv hseg ht
            have hls : lsum (out ++ [sg]) = lsum out + (x.toNat + 1) := by rw [lsum_snoc, hseg]
            have CV := hid hconv
            have HT := hid ht
            have HLS := hid hls
            have hol := lsum_len out
            have ab4 : (out.length + 1) * 16 ≤ 140737488355328 := by omega
            have ab3 : out.length + 1 ≤ maxLen := by unfold maxLen; omega
            have hwz : w.heap.size ≤ wr.heap.size := HS.out.bel.size
            have e3 : (lsum out : Int) + ((x.toNat : Int) + 1) ≤ 254 := by omega
            have hog : some g ≠ u4.ownBlock := fun e => by have := (HS.out.own.lt g e.symm).1; omega
            have HOG := hid hog
            clear hsg hconv hseg ht hls hxn hog
            go_wp2_with (first
              | (go_at_call 63; have _t := tk1; refine CT.out.mono ?_; rintro e w1 ⟨rfl, hb1, hg1, hz1⟩; have cx1 : w1.cell? ⟨b, o + at_, none⟩ = some (.int .u8 (x.toNat : Int)) := hg1.cell cx (by simp; omega); have c1 : w1.cell? ⟨g, 1, none⟩ = some (.int .i64 ((at_ + 1 : Nat) : Int)) := hb1.cell 1; have c3 : w1.cell? ⟨g, 3, none⟩ = some (.int .i64 next) := hb1.cell 3; have f3 : w1.frozen? ⟨g, 3, none⟩ = false := hb1.frozen 3; have hlt1 : g < w1.heap.size := hb1.lt; have HB1 := hid hb1; have HG1 := hid hg1; have HZ1 := hid hz1; clear hb1 hg1 hz1 tk1)
              | (go_at_call 63; have _t := tk2; refine (CT2.out _ HB1.out).mono ?_; rintro e w2 ⟨rfl, hb2, hg2, hz2⟩; have c4' : w2.cell? ⟨g, 4, none⟩ = some (.int .i64 (lsum out : Int)) := hb2.cell 4; have f4' : w2.frozen? ⟨g, 4, none⟩ = false := hb2.frozen 4; have hlt2 : g < w2.heap.size := hb2.lt; have wz2 : w.heap.size ≤ w2.heap.size := by { have := HZ1.out; omega }; have cv := CV.out (w2.setCell ⟨g, 4, none⟩ (.int .i64 ((lsum out : Int) + ((x.toNat : Int) + 1)))) (grown_belowB ((HG1.out.trans hg2).trans (grown_set _ _)) hg0); have HB2 := hid hb2; have HG2 := hid hg2; have HZ2 := hid hz2; clear hb2 hg2 hz2 tk2)
              | (at_builtin; (refine wpList_app rfl _ _ 24 rfl w.heap.size 9 1 16 el_str _ out.length _ rfl ((own_far (own_grown HS.out.own (HG1.out.trans HG2.out) hgw) hgw _).alloc _) _ 1 1 [.string sg] rfl (src_one _ rfl (by simp)) ab4 ab3 (by simp; omega) ?_); intro v' w3 ho hg ha; have HO3 := hid ho; have HG3 := hid hg; clear ho hg ha))
            go_roundg (low * (n + 1) + (n - (at_ + 1 + x.toNat)))
            case measure => omega
            case rel =>
              have hb3 : Blk w3 g T (rdrC (some ⟨b, o, none⟩) n c ((at_ + 1 + x.toNat : Nat) : Int) low next ((lsum (out ++ [sg]) : Nat) : Int)) := by
                have := ((HB2.out.set 4 (.int .i64 ((lsum out : Int) + ((x.toNat : Int) + 1)))).alloc (.cells #[.string sg] 9)).grown HG3.out HOG.out
                rw [HLS.out]
                simpa [rdrC] using this
              have t0 := HT.out
              rw [show lsum out + 1 + x.toNat + 1 = lsum out + (x.toNat + 1) + 1 by omega] at t0
              have hs1 := HLS.out
              refine ⟨low, at_ + 1 + x.toNat, next, out ++ [sg], rfl, hb3, by simpa [strsV] using HO3.out, ?_, by omega, hlow, by omega, ?_, ?_, ?_⟩
              · have b2 := HS.out.bel.trans (grown_belowB ((HG1.out.trans HG2.out).trans (grown_set 4 (.int .i64 ((lsum out : Int) + ((x.toNat : Int) + 1))))) hg0)
                refine b2.trans ?_
                have b3 := grown_below ((own_far (own_grown HS.out.own (HG1.out.trans HG2.out) hgw) hgw (.int .i64 ((lsum out : Int) + ((x.toNat : Int) + 1)))).alloc (.cells #[.string sg] 9)) HG3.out (by simp; omega)
                exact (((Below.refl g _).alloc (by simp; omega) _).trans (b3.mono (by omega)))
              · rw [HS.out.fault, t0, hs1]
              · rw [HS.out.labs, t0, hs1, List.append_assoc]
                rfl
              · rw [HS.out.behind, t0, hs1]
          · have hr : (nm m at0 at0 1).1 = 5 := by rw [HS.out.fault, nm_lab_long HX.out h1 h2 (by rw [hln.out]; omega) (by omega)]
            have HR := hid hr
            have e3 : (254 : Int) < (lsum out : Int) + ((x.toNat : Int) + 1) := by omega
            clear hr hxn
            go_wp2_with (first
              | (go_at_call 63; have _t := tk1; refine CT.out.mono ?_; rintro e w1 ⟨rfl, hb1, hg1, hz1⟩; have cx1 : w1.cell? ⟨b, o + at_, none⟩ = some (.int .u8 (x.toNat : Int)) := hg1.cell cx (by simp; omega); have c1 : w1.cell? ⟨g, 1, none⟩ = some (.int .i64 ((at_ + 1 : Nat) : Int)) := hb1.cell 1; have c3 : w1.cell? ⟨g, 3, none⟩ = some (.int .i64 next) := hb1.cell 3; have f3 : w1.frozen? ⟨g, 3, none⟩ = false := hb1.frozen 3; have hlt1 : g < w1.heap.size := hb1.lt; have HB1 := hid hb1; have HG1 := hid hg1; have HZ1 := hid hz1; clear hb1 hg1 hz1 tk1)
              | (go_at_call 63; have _t := tk2; refine (CT2.out _ HB1.out).mono ?_; rintro e w2 ⟨rfl, hb2, hg2, hz2⟩; have c4 : w2.cell? ⟨g, 4, none⟩ = some (.int .i64 (lsum out : Int)) := hb2.cell 4; have f4 : w2.frozen? ⟨g, 4, none⟩ = false := hb2.frozen 4; have hlt2 : g < w2.heap.size := hb2.lt; have HB2 := hid hb2; have HG2 := hid hg2; have HZ2 := hid hz2; clear hb2 hg2 hz2 tk2))
            go_ret2
            exact labE_bad HR.out (by decide) (HS.out.bel.trans (grown_belowB ((HG1.out.trans HG2.out).trans (grown_set _ _)) hg0))

/-! Read -/
/-- what Read tells -/
def RdE (w : World) (m : List UInt8) (at_ : Int) (e : Ending) (w' : World) : Prop :=
  Below w.heap.size w w' ∧ if (rdN m at_).1 = 0 then ∃ A' c', e = .returned (.tuple #[.slice A' (rdN m at_).2.1.length c', .int .i64 (rdN m at_).2.2, .nilIface]) ∧ Rd strR w' w'.heap.size A' (rdN m at_).2.1.length c' (rdN m at_).2.1
    else e = .returned (.tuple #[.slice none 0 0, .int .i64 0, .iface 65 (.int .i64 (rdN m at_).1)])
set_option maxRecDepth 100000 in
set_option maxHeartbeats 4000000 in
theorem wread_any (w : World) (A : Option Addr) (n c : Nat) (m : List UInt8) (hM : Rd u8R w w.heap.size A n c m) (at_ : Int) :
    Calls Try.prog 40 #[.slice A n c, .int .i64 at_] w (RdE w m at_) := by
  have hcap := hM.cap
  have hm := hM.max
  unfold maxLen at hm
  by_cases h0 : at_ < 0
  · have hr : rdN m at_ = (6, [], 0) := by unfold rdN; rw [if_pos h0]
    have HR := hid hr
    clear hr hM
    go_enter Try.func40, Try.ntmps40
    go_wp2
    go_ret3
    refine ⟨Below.refl _ _, ?_⟩
    rw [HR.out]
    rfl
  · obtain ⟨a, rfl⟩ : ∃ a : Nat, at_ = (a : Int) := ⟨at_.toNat, by omega⟩
    by_cases h1 : n ≤ a
    · have hr : rdN m (a : Int) = (2, [], 0) := by
        unfold rdN
        rw [if_neg h0, Int.toNat_natCast, nm_end (by rw [hM.len]; exact h1)]
        rfl
      have HR := hid hr
      have h1' : (n : Int) ≤ (a : Int) := by omega
      clear hr hM
      go_enter Try.func40, Try.ntmps40
      go_wp2
      go_ret3
      refine ⟨Below.refl _ _, ?_⟩
      rw [HR.out]
      rfl
    · have hr : rdN m (a : Int) = if (nm m a a 1).1 = 0 then (0, (nm m a a 1).2.1, ((nm m a a 1).2.2 : Int)) else ((nm m a a 1).1, [], 0) := by
        unfold rdN
        rw [if_neg h0, Int.toNat_natCast]
      have HR := hid hr
      have HM := hid hM
      have CL := hid fun w' T (hb : Below w.heap.size w w') (hB : Blk w' w.heap.size T (rdrC A n c a a 0 0)) => labels_any w' w.heap.size T A n c m a (HM.out.below hb) hB (by omega)
      have h1' : (a : Int) < (n : Int) := by omega
      clear hr hM
      go_enter Try.func40, Try.ntmps40
      by_cases hf : (nm m a a 1).1 = 0
      · go_wp2_with (go_at_call 61; refine (CL.out _ _ (by (repeat' (first | (with_reducible exact Below.refl _ _) | (with_reducible assumption) | (with_reducible refine below_ext0 ?_ _ _) | (with_reducible refine below_alloc0 ?_ _) | (with_reducible refine Below.ext ?_ ?_ _ _) | (with_reducible refine Below.alloc ?_ ?_ _) | (with_reducible refine Below.setCell ?_ ?_ _) | (with_reducible refine Below.drew ?_) | (with_reducible refine below_draws ?_ _) | go_size | (simp [size_ext]; done) | (simp [size_ext]; omega)))) (Blk.new _ _ _)).mono ?_; rintro e w1 ⟨hb, he⟩; rw [if_pos hf] at he; obtain ⟨A', c', at1, lo1, sz1, rfl, hr, hB1⟩ := he; have cn : w1.cell? ⟨w.heap.size, 3, none⟩ = some (.int .i64 ((nm m a a 1).2.2 : Int)) := hB1.cell 3; have HR1 := hid hr; have HB1 := hid hb; clear hb hr hB1)
        go_region
        all_goals go_wp2
        all_goals go_ret3
        have r := HR.out
        rw [if_pos hf] at r
        refine ⟨(((Below.refl _ _).alloc (Nat.le_refl _) _).trans HB1.out).drew, ?_⟩
        rw [r, if_pos rfl]
        exact ⟨A', c', rfl, HR1.out.keep (Nat.le_refl _) fun _ _ => rfl⟩
      · go_wp2_with (go_at_call 61; refine (CL.out _ _ (by (repeat' (first | (with_reducible exact Below.refl _ _) | (with_reducible assumption) | (with_reducible refine below_ext0 ?_ _ _) | (with_reducible refine below_alloc0 ?_ _) | (with_reducible refine Below.ext ?_ ?_ _ _) | (with_reducible refine Below.alloc ?_ ?_ _) | (with_reducible refine Below.setCell ?_ ?_ _) | (with_reducible refine Below.drew ?_) | (with_reducible refine below_draws ?_ _) | go_size | (simp [size_ext]; done) | (simp [size_ext]; omega)))) (Blk.new _ _ _)).mono ?_; rintro e w1 ⟨hb, he⟩; rw [if_neg hf] at he; subst he; have HB1 := hid hb; clear hb)
        go_ret3
        have r := HR.out
        rw [if_neg hf] at r
        refine ⟨((Below.refl _ _).alloc (Nat.le_refl _) _).trans HB1.out, ?_⟩
        rw [r, if_neg hf]
        rfl
end Go.Proofs.Ytkdfiedemhjjjaa
