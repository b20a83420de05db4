/- wire: the reader's labels; Read. -/
import Derived.Test.YtemgbfppdopfbaaDoorWireA
import Derived.Test.YtemgbfppdopfbaaDoorNameC
import Derived.Laws.BytesArg
namespace Go.Proofs.YtemgbfppdopfbaaDoor
open Go.RowKit
set_option linter.unusedVariables false
set_option linter.unusedSimpArgs false

theorem Rd.dropB {w : World} {B n c b o k : Nat} {l : List UInt8} (h : Rd u8R w B (some ⟨b, o, none⟩) n c l) (hk : k ≤ n) : Rd u8R w B (some ⟨b, o + k, none⟩) (n - k) (c - k) (l.drop k) := by
  have hc := h.cap
  have hm := h.max
  have hl := h.lim
  refine ⟨by rw [List.length_drop, h.len], by omega, by omega, ?_, fun e => (by cases e), fun i hi => ?_⟩
  · simp only [u8R] at hl ⊢; omega
  · have hi' : k + i < l.length := by rw [List.length_drop] at hi; omega
    obtain ⟨b', off, vs, e, hb, hr, hcell⟩ := h.at_ (k + i) hi'
    cases e
    refine ⟨b, o + k, vs, rfl, hb, by rw [List.getElem_drop]; exact hr, fun j u hu => ?_⟩
    have := hcell j u hu
    simpa [u8R, Nat.add_assoc] using this
/-- 'string(b)' of a slice of bytes -/
theorem Rd.conv {w : World} {B n c b o : Nat} {l : List UInt8} (h : Rd u8R w B (some ⟨b, o, none⟩) n c l) : (convert 51 9 (.slice (some ⟨b, o, none⟩) n c)).run Tryd.prog w = .ok (.string ⟨l.toArray⟩) w := by
  have := run_convert_bytes_back w 51 9 5 ⟨b, o, none⟩ c l Tryd.underlying51 Tryd.underlying5 Tryd.underlying9 (by
    intro j hj
    obtain ⟨b0, o0, e, _, hc⟩ := h.u8 j (by rw [← h.len]; exact hj)
    cases e
    rw [add_none]
    exact hc)
  rwa [h.len] at this
theorem Rd.get {w : World} {B n c b o : Nat} {l : List UInt8} (h : Rd u8R w B (some ⟨b, o, none⟩) n c l) (i : Nat) (hi : i < n) : ∃ x : UInt8, l[i]? = some x ∧ w.cell? ⟨b, o + i, none⟩ = some (.int .u8 (x.toNat : Int)) ∧ b < B := by
  obtain ⟨b0, o0, e, hb, hc⟩ := h.u8 i hi
  cases e
  exact ⟨_, List.getElem?_eq_getElem (by rw [h.len]; exact hi), hc, hb⟩
theorem grown_belowB {w w' : World} {g : Nat} (h : w.grownBy w' (some g)) (hg : g ≤ w.heap.size) : Below g w w' :=
  ⟨h.os, h.tape, h.output, h.size, fun k hk => h.block k (by omega) (fun e => by cases e; omega)⟩
theorem own_grown {w w' : World} {base : Nat} {e : TypeId} {size : Nat} {v : Value} {n g : Nat} {xs : List Value} (h : w.ownsRow base e size v n xs) (hg : w.grownBy w' (some g)) (hb : g < base) : w'.ownsRow base e size v n xs :=
  h.kept hg (by
    cases e : v.ownBlock with
    | none => exact .inl rfl
    | some k =>
      right
      have := (h.lt k e).1
      intro h
      cases h
      omega)
theorem lsum_snoc (l : List ByteArray) (s : ByteArray) : lsum (l ++ [s]) = lsum l + (s.size + 1) := by simp [lsum]
theorem lsum_len (l : List ByteArray) : l.length ≤ lsum l := by
  induction l with
  | nil => simp
  | cons a l ih => rw [lsum_cons, List.length_cons]; omega
theorem lsum_mem {l : List ByteArray} {s : ByteArray} (h : s ∈ l) : s.size ≤ lsum l := by
  induction l with
  | nil => simp at h
  | cons a l ih =>
    rw [lsum_cons]
    rcases List.mem_cons.1 h with rfl | h
    · omega
    · have := ih h; omega

/-- where the reader is -/
structure LabS (w : World) (g : Nat) (T : TypeId) (A : Option Addr) (n c : Nat) (m : List UInt8) (at0 : Nat) (wi : World) (v : Value) (low at_ : Nat) (next : Int) (out : List ByteArray) : Prop where
  blk : Blk wi g T (rdrC A n c at_ low next (lsum out : Int))
  own : wi.ownsRow w.heap.size 9 1 v out.length (strsV out)
  bel : Below g w wi
  atn : at_ ≤ n
  lown : low ≤ n
  size : lsum out ≤ 254
  fault : (nm m at0 at0 1).1 = (nm m low at_ (lsum out + 1)).1
  labs : (nm m at0 at0 1).2.1 = out ++ (nm m low at_ (lsum out + 1)).2.1
  behind : ((nm m at0 at0 1).2.2 : Int) = if next = 0 then ((nm m low at_ (lsum out + 1)).2.2 : Int) else next

/-- what labels tells -/
def LabE (w : World) (g : Nat) (T : TypeId) (A : Option Addr) (n c : Nat) (m : List UInt8) (at0 : Nat) (e : Ending) (w' : World) : Prop :=
  Below g w w' ∧ if (nm m at0 at0 1).1 = 0 then ∃ A' c' at1 lo1 sz1, e = .returned (.tuple #[.slice A' (nm m at0 at0 1).2.1.length c', .nilIface]) ∧ Rd strR w' w'.heap.size A' (nm m at0 at0 1).2.1.length c' (nm m at0 at0 1).2.1 ∧ Blk w' g T (rdrC A n c at1 lo1 ((nm m at0 at0 1).2.2 : Int) sz1)
    else e = .returned (.tuple #[.slice none 0 0, .iface 26 (.int .i64 (nm m at0 at0 1).1)])
theorem labE_bad {w : World} {g : Nat} {T : TypeId} {A : Option Addr} {n c : Nat} {m : List UInt8} {at0 : Nat} {w' : World} {k : Int} (h : (nm m at0 at0 1).1 = k) (hk : k ≠ 0) (hb : Below g w w') :
    LabE w g T A n c m at0 (.returned (.tuple #[.slice none 0 0, .iface 26 (.int .i64 k)])) w' := by
  refine ⟨hb, ?_⟩
  rw [if_neg (by rw [h]; exact hk), h]

theorem labE_ok {w : World} {g : Nat} {T : TypeId} {A : Option Addr} {n c : Nat} {m : List UInt8} {at0 : Nat} {w' : World} {out : List ByteArray} {v : Value} {at1 lo1 next sz1 : Int} (h : (nm m at0 at0 1).1 = 0) (hl : (nm m at0 at0 1).2.1 = out) (hn : ((nm m at0 at0 1).2.2 : Int) = next)
    (hown : w'.ownsRow w.heap.size 9 1 v out.length (strsV out)) (hz : lsum out ≤ 254) (hw : w.heap.size ≤ w'.heap.size) (hB : Blk w' g T (rdrC A n c at1 lo1 next sz1)) (hb : Below g w w') : LabE w g T A n c m at0 (.returned (.tuple #[v, .nilIface])) w' := by
  have hlen := lsum_len out
  obtain ⟨A', c', rfl, hr⟩ := rd_of_own (R := strR) hown (rels_str fun s hs => by have := lsum_mem hs; omega) rfl hw (by simp only [strR]; omega) (by decide)
  refine ⟨hb, ?_⟩
  rw [if_pos h, hl]
  exact ⟨A', c', at1, lo1, sz1, rfl, hr, by rw [hn]; exact hB⟩

/-! Read -/
/-- what Read tells -/
def RdE (w : World) (m : List UInt8) (at_ : Int) (e : Ending) (w' : World) : Prop :=
  Below w.heap.size w w' ∧ if (rdN m at_).1 = 0 then ∃ A' c', e = .returned (.tuple #[.slice A' (rdN m at_).2.1.length c', .int .i64 (rdN m at_).2.2, .nilIface]) ∧ Rd strR w' w'.heap.size A' (rdN m at_).2.1.length c' (rdN m at_).2.1
    else e = .returned (.tuple #[.slice none 0 0, .int .i64 0, .iface 26 (.int .i64 (rdN m at_).1)])
end Go.Proofs.YtemgbfppdopfbaaDoor
