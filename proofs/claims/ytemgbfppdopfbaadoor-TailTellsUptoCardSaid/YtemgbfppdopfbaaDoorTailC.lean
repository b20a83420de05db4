/- The longest end: small laws for the statements, the fact asked ahead (ended). -/
import Derived.Test.YtemgbfppdopfbaaDoorTailB
namespace Go.Proofs.YtemgbfppdopfbaaDoor
open Go.RowKit
set_option linter.unusedVariables false
set_option linter.unusedSimpArgs false

/-- a row of a slice of rows -/
theorem Rd.rowT {α : Type} {R : Rep α} {w : World} {B n c : Nat} {A : Option Addr} {l : List (List α)} (h : Rd (sliceR R) w B A n c l) (i : Nat) (hi : i < n) :
    ∃ b o A' n' c', A = some ⟨b, o, none⟩ ∧ b < B ∧ w.cell? ⟨b, o + i, none⟩ = some (.slice A' n' c') ∧ Rd R w B A' n' c' (l.getD i []) := by
  have hi' : i < l.length := by rw [h.len]; exact hi
  obtain ⟨b, o, vs, e, hb, ⟨A', n', c', rfl, hr⟩, hc⟩ := h.at_ i hi'
  have := hc 0 _ rfl
  refine ⟨b, o, A', n', c', e, hb, by simpa [sliceR] using this, ?_⟩
  rw [List.getD_eq_getElem?_getD, List.getElem?_eq_getElem hi']
  exact hr
theorem Rd.more {α : Type} {R : Rep α} {w : World} {B B' n c : Nat} {A : Option Addr} {l : List α} (h : Rd R w B A n c l) (hB : B ≤ B') : Rd R w B' A n c l := h.keep hB fun _ _ => rfl
theorem rd_litS {w : World} {g : Nat} (t : TypeId) {cs : Array Value} (l : List ByteArray) (n : Nat) (hg : g = w.heap.size) (hl : cs.toList = strsV l) (hs : ∀ s ∈ l, s.size ≤ 140737488355328) (hn : l.length = n) (hm : n ≤ 1000) :
    Rd strR (w.alloc (.cells cs t)) (w.alloc (.cells cs t)).heap.size (some ⟨g, 0, none⟩) n n l := by
  subst hn
  subst hg
  have h := Blk.new w t cs
  refine ⟨rfl, Nat.le_refl _, by unfold maxLen; omega, by simp only [strR]; omega, fun e => (by cases e), fun i hi => ?_⟩
  refine ⟨_, 0, _, rfl, h.lt, ⟨rfl, hs _ (List.getElem_mem hi)⟩, fun j u hu => ?_⟩
  have hj : j = 0 := by
    cases j with
    | zero => rfl
    | succ j => simp at hu
  subst hj
  simp only [List.getElem?_cons_zero, Option.some.injEq] at hu
  subst hu
  have := h.cell i
  rw [← Array.getElem?_toList, hl] at this
  simpa [strR, hi] using this
/-- old memory behind a store into a map of the call's own -/
theorem below_map {B b : Nat} {w0 w w' : World} (h : Below B w0 w) (hB : B ≤ w.heap.size) (hb : B ≤ b) (hg : w.grownBy w' (some b)) : Below B w0 w' :=
  h.grown hg hB fun k e => by cases e; exact hb

theorem smallB_again (b : UInt8) : lowB (lowB b) = lowB b := by
  have h : ∀ n, n < 256 → lowB (lowB (UInt8.ofNat n)) = lowB (UInt8.ofNat n) := by decide +kernel
  have := h b.toNat b.toNat_lt
  rwa [UInt8.ofNat_toNat] at this
theorem smallS_again (s : ByteArray) : smallS (smallS s) = smallS s := by
  unfold smallS smallL
  simp only [List.map_map]
  congr 2
  apply List.map_congr_left
  intro b _
  exact smallB_again b
theorem sameL_fold (a b : List ByteArray) : sameL (a.map smallS) b = sameL a b := by
  unfold sameL
  rw [List.map_map, show smallS ∘ smallS = smallS from funext smallS_again]
theorem lastFor_fold (es : List EndT) (n : List ByteArray) : lastFor es (n.map smallS) = lastFor es n := by
  unfold lastFor
  congr 1
  funext i
  cases es[i]? with
  | none => rfl
  | some e => exact sameL_fold _ _
theorem getT_fold (es : List EndT) : ∀ n : List ByteArray, getT es (n.map smallS) = getT es n
  | [] => rfl
  | a :: n => by
    have h := lastFor_fold es (a :: n)
    rw [List.map_cons] at h ⊢
    rw [getT, getT, h, getT_fold es n]
    simp
theorem getT_at {es : List EndT} {n : List ByteArray} {x : Nat} (h : lastFor es n = some x) : getT es n = some (x, n.length) := by
  have := getT_hit (i := 0) (l := n) (fun j hj => by omega) (Nat.zero_le _) h
  rwa [Nat.sub_zero] at this
theorem getT_up {es : List EndT} {a : ByteArray} {n : List ByteArray} (h : lastFor es (a :: n) = none) : getT es (a :: n) = getT es n := by rw [getT, h]
theorem getT_nil {es : List EndT} (h : lastFor es [] = none) : getT es [] = none := by rw [getT, h]; rfl

/-- the value of the last one that is the same -/
def atV (es : List EndT) : Option Nat → Int
  | none => -1
  | some x => (es.getD x ([], 0, ())).2.1
theorem fact_end : getT (putE [] [⟨#[66]⟩] 7) [⟨#[97]⟩, ⟨#[98]⟩] = some (0, 1) := by decide +kernel
theorem fact_put : putE [] [⟨#[66]⟩] 7 = [([⟨#[66]⟩], 7, ())] := by
  have : nameErr [⟨#[66]⟩] = 0 := by decide
  unfold putE
  rw [if_pos this]
  rfl
theorem fact_tell : tellG (putE [] [⟨#[66]⟩] 7) (getT (putE [] [⟨#[66]⟩] 7) [⟨#[97]⟩, ⟨#[98]⟩]) = (7, 1, true) := by
  rw [fact_end, fact_put]
  rfl
theorem fact_err : errV (nameErr [⟨#[66]⟩]) = .nilIface := by
  have : nameErr [⟨#[66]⟩] = 0 := by decide
  rw [this]
  rfl
set_option maxRecDepth 100000 in
set_option maxHeartbeats 4000000 in
theorem ended_any (w : World) : Calls Tryd.prog 20 #[] w fun e w' => e = .returned (.bool true) ∧ Below w.heap.size w w' := by
  have CP := hid fun (w1 : World) (h : TailS w1 (w.heap.size + 1) w.heap.size []) => (show _ from tput_any (h.later ((Below.refl _ _).alloc (Nat.le_refl _) _)) (by simp) (rd_litS 9 (cs := #[.string ⟨#[66]⟩]) [⟨#[66]⟩] 1 (w := w1) rfl rfl (by simp; decide) rfl (by decide)) 7 (by unfold I64; omega))
  rw [fact_err] at CP
  have CG := hid fun (w1 : World) (h : TailS w1 (w.heap.size + 1) w.heap.size (putE [] [⟨#[66]⟩] 7)) => (show _ from tget_any (h.later ((Below.refl _ _).alloc (Nat.le_refl _) _)) (rd_litS 9 (cs := #[.string ⟨#[97]⟩, .string ⟨#[98]⟩]) [⟨#[97]⟩, ⟨#[98]⟩] 2 (w := w1) rfl rfl (by simp; decide) rfl (by decide)) (by decide))
  rw [fact_tell] at CG
  dsimp only at CG
  have CN := hid (tnew_any w)
  have tk0 : True := trivial; have tk1 : True := trivial; have tk2 : True := trivial; have tk3 : True := trivial; have tk4 : True := trivial; have tk5 : True := trivial; have tk6 : True := trivial; have tk7 : True := trivial; have tk8 : True := trivial; have tk9 : True := trivial; have tk10 : True := trivial; have tk11 : True := trivial; have tk12 : True := trivial
  go_enter Tryd.func20, Tryd.ntmps20
  go_wp2_with (first
    | (go_at_call 13; have _t := tk1; (with_reducible refine (CN.out).mono ?_); rintro e w1 ⟨rfl, hT, hb⟩; have HT := hid hT; have HB := hid hb; have hz := hb.size; clear hT hb tk1)
    | (go_at_call 15; have _t := tk2; (with_reducible refine (CP.out w1 HT.out).mono ?_); rintro e w2 ⟨rfl, hT2, hg⟩; have HT2 := hid hT2; have HB2 := hid (below_map (Below.alloc HB.out hz _) (by simp; omega) (Nat.le_refl _) hg); clear hT2 hg tk2)
    | (go_at_call 18; have _t := tk3; (with_reducible refine (CG.out w2 HT2.out).mono ?_); rintro e w3 ⟨rfl, hb⟩; have hz2 := HB2.out.size; have HB4 := hid (Below.trans (Below.alloc HB2.out hz2 _) (hb.mono (by simp; omega)) : Below w.heap.size w w3); clear hb tk3))
  go_ret
  exact ⟨by simp, HB4.out⟩
end Go.Proofs.YtemgbfppdopfbaaDoor
