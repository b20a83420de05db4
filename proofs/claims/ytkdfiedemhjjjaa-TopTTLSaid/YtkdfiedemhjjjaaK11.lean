/- The document's answers of names as they are sent: Texts, Sent, Start. -/
import Derived.Test.YtkdfiedemhjjjaaK10
import Derived.Test.YtkdfiedemhjjjaaK1
import Derived.Deep.QuietTactic
import Derived.BigQuiet
import Derived.Laws.BytesArg
namespace Go.Proofs.Ytkdfiedemhjjjaa
open Go.RowKit
set_option linter.unusedVariables false
set_option linter.unusedSimpArgs false

/-! '[]byte(s)' -/
theorem bytes_of (w : World) (s : ByteArray) (hs : s.size ≤ 140737488355328) : ∃ cap o, (convert 9 22 (.string s)).run Try.prog w = .ok (.slice (some ⟨w.heap.size, 0, none⟩) s.size cap) (w.drew.alloc o) ∧
    Rd u8R (w.drew.alloc o) (w.drew.alloc o).heap.size (some ⟨w.heap.size, 0, none⟩) s.size cap s.data.toList := by
  have hge := grownCap_ge w s.size 0 5
  have hle := grownCap_le_maxLen w s.size 0 5 (by unfold maxLen; omega)
  refine ⟨_, _, run_bytes_of_string w 9 22 5 s Try.underlying9 Try.underlying22 Try.underlying5, ?_⟩
  have hsz : s.data.toList.length = s.size := by rw [Array.length_toList]; rfl
  refine ⟨hsz, hge, hle, by simpa [u8R] using hs, fun e => (by cases e), fun i hi => ?_⟩
  refine ⟨w.heap.size, 0, _, rfl, by simp, rfl, fun j u hu => ?_⟩
  have hj : j = 0 := by
    cases j with
    | zero => rfl
    | succ j => simp at hu
  subst hj
  simp at hu
  subst hu
  have hb := BlkM.new w.drew 5 (bytesRow s (grownCap w s.size 0 5))
  have hc := hb.cell i
  have e : (bytesRow s (grownCap w s.size 0 5))[i]? = some (.int .u8 (s.data.toList[i].toNat : Int)) := by
    have hi' : i < s.data.size := by rw [← Array.length_toList]; exact hi
    unfold bytesRow
    rw [Array.getElem?_append_left (by simpa using hi'), Array.getElem?_map, Array.getElem?_eq_getElem hi']
    simp
  rw [e] at hc
  simpa [u8R] using hc

theorem own_drewA {w : World} {base : Nat} {e : TypeId} {size : Nat} {v : Value} {n : Nat} {xs : List Value} {o : Obj} (h : w.ownsRow base e size v n xs) : ((w.alloc o).drew).ownsRow base e size v n xs := (h.alloc o).drew
/-! Sent -/
set_option maxRecDepth 100000 in
set_option maxHeartbeats 4000000 in
theorem rsent_any (w : World) (A : Option Addr) (n c : Nat) (l : List ByteArray) (hR : Rd strR w w.heap.size A n c l) (hall : l.all labelOk = true) (hsz : lsum l ≤ 254) :
    Calls Try.prog 14 #[.slice A n c] w fun e w' => ∃ A' c', e = .returned (.slice A' (lsum l + 1) c') ∧ Rd u8R w' w'.heap.size A' (lsum l + 1) c' (sentL l ++ [0]) ∧ Below w.heap.size w w' := by
  have hm := hR.max
  have hcap := hR.cap
  unfold maxLen at hm
  have H := hid hR
  have HALL := hid hall
  clear hR hall
  have tk0 : True := trivial; have tk1 : True := trivial; have tk2 : True := trivial; have tk3 : True := trivial; have tk4 : True := trivial; have tk5 : True := trivial; have tk6 : True := trivial; have tk7 : True := trivial; have tk8 : True := trivial; have tk9 : True := trivial; have tk10 : True := trivial; have tk11 : True := trivial; have tk12 : True := trivial
  go_enter Try.func14, Try.ntmps14
  go_wp2
  go_loopg [3, 4] n (fun gk v0 v9 wi => ∃ k : Nat, k ≤ n ∧ gk = n - k ∧ v9 = .int .i64 (k : Int) ∧ wi.ownsRow w.heap.size 5 1 v0 (lsum (l.take k)) (bytesV (sentL (l.take k))) ∧ Below w.heap.size w wi)
  case atStart => exact ⟨0, Nat.zero_le _, rfl, rfl, World.ownsRow_nil _ _ _ _, Below.refl _ _⟩
  case round =>
    obtain ⟨k, hk, rfl, rfl, hown, hlow⟩ := hrel
    have HO := hid hown
    have HLOW := hid hlow
    have hzw := hlow.size
    clear hown hlow
    by_cases hlt : k < n
    · obtain ⟨b, o, rfl, hb, hc0, hz⟩ := H.out.str k hlt
      have hkl : k < l.length := by rw [H.out.len]; exact hlt
      have htk : l.take (k + 1) = l.take k ++ [l[k]] := List.take_succ_eq_append_getElem hkl
      have hlb : labelOk l[k] = true := List.all_eq_true.1 HALL.out _ (List.getElem_mem hkl)
      obtain ⟨x, hx⟩ : ∃ x, l[k] = x := ⟨_, rfl⟩
      rw [hx] at hc0 hz htk hlb
      have hc := (HLOW.out.cell (p := ⟨b, o + k, none⟩) hb).trans hc0
      have HC0 := hid hc0
      unfold labelOk at hlb
      simp only [Bool.and_eq_true, decide_eq_true_eq] at hlb
      obtain ⟨hx1, hx2⟩ := hlb
      have HTK := hid htk
      have hls : lsum (l.take (k + 1)) = lsum (l.take k) + (x.size + 1) := by rw [htk, lsum_snoc]
      have hsum := lsum_take l (k + 1)
      have ab1 : (lsum (l.take k) + 1) * 1 ≤ 140737488355328 := by omega
      have ab2 : lsum (l.take k) + 1 ≤ maxLen := by unfold maxLen; omega
      have ab3 : (lsum (l.take k) + 1 + x.size) * 1 ≤ 140737488355328 := by omega
      have ab5 : lsum (l.take k) + 1 + x.size ≤ maxLen := by unfold maxLen; omega
      have HLS := hid hls
      have cvt : IntKind.u8.wrap (x.size : Int) = (x.size : Int) := by simp [IntKind.wrap, IntKind.bits, IntKind.signed]; omega
      clear htk hx hls hsum hc0
      go_wp2_with (first
        | (at_builtin; have _t := tk1; refine wpList_appT rfl _ _ 22 rfl w.heap.size 5 1 1 el_u8 _ (lsum (l.take k)) _ rfl (HO.out.alloc _) _ 1 1 [.int .u8 (x.size : Int)] rfl (src_one _ rfl rfl) ab1 ab2 (by simp; omega) ?_; intro v1 w1 ho1 ha1; have HO1 := hid ho1; have hz1 := ha1.grown.size; have HB1 := hid ((HLOW.out.alloc hzw _).trans (ha1.below (HO.out.alloc _) (by simp; omega))); have hc1 := (HB1.out.cell (p := ⟨b, o + k, none⟩) hb).trans HC0.out; obtain ⟨cap1, o1, cv1, hrd1⟩ := bytes_of w1 x hz; have hzz := HB1.out.size; have HRD1 := hid hrd1; clear hrd1; clear ho1 ha1 tk1)
        | (at_builtin; have _t := tk2; refine wpList_appT rfl _ _ 22 rfl w.heap.size 5 1 1 el_u8 _ (lsum (l.take k) + 1) _ rfl (own_drewA HO1.out) _ x.size _ _ rfl (HRD1.out.src_u8) ab3 ab5 (by simp; omega) ?_; intro v2 w2 ho2 ha2; have HO2 := hid ho2; have HB2 := hid (ha2.below (own_drewA HO1.out) (by simp; omega)); clear ho2 ha2 tk2))
      go_roundg (n - (k + 1))
      case measure => omega
      case rel =>
        refine ⟨k + 1, by omega, rfl, by go_num, ?_, ?_⟩
        · have := HO2.out
          rw [HLS.out, HTK.out, sentL_snoc]
          have e8 : (x.size : Int) % 256 = x.size := by omega
          simpa [bytesV, Nat.add_assoc, Nat.add_comm 1, e8] using this
        · exact ((HB1.out.alloc HB1.out.size _).drew).trans HB2.out
    · obtain rfl : k = n := by omega
      have ho := HO.out
      rw [List.take_of_length_le (by rw [H.out.len]; exact Nat.le_refl _)] at ho
      have HO' := hid ho
      have ab1 : (lsum l + 1) * 1 ≤ 140737488355328 := by omega
      have ab2 : lsum l + 1 ≤ maxLen := by unfold maxLen; omega
      clear ho
      go_wp2_with (at_builtin; refine wpList_appT rfl _ _ 22 rfl w.heap.size 5 1 1 el_u8 _ (lsum l) _ rfl (HO'.out.alloc _) _ 1 1 [.int .u8 0] rfl (src_one _ rfl rfl) ab1 ab2 (by simp; omega) ?_; intro v3 w3 ho3 ha3; have HB3 := hid ((HLOW.out.alloc hzw _).trans (ha3.below (HO'.out.alloc _) (by simp; omega))); have HO3 := hid ho3; clear ho3 ha3)
      go_ret
      obtain ⟨A', c', rfl, hr⟩ := own_rd_u8 (l := sentL l ++ [0]) (by simpa [bytesV] using HO3.out) HB3.out.size (by omega)
      exact ⟨A', c', rfl, hr, HB3.out⟩
end Go.Proofs.Ytkdfiedemhjjjaa
/- The document's answers of names as they are sent: Start, Packed. -/
namespace Go.Proofs.Ytkdfiedemhjjjaa
open Go.RowKit
set_option linter.unusedVariables false
set_option linter.unusedSimpArgs false

end Go.Proofs.Ytkdfiedemhjjjaa
/- The document's answers of names as they are sent: Packed. -/
namespace Go.Proofs.Ytkdfiedemhjjjaa
open Go.RowKit
set_option linter.unusedVariables false
set_option linter.unusedSimpArgs false

theorem packL_skip (m : List UInt8) (ss : List Int) (l : List ByteArray) : ∃ K, K ≤ l.length ∧ (∀ j, j < K → findS m (l.drop j) ss < 0) ∧ (K = l.length ∨ 0 ≤ findS m (l.drop K) ss) := by
  have key : ∀ d K, K ≤ l.length → l.length - K ≤ d → (∀ j, j < K → findS m (l.drop j) ss < 0) → ∃ K, K ≤ l.length ∧ (∀ j, j < K → findS m (l.drop j) ss < 0) ∧ (K = l.length ∨ 0 ≤ findS m (l.drop K) ss) := by
    intro d
    induction d with
    | zero => intro K h1 h2 h3; exact ⟨K, h1, h3, .inl (by omega)⟩
    | succ d ih =>
      intro K h1 h2 h3
      by_cases h4 : 0 ≤ findS m (l.drop K) ss
      · exact ⟨K, h1, h3, .inr h4⟩
      · by_cases h5 : K = l.length
        · exact ⟨K, h1, h3, .inl h5⟩
        · exact ih (K + 1) (by omega) (by omega) (fun j hj => by
            by_cases c : j = K
            · subst c; omega
            · exact h3 j (by omega))
  exact key l.length 0 (Nat.zero_le _) (by omega) (fun j hj => by omega)
theorem sent_take {l : List ByteArray} {X : List UInt8} {r : Nat} (hr : (sentL l).length = r) : (sentL l ++ X).take r = sentL l := by
  subst hr
  simp
theorem Rd.src_int {w : World} {B n c : Nat} {A : Option Addr} {l : List Int} (h : Rd intR w B A n c l) : Src w A n c 1 (intsV l) := by
  obtain ⟨ys, hr, hs⟩ := h.src (R := intR) fun a vs (hv : vs = _ ∧ _) u hu => by
    rw [hv.1] at hu
    simp at hu
    subst hu
    rfl
  obtain ⟨vss, h1, rfl, hv⟩ := hr
  have : vss = l.map fun s => [Value.int .i64 s] := by
    apply List.ext_getElem (by simpa using h1)
    intro i hi hi'
    simp only [List.getElem_map]
    exact (hv i (by omega) hi).1
  rw [this] at hs
  rw [flat_int] at hs
  exact hs
theorem rptr_cells (p : Int) (h0 : 0 ≤ p) (h1 : p ≤ 16383) : [Value.int .u8 (192 + p / 256), Value.int .u8 (p % 256)] = bytesV (ptrB p) := by
  obtain ⟨q, rfl⟩ : ∃ q : Nat, p = (q : Int) := ⟨p.toNat, by omega⟩
  simp only [bytesV, ptrB, List.map_cons, List.map_nil, Int.toNat_natCast, UInt8.toNat_ofNat']
  congr 2 <;> (try congr 1) <;> omega
theorem pkR_ok {w w' : World} {m : List UInt8} {ss : List Int} {l : List ByteArray} {v v' : Value} {X : List UInt8} {Y : List Int} (hp : packL m ss l m ss = (X, Y)) (ho : w'.ownsRow w.heap.size 5 1 v X.length (bytesV X)) (ha : w'.ownsRow w.heap.size 3 1 v' Y.length (intsV Y)) (hap : Apart v v')
    (hi : ∀ s ∈ Y, I64 s) (hb : Below w.heap.size w w') (hX : X.length ≤ 140737488355328) (hY : Y.length * 8 ≤ 140737488355328) :
    ∃ u u', Ending.returned (.tuple #[v, v']) = .returned (.tuple #[u, u']) ∧ OwnP w w' m ss l u u' ∧ Below w.heap.size w w' :=
  ⟨v, v', rfl, ownP_of hp ho ha hap hi hX hY, hb⟩
theorem rsrc_ptr {w1 : World} {t : TypeId} (p : Int) (h0 : 0 ≤ p) (h1 : p ≤ 16383) : Src (w1.alloc (.cells #[.int .u8 (192 + p / 256), .int .u8 (p % 256)] t)) (some ⟨w1.heap.size, 0, none⟩) 2 2 1 (bytesV (ptrB p)) := by
  rw [← rptr_cells p h0 h1]
  exact src_lit (w := w1) (t := t) #[.int .u8 (192 + p / 256), .int .u8 (p % 256)] rfl (by simp [Value.oneCell']) rfl

end Go.Proofs.Ytkdfiedemhjjjaa
/- The document's Packed, whichever way it goes. -/
namespace Go.Proofs.Ytkdfiedemhjjjaa
open Go.RowKit
set_option linter.unusedVariables false
set_option linter.unusedSimpArgs false

end Go.Proofs.Ytkdfiedemhjjjaa
/- Plain laws of names in a row: three-way comparison, one behind the other; ends of names. No walk. -/
namespace Go.Proofs.Ytkdfiedemhjjjaa
open Go.RowKit
set_option linter.unusedVariables false
set_option linter.unusedSimpArgs false

structure Ord3 {α : Type} (c : α → α → Int) : Prop where
  tri : ∀ x y, c x y = -1 ∨ c x y = 0 ∨ c x y = 1
  anti : ∀ x y, c y x = - c x y
  trans : ∀ x y z, c x y ≤ 0 → c y z ≤ 0 → c x z ≤ 0
def lex {α : Type} (c : α → α → Int) : List α → List α → Int
  | [], [] => 0
  | [], _ :: _ => -1
  | _ :: _, [] => 1
  | a :: l, b :: m => if c a b = 0 then lex c l m else c a b
theorem Ord3.zero_trans {α : Type} {c : α → α → Int} (h : Ord3 c) {x y z : α} (h1 : c x y = 0) (h2 : c y z = 0) : c x z = 0 := by
  have a := h.trans x y z (by omega) (by omega)
  have b := h.trans z y x (by rw [h.anti]; omega) (by rw [h.anti]; omega)
  rw [h.anti] at b
  omega
theorem Ord3.lt_of {α : Type} {c : α → α → Int} (h : Ord3 c) {x y z : α} (h1 : c x y ≤ 0) (h2 : c y z ≤ 0) (h3 : c x z = 0) : c x y = 0 ∧ c y z = 0 := by
  have a := h.trans y z x h2 (by rw [h.anti]; omega)
  have b := h.trans z x y (by rw [h.anti]; omega) h1
  rw [h.anti] at a b
  omega
theorem lex_ord {α : Type} {c : α → α → Int} (h : Ord3 c) : Ord3 (lex c) := by
  refine ⟨?_, ?_, ?_⟩
  · intro x
    induction x with
    | nil => intro y; cases y <;> simp [lex]
    | cons a l ih =>
      intro y
      cases y with
      | nil => simp [lex]
      | cons b m =>
        unfold lex
        split
        · exact ih m
        · exact h.tri a b
  · intro x
    induction x with
    | nil => intro y; cases y <;> simp [lex]
    | cons a l ih =>
      intro y
      cases y with
      | nil => simp [lex]
      | cons b m =>
        unfold lex
        have := h.anti a b
        by_cases e : c a b = 0
        · rw [if_pos e, if_pos (by omega)]; exact ih m
        · rw [if_neg e, if_neg (by omega)]; exact this
  · intro x
    induction x with
    | nil => intro y z _ _; cases z <;> simp [lex]
    | cons a l ih =>
      intro y z h1 h2
      cases y with
      | nil => simp [lex] at h1
      | cons b m =>
        cases z with
        | nil => simp [lex] at h2
        | cons d r =>
          unfold lex at h1 h2 ⊢
          by_cases e1 : c a b = 0
          · rw [if_pos e1] at h1
            by_cases e2 : c b d = 0
            · rw [if_pos e2] at h2
              rw [if_pos (h.zero_trans e1 e2)]
              exact ih m r h1 h2
            · rw [if_neg e2] at h2
              have ht := h.trans a b d (by omega) h2
              have hne : c a d ≠ 0 := fun e3 => e2 (h.lt_of (by omega) h2 e3).2
              rw [if_neg hne]; exact ht
          · rw [if_neg e1] at h1
            by_cases e2 : c b d = 0
            · rw [if_pos e2] at h2
              have ht := h.trans a b d h1 (by omega)
              have hne : c a d ≠ 0 := fun e3 => e1 (h.lt_of h1 (by omega) e3).1
              rw [if_neg hne]; exact ht
            · rw [if_neg e2] at h2
              have ht := h.trans a b d h1 h2
              have hne : c a d ≠ 0 := fun e3 => e1 (h.lt_of h1 h2 e3).1
              rw [if_neg hne]; exact ht
theorem lex_zero {α β : Type} {c : α → α → Int} {f : α → β} (h : ∀ x y, c x y = 0 ↔ f x = f y) : ∀ x y, lex c x y = 0 ↔ x.map f = y.map f := by
  intro x
  induction x with
  | nil => intro y; cases y <;> simp [lex]
  | cons a l ih =>
    intro y
    cases y with
    | nil => simp [lex]
    | cons b m =>
      unfold lex
      simp only [List.map_cons, List.cons.injEq, ← h, ← ih]
      by_cases e : c a b = 0
      · simp [e]
      · simp [e]
/-- what begins with another one is not ahead of it -/
theorem lex_prefix {α β : Type} {c : α → α → Int} {f : α → β} (h : ∀ x y, c x y = 0 ↔ f x = f y) : ∀ x y : List α, y.map f <+: x.map f → 0 ≤ lex c x y := by
  intro x
  induction x with
  | nil =>
    intro y hp
    cases y with
    | nil => simp [lex]
    | cons b m => have := hp.length_le; simp at this
  | cons a l ih =>
    intro y hp
    cases y with
    | nil => simp [lex]
    | cons b m =>
      simp only [List.map_cons, List.cons_prefix_cons] at hp
      unfold lex
      rw [if_pos ((h a b).2 hp.1.symm)]
      exact ih m hp.2

def cmpByte (a b : UInt8) : Int := if a < b then -1 else if b < a then 1 else 0
theorem cmpByte_ord : Ord3 cmpByte := by
  refine ⟨fun x y => ?_, fun x y => ?_, fun x y z h1 h2 => ?_⟩
  · unfold cmpByte; split <;> (try split) <;> simp
  · unfold cmpByte
    simp only [UInt8.lt_iff_toNat_lt]
    split <;> split <;> (try split) <;> (try omega) <;> simp
  · unfold cmpByte at *
    simp only [UInt8.lt_iff_toNat_lt] at *
    split at h1 <;> (try split at h1) <;> split at h2 <;> (try split at h2) <;> (try omega) <;> (split <;> (try split) <;> omega)
theorem cmpByte_zero (x y : UInt8) : cmpByte x y = 0 ↔ id x = id y := by
  unfold cmpByte
  simp only [UInt8.lt_iff_toNat_lt, id]
  constructor
  · intro h
    split at h
    · cases h
    · split at h
      · cases h
      · exact UInt8.toNat_inj.1 (by omega)
  · rintro rfl; simp
theorem compareBytes_lex : ∀ a b : List UInt8, Go.Lib.compareBytes a b = lex cmpByte a b := by
  intro a
  induction a with
  | nil => intro b; cases b <;> rfl
  | cons x l ih =>
    intro b
    cases b with
    | nil => rfl
    | cons y m =>
      rw [Go.Lib.compareBytes, lex, ih m]
      unfold cmpByte
      by_cases h1 : x < y
      · simp [h1]
      · by_cases h2 : y < x
        · simp [h1, h2]
        · simp [h1, h2]
theorem smallS_inj (a b : ByteArray) : smallL a.data.toList = smallL b.data.toList ↔ smallS a = smallS b := by
  unfold smallS
  constructor
  · intro h; rw [h]
  · intro h
    injection h with h
    have := congrArg Array.toList h
    simpa using this
theorem cmpB_ord : Ord3 cmpB := by
  have h := lex_ord cmpByte_ord
  refine ⟨fun x y => ?_, fun x y => ?_, fun x y z => ?_⟩
  · unfold cmpB; rw [compareBytes_lex]; exact h.tri _ _
  · unfold cmpB; rw [compareBytes_lex, compareBytes_lex]; exact h.anti _ _
  · unfold cmpB; rw [compareBytes_lex, compareBytes_lex, compareBytes_lex]; exact h.trans _ _ _
theorem cmpB_zero (x y : ByteArray) : cmpB x y = 0 ↔ smallS x = smallS y := by
  unfold cmpB
  rw [compareBytes_lex, lex_zero cmpByte_zero, ← smallS_inj]
  simp
theorem cmpL_lex : ∀ a b : List ByteArray, cmpL a b = lex cmpB a b := by
  intro a
  induction a with
  | nil => intro b; cases b <;> rfl
  | cons x l ih =>
    intro b
    cases b with
    | nil => rfl
    | cons y m => rw [cmpL, lex, ih m]
theorem cmpL_ord : Ord3 cmpL := by
  have h := lex_ord cmpB_ord
  refine ⟨fun x y => ?_, fun x y => ?_, fun x y z => ?_⟩
  · rw [cmpL_lex]; exact h.tri _ _
  · rw [cmpL_lex, cmpL_lex]; exact h.anti _ _
  · rw [cmpL_lex, cmpL_lex, cmpL_lex]; exact h.trans _ _ _
theorem cmpL_zero (x y : List ByteArray) : cmpL x y = 0 ↔ x.map smallS = y.map smallS := by
  rw [cmpL_lex]; exact lex_zero cmpB_zero x y

/-- which one is ahead, as Compare has it -/
def cmpN (a b : List ByteArray) : Int := cmpL a.reverse b.reverse
theorem cmpN_zero (a b : List ByteArray) : cmpN a b = 0 ↔ a.map smallS = b.map smallS := by
  unfold cmpN
  rw [cmpL_zero, List.map_reverse, List.map_reverse]
  exact List.reverse_inj
theorem sameL_iff (a b : List ByteArray) : sameL a b = decide (cmpN a b = 0) := by
  unfold sameL
  rw [decide_eq_decide]
  exact (cmpN_zero a b).symm
theorem underL_iff (a b : List ByteArray) : underL a b = true ↔ b.map smallS <:+ a.map smallS := by
  unfold underL sameL
  simp only [Bool.and_eq_true, decide_eq_true_eq]
  constructor
  · rintro ⟨_, h⟩
    rw [← h, List.map_drop]
    exact List.drop_suffix _ _
  · intro h
    have hl := h.length_le
    simp only [List.length_map] at hl
    refine ⟨hl, ?_⟩
    have := List.suffix_iff_eq_drop.1 h
    rw [List.map_drop, this]
    simp
theorem under_ge {a b : List ByteArray} (h : underL a b = true) : 0 ≤ cmpN a b := by
  unfold cmpN
  rw [cmpL_lex]
  refine lex_prefix cmpB_zero _ _ ?_
  rw [List.map_reverse, List.map_reverse, List.reverse_prefix]
  exact (underL_iff a b).1 h
theorem under_both (a b : List ByteArray) : (underL a b && underL b a) = decide (cmpN a b = 0) := by
  rw [Bool.eq_iff_iff, Bool.and_eq_true, underL_iff, underL_iff, decide_eq_true_iff, cmpN_zero]
  constructor
  · rintro ⟨h1, h2⟩
    exact (h2.eq_of_length (Nat.le_antisymm h2.length_le h1.length_le))
  · intro h
    rw [h]
    exact ⟨List.suffix_refl _, List.suffix_refl _⟩
theorem under_trans {a b c : List ByteArray} (h1 : underL a b = true) (h2 : underL b c = true) : underL a c = true := by
  rw [underL_iff] at *
  exact h2.trans h1
theorem under_self (a : List ByteArray) : underL a a = true := (underL_iff a a).2 (List.suffix_refl _)
theorem under_nil (a : List ByteArray) : underL a [] = true := (underL_iff a []).2 (List.nil_suffix)
theorem lowB_lowB (b : UInt8) : lowB (lowB b) = lowB b := by
  unfold lowB
  have := b.toNat_lt
  by_cases h : 65 ≤ b.toNat ∧ b.toNat ≤ 90
  · rw [if_pos h, UInt8.toNat_ofNat', Nat.mod_eq_of_lt (by omega), if_neg (by omega)]
  · rw [if_neg h, if_neg h]
theorem smallS_smallS (s : ByteArray) : smallS (smallS s) = smallS s := by
  unfold smallS smallL
  simp [lowB_lowB]
theorem fold_fold (a : List ByteArray) : (a.map smallS).map smallS = a.map smallS := by
  rw [List.map_map]
  exact List.map_congr_left fun s _ => smallS_smallS s
end Go.Proofs.Ytkdfiedemhjjjaa
/- A region that draws its order and whose calls may lay new blocks, but hand back values that do not hang on where: walked once. No function of the program. -/
namespace Go.Proofs.Ytkdfiedemhjjjaa
open Go.RowKit
set_option linter.unusedVariables false
set_option linter.unusedSimpArgs false

/-- the world with more behind -/
structure Behind where
  os : Array Obj
  d : Nat
instance : Nonempty Behind := ⟨⟨#[], 0⟩⟩
def exts (w : World) (x : Behind) : World := ext w x.os x.d
theorem exts_below {B : Nat} {w0 w : World} (h : Below B w0 w) (hB : B ≤ w.heap.size) (x : Behind) : Below B w0 (exts w x) := Below.ext h hB x.os x.d
@[go_sem] theorem cell_exts (w : World) (x : Behind) (n i : Nat) (h : n < w.heap.size) : (exts w x).cell? ⟨n, i, none⟩ = w.cell? ⟨n, i, none⟩ := cell_ext w x.os x.d n i h
@[go_sem] theorem frozen_exts (w : World) (x : Behind) (n i : Nat) (h : n < w.heap.size) : (exts w x).frozen? ⟨n, i, none⟩ = w.frozen? ⟨n, i, none⟩ := frozen_ext w x.os x.d n i h

theorem wp_region_ext {P : Program} {id : Nat} {Q : Exit → Act → World → Prop} {a : Act} {w : World} {l : List Oper} (hm : P.follows .mixedOrders = true) (hB : Region.lexB .any l.toArray = true)
    (h : wpQuiet P l.toArray (fun w' => ∃ x, w' = exts w x) (fun a' => ∀ w', (∃ x, w' = exts w x) → Q .normal a' w') l a) : (Code.region id l.toArray true).wp P Q a w :=
  wp_region_quiet (C := fun w' => ∃ x, w' = exts w x) hm hB ⟨⟨#[], w.drawn + 1⟩, by simp [exts, ext]⟩ (by simpa using h)
theorem Calls.quiet_ext {P : Program} {f : FuncId} {args : Array Value} {w : World} {x : Behind} {v : Value}
    (h : Calls P f args (exts w x) fun e w' => e = .returned v ∧ Below (exts w x).heap.size (exts w x) w') : Calls P f args (exts w x) fun e w'' => e = .returned v ∧ ∃ y, w'' = exts w y :=
  h.mono fun _ _ ⟨he, hb⟩ => ⟨he, by
    obtain ⟨os, d, h⟩ := ext_of_below ((below_ext w x.os x.d).trans (hb.mono (by simp [exts, ext])))
    exact ⟨⟨os, d⟩, h⟩⟩
end Go.Proofs.Ytkdfiedemhjjjaa
/- The document's answers of names: NameFault, Small, Folded, Numbers, Labels. -/
namespace Go.Proofs.Ytkdfiedemhjjjaa
open Go.RowKit
set_option linter.unusedVariables false
set_option linter.unusedSimpArgs false

/-! Folded -/
/-- 'string(b)', b a row of the call's own -/
theorem conv_own {w : World} {base n : Nat} {v : Value} {l : List UInt8} (h : w.ownsRow base 5 1 v n (bytesV l)) : (convert 22 9 v).run Try.prog w = .ok (.string ⟨l.toArray⟩) w := by
  have hl : l.length = n := by have := h.1; simpa [bytesV] using this
  rcases h.2 with ⟨rfl, rfl⟩ | ⟨g, cap, cur, rfl, hb, hh, hnc, hcm, hcs, ht⟩
  · have : l = [] := List.eq_nil_of_length_eq_zero hl
    subst this
    exact run_convert_bytes_nil _ 22 5 Try.underlying22 Try.underlying5 0 0 9 Try.underlying9
  · have := run_convert_bytes_back w 22 9 5 ⟨g, 0, none⟩ cap l Try.underlying22 Try.underlying5 Try.underlying9 (by
      intro j hj
      have := h.cells (g := g) rfl j (.int .u8 (l[j].toNat : Int)) (by rw [bytesV, List.getElem?_map, List.getElem?_eq_getElem hj]; rfl)
      simpa using this)
    rwa [hl] at this

/-! Labels -/
theorem lex_byte_nil (a : List UInt8) (k : Nat) (b : List UInt8) (ha : a.length = k ∨ b.length = k) (hk : k ≤ a.length) (hk' : k ≤ b.length) : lex cmpByte (a.drop k) (b.drop k) = if a.length < b.length then -1 else if b.length < a.length then 1 else 0 := by
  rcases ha with h | h
  · rw [List.drop_eq_nil_of_le (by omega)]
    by_cases e : b.length = k
    · rw [List.drop_eq_nil_of_le (by omega), if_neg (by omega), if_neg (by omega)]; rfl
    · rw [List.drop_eq_getElem_cons (by omega), if_pos (by omega)]; rfl
  · rw [show b.drop k = [] from List.drop_eq_nil_of_le (by omega)]
    by_cases e : a.length = k
    · rw [List.drop_eq_nil_of_le (by omega), if_neg (by omega), if_neg (by omega)]; rfl
    · rw [List.drop_eq_getElem_cons (by omega), if_neg (by omega), if_pos (by omega)]; rfl
theorem cmpB_lex (a b : ByteArray) : cmpB a b = lex cmpByte (smallL a.data.toList) (smallL b.data.toList) := by unfold cmpB; exact compareBytes_lex _ _

theorem lex_step {x y : UInt8} {l m : List UInt8} {k : Nat} (hl : k < l.length) (hm : k < m.length) (hx : l[k] = x) (hy : m[k] = y) : lex cmpByte (l.drop k) (m.drop k) = if cmpByte x y = 0 then lex cmpByte (l.drop (k + 1)) (m.drop (k + 1)) else cmpByte x y := by
  rw [List.drop_eq_getElem_cons hl, List.drop_eq_getElem_cons hm, lex, hx, hy]

end Go.Proofs.Ytkdfiedemhjjjaa
