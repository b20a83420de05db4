/- NameBack is true of every input of at most 1048576 values and letters in all: a name is its text, there and back, and back and there. Condition: the bound on what comes in. -/
import Derived.Test.YtbjjmikiefgnaaaReadN
import Derived.OpenShut
import Derived.JoinedCond
namespace Go.Proofs.Ytbjjmikiefgnaaa
open Go.ChangeShapes Go.WideShapes Go.ChangeAt Go.RowKit
set_option linter.unusedVariables false
namespace nameBack

theorem rd_of_blk_str {w : World} {g : Nat} {t : TypeId} {cs : Array Value} (l : List ByteArray) (h : Blk w g t cs) (hl : cs.toList = strsV l) (hs : ∀ s ∈ l, s.size ≤ 140737488355328) (hm : l.length ≤ 1000) : Rd strR w w.heap.size (some ⟨g, 0, none⟩) l.length l.length l := by
  refine ⟨rfl, Nat.le_refl _, by unfold maxLen; omega, by simp only [strR]; omega, fun e => (by cases e), fun i hi => ?_⟩
  refine ⟨g, 0, _, rfl, h.lt, ⟨rfl, hs _ (List.getElem_mem hi)⟩, fun j u hu => ?_⟩
  have hj : j = 0 := by
    cases j with
    | zero => rfl
    | succ j => simp at hu
  subst hj
  simp at hu
  subst hu
  have := h.cell i
  rw [← Array.getElem?_toList, hl] at this
  simpa [strR, strsV, hi] using this
theorem lit_rd {w : World} {g : Nat} (t : TypeId) (s : ByteArray) (hs : s.size ≤ 140737488355328) (hg : g = w.heap.size) : Rd strR (w.alloc (.cells #[.string s] t)) (w.alloc (.cells #[.string s] t)).heap.size (some ⟨g, 0, none⟩) 1 1 [s] :=
  rd_of_blk_str [s] (Blk.new' t _ hg) rfl (by simpa using hs) (by simp)
theorem mk_nam (l : List ByteArray) : mkL (namL l) = l := by
  unfold mkL namL
  rw [List.map_map]
  have : ((fun l : List UInt8 => (⟨l.toArray⟩ : ByteArray)) ∘ fun s : ByteArray => s.data.toList) = id := by
    funext s
    cases s
    rfl
  rw [this, List.map_id]
theorem read_text_ok {l : List ByteArray} (h : nameErr l = 0) : readOk (textS l) = some l := by
  have h1 := (err_small h).1
  have h2 : readT (textS l).data.toList = some (namL l, true) := read_text fun x hx => by
    obtain ⟨s, hs, rfl⟩ := List.mem_map.1 hx
    have := (h1 s hs).1
    intro e
    have h3 : s.data.toList.length = s.size := by rw [Array.length_toList]; rfl
    rw [e] at h3
    simp at h3
    omega
  unfold readOk
  rw [h2]
  simp only
  rw [mk_nam, if_pos ⟨h, rfl⟩]
theorem text_size {l : List ByteArray} (h : nameErr l = 0) : (textS l).size ≤ 1048576 := by
  obtain ⟨h1, h2⟩ := err_small h
  have h3 := accT_len (l := l) (fun s hs => (h1 s hs).2) l.length (Nat.le_refl _)
  have h4 : (textS l).size = (textT (namL l)).length := by unfold textS; simp [ByteArray.size]
  rw [h4]
  unfold textT
  split
  · simp
  · unfold accT at h3
    rw [List.take_of_length_le (by simp [namL])] at h3
    omega
theorem read_back {s : ByteArray} {l : List ByteArray} (h : readOk s = some l) : nameErr l = 0 ∧ textS l = s := by
  unfold readOk at h
  split at h
  · split at h
    · rename_i hh
      cases h
      exact hh
    · cases h
  · cases h
theorem fact_ok : readOk ⟨#[97, 92, 46, 98, 46]⟩ = some [⟨#[97, 46, 98]⟩] := by
  have h : nameErr [⟨#[97, 46, 98]⟩] = 0 := by decide
  have := read_text_ok h
  rw [show textS [⟨#[97, 46, 98]⟩] = ⟨#[97, 92, 46, 98, 46]⟩ by rfl] at this
  exact this

theorem read_yes {w : World} (s : ByteArray) (hs : s.size ≤ 1048576) {l : List ByteArray} (h : readOk s = some l) {n : Nat} (hn : l.length = n) :
    Calls Try.prog 19 #[.string s] w fun e w' => ∃ A c, e = .returned (.tuple #[.slice A n c, .nilIface]) ∧ Rd strR w' w'.heap.size A n c l ∧ Below w.heap.size w w' := by
  refine (readN_any s hs).mono ?_
  rintro e w' ⟨hb, (⟨h', _⟩ | ⟨l', n', A, c, hl, hn', rfl, hr⟩)⟩
  · rw [h] at h'; cases h'
  · rw [h] at hl
    have e1 : l = l' := Option.some.inj hl
    subst e1
    rw [hn] at hn'
    subst hn'
    exact ⟨A, c, rfl, hr, hb⟩
theorem read_no {w : World} (s : ByteArray) (hs : s.size ≤ 1048576) (h : readOk s = none) :
    Calls Try.prog 19 #[.string s] w fun e w' => e = .returned (.tuple #[.slice none 0 0, .iface 22 (.int .i64 1)]) ∧ Below w.heap.size w w' := by
  refine (readN_any s hs).mono ?_
  rintro e w' ⟨hb, (⟨_, h'⟩ | ⟨l', n', A, c, hl, hn', rfl, hr⟩)⟩
  · exact ⟨h', hb⟩
  · rw [h] at hl; cases hl
theorem texts_yes' {w : World} {A1 : Option Addr} {n1 c1 B1 : Nat} {l : List ByteArray} {A2 : Option Addr} {n2 c2 B2 : Nat} (h1 : Rd strR w B1 A1 n1 c1 l) (h2 : Rd strR w B2 A2 n2 c2 l) :
    Calls Try.prog 16 #[.slice A1 n1 c1, .slice A2 n2 c2] w fun e w' => e = .returned (.bool true) ∧ Below w.heap.size w w' := by
  have := texts_any w _ _ _ _ _ h1 _ _ _ _ _ h2
  rwa [decide_eq_true rfl] at this

set_option maxRecDepth 100000 in
set_option maxHeartbeats 8000000 in
theorem walkUpto (w : World) (A1 : Option Addr) (n1 c1 : Nat) (l : List ByteArray) (h1 : Rd strR w w.heap.size A1 n1 c1 l) (s : ByteArray) (hs0 : s.size ≤ 140737488355328) (hz : s.size + 1 ≤ 1048576) :
    Calls Try.prog 6 #[.slice A1 n1 c1, .string s] w fun e w' => e = .returned (.bool true) ∧ Below w.heap.size w w' := by
  have CF := hid (fun w' => read_yes (w := w') ⟨#[97, 92, 46, 98, 46]⟩ (by decide) fact_ok (n := 1) rfl)
  have CT0 := fun w' (hb : Below w.heap.size w w') => text_any (h1.later hb)
  have H1 := hid h1
  have hl := h1.len
  have hsz : s.size ≤ 1048576 := by omega
  clear h1 hz hs0
  have tk0 : True := trivial; have tk1 : True := trivial; have tk2 : True := trivial; have tk3 : True := trivial; have tk4 : True := trivial; have tk5 : True := trivial; have tk6 : True := trivial; have tk7 : True := trivial; have tk8 : True := trivial; have tk9 : True := trivial; have tk10 : True := trivial; have tk11 : True := trivial; have tk12 : True := trivial
  by_cases h0 : nameErr l = 0
  · have ht : textR l = textS l := if_pos h0
    have CR2 := hid (fun w' => read_yes (w := w') (textS l) (text_size h0) (read_text_ok h0) hl)
    simp only [ht, h0, show errV 0 = .nilIface from rfl] at CT0
    generalize textS l = t at *
    have CT := hid CT0
    clear CT0 h0 ht
    cases hr : readOk s with
    | none =>
      have CS := hid (fun w' => read_no (w := w') s hsz hr)
      clear hr hl
      go_enter Try.func6, Try.ntmps6
      go_wp2_with (first
        | (go_at_call 19; have _t := tk1; (with_reducible refine (CF.out _).mono ?_); rintro e w1 ⟨Atk1, ctk1, rfl, hr, hb⟩; obtain ⟨otk1, dtk1, rfl⟩ := ext_of_below hb; (try simp only [ext_drew, ext_drewN] at hr); have R1 := hid hr; clear hr; clear hb tk1)
        | (go_at_call 16; have _t := tk2; (with_reducible refine (texts_yes' (R1.out.below (by (repeat' (first | (with_reducible exact Below.refl _ _) | (with_reducible assumption) | (with_reducible refine below_ext0 ?_ _ _) | (with_reducible refine below_alloc0 ?_ _) | (with_reducible refine Below.ext ?_ ?_ _ _) | (with_reducible refine Below.alloc ?_ ?_ _) | (with_reducible refine Below.setCell ?_ ?_ _) | (with_reducible refine Below.drew ?_) | (with_reducible refine below_draws ?_ _) | go_size | (simp [size_ext]; done) | (simp [size_ext]; omega))))) (lit_rd 9 ⟨#[97, 46, 98]⟩ (by decide) (by simp [size_ext]))).mono ?_); rintro e w1 ⟨rfl, hb⟩; obtain ⟨otk2, dtk2, rfl⟩ := ext_of_below hb; clear hb tk2)
        | (go_at_call 20; have _t := tk3; (with_reducible refine (CT.out _ (by (repeat' (first | (with_reducible exact Below.refl _ _) | (with_reducible assumption) | (with_reducible refine below_ext0 ?_ _ _) | (with_reducible refine below_alloc0 ?_ _) | (with_reducible refine Below.ext ?_ ?_ _ _) | (with_reducible refine Below.alloc ?_ ?_ _) | (with_reducible refine Below.setCell ?_ ?_ _) | (with_reducible refine Below.drew ?_) | (with_reducible refine below_draws ?_ _) | go_size | (simp [size_ext]; done) | (simp [size_ext]; omega))))).mono ?_); rintro e w1 ⟨rfl, hb⟩; obtain ⟨otk3, dtk3, rfl⟩ := ext_of_below hb; clear hb tk3)
        | (go_at_call 19; have _t := tk4; (with_reducible refine (CR2.out _).mono ?_); rintro e w1 ⟨Atk4, ctk4, rfl, hr, hb⟩; obtain ⟨otk4, dtk4, rfl⟩ := ext_of_below hb; (try simp only [ext_drew, ext_drewN] at hr); have R2 := hid hr; clear hr; clear hb tk4)
        | (go_at_call 16; have _t := tk5; (with_reducible refine (texts_yes' (R2.out.below (by (repeat' (first | (with_reducible exact Below.refl _ _) | (with_reducible assumption) | (with_reducible refine below_ext0 ?_ _ _) | (with_reducible refine below_alloc0 ?_ _) | (with_reducible refine Below.ext ?_ ?_ _ _) | (with_reducible refine Below.alloc ?_ ?_ _) | (with_reducible refine Below.setCell ?_ ?_ _) | (with_reducible refine Below.drew ?_) | (with_reducible refine below_draws ?_ _) | go_size | (simp [size_ext]; done) | (simp [size_ext]; omega))))) (H1.out.below (by (repeat' (first | (with_reducible exact Below.refl _ _) | (with_reducible assumption) | (with_reducible refine below_ext0 ?_ _ _) | (with_reducible refine below_alloc0 ?_ _) | (with_reducible refine Below.ext ?_ ?_ _ _) | (with_reducible refine Below.alloc ?_ ?_ _) | (with_reducible refine Below.setCell ?_ ?_ _) | (with_reducible refine Below.drew ?_) | (with_reducible refine below_draws ?_ _) | go_size | (simp [size_ext]; done) | (simp [size_ext]; omega)))))).mono ?_); rintro e w1 ⟨rfl, hb⟩; obtain ⟨otk5, dtk5, rfl⟩ := ext_of_below hb; clear hb tk5)
        | (go_at_call 19; have _t := tk6; (with_reducible refine (CS.out _).mono ?_); rintro e w1 ⟨rfl, hb⟩; obtain ⟨otk6, dtk6, rfl⟩ := ext_of_below hb; clear hb tk6))
      go_ret
      exact ⟨rfl, by (repeat' (first | (with_reducible exact Below.refl _ _) | (with_reducible assumption) | (with_reducible refine below_ext0 ?_ _ _) | (with_reducible refine below_alloc0 ?_ _) | (with_reducible refine Below.ext ?_ ?_ _ _) | (with_reducible refine Below.alloc ?_ ?_ _) | (with_reducible refine Below.setCell ?_ ?_ _) | (with_reducible refine Below.drew ?_) | (with_reducible refine below_draws ?_ _) | go_size | (simp [size_ext]; done) | (simp [size_ext]; omega)))⟩
    | some m =>
      obtain ⟨hm0, hms⟩ := read_back hr
      have CS := hid (fun w' => read_yes (w := w') s hsz hr rfl)
      have CM := hid (fun w' A c (h : Rd strR w' w'.heap.size A m.length c m) => (show Calls Try.prog 20 #[.slice A m.length c] w' fun e w2 => e = .returned (.tuple #[.string s, .nilIface]) ∧ Below w'.heap.size w' w2 from by
        have := text_any h
        rwa [show textR m = s by unfold textR; rw [if_pos hm0, hms], hm0, show errV 0 = .nilIface from rfl] at this))
      clear hr hl hm0 hms
      generalize m.length = nm at *
      go_enter Try.func6, Try.ntmps6
      go_wp2_with (first
        | (go_at_call 19; have _t := tk1; (with_reducible refine (CF.out _).mono ?_); rintro e w1 ⟨Atk1, ctk1, rfl, hr, hb⟩; obtain ⟨otk1, dtk1, rfl⟩ := ext_of_below hb; (try simp only [ext_drew, ext_drewN] at hr); have R1 := hid hr; clear hr; clear hb tk1)
        | (go_at_call 16; have _t := tk2; (with_reducible refine (texts_yes' (R1.out.below (by (repeat' (first | (with_reducible exact Below.refl _ _) | (with_reducible assumption) | (with_reducible refine below_ext0 ?_ _ _) | (with_reducible refine below_alloc0 ?_ _) | (with_reducible refine Below.ext ?_ ?_ _ _) | (with_reducible refine Below.alloc ?_ ?_ _) | (with_reducible refine Below.setCell ?_ ?_ _) | (with_reducible refine Below.drew ?_) | (with_reducible refine below_draws ?_ _) | go_size | (simp [size_ext]; done) | (simp [size_ext]; omega))))) (lit_rd 9 ⟨#[97, 46, 98]⟩ (by decide) (by simp [size_ext]))).mono ?_); rintro e w1 ⟨rfl, hb⟩; obtain ⟨otk2, dtk2, rfl⟩ := ext_of_below hb; clear hb tk2)
        | (go_at_call 20; have _t := tk3; (with_reducible refine (CT.out _ (by (repeat' (first | (with_reducible exact Below.refl _ _) | (with_reducible assumption) | (with_reducible refine below_ext0 ?_ _ _) | (with_reducible refine below_alloc0 ?_ _) | (with_reducible refine Below.ext ?_ ?_ _ _) | (with_reducible refine Below.alloc ?_ ?_ _) | (with_reducible refine Below.setCell ?_ ?_ _) | (with_reducible refine Below.drew ?_) | (with_reducible refine below_draws ?_ _) | go_size | (simp [size_ext]; done) | (simp [size_ext]; omega))))).mono ?_); rintro e w1 ⟨rfl, hb⟩; obtain ⟨otk3, dtk3, rfl⟩ := ext_of_below hb; clear hb tk3)
        | (go_at_call 19; have _t := tk4; (with_reducible refine (CR2.out _).mono ?_); rintro e w1 ⟨Atk4, ctk4, rfl, hr, hb⟩; obtain ⟨otk4, dtk4, rfl⟩ := ext_of_below hb; (try simp only [ext_drew, ext_drewN] at hr); have R2 := hid hr; clear hr; clear hb tk4)
        | (go_at_call 16; have _t := tk5; (with_reducible refine (texts_yes' (R2.out.below (by (repeat' (first | (with_reducible exact Below.refl _ _) | (with_reducible assumption) | (with_reducible refine below_ext0 ?_ _ _) | (with_reducible refine below_alloc0 ?_ _) | (with_reducible refine Below.ext ?_ ?_ _ _) | (with_reducible refine Below.alloc ?_ ?_ _) | (with_reducible refine Below.setCell ?_ ?_ _) | (with_reducible refine Below.drew ?_) | (with_reducible refine below_draws ?_ _) | go_size | (simp [size_ext]; done) | (simp [size_ext]; omega))))) (H1.out.below (by (repeat' (first | (with_reducible exact Below.refl _ _) | (with_reducible assumption) | (with_reducible refine below_ext0 ?_ _ _) | (with_reducible refine below_alloc0 ?_ _) | (with_reducible refine Below.ext ?_ ?_ _ _) | (with_reducible refine Below.alloc ?_ ?_ _) | (with_reducible refine Below.setCell ?_ ?_ _) | (with_reducible refine Below.drew ?_) | (with_reducible refine below_draws ?_ _) | go_size | (simp [size_ext]; done) | (simp [size_ext]; omega)))))).mono ?_); rintro e w1 ⟨rfl, hb⟩; obtain ⟨otk5, dtk5, rfl⟩ := ext_of_below hb; clear hb tk5)
        | (go_at_call 19; have _t := tk6; (with_reducible refine (CS.out _).mono ?_); rintro e w1 ⟨Atk6, ctk6, rfl, hr, hb⟩; obtain ⟨otk6, dtk6, rfl⟩ := ext_of_below hb; (try simp only [ext_drew, ext_drewN] at hr); have R3 := hid hr; clear hr; clear hb tk6)
        | (go_at_call 20; have _t := tk7; (with_reducible refine (CM.out _ _ _ R3.out).mono ?_); rintro e w1 ⟨rfl, hb⟩; obtain ⟨otk7, dtk7, rfl⟩ := ext_of_below hb; clear hb tk7))
      go_ret
      exact ⟨by first | rfl | (simp; done), by (repeat' (first | (with_reducible exact Below.refl _ _) | (with_reducible assumption) | (with_reducible refine below_ext0 ?_ _ _) | (with_reducible refine below_alloc0 ?_ _) | (with_reducible refine Below.ext ?_ ?_ _ _) | (with_reducible refine Below.alloc ?_ ?_ _) | (with_reducible refine Below.setCell ?_ ?_ _) | (with_reducible refine Below.drew ?_) | (with_reducible refine below_draws ?_ _) | go_size | (simp [size_ext]; done) | (simp [size_ext]; omega)))⟩
  · obtain ⟨E, hE⟩ : ∃ E, nameErr l = E := ⟨_, rfl⟩
    rw [hE] at h0
    simp only [hE, show errV E = .iface 22 (.int .i64 E) from if_neg h0] at CT0
    generalize textR l = t at *
    have CT := hid CT0
    clear CT0 h0 hE
    cases hr : readOk s with
    | none =>
      have CS := hid (fun w' => read_no (w := w') s hsz hr)
      clear hr hl
      go_enter Try.func6, Try.ntmps6
      go_wp2_with (first
        | (go_at_call 19; have _t := tk1; (with_reducible refine (CF.out _).mono ?_); rintro e w1 ⟨Atk1, ctk1, rfl, hr, hb⟩; obtain ⟨otk1, dtk1, rfl⟩ := ext_of_below hb; (try simp only [ext_drew, ext_drewN] at hr); have R1 := hid hr; clear hr; clear hb tk1)
        | (go_at_call 16; have _t := tk2; (with_reducible refine (texts_yes' (R1.out.below (by (repeat' (first | (with_reducible exact Below.refl _ _) | (with_reducible assumption) | (with_reducible refine below_ext0 ?_ _ _) | (with_reducible refine below_alloc0 ?_ _) | (with_reducible refine Below.ext ?_ ?_ _ _) | (with_reducible refine Below.alloc ?_ ?_ _) | (with_reducible refine Below.setCell ?_ ?_ _) | (with_reducible refine Below.drew ?_) | (with_reducible refine below_draws ?_ _) | go_size | (simp [size_ext]; done) | (simp [size_ext]; omega))))) (lit_rd 9 ⟨#[97, 46, 98]⟩ (by decide) (by simp [size_ext]))).mono ?_); rintro e w1 ⟨rfl, hb⟩; obtain ⟨otk2, dtk2, rfl⟩ := ext_of_below hb; clear hb tk2)
        | (go_at_call 20; have _t := tk3; (with_reducible refine (CT.out _ (by (repeat' (first | (with_reducible exact Below.refl _ _) | (with_reducible assumption) | (with_reducible refine below_ext0 ?_ _ _) | (with_reducible refine below_alloc0 ?_ _) | (with_reducible refine Below.ext ?_ ?_ _ _) | (with_reducible refine Below.alloc ?_ ?_ _) | (with_reducible refine Below.setCell ?_ ?_ _) | (with_reducible refine Below.drew ?_) | (with_reducible refine below_draws ?_ _) | go_size | (simp [size_ext]; done) | (simp [size_ext]; omega))))).mono ?_); rintro e w1 ⟨rfl, hb⟩; obtain ⟨otk3, dtk3, rfl⟩ := ext_of_below hb; clear hb tk3)
        | (go_at_call 19; have _t := tk6; (with_reducible refine (CS.out _).mono ?_); rintro e w1 ⟨rfl, hb⟩; obtain ⟨otk6, dtk6, rfl⟩ := ext_of_below hb; clear hb tk6))
      go_ret
      exact ⟨rfl, by (repeat' (first | (with_reducible exact Below.refl _ _) | (with_reducible assumption) | (with_reducible refine below_ext0 ?_ _ _) | (with_reducible refine below_alloc0 ?_ _) | (with_reducible refine Below.ext ?_ ?_ _ _) | (with_reducible refine Below.alloc ?_ ?_ _) | (with_reducible refine Below.setCell ?_ ?_ _) | (with_reducible refine Below.drew ?_) | (with_reducible refine below_draws ?_ _) | go_size | (simp [size_ext]; done) | (simp [size_ext]; omega)))⟩
    | some m =>
      obtain ⟨hm0, hms⟩ := read_back hr
      have CS := hid (fun w' => read_yes (w := w') s hsz hr rfl)
      have CM := hid (fun w' A c (h : Rd strR w' w'.heap.size A m.length c m) => (show Calls Try.prog 20 #[.slice A m.length c] w' fun e w2 => e = .returned (.tuple #[.string s, .nilIface]) ∧ Below w'.heap.size w' w2 from by
        have := text_any h
        rwa [show textR m = s by unfold textR; rw [if_pos hm0, hms], hm0, show errV 0 = .nilIface from rfl] at this))
      clear hr hl hm0 hms
      generalize m.length = nm at *
      go_enter Try.func6, Try.ntmps6
      go_wp2_with (first
        | (go_at_call 19; have _t := tk1; (with_reducible refine (CF.out _).mono ?_); rintro e w1 ⟨Atk1, ctk1, rfl, hr, hb⟩; obtain ⟨otk1, dtk1, rfl⟩ := ext_of_below hb; (try simp only [ext_drew, ext_drewN] at hr); have R1 := hid hr; clear hr; clear hb tk1)
        | (go_at_call 16; have _t := tk2; (with_reducible refine (texts_yes' (R1.out.below (by (repeat' (first | (with_reducible exact Below.refl _ _) | (with_reducible assumption) | (with_reducible refine below_ext0 ?_ _ _) | (with_reducible refine below_alloc0 ?_ _) | (with_reducible refine Below.ext ?_ ?_ _ _) | (with_reducible refine Below.alloc ?_ ?_ _) | (with_reducible refine Below.setCell ?_ ?_ _) | (with_reducible refine Below.drew ?_) | (with_reducible refine below_draws ?_ _) | go_size | (simp [size_ext]; done) | (simp [size_ext]; omega))))) (lit_rd 9 ⟨#[97, 46, 98]⟩ (by decide) (by simp [size_ext]))).mono ?_); rintro e w1 ⟨rfl, hb⟩; obtain ⟨otk2, dtk2, rfl⟩ := ext_of_below hb; clear hb tk2)
        | (go_at_call 20; have _t := tk3; (with_reducible refine (CT.out _ (by (repeat' (first | (with_reducible exact Below.refl _ _) | (with_reducible assumption) | (with_reducible refine below_ext0 ?_ _ _) | (with_reducible refine below_alloc0 ?_ _) | (with_reducible refine Below.ext ?_ ?_ _ _) | (with_reducible refine Below.alloc ?_ ?_ _) | (with_reducible refine Below.setCell ?_ ?_ _) | (with_reducible refine Below.drew ?_) | (with_reducible refine below_draws ?_ _) | go_size | (simp [size_ext]; done) | (simp [size_ext]; omega))))).mono ?_); rintro e w1 ⟨rfl, hb⟩; obtain ⟨otk3, dtk3, rfl⟩ := ext_of_below hb; clear hb tk3)
        | (go_at_call 19; have _t := tk6; (with_reducible refine (CS.out _).mono ?_); rintro e w1 ⟨Atk6, ctk6, rfl, hr, hb⟩; obtain ⟨otk6, dtk6, rfl⟩ := ext_of_below hb; (try simp only [ext_drew, ext_drewN] at hr); have R3 := hid hr; clear hr; clear hb tk6)
        | (go_at_call 20; have _t := tk7; (with_reducible refine (CM.out _ _ _ R3.out).mono ?_); rintro e w1 ⟨rfl, hb⟩; obtain ⟨otk7, dtk7, rfl⟩ := ext_of_below hb; clear hb tk7))
      go_ret
      exact ⟨by first | rfl | (simp; done), by (repeat' (first | (with_reducible exact Below.refl _ _) | (with_reducible assumption) | (with_reducible refine below_ext0 ?_ _ _) | (with_reducible refine below_alloc0 ?_ _) | (with_reducible refine Below.ext ?_ ?_ _ _) | (with_reducible refine Below.alloc ?_ ?_ _) | (with_reducible refine Below.setCell ?_ ?_ _) | (with_reducible refine Below.drew ?_) | (with_reducible refine below_draws ?_ _) | go_size | (simp [size_ext]; done) | (simp [size_ext]; omega)))⟩
set_option maxRecDepth 100000 in
theorem contractUpto (H : Type) (enc : TypeId × Value → H) (W : World) (base : Nat) (args : Array Value) (ds gs : List (DataW H)) (before : List MemPlace)
    (hval : ∀ (j : Nat) t v, Try.f6.params[j]? = some t → args[j]? = some v → Value.okWide Try.prog W .any base t v)
    (hW : DataW.Whole enc Try.prog Try.f6.params.toList Rows.nameBackSpec.vars false W args.toList ds gs before) (hsz : (DataW.weightsEach Try.prog (Try.f6.params.toList ++ Rows.nameBackSpec.plain.varTypes Try.prog) (ds ++ gs)).all (· ≤ reachBytes) = true) (hk : Rows.uptoSmall H (ds ++ gs) = true) :
    Calls Try.prog 6 args W fun e W' => ∃ v, e = .returned v ∧ Rows.nameBackSpec.post enc Try.prog Try.f6 false true false false W args v W' := by
  have hW' := hW
  obtain ⟨p, q, hA0, hV, rfl, hfz, hnd⟩ := hW
  have hA : DataW.TrodAll enc Try.prog W 0 (fun _ => true) true Try.f6.params.toList args.toList ds p := hA0
  rw [Try.params6] at hA hval hsz
  obtain ⟨v0, vs0, d0, ds0, p0, q0, hargs, rfl, rfl, k0, r0⟩ := trodAll_cons hA
  obtain ⟨v1, vs1, d1, ds1, p1, q1, rfl, rfl, rfl, k1, r1⟩ := trodAll_cons r0
  obtain ⟨rfl, rfl, rfl⟩ := trodAll_nil r1
  obtain rfl : args = #[v0, v1] := by cases args; simp_all
  obtain ⟨rfl, rfl⟩ := trodVars_none hV
  have lt0 : ∀ x ∈ p0, x.block < W.heap.size := by obtain ⟨m, hm⟩ := k0; exact DataW.trod_lt m _ _ _ hm
  have lt1 : ∀ x ∈ p1, x.block < W.heap.size := by obtain ⟨m, hm⟩ := k1; exact DataW.trod_lt m _ _ _ hm
  have hsz' : ∀ k ∈ _, k ≤ reachBytes := fun k hk => of_decide_eq_true (List.all_eq_true.1 hsz k hk)
  have u0 : ∀ k ∈ d0.weights Try.prog 36, k ≤ reachBytes := fun k hk => hsz' k (by simp [DataW.weightsEach, hk])
  have u1 : ∀ k ∈ d1.weights Try.prog 9, k ≤ reachBytes := fun k hk => hsz' k (by simp [DataW.weightsEach, hk])
  obtain ⟨A0, n0, c0, l0, rfl, w0, z0⟩ := arg_slice Try.underlying36 (opens_slice Try.underlying36 (opens_str Try.underlying9) (by kernel_rfl) (by decide) (of_decide_eq_true (by kernel_rfl))) (hval 0 36 v0 rfl rfl) k0 u0
  obtain ⟨a1, rfl, w1, z1⟩ := arg_str Try.underlying9 (hval 1 9 v1 rfl rfl) k1 u1
  have hsum := bulk_of hk
  simp only [List.append_nil, List.map_cons, List.map_nil, List.sum_cons, List.sum_nil] at hsum
  clear hA0 hA
  refine (walkUpto W A0 n0 c0 l0 w0 a1 w1 (by omega)).mono fun e W' ⟨he, bel⟩ => ?_
  subst he
  exact ⟨_, rfl, _, _, _, [], _, [], hW', trodAll_mk1 (shut_bool Try.underlying4 _), (trodAll_cons_mk (Below.trod laidOut (by kernel_rfl) (of_decide_eq_true (by kernel_rfl)) k0 bel lt0) (trodAll_cons_mk (Below.trod laidOut (by kernel_rfl) (of_decide_eq_true (by kernel_rfl)) k1 bel lt1) trodAll_mk0)), rfl, bel.frame _, fun h => by cases h⟩

set_option maxRecDepth 100000 in
theorem liftedUpto (os : Os) (started : os.Started) (H : Type) (enc : TypeId × Value → H) (F : Stop.Interp) :
    ReturnsInHanded {} Try.checked os 6 .any ((Rows.OpenSpec.upto Rows.nameBackSpec).pre6 enc Try.prog Try.f6 Rows.nameBackUptoRow.domain false) (((Rows.OpenSpec.upto Rows.nameBackSpec).at F).post enc Try.prog Try.f6 false true false false) := by
  refine returnsInHanded_of_cond_sized (C := Try.checked) (s := Rows.OpenSpec.upto Rows.nameBackSpec) (k := Rows.uptoSmall) rfl own started (by kernel_rfl) Try.func6
    (OpenSpec.witness (enc := enc) (C := Try.checked) (s := Rows.OpenSpec.upto Rows.nameBackSpec) (k := Rows.uptoSmall) rfl false ⟨#[], #[.slice none 0 0, .string .empty], []⟩ 8 (by kernel_rfl) (by kernel_rfl) (by kernel_rfl)
      (x := ([.nil, .lit (.string [])], [], [])) (by kernel_rfl) rfl (by kernel_rfl)) ?_
  intro W base args ds gs before hval hW _ hk hsz _
  exact contractUpto H enc W base args ds gs before hval hW hsz hk

/-- the statement -/
theorem provedUpto : Rows.NameBackUptoSaid :=
  OpenClaim.holds_of_cond 6 Try.f6 rfl rfl rfl rfl rfl rfl rfl ⟨rfl, rfl, rfl, rfl, rfl⟩ rfl rfl rfl rfl rfl (by kernel_rfl) Try.func6 (by kernel_rfl)
    (of_decide_eq_true (by kernel_rfl)) (by unfold Func.isWrapper; first | (rw [if_pos (by decide +kernel)]; kernel_rfl) | (rw [if_neg (by decide +kernel)]; exact ⟨rfl, rfl⟩))
    (fun os started H enc _ F => liftedUpto os started H enc F)

end nameBack
end Go.Proofs.Ytbjjmikiefgnaaa
