/- Names: Check, lower, small. -/
import Derived.Test.YtemgbfppdopfbaaDoorApp
import Derived.Test.YtemgbfppdopfbaaDoorCloneBytes
import Derived.Laws.IdiomStrings
import Derived.Laws.BytesString
namespace Go.Proofs.YtemgbfppdopfbaaDoor
open Go.RowKit
set_option linter.unusedVariables false
set_option linter.unusedSimpArgs false

/-- one text of a slice -/
theorem Rd.str {w : World} {B n c : Nat} {A : Option Addr} {l : List ByteArray} (h : Rd strR w B A n c l) (i : Nat) (hi : i < n) :
    ∃ b off, A = some ⟨b, off, none⟩ ∧ b < B ∧ w.cell? ⟨b, off + i, none⟩ = some (.string (l[i]'(by rw [h.len]; exact hi))) ∧ (l[i]'(by rw [h.len]; exact hi)).size ≤ 140737488355328 := by
  obtain ⟨b, off, vs, e, hb, ⟨rfl, hr⟩, hc⟩ := h.at_ i (by rw [h.len]; exact hi)
  have := hc 0 _ rfl
  exact ⟨b, off, e, hb, by simpa [strR] using this, hr⟩

/-! Check -/
def labelOk (s : ByteArray) : Bool := decide (1 ≤ s.size) && decide (s.size ≤ 63)
/-- the bytes of a name as it is sent -/
def nsize (l : List ByteArray) : Nat := (l.map fun s => s.size + 1).sum + 1
/-- what is wrong with a name -/
def nameErr (l : List ByteArray) : Int := if l.all labelOk then (if nsize l ≤ 255 then 0 else 5) else 3
theorem nsize_snoc (l : List ByteArray) (s : ByteArray) : nsize (l ++ [s]) = nsize l + (s.size + 1) := by
  unfold nsize; simp; omega

set_option maxRecDepth 100000 in
set_option maxHeartbeats 1000000 in
theorem name_check (w : World) (A : Option Addr) (n c : Nat) (l : List ByteArray) (B : Nat) (h : Rd strR w B A n c l) :
    Calls Tryd.prog 33 #[.slice A n c] w fun e w' => e = .returned (errV (nameErr l)) ∧ w' = w := by
  have hm := h.max
  have hcap := h.cap
  unfold maxLen at hm
  have H := hid h
  clear h
  go_enter Tryd.func33, Tryd.ntmps33
  go_wp2
  go_loop [3, 5, 8] (fun v3 v5 v8 => ∃ (k : Nat) (s : Int), k ≤ n ∧ v8 = .int .i64 (k : Int) ∧ v3 = .int .i64 s ∧ s = min (nsize (l.take k) : Int) 1073741824 ∧ (l.take k).all labelOk = true) (fun _ _ v => n - (intOf v).toNat)
  case atStart => exact ⟨0, 1, by omega, rfl, rfl, by simp [nsize]; omega, by simp⟩
  case round =>
    obtain ⟨k, s, hk, rfl, rfl, hs, hall⟩ := hrel
    have sb : s ≤ 1073741824 := by omega
    have sb0 : 0 ≤ s := by omega
    have HS := hid hs
    have HALL := hid hall
    clear hs hall
    by_cases hlt : k < n
    · obtain ⟨b, off, rfl, _, hc, hsz⟩ := H.out.str k hlt
      have hkl : k < l.length := by rw [H.out.len]; exact hlt
      have htk : l.take (k + 1) = l.take k ++ [l[k]] := List.take_succ_eq_append_getElem hkl
      have HTK := hid htk
      obtain ⟨x, hx⟩ : ∃ x, l[k] = x := ⟨_, rfl⟩
      rw [hx] at hc hsz
      have HX := hid hx
      clear htk hx
      have hkz : (k : Int) < (n : Int) := by omega
      have ways : x.size < 1 ∨ (1 ≤ x.size ∧ 63 < x.size) ∨ (1 ≤ x.size ∧ x.size ≤ 63) := by omega
      rcases ways with hb | ⟨hb, hb'⟩ | ⟨hb, hb'⟩
      · have hr : nameErr l = 3 := by
          unfold nameErr
          rw [if_neg]
          intro h
          have := List.all_eq_true.1 h x (by rw [← HX.out]; exact List.getElem_mem _)
          unfold labelOk at this
          simp at this
          omega
        have HR := hid hr
        clear hr
        go_wp2
        go_ret
        exact ⟨by rw [HR.out]; rfl, rfl⟩
      · have hr : nameErr l = 3 := by
          unfold nameErr
          rw [if_neg]
          intro h
          have := List.all_eq_true.1 h x (by rw [← HX.out]; exact List.getElem_mem _)
          unfold labelOk at this
          simp at this
          omega
        have HR := hid hr
        clear hr
        go_wp2
        go_ret
        exact ⟨by rw [HR.out]; rfl, rfl⟩
      · have hall' : (l.take (k + 1)).all labelOk = true := by
          rw [HTK.out, List.all_append, HALL.out, HX.out]
          unfold labelOk
          simp [hb, hb']
        have hsn : nsize (l.take (k + 1)) = nsize (l.take k) + (x.size + 1) := by rw [HTK.out, nsize_snoc, HX.out]
        have HALL' := hid hall'
        have HSN := hid hsn
        clear hall' hsn
        by_cases hbig : (1073741824 : Int) < s + ((x.size : Int) + 1)
        · go_wp2
          go_round
          case rel => exact ⟨k + 1, 1073741824, by omega, by go_num, rfl, by rw [HSN.out]; have := HS.out; omega, HALL'.out⟩
          case measure => simp [intOf]; omega
        · go_wp2
          go_round
          case rel => exact ⟨k + 1, s + ((x.size : Int) + 1), by omega, by go_num, rfl, by rw [HSN.out]; have := HS.out; omega, HALL'.out⟩
          case measure => simp [intOf]; omega
    · have hkn : l.take k = l := List.take_of_length_le (by rw [H.out.len]; omega)
      have hS : s = min (nsize l : Int) 1073741824 := by have := HS.out; rwa [hkn] at this
      have hA : l.all labelOk = true := by have := HALL.out; rwa [hkn] at this
      by_cases hbig : 255 < s
      · have hr : nameErr l = 5 := by unfold nameErr; rw [if_pos hA, if_neg (by omega)]
        have HR := hid hr
        clear hr hkn hS hA
        go_wp2
        go_ret
        exact ⟨by rw [HR.out]; rfl, rfl⟩
      · have hr : nameErr l = 0 := by unfold nameErr; rw [if_pos hA, if_pos (by omega)]
        have HR := hid hr
        clear hr hkn hS hA
        go_wp2
        go_ret
        exact ⟨by rw [HR.out]; rfl, rfl⟩

/-! lower -/
def lowB (b : UInt8) : UInt8 := if 65 ≤ b.toNat ∧ b.toNat ≤ 90 then UInt8.ofNat (b.toNat + 32) else b
theorem lowB_nat (b : UInt8) : ((lowB b).toNat : Int) = if 65 ≤ b.toNat ∧ b.toNat ≤ 90 then (b.toNat : Int) + 32 else (b.toNat : Int) := by
  unfold lowB
  split
  · rw [UInt8.toNat_ofNat', Nat.mod_eq_of_lt (by omega)]; simp
  · rfl
theorem lower_any (b : UInt8) (w : World) : Calls Tryd.prog 73 #[.int .u8 (b.toNat : Int)] w fun e w' => e = .returned (.int .u8 ((lowB b).toNat : Int)) ∧ w' = w := by
  have hb := b.toNat_lt
  rw [lowB_nat]
  generalize b.toNat = x at *
  have hx : (x : Int) ≤ 255 := by omega
  have ways : (x < 65) ∨ (65 ≤ x ∧ 90 < x) ∨ (65 ≤ x ∧ x ≤ 90) := by omega
  rcases ways with h | ⟨h, h'⟩ | ⟨h, h'⟩
  · rw [if_neg (by omega)]
    go_enter Tryd.func73, Tryd.ntmps73
    go_wp2
    go_ret
    exact ⟨rfl, rfl⟩
  · rw [if_neg (by omega)]
    go_enter Tryd.func73, Tryd.ntmps73
    go_wp2
    go_ret
    exact ⟨rfl, rfl⟩
  · rw [if_pos ⟨h, h'⟩]
    go_enter Tryd.func73, Tryd.ntmps73
    go_wp2
    go_ret
    exact ⟨rfl, rfl⟩

/-! small -/
/-- a block with Go's mark behind its cells: what '[]byte(s)' lays -/
def BlkM (w : World) (g : Nat) (t : TypeId) (cs : Array Value) : Prop := w.heap[g]? = some (.cells cs t (cs.size, cs.size + 1))
section
variable {w w' : World} {g : Nat} {t : TypeId} {cs : Array Value}
theorem BlkM.lt (h : BlkM w g t cs) : g < w.heap.size := by
  rcases Nat.lt_or_ge g w.heap.size with hlt | hge
  · exact hlt
  · unfold BlkM at h; rw [Array.getElem?_eq_none hge] at h; cases h
theorem BlkM.cell (h : BlkM w g t cs) (i : Nat) : w.cell? ⟨g, i, none⟩ = cs[i]? := by
  unfold BlkM at h
  simp [World.cell?, h]
theorem BlkM.frozen (h : BlkM w g t cs) (i : Nat) (hi : i < cs.size) : w.frozen? ⟨g, i, none⟩ = false := by
  unfold BlkM at h
  simp [World.frozen?, h]
  omega
theorem BlkM.set (h : BlkM w g t cs) (i : Nat) (u : Value) : BlkM (w.setCell ⟨g, i, none⟩ u) g t (cs.setIfInBounds i u) := by
  unfold BlkM at h ⊢
  simp [World.setCell, Array.getElem?_modify, h]
theorem BlkM.drew (h : BlkM w g t cs) : BlkM w.drew g t cs := h
theorem BlkM.new (w : World) (t : TypeId) (cs : Array Value) : BlkM (w.alloc (.cells cs t (cs.size, cs.size + 1))) w.heap.size t cs := heap_alloc_new w _
end
def smallL (l : List UInt8) : List UInt8 := l.map lowB
def smallS (s : ByteArray) : ByteArray := ⟨(smallL s.data.toList).toArray⟩
theorem smallS_size (s : ByteArray) : (smallS s).size = s.size := by
  show ((smallL s.data.toList).toArray).size = s.data.size
  simp [smallL]
/-- the first k of them small -/
def smallK (l : List UInt8) (k : Nat) : List UInt8 := smallL (l.take k) ++ l.drop k
theorem smallK_get (l : List UInt8) (k : Nat) (h : k < l.length) : (smallK l k)[k]? = some l[k] := by
  unfold smallK smallL
  rw [List.getElem?_append_right (by simp; omega)]
  simp [Nat.min_eq_left (Nat.le_of_lt h), h]
theorem smallK_succ (l : List UInt8) (k : Nat) (h : k < l.length) : smallK l (k + 1) = (smallK l k).set k (lowB l[k]) := by
  unfold smallK smallL
  rw [List.take_succ_eq_append_getElem h, List.map_append, List.set_append_right _ _ (by simp; omega), List.length_map, List.length_take, Nat.min_eq_left (by omega), Nat.sub_self, List.drop_eq_getElem_cons h, List.set_cons_zero, List.append_assoc]
  rfl
theorem smallK_len (l : List UInt8) (k : Nat) : (smallK l k).length = l.length := by simp [smallK, smallL]; omega
theorem take_set_eq {α : Type} (l : List α) (n k : Nat) (x : α) (h : k < n) : (l.set k x).take n = (l.take n).set k x := by
  exact List.take_set

set_option maxRecDepth 100000 in
set_option maxHeartbeats 2000000 in
theorem small_any (s : ByteArray) (hs : s.size ≤ 140737488355328) (w : World) :
    Calls Tryd.prog 67 #[.string s] w fun e w' => e = .returned (.string (smallS s)) ∧ Below w.heap.size w w' := by
  have conv := run_bytes_of_string w 9 51 5 s Tryd.underlying9 Tryd.underlying51 Tryd.underlying5
  have hge := grownCap_ge w s.size 0 5
  have hle := grownCap_le_maxLen w s.size 0 5 (by unfold maxLen; omega)
  unfold maxLen at hle
  have hsz : s.data.toList.length = s.size := by rw [Array.length_toList]; rfl
  have HSZ := hid hsz
  have hrow : ∃ C : Array Value, bytesRow s (grownCap w s.size 0 5) = C ∧ C.toList.take s.size = bytesV (smallK s.data.toList 0) ∧ C.size = grownCap w s.size 0 5 := by
    refine ⟨_, rfl, ?_, ?_⟩
    · unfold bytesRow
      rw [Array.toList_append, List.take_append_of_le_length (by rw [Array.toList_map, List.length_map, hsz]; exact Nat.le_refl _), List.take_of_length_le (by rw [Array.toList_map, List.length_map, hsz]; exact Nat.le_refl _)]
      simp [smallK, smallL, bytesV]
    · unfold bytesRow
      simp only [Array.size_append, Array.size_map, Array.size_replicate]
      have : s.data.size = s.size := rfl
      omega
  obtain ⟨C, hC, hCt, hCs⟩ := hrow
  rw [hC] at conv
  generalize grownCap w s.size 0 5 = cap at *
  clear hC
  obtain ⟨N, hN⟩ : ∃ N, C.size = N := ⟨_, rfl⟩
  have hb0 := (BlkM.new w.drew 5 C)
  have hcN : s.size ≤ N := by omega
  have HB0 := hid (And.intro hb0 (And.intro hCt hN))
  rw [hN] at conv
  have hcapN : N = cap := by omega
  have HCN := hid hcapN
  have HLZ := HSZ
  clear hb0 hCt hCs hN hge hcapN hsz
  go_enter Tryd.func67, Tryd.ntmps67
  go_wp2
  go_loopg [4, 9] s.size (fun gk v4 v9 wi => ∃ (k : Nat) (cs : Array Value), k ≤ s.size ∧ gk = s.size - k ∧ v9 = .int .i64 (k : Int) ∧ BlkM wi w.heap.size 5 cs ∧ cs.size = N ∧ cs.toList.take s.size = bytesV (smallK s.data.toList k) ∧ Below w.heap.size w wi)
  case atStart =>
    obtain ⟨h1, h2, h3⟩ := HB0.out
    rw [← h3]
    exact ⟨0, C, by omega, by omega, rfl, h1, rfl, h2, by (repeat' (first | (with_reducible exact Below.refl _ _) | (with_reducible assumption) | (with_reducible refine below_ext0 ?_ _ _) | (with_reducible refine below_alloc0 ?_ _) | (with_reducible refine Below.ext ?_ ?_ _ _) | (with_reducible refine Below.alloc ?_ ?_ _) | (with_reducible refine Below.setCell ?_ ?_ _) | (with_reducible refine Below.drew ?_) | (with_reducible refine below_draws ?_ _) | go_size | (simp [size_ext]; done) | (simp [size_ext]; omega)))⟩
  case round =>
    obtain ⟨k, cs, hk, rfl, rfl, hblk, hcs, htk, hlow⟩ := hrel
    have HBLK := hid hblk
    have HCS := hid hcs
    have HTK := hid htk
    have HLOW := hid hlow
    clear hblk hcs htk hlow HB0
    by_cases hlt : k < s.size
    · have hkl : k < s.data.toList.length := by rw [HLZ.out]; exact hlt
      obtain ⟨x, hx⟩ : ∃ x, s.data.toList[k] = x := ⟨_, rfl⟩
      have cg : wr.cell? ⟨w.heap.size, k, none⟩ = some (.int .u8 (x.toNat : Int)) := by
        rw [HBLK.out.cell, ← Array.getElem?_toList]
        have h1 : (cs.toList.take s.size)[k]? = some (.int .u8 (x.toNat : Int)) := by
          rw [HTK.out, bytesV, List.getElem?_map, smallK_get _ _ hkl, hx]; rfl
        rwa [List.getElem?_take, if_pos hlt] at h1
      have fg : wr.frozen? ⟨w.heap.size, k, none⟩ = false := HBLK.out.frozen k (by rw [HCS.out]; omega)
      have hlt2 : w.heap.size < wr.heap.size := HBLK.out.lt
      have HX := hid hx
      clear hx
      have CL := hid (lower_any x)
      go_wp2_with (go_at_call 73; refine (CL.out _).mono ?_; rintro e w1 ⟨rfl, rfl⟩)
      go_roundg (s.size - (k + 1))
      case measure => omega
      case rel =>
        refine ⟨k + 1, _, by omega, rfl, by go_num, HBLK.out.set k _, by simpa using HCS.out, ?_, HLOW.out.setCell (Nat.le_refl _) _⟩
        rw [Array.toList_setIfInBounds, take_set_eq _ _ _ _ hlt, HTK.out, smallK_succ _ _ hkl, bytesV_set]
        rw [HX.out]
    · obtain rfl : k = s.size := by omega
      have hfin : smallK s.data.toList s.size = smallL s.data.toList := by
        unfold smallK
        rw [List.take_of_length_le (by rw [HLZ.out]; exact Nat.le_refl _), List.drop_eq_nil_of_le (by rw [HLZ.out]; exact Nat.le_refl _), List.append_nil]
      have hlen : (smallL s.data.toList).length = s.size := by unfold smallL; rw [List.length_map, HLZ.out]
      have back : ∀ W : World, (∀ j (hj : j < (smallL s.data.toList).length), W.cell? (Addr.add ⟨w.heap.size, 0, none⟩ j) = some (.int .u8 ((smallL s.data.toList)[j].toNat : Int))) → (convert 51 9 (.slice (some ⟨w.heap.size, 0, none⟩) s.size cap)).run Tryd.prog W = .ok (.string (smallS s)) W := by
        intro W hW
        have := run_convert_bytes_back W 51 9 5 ⟨w.heap.size, 0, none⟩ cap (smallL s.data.toList) Tryd.underlying51 Tryd.underlying5 Tryd.underlying9 hW
        rwa [hlen] at this
      have bk := back wr (by
        intro j hj
        rw [add_none, Nat.zero_add, HBLK.out.cell, ← Array.getElem?_toList]
        have h1 : (cs.toList.take s.size)[j]? = some (.int .u8 ((smallL s.data.toList)[j].toNat : Int)) := by
          rw [HTK.out, hfin, bytesV, List.getElem?_map, List.getElem?_eq_getElem hj]; rfl
        rwa [List.getElem?_take, if_pos (by omega)] at h1)
      clear back hfin hlen
      go_wp2
      go_ret
      exact ⟨rfl, HLOW.out⟩
end Go.Proofs.YtemgbfppdopfbaaDoor
