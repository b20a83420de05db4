/- The document's answers of names as they are sent: Texts, Sent, Start. -/
import Derived.Test.YtkdfiedemhjjjaaWireRefA
namespace Go.Proofs.Ytkdfiedemhjjjaa
open Go.RowKit
set_option linter.unusedVariables false

/-! '[]byte(s)' -/
theorem bytes_of (w : World) (s : ByteArray) (hs : s.size ≤ 140737488355328) : ∃ cap o, (convert 9 22 (.string s)).run Try.prog w = .ok (.slice (some ⟨w.heap.size, 0, none⟩) s.size cap) (w.drew.alloc o) ∧
    Rd u8R (w.drew.alloc o) (w.drew.alloc o).heap.size (some ⟨w.heap.size, 0, none⟩) s.size cap s.data.toList := by
  have hge := grownCap_ge w s.size 0 5
  have hle := grownCap_le_maxLen w s.size 0 5 (by unfold maxLen; omega)
  refine ⟨_, _, run_bytes_of_string w 9 22 5 s Try.underlying9 Try.underlying22 Try.underlying5, ?_⟩
  have hsz : s.data.toList.length = s.size := by rw [Array.length_toList]; rfl
  refine ⟨hsz, hge, hle, by simpa [u8R] using hs, fun e => (by cases e), fun i hi => ?_⟩
  refine ⟨w.heap.size, 0, _, rfl, by simp, rfl, fun j u hu => ?_⟩
  have hj : j = 0 := by
    cases j with
    | zero => rfl
    | succ j => simp at hu
  subst hj
  simp at hu
  subst hu
  have hb := BlkM.new w.drew 5 (bytesRow s (grownCap w s.size 0 5))
  have hc := hb.cell i
  have e : (bytesRow s (grownCap w s.size 0 5))[i]? = some (.int .u8 (s.data.toList[i].toNat : Int)) := by
    have hi' : i < s.data.size := by rw [← Array.length_toList]; exact hi
    unfold bytesRow
    rw [Array.getElem?_append_left (by simpa using hi'), Array.getElem?_map, Array.getElem?_eq_getElem hi']
    simp
  rw [e] at hc
  simpa [u8R] using hc

theorem own_drewA {w : World} {base : Nat} {e : TypeId} {size : Nat} {v : Value} {n : Nat} {xs : List Value} {o : Obj} (h : w.ownsRow base e size v n xs) : ((w.alloc o).drew).ownsRow base e size v n xs := (h.alloc o).drew
/-! Sent -/
set_option maxRecDepth 100000 in
set_option maxHeartbeats 4000000 in
theorem rsent_any (w : World) (A : Option Addr) (n c : Nat) (l : List ByteArray) (hR : Rd strR w w.heap.size A n c l) (hall : l.all labelOk = true) (hsz : lsum l ≤ 254) :
    Calls Try.prog 14 #[.slice A n c] w fun e w' => ∃ A' c', e = .returned (.slice A' (lsum l + 1) c') ∧ Rd u8R w' w'.heap.size A' (lsum l + 1) c' (sentL l ++ [0]) ∧ Below w.heap.size w w' := by
  have hm := hR.max
  have hcap := hR.cap
  unfold maxLen at hm
  have H := hid hR
  have HALL := hid hall
  clear hR hall
  have tk0 : True := trivial; have tk1 : True := trivial; have tk2 : True := trivial; have tk3 : True := trivial; have tk4 : True := trivial; have tk5 : True := trivial; have tk6 : True := trivial; have tk7 : True := trivial; have tk8 : True := trivial; have tk9 : True := trivial; have tk10 : True := trivial; have tk11 : True := trivial; have tk12 : True := trivial
  go_enter Try.func14, Try.ntmps14
  go_wp2
  go_loopg [3, 4] n (fun gk v0 v9 wi => ∃ k : Nat, k ≤ n ∧ gk = n - k ∧ v9 = .int .i64 (k : Int) ∧ wi.ownsRow w.heap.size 5 1 v0 (lsum (l.take k)) (bytesV (sentL (l.take k))) ∧ Below w.heap.size w wi)
  case atStart => exact ⟨0, Nat.zero_le _, rfl, rfl, World.ownsRow_nil _ _ _ _, Below.refl _ _⟩
  case round =>
    obtain ⟨k, hk, rfl, rfl, hown, hlow⟩ := hrel
    have HO := hid hown
    have HLOW := hid hlow
    have hzw := hlow.size
    clear hown hlow
    by_cases hlt : k < n
    · obtain ⟨b, o, rfl, hb, hc0, hz⟩ := H.out.str k hlt
      have hkl : k < l.length := by rw [H.out.len]; exact hlt
      have htk : l.take (k + 1) = l.take k ++ [l[k]] := List.take_succ_eq_append_getElem hkl
      have hlb : labelOk l[k] = true := List.all_eq_true.1 HALL.out _ (List.getElem_mem hkl)
      obtain ⟨x, hx⟩ : ∃ x, l[k] = x := ⟨_, rfl⟩
      rw [hx] at hc0 hz htk hlb
      have hc := (HLOW.out.cell (p := ⟨b, o + k, none⟩) hb).trans hc0
      have HC0 := hid hc0
      unfold labelOk at hlb
      simp only [Bool.and_eq_true, decide_eq_true_eq] at hlb
      obtain ⟨hx1, hx2⟩ := hlb
      have HTK := hid htk
      have hls : lsum (l.take (k + 1)) = lsum (l.take k) + (x.size + 1) := by rw [htk, lsum_snoc]
      have hsum := lsum_take l (k + 1)
      have ab1 : (lsum (l.take k) + 1) * 1 ≤ 140737488355328 := by omega
      have ab2 : lsum (l.take k) + 1 ≤ maxLen := by unfold maxLen; omega
      have ab3 : (lsum (l.take k) + 1 + x.size) * 1 ≤ 140737488355328 := by omega
      have ab5 : lsum (l.take k) + 1 + x.size ≤ maxLen := by unfold maxLen; omega
      have HLS := hid hls
      have cvt : IntKind.u8.wrap (x.size : Int) = (x.size : Int) := by simp [IntKind.wrap, IntKind.bits, IntKind.signed]; omega
      clear htk hx hls hsum hc0
      go_wp2_with (first
        | (at_builtin; have _t := tk1; refine wpList_appT rfl _ _ 22 rfl w.heap.size 5 1 1 el_u8 _ (lsum (l.take k)) _ rfl (HO.out.alloc _) _ 1 1 [.int .u8 (x.size : Int)] rfl (src_one _ rfl rfl) ab1 ab2 (by simp; omega) ?_; intro v1 w1 ho1 ha1; have HO1 := hid ho1; have hz1 := ha1.grown.size; have HB1 := hid ((HLOW.out.alloc hzw _).trans (ha1.below (HO.out.alloc _) (by simp; omega))); have hc1 := (HB1.out.cell (p := ⟨b, o + k, none⟩) hb).trans HC0.out; obtain ⟨cap1, o1, cv1, hrd1⟩ := bytes_of w1 x hz; have hzz := HB1.out.size; have HRD1 := hid hrd1; clear hrd1; clear ho1 ha1 tk1)
        | (at_builtin; have _t := tk2; refine wpList_appT rfl _ _ 22 rfl w.heap.size 5 1 1 el_u8 _ (lsum (l.take k) + 1) _ rfl (own_drewA HO1.out) _ x.size _ _ rfl (HRD1.out.src_u8) ab3 ab5 (by simp; omega) ?_; intro v2 w2 ho2 ha2; have HO2 := hid ho2; have HB2 := hid (ha2.below (own_drewA HO1.out) (by simp; omega)); clear ho2 ha2 tk2))
      go_roundg (n - (k + 1))
      case measure => omega
      case rel =>
        refine ⟨k + 1, by omega, rfl, by go_num, ?_, ?_⟩
        · have := HO2.out
          rw [HLS.out, HTK.out, sentL_snoc]
          have e8 : (x.size : Int) % 256 = x.size := by omega
          simpa [bytesV, Nat.add_assoc, Nat.add_comm 1, e8] using this
        · exact ((HB1.out.alloc HB1.out.size _).drew).trans HB2.out
    · obtain rfl : k = n := by omega
      have ho := HO.out
      rw [List.take_of_length_le (by rw [H.out.len]; exact Nat.le_refl _)] at ho
      have HO' := hid ho
      have ab1 : (lsum l + 1) * 1 ≤ 140737488355328 := by omega
      have ab2 : lsum l + 1 ≤ maxLen := by unfold maxLen; omega
      clear ho
      go_wp2_with (at_builtin; refine wpList_appT rfl _ _ 22 rfl w.heap.size 5 1 1 el_u8 _ (lsum l) _ rfl (HO'.out.alloc _) _ 1 1 [.int .u8 0] rfl (src_one _ rfl rfl) ab1 ab2 (by simp; omega) ?_; intro v3 w3 ho3 ha3; have HB3 := hid ((HLOW.out.alloc hzw _).trans (ha3.below (HO'.out.alloc _) (by simp; omega))); have HO3 := hid ho3; clear ho3 ha3)
      go_ret
      obtain ⟨A', c', rfl, hr⟩ := own_rd_u8 (l := sentL l ++ [0]) (by simpa [bytesV] using HO3.out) HB3.out.size (by omega)
      exact ⟨A', c', rfl, hr, HB3.out⟩
end Go.Proofs.Ytkdfiedemhjjjaa
