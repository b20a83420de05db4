/- wire: sent, Write. -/
import Derived.Test.YtkdfiedemhjjjaaWireB
import Derived.Test.YtkdfiedemhjjjaaAppS
namespace Go.Proofs.Ytkdfiedemhjjjaa
open Go.RowKit
set_option linter.unusedVariables false

theorem strCells_eq (s : ByteArray) : Lib.strCells s = bytesV s.data.toList := rfl
theorem bytesV_append (a b : List UInt8) : bytesV (a ++ b) = bytesV a ++ bytesV b := by simp [bytesV]
theorem u8_size (s : ByteArray) (h : s.size ≤ 63) : ((UInt8.ofNat s.size).toNat : Int) = (s.size : Int) := by
  rw [UInt8.toNat_ofNat', Nat.mod_eq_of_lt (by omega)]
theorem sentL_snoc (l : List ByteArray) (s : ByteArray) : sentL (l ++ [s]) = sentL l ++ UInt8.ofNat s.size :: s.data.toList := by rw [sentL_append]; simp [sentL]

set_option maxRecDepth 100000 in
set_option maxHeartbeats 4000000 in
theorem sent_any (w : World) (base nn : Nat) (v : Value) (q : List UInt8) (hO : w.ownsRow base 5 1 v nn (bytesV q)) (hbase : base ≤ w.heap.size) (A : Option Addr) (n c : Nat) (l : List ByteArray) (hR : Rd strR w base A n c l)
    (hall : l.all labelOk = true) (hsz : nn + lsum l ≤ 140737488355328) :
    Calls Try.prog 58 #[v, .slice A n c] w fun e w' => ∃ v', e = .returned v' ∧ w'.ownsRow base 5 1 v' (nn + lsum l) (bytesV (q ++ sentL l)) ∧ AppTo w w' v v' := by
  have hm := hR.max
  have hcap := hR.cap
  unfold maxLen at hm
  have H := hid hR
  have HO0 := hid hO
  have HALL := hid hall
  clear hR hO hall
  have tk0 : True := trivial; have tk1 : True := trivial; have tk2 : True := trivial; have tk3 : True := trivial; have tk4 : True := trivial; have tk5 : True := trivial; have tk6 : True := trivial; have tk7 : True := trivial; have tk8 : True := trivial; have tk9 : True := trivial; have tk10 : True := trivial; have tk11 : True := trivial; have tk12 : True := trivial
  go_enter Try.func58, Try.ntmps58
  go_wp2
  go_loopg [0, 9] n (fun gk v0 v9 wi => ∃ k : Nat, k ≤ n ∧ gk = n - k ∧ v9 = .int .i64 (k : Int) ∧ wi.ownsRow base 5 1 v0 (nn + lsum (l.take k)) (bytesV (q ++ sentL (l.take k))) ∧ AppTo w wi v v0 ∧ Below base w wi)
  case atStart => exact ⟨0, Nat.zero_le _, rfl, rfl, by simpa [sentL, lsum] using HO0.out, AppTo.refl _ _, Below.refl _ _⟩
  case round =>
    obtain ⟨k, hk, rfl, rfl, hown, happ, hlow⟩ := hrel
    have HO := hid hown
    have HA := hid happ
    have HLOW := hid hlow
    have hzw := hlow.size
    clear hown happ hlow
    by_cases hlt : k < n
    · obtain ⟨b, o, rfl, hb, hc, hz⟩ := H.out.str k hlt
      replace hc := (HLOW.out.cell (p := ⟨b, o + k, none⟩) hb).trans hc
      have hkl : k < l.length := by rw [H.out.len]; exact hlt
      have htk : l.take (k + 1) = l.take k ++ [l[k]] := List.take_succ_eq_append_getElem hkl
      have hlb : labelOk l[k] = true := List.all_eq_true.1 HALL.out _ (List.getElem_mem hkl)
      obtain ⟨x, hx⟩ : ∃ x, l[k] = x := ⟨_, rfl⟩
      rw [hx] at hc hz htk hlb
      unfold labelOk at hlb
      simp only [Bool.and_eq_true, decide_eq_true_eq] at hlb
      obtain ⟨hx1, hx2⟩ := hlb
      have HTK := hid htk
      have hls : lsum (l.take (k + 1)) = lsum (l.take k) + (x.size + 1) := by rw [htk, lsum_snoc]
      have hsum : lsum (l.take (k + 1)) ≤ lsum l := by
        have : lsum l = lsum (l.take (k + 1)) + lsum (l.drop (k + 1)) := by
          rw [← sentL_len, ← sentL_len, ← sentL_len, ← List.length_append, ← sentL_append, List.take_append_drop]
        omega
      have ab1 : (nn + lsum (l.take k) + 1) * 1 ≤ 140737488355328 := by omega
      have ab2 : nn + lsum (l.take k) + 1 ≤ maxLen := by unfold maxLen; omega
      have ab3 : nn + lsum (l.take k) + 1 + x.size ≤ 140737488355328 := by omega
      have HLS := hid hls
      have ab4 : base ≤ wr.heap.size := by omega
      have u8 : ((UInt8.ofNat x.size).toNat : Int) = (x.size : Int) := u8_size x hx2
      have HU := hid u8
      have cvt : IntKind.u8.wrap (x.size : Int) = (x.size : Int) := by simp [IntKind.wrap, IntKind.bits, IntKind.signed]; omega
      clear htk hx hls hsum u8
      go_wp2_with (first
        | (at_builtin; have _t := tk1; refine wpList_appT rfl _ _ 22 rfl base 5 1 1 el_u8 _ (nn + lsum (l.take k)) _ rfl (HO.out.alloc _) _ 1 1 [.int .u8 (x.size : Int)] rfl (src_one _ rfl rfl) ab1 ab2 (by simp; omega) ?_; intro v1 w1 ho1 ha1; have HO1 := hid ho1; have HA1 := hid ha1; have hz1 := ha1.grown.size; clear ho1 ha1 tk1)
        | (at_builtin; have _t := tk2; refine wpList_app_str rfl _ _ 22 9 rfl base 5 el_u8 Try.underlying9 zero_u8 _ (nn + lsum (l.take k) + 1) _ rfl HO1.out x rfl ab3 (by simp at hz1; omega) ?_; intro v2 w2 ho2 ha2; have HO2 := hid ho2; have HA2 := hid ha2; clear ho2 ha2 tk2))
      go_roundg (n - (k + 1))
      case measure => omega
      case rel =>
        have ha : AppTo wr w2 _ _ := AppTo.trans HA1.out.alloc HA2.out
        refine ⟨k + 1, by omega, rfl, by go_num, ?_, HA.out.trans ha, HLOW.out.trans (ha.below HO.out ab4)⟩
        have := HO2.out
        rw [HLS.out, HTK.out, sentL_snoc]
        rw [strCells_eq] at this
        have e8 : (x.size : Int) % 256 = x.size := by omega
        simpa [bytesV, Nat.add_assoc, Nat.add_comm 1, e8] using this
    · obtain rfl : k = n := by omega
      have ho := HO.out
      rw [List.take_of_length_le (by rw [H.out.len]; exact Nat.le_refl _)] at ho
      have HO' := hid ho
      clear ho
      go_wp2
      go_ret
      exact ⟨_, rfl, HO'.out, HA.out⟩

/-! Write -/
theorem errV_zero : errV 0 = .nilIface := rfl
theorem errV_ne {n : Int} (h : n ≠ 0) : errV n = .iface 65 (.int .i64 n) := if_neg h
/-- a row of the call's own as bytes -/
theorem own_rd_u8 {w : World} {base n : Nat} {v : Value} {l : List UInt8} (h : w.ownsRow base 5 1 v n (bytesV l)) (hb : base ≤ w.heap.size) (hn : n ≤ 140737488355328) : ∃ A c, v = .slice A n c ∧ Rd u8R w w.heap.size A n c l :=
  rd_of_own (R := u8R) h (rels_u8.2 rfl) (by have := h.1; simpa [bytesV] using this) hb (by simpa [u8R] using hn) (by decide)

def WrE (w : World) (m : List UInt8) (l : List ByteArray) (e : Ending) (w' : World) : Prop :=
  Below w.heap.size w w' ∧ if nameErr l = 0 then ∃ A' c', e = .returned (.tuple #[.slice A' (m ++ sentL l ++ [0]).length c', .nilIface]) ∧ Rd u8R w' w'.heap.size A' (m ++ sentL l ++ [0]).length c' (m ++ sentL l ++ [0])
    else e = .returned (.tuple #[.slice none 0 0, .iface 65 (.int .i64 (nameErr l))])
end Go.Proofs.Ytkdfiedemhjjjaa
