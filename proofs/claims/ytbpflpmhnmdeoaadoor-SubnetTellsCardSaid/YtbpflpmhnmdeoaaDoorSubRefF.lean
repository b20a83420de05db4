/- The document's answers of subnets: SubnetOf: plain laws; too few bytes. -/
import Derived.Test.YtbpflpmhnmdeoaaDoorSubRefE
import Derived.Test.YtbpflpmhnmdeoaaDoorDecodeYes
namespace Go.Proofs.YtbpflpmhnmdeoaaDoor
open Go.RowKit
set_option linter.unusedVariables false
set_option linter.unusedSimpArgs false

/-- the address that SubnetOf lays: of the bytes behind the first four so many, then zeros -/
def layL (b : List UInt8) (n : Nat) : List UInt8 := (restL b).take n ++ List.replicate (n - (restL b).length) 0
theorem layL_len (b : List UInt8) (n : Nat) : (layL b n).length = n := by unfold layL; simp; omega
theorem sub_again (b : List UInt8) (hn : 4 ≤ b.length) (hk : SOk (decF b) (decS b) (decC b) (famN (decF b))) : encL (decF b) (decS b) (decC b) (layL b (famN (decF b))) = b ↔ RestOk b := by
  obtain ⟨x0, x1, x2, x3, r, rfl⟩ : ∃ x0 x1 x2 x3 r, b = x0 :: x1 :: x2 :: x3 :: r := by
    rcases b with _ | ⟨x0, b⟩
    · simp at hn
    rcases b with _ | ⟨x1, b⟩
    · simp at hn
    rcases b with _ | ⟨x2, b⟩
    · simp at hn
    rcases b with _ | ⟨x3, b⟩
    · simp at hn
    exact ⟨x0, x1, x2, x3, b, rfl⟩
  have hF : decF (x0 :: x1 :: x2 :: x3 :: r) = (x0.toNat : Int) * 256 + (x1.toNat : Int) := rfl
  have hS : decS (x0 :: x1 :: x2 :: x3 :: r) = (x2.toNat : Int) := rfl
  have hC : decC (x0 :: x1 :: x2 :: x3 :: r) = (x3.toNat : Int) := rfl
  have hR : restL (x0 :: x1 :: x2 :: x3 :: r) = r := rfl
  obtain ⟨n, hN⟩ : ∃ n, famN (decF (x0 :: x1 :: x2 :: x3 :: r)) = n := ⟨_, rfl⟩
  rw [hN] at hk ⊢
  unfold RestOk encL layL
  rw [hR]
  rw [hF, hS, hC] at hk
  rw [hF, hS, hC]
  have h0 := x0.toNat_lt
  have h1 := x1.toNat_lt
  have hf : (x0.toNat : Int) * 256 + (x1.toNat : Int) = 1 ∨ (x0.toNat : Int) * 256 + (x1.toNat : Int) = 2 := by rcases hk.fam with ⟨h, _⟩ | ⟨h, _⟩ <;> omega
  have hx0 : x0 = 0 := UInt8.toNat_inj.1 (by rw [UInt8.toNat_zero]; omega)
  have hx1 : UInt8.ofNat ((x0.toNat : Int) * 256 + (x1.toNat : Int)).toNat = x1 := UInt8.toNat_inj.1 (by rw [UInt8.toNat_ofNat']; omega)
  have hx2 : UInt8.ofNat ((x2.toNat : Int)).toNat = x2 := UInt8.toNat_inj.1 (by rw [UInt8.toNat_ofNat']; have := x2.toNat_lt; omega)
  have hx3 : UInt8.ofNat ((x3.toNat : Int)).toNat = x3 := UInt8.toNat_inj.1 (by rw [UInt8.toNat_ofNat']; have := x3.toNat_lt; omega)
  rw [hx1, hx2, hx3]
  obtain ⟨S, hSS⟩ : ∃ S, (x2.toNat : Int) = S := ⟨_, rfl⟩
  rw [hSS] at hk ⊢
  have hm : sentN S ≤ n := by have := hk.s1; unfold sentN; omega
  obtain ⟨m, hmm⟩ : ∃ m, sentN S = m := ⟨_, rfl⟩
  rw [hmm] at hm ⊢
  have e : ([0, x1, x2, x3] ++ (maskL (r.take n ++ List.replicate (n - r.length) 0) S).take m = x0 :: x1 :: x2 :: x3 :: r) ↔ (maskL (r.take n ++ List.replicate (n - r.length) 0) S).take m = r := by
    rw [hx0]; simp
  rw [e, ← maskL_take]
  have hlen : (maskL ((r.take n ++ List.replicate (n - r.length) 0).take m) S).length = m := by
    rw [maskL_len, List.length_take, List.length_append, List.length_take, List.length_replicate]; omega
  constructor
  · intro h
    have hl : r.length = m := by rw [← hlen, h]
    refine ⟨hl, ?_⟩
    have : (r.take n ++ List.replicate (n - r.length) 0).take m = r := by
      rw [List.take_of_length_le (l := r) (by omega), List.take_append_of_le_length (by omega), List.take_of_length_le (by omega)]
    rw [this] at h
    exact h.symm
  · rintro ⟨hl, h⟩
    have : (r.take n ++ List.replicate (n - r.length) 0).take m = r := by
      rw [List.take_of_length_le (l := r) (by omega), List.take_append_of_le_length (by omega), List.take_of_length_le (by omega)]
    rw [this]
    exact h.symm
theorem layL_addr (b : List UInt8) (hk : SOk (decF b) (decS b) (decC b) (famN (decF b))) (h : RestOk b) : layL b (famN (decF b)) = addrL b := by
  unfold layL addrL
  have h1 := h.1
  have h2 := hk.s1
  rw [List.take_of_length_le (by rw [h1]; unfold sentN; omega)]
/-- one more byte laid -/
theorem lay_step (r : List UInt8) (M i : Nat) (x : UInt8) (hi : i < M) (hx : r[i]? = some x) : (bytesV (r.take i ++ List.replicate (M - i) 0)).set i (.int .u8 (x.toNat : Int)) = bytesV (r.take (i + 1) ++ List.replicate (M - (i + 1)) 0) := by
  obtain ⟨hr, hx'⟩ := List.getElem?_eq_some_iff.1 hx
  have hl : (r.take i).length = i := by rw [List.length_take]; omega
  have e : M - i = (M - (i + 1)) + 1 := by omega
  have e2 : bytesV (r.take i ++ List.replicate (M - i) 0) = bytesV (r.take i) ++ (Value.int .u8 0 :: bytesV (List.replicate (M - (i + 1)) 0)) := by rw [e]; simp [bytesV, List.replicate_succ]
  have hl2 : (bytesV (r.take i)).length = i := by simp [bytesV]; omega
  rw [e2, List.set_append_right _ _ (by omega), hl2, Nat.sub_self, List.set_cons_zero, List.take_succ_eq_append_getElem hr, hx']
  simp [bytesV]
theorem lay_done (b : List UInt8) (M i : Nat) (h : (i = (restL b).length ∧ i ≤ M) ∨ (i = M ∧ M ≤ (restL b).length)) : (restL b).take i ++ List.replicate (M - i) 0 = layL b M := by
  unfold layL
  rcases h with ⟨h1, h2⟩ | ⟨h1, h2⟩
  · subst h1
    rw [List.take_of_length_le (Nat.le_refl _), List.take_of_length_le h2]
  · subst h1
    rw [show i - (restL b).length = i - i by omega]
theorem take_next {a b : List UInt8} {j : Nat} {x y : UInt8} (hx : a.getD j 0 = x) (hy : b.getD j 0 = y) (ha : j < a.length) (hb : j < b.length) (h : a.take j = b.take j) : a.take (j + 1) = b.take (j + 1) ↔ x = y := by
  rw [List.getD_eq_getElem?_getD, List.getElem?_eq_getElem ha] at hx
  rw [List.getD_eq_getElem?_getD, List.getElem?_eq_getElem hb] at hy
  rw [List.take_succ_eq_append_getElem ha, List.take_succ_eq_append_getElem hb, h]
  simp only [Option.getD_some] at hx hy
  rw [hx, hy]
  simp
theorem subof_short {w : World} {A : Option Addr} {n c : Nat} (hn : n < 4) :
    Calls Tryd.prog 29 #[.slice A n c] w fun e w' => e = .returned (.tuple #[subnetV 0 0 0 none 0 0, .int .i64 2]) ∧ Below w.heap.size w w' := by
  have h0 : (n : Int) < 4 := by omega
  have h1 : decide ((n : Int) < 4) = true := decide_eq_true h0
  go_enter Tryd.func29, Tryd.ntmps29
  go_wp2
  refine bodyPost_ret (v := .tuple #[subnetV 0 0 0 none 0 0, .int .i64 2]) (by simp [results, Tryd.results29, go_sem]) rfl ⟨rfl, (by (repeat' (first | (with_reducible exact Below.refl _ _) | (with_reducible assumption) | (with_reducible refine below_ext0 ?_ _ _) | (with_reducible refine below_alloc0 ?_ _) | (with_reducible refine Below.ext ?_ ?_ _ _) | (with_reducible refine Below.alloc ?_ ?_ _) | (with_reducible refine Below.setCell ?_ ?_ _) | (with_reducible refine Below.drew ?_) | (with_reducible refine below_draws ?_ _) | go_size | (simp [size_ext]; done) | (simp [size_ext]; omega))))⟩
end Go.Proofs.YtbpflpmhnmdeoaaDoor
