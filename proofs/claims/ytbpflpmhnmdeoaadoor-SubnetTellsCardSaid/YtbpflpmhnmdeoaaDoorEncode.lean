/- subnet's Encode. -/
import Derived.Test.YtbpflpmhnmdeoaaDoorIn
import Derived.Test.YtbpflpmhnmdeoaaDoorMaskLaw
import Derived.Test.YtbpflpmhnmdeoaaDoorApp
namespace Go.Proofs.YtbpflpmhnmdeoaaDoor
open Go.RowKit
set_option linter.unusedVariables false
set_option linter.unusedSimpArgs false

/-- how many bytes of the address are sent -/
def sentN (s : Int) : Nat := ((s + 7) / 8).toNat
/-- a subnet's bytes -/
def encL (f s sc : Int) (l : List UInt8) : List UInt8 := [0, UInt8.ofNat f.toNat, UInt8.ofNat s.toNat, UInt8.ofNat sc.toNat] ++ (maskL l s).take (sentN s)

theorem bytesV4 (a b c d : Int) (ha : 0 ≤ a ∧ a < 256) (hb : 0 ≤ b ∧ b < 256) (hc : 0 ≤ c ∧ c < 256) (hd : 0 ≤ d ∧ d < 256) : [Value.int .u8 a, .int .u8 b, .int .u8 c, .int .u8 d] = bytesV [UInt8.ofNat a.toNat, UInt8.ofNat b.toNat, UInt8.ofNat c.toNat, UInt8.ofNat d.toNat] := by
  have e : ∀ x : Int, 0 ≤ x ∧ x < 256 → ((UInt8.ofNat x.toNat).toNat : Int) = x := fun x hx => by rw [UInt8.toNat_ofNat', Nat.mod_eq_of_lt (by omega)]; omega
  simp only [bytesV, List.map_cons, List.map_nil, e a ha, e b hb, e c hc, e d hd]

set_option maxRecDepth 100000 in
set_option maxHeartbeats 4000000 in
theorem Encode_ok (w : World) (f s sc : Int) (A : Option Addr) (n c : Nat) (l : List UInt8) (h : Rd u8R w w.heap.size A n c l) (hk : SOk f s sc n) :
    Calls Tryd.prog 26 #[subnetV f s sc A n c] w fun e w' => ∃ A' m' c', e = .returned (.tuple #[.slice A' m' c', .nilIface]) ∧ Rd u8R w' w'.heap.size A' m' c' (encL f s sc l) ∧ Below w.heap.size w w' := by
  have s0 := hk.s0
  have s1 := hk.s1
  have sc0 := hk.sc0
  have sc1 := hk.sc1
  have hn16 : n ≤ 16 := by rcases hk.fam with h | h <;> omega
  have hn4 : 4 ≤ n := by rcases hk.fam with h | h <;> omega
  have f0 : 1 ≤ f := by rcases hk.fam with h | h <;> omega
  have f1 : f ≤ 2 := by rcases hk.fam with h | h <;> omega
  have CK := hid (check_ok f s sc A n c hk)
  have CM := hid fun w' (hb : Below w.heap.size w w') => mask_rd w' A n c l _ (h.below hb) s (by omega) (by omega)
  have hl := hid h.len
  clear hk h
  obtain ⟨k, hkk⟩ : ∃ k, sentN s = k := ⟨_, rfl⟩
  have kle : k ≤ n := by unfold sentN at hkk; omega
  have q2 : IntKind.i64.wrap ((s + 7).tdiv 8) = (k : Int) := by
    have e : (s + 7).tdiv 8 = (s + 7) / 8 := Int.tdiv_eq_ediv_of_nonneg (by omega)
    rw [e]
    unfold sentN at hkk
    rw [IntWalk.i64_in _ (by omega)]
    omega
  have HK := hid hkk
  clear hkk
  have q1 : IntKind.i64.wrap (s + 7) = s + 7 := IntWalk.i64_in _ (by omega)
  go_enter Tryd.func26, Tryd.ntmps26
  go_wp2_with (first | (go_at_call 40; refine (CK.out _).mono ?_; rintro e w1 ⟨rfl, rfl⟩))
  go_region_held3 (fun w' => w'.cell? ⟨w.heap.size, 0, none⟩ = some (.int .i64 f) ∧ w'.cell? ⟨w.heap.size, 1, none⟩ = some (.int .i64 s) ∧ w'.cell? ⟨w.heap.size, 2, none⟩ = some (.int .i64 sc) ∧ w'.cell? ⟨w.heap.size, 3, none⟩ = some (.slice A n c))
    (((try dsimp only); (repeat' apply And.intro) <;> (first | assumption | (go_simp; done))))
    (first
      | (go_at_call 37; refine (CM.out _ (by (repeat' (first | (with_reducible exact Below.refl _ _) | (with_reducible assumption) | (with_reducible refine below_ext0 ?_ _ _) | (with_reducible refine below_alloc0 ?_ _) | (with_reducible refine Below.ext ?_ ?_ _ _) | (with_reducible refine Below.alloc ?_ ?_ _) | (with_reducible refine Below.setCell ?_ ?_ _) | (with_reducible refine Below.drew ?_) | (with_reducible refine below_draws ?_ _) | go_size | (simp [size_ext]; done) | (simp [size_ext]; omega))))).mono ?_; rintro e w1 ⟨A4, c4, rfl, hr, hb⟩; obtain ⟨os1, d1, rfl⟩ := ext_of_below hb; obtain ⟨b4, o4, rfl, lb4⟩ := hr.addr (by omega); (try simp only [ext_drew, ext_drewN] at hr); have R2 := hid hr; clear hr; clear hb lb4; have k1 := R2.out.cap; have k2 : (k : Int) ≤ (c4 : Int) := (by omega); have k3 : k ≤ c4 := (by omega))
      | (refine step_app rfl (.tmp 21) (.tmp 31) 44 rfl (w.heap.size + 1) 5 1 1 el_u8 _ 4 [.int .u8 0, .int .u8 f, .int .u8 s, .int .u8 sc] rfl (own_ext (own_lit _ _ (by simp) (by omega) rfl (by decide) rfl) _ _) _ k _ _ rfl (R2.out.take kle).src_u8 (by omega) (by unfold maxLen; omega) (by simp [size_ext]; omega) ?_; intro v9 w9 ho9 hg9 _; have hb9 := grown_below (own_ext (own_lit (base := w.heap.size + 1) (e := 5) (size := 1) (n := 4) #[.int .u8 0, .int .u8 f, .int .u8 s, .int .u8 sc] _ (by simp) (by omega) rfl (by decide) rfl) _ _) hg9 (by simp [size_ext]; omega); have hz := (fun i => hb9.cell (p := ⟨w.heap.size, i, none⟩) (by simp)); have HO := hid ho9; have HL := hid hb9; clear ho9 hg9 hb9))
  all_goals
    have hx : [Value.int .u8 0, .int .u8 f, .int .u8 s, .int .u8 sc] ++ (((maskL l s).take k).map fun b => Value.int .u8 (b.toNat : Int)) = bytesV (encL f s sc l) := by
      rw [bytesV4 0 f s sc (by omega) (by omega) (by omega) (by omega), encL, HK.out]
      simp [bytesV]
    have ho := HO.out
    rw [hx] at ho
    obtain ⟨A', c', rfl, hr⟩ := rd_of_own (R := u8R) ho (rels_u8.2 rfl) (by simp only [encL, HK.out]; simp [maskL_len, hl.out]; omega) (by have := HL.out.size; simp [size_ext] at this; omega) (by simp [u8R]; omega) (by decide)
    (try simp only [ext_drew, ext_drewN] at hr); have HR := hid hr; clear hr
    clear hx ho HO
    go_wp2
    go_ret2
    exact ⟨A', _, c', rfl, HR.out, Below.trans (by (repeat' (first | (with_reducible exact Below.refl _ _) | (with_reducible assumption) | (with_reducible refine below_ext0 ?_ _ _) | (with_reducible refine below_alloc0 ?_ _) | (with_reducible refine Below.ext ?_ ?_ _ _) | (with_reducible refine Below.alloc ?_ ?_ _) | (with_reducible refine Below.setCell ?_ ?_ _) | (with_reducible refine Below.drew ?_) | (with_reducible refine below_draws ?_ _) | go_size | (simp [size_ext]; done) | (simp [size_ext]; omega)))) (HL.out.mono (by omega))⟩

set_option maxRecDepth 100000 in
set_option maxHeartbeats 4000000 in
theorem Encode_bad (w : World) (f s sc : Int) (A : Option Addr) (n c : Nat) (hk : ¬ SOk f s sc n) :
    Calls Tryd.prog 26 #[subnetV f s sc A n c] w fun e w' => e = .returned (.tuple #[.slice none 0 0, .iface 28 (.int .i64 (errS f s sc n))]) ∧ Below w.heap.size w w' := by
  have CK := hid (check_bad f s sc A n c hk)
  clear hk
  go_enter Tryd.func26, Tryd.ntmps26
  go_wp2_with (first | (go_at_call 40; refine (CK.out _).mono ?_; rintro e w1 ⟨rfl, rfl⟩))
  go_ret2
  exact ⟨rfl, by (repeat' (first | (with_reducible exact Below.refl _ _) | (with_reducible assumption) | (with_reducible refine below_ext0 ?_ _ _) | (with_reducible refine below_alloc0 ?_ _) | (with_reducible refine Below.ext ?_ ?_ _ _) | (with_reducible refine Below.alloc ?_ ?_ _) | (with_reducible refine Below.setCell ?_ ?_ _) | (with_reducible refine Below.drew ?_) | (with_reducible refine below_draws ?_ _) | go_size | (simp [size_ext]; done) | (simp [size_ext]; omega)))⟩
end Go.Proofs.YtbpflpmhnmdeoaaDoor
