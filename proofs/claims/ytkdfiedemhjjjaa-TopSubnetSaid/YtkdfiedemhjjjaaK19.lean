/- SubnetBack is true of every input: a subnet's bytes are those of it, masked; what bytes are the subnet of has just these bytes. No condition. -/
import Derived.Test.YtkdfiedemhjjjaaK15
import Derived.Test.YtkdfiedemhjjjaaK18
import Derived.OpenShut
import Derived.JoinedCond
namespace Go.Proofs.Ytkdfiedemhjjjaa
open Go.ChangeShapes Go.WideShapes Go.ChangeAt Go.RowKit
set_option linter.unusedVariables false
set_option linter.unusedSimpArgs false
namespace subnetBack

/-! a store into one block of the call's own that holds no bytes -/
def Sim (g : Nat) (w w' : World) : Prop := w'.heap.size = w.heap.size ∧ ∀ k, k ≠ g → w'.heap[k]? = w.heap[k]?
theorem Sim.base (w : World) (o o' : Obj) : Sim w.heap.size (w.alloc o) (w.alloc o') := by
  refine ⟨by simp, fun k hk => ?_⟩
  simp only [World.alloc, Array.getElem?_push]
  simp [Ne.symm hk, hk]
theorem Sim.ext {g : Nat} {w w' : World} (h : Sim g w w') (os : Array Obj) (d d' : Nat) : Sim g (Go.Proofs.Ytkdfiedemhjjjaa.ext w os d) (Go.Proofs.Ytkdfiedemhjjjaa.ext w' os d') := by
  refine ⟨by simp [size_ext, h.1], fun k hk => ?_⟩
  simp only [Go.Proofs.Ytkdfiedemhjjjaa.ext, Array.getElem?_append, h.1, h.2 k hk]
theorem Sim.alloc {g : Nat} {w w' : World} (h : Sim g w w') (o : Obj) : Sim g (w.alloc o) (w'.alloc o) := by
  refine ⟨by simp [h.1], fun k hk => ?_⟩
  simp only [World.alloc, Array.getElem?_push, h.1, h.2 k hk]
theorem Rd.sim {w w' : World} {g n c : Nat} {A : Option Addr} {l : List UInt8} {t : TypeId} {cs : Array Value} (h : Rd u8R w w.heap.size A n c l) (hs : Sim g w w') (hb : Blk w g t cs) (hc : ∀ v ∈ cs.toList, ∀ x, v ≠ Value.int .u8 x) : Rd u8R w' w'.heap.size A n c l :=
  ⟨h.len, h.cap, h.max, h.lim, h.nil, fun i hi => by
    obtain ⟨b, off, vs, e, hlt, hr, hcell⟩ := h.at_ i hi
    refine ⟨b, off, vs, e, by rw [hs.1]; exact hlt, hr, fun j u hu => ?_⟩
    have h1 := hcell j u hu
    rw [← h1]
    refine World.cell?_of_block (hs.2 b fun hbg => ?_)
    subst hbg
    rw [hb.cell] at h1
    have hv : vs = [Value.int .u8 ((l[i]).toNat : Int)] := hr
    rw [hv] at hu
    have hu' : u = Value.int .u8 ((l[i]).toNat : Int) := by
      cases j with
      | zero => simpa using hu.symm
      | succ j => simp at hu
    exact hc u (by rw [Array.mem_toList_iff]; exact Array.mem_of_getElem? h1) _ hu'⟩

/-! plain: bytes and back -/
theorem enc_len (f s sc : Int) (l : List UInt8) (n : Nat) (hn : l.length = n) (k : SOk f s sc n) : (encL f s sc l).length = 4 + sentN s ∧ sentN s ≤ n := by
  have h0 := k.s0
  have h1 := k.s1
  have : sentN s ≤ n := by unfold sentN; omega
  refine ⟨?_, this⟩
  unfold encL
  simp [maskL_len, hn]
  omega
theorem ofN {x : Int} (h0 : 0 ≤ x) (h1 : x < 256) : ((UInt8.ofNat x.toNat).toNat : Int) = x := by
  rw [UInt8.toNat_ofNat', Nat.mod_eq_of_lt (by omega)]; omega
set_option maxRecDepth 100000 in
theorem enc_parts (f s sc : Int) (l : List UInt8) (n : Nat) (hn : l.length = n) (k : SOk f s sc n) :
    decF (encL f s sc l) = f ∧ decS (encL f s sc l) = s ∧ decC (encL f s sc l) = sc ∧ famN f = n ∧ restL (encL f s sc l) = (maskL l s).take (sentN s) := by
  obtain ⟨hf, s0, s1, c0, c1⟩ := k
  have hf0 : 1 ≤ f ∧ f ≤ 2 := by omega
  have hn16 : n ≤ 16 := by omega
  refine ⟨?_, ?_, ?_, ?_, ?_⟩
  · unfold decF encL
    simp only [List.cons_append, List.nil_append, List.getD_cons_zero, List.getD_cons_succ]
    rw [ofN (by omega) (by omega)]
    simp
  · unfold decS encL
    simp only [List.cons_append, List.nil_append, List.getD_cons_zero, List.getD_cons_succ]
    exact ofN (by omega) (by omega)
  · unfold decC encL
    simp only [List.cons_append, List.nil_append, List.getD_cons_zero, List.getD_cons_succ]
    exact ofN (by omega) (by omega)
  · rcases hf with ⟨rfl, rfl⟩ | ⟨rfl, rfl⟩ <;> rfl
  · rfl
theorem enc_ok (f s sc : Int) (l : List UInt8) (n : Nat) (hn : l.length = n) (k : SOk f s sc n) : RestOk (encL f s sc l) ∧ addrL (encL f s sc l) = maskL l s := by
  obtain ⟨e1, e2, e3, e4, e5⟩ := enc_parts f s sc l n hn k
  have hl := (enc_len f s sc l n hn k).2
  have h5 : ((maskL l s).take (sentN s)).length = sentN s := by simp [maskL_len, hn]; omega
  have hm : maskL ((maskL l s).take (sentN s)) s = (maskL l s).take (sentN s) := by
    rw [maskL_take, maskL_maskL, if_pos (Int.le_refl _)]
  refine ⟨⟨by rw [e5, e2, h5], by rw [e5, e2, hm]⟩, ?_⟩
  unfold addrL
  rw [e5, e1, e4, h5, ← hn]
  exact maskL_fill l s _ k.s0 (by rw [hn]; exact k.s1) (by unfold sentN; have := k.s0; omega)
set_option maxRecDepth 100000 in
/-- what bytes are the subnet of has just these bytes -/
theorem back_ok (b : List UInt8) (hb : 4 ≤ b.length) (k : SOk (decF b) (decS b) (decC b) (famN (decF b))) (hr : RestOk b) : encL (decF b) (decS b) (decC b) (addrL b) = b ∧ (addrL b).length = famN (decF b) := by
  have hs := k.s0
  have hs1 := k.s1
  have hlen : (addrL b).length = famN (decF b) := by
    unfold addrL
    rw [List.length_append, List.length_replicate, hr.1]
    have : sentN (decS b) ≤ famN (decF b) := by unfold sentN; omega
    omega
  refine ⟨?_, hlen⟩
  have h1 : maskL (addrL b) (decS b) = addrL b := maskL_pad _ _ _ hr.2
  have h2 : (addrL b).take (sentN (decS b)) = restL b := by
    unfold addrL
    rw [List.take_append_of_le_length (by rw [hr.1]; exact Nat.le_refl _), List.take_of_length_le (by rw [hr.1]; exact Nat.le_refl _)]
  unfold encL
  rw [h1, h2]
  match b, hb with
  | a0 :: a1 :: a2 :: a3 :: r, _ =>
    have hF : decF (a0 :: a1 :: a2 :: a3 :: r) = (a0.toNat : Int) * 256 + (a1.toNat : Int) := rfl
    have x0 := a0.toNat_lt
    have x1 := a1.toNat_lt
    have hf := k.fam
    rw [hF] at hf ⊢
    have z0 : a0.toNat = 0 := by omega
    have e0 : a0 = 0 := UInt8.toNat_inj.1 (by simpa using z0)
    subst e0
    have h4 : ((((0 : UInt8).toNat : Int) * 256 + (a1.toNat : Int))).toNat = a1.toNat := by simp
    rw [h4]
    simp [decS, decC, restL]

/-- Decode, of a subnet's bytes -/
theorem Decode_enc (w : World) (f s sc : Int) (n : Nat) (l : List UInt8) (hn : l.length = n) (k : SOk f s sc n) (A : Option Addr) (m c : Nat) (h : Rd u8R w w.heap.size A m c (encL f s sc l)) :
    Calls Try.prog 26 #[.slice A m c] w fun e w' => ∃ A' m' c', e = .returned (.tuple #[subnetV f s sc A' m' c', .nilIface]) ∧ Rd u8R w' w'.heap.size A' m' c' (maskL l s) ∧ Below w.heap.size w w' := by
  obtain ⟨e1, e2, e3, e4, e5⟩ := enc_parts f s sc l n hn k
  have hm : 4 ≤ m := by have := (enc_len f s sc l n hn k).1; rw [h.len] at this; omega
  obtain ⟨b, o, rfl, _⟩ := h.addr (by omega)
  have := enc_ok f s sc l n hn k
  refine (Decode_ok w b o m c _ h hm (by rw [e1, e2, e3, e4]; exact k) this.1).mono ?_
  rintro e w' ⟨A', m', c', he, hm', hr, hb⟩
  rw [e1, e2, e3] at he
  rw [this.2] at hr
  exact ⟨A', m', c', he, hr, hb⟩
/-- Decode, of whatever bytes -/
theorem Decode_two (w : World) (A : Option Addr) (n c : Nat) (l : List UInt8) (h : Rd u8R w w.heap.size A n c l) :
    (∃ E : Int, ∀ w', Below w.heap.size w w' → Calls Try.prog 26 #[.slice A n c] w' fun e w1 => e = .returned (.tuple #[subnetV 0 0 0 none 0 0, .iface 65 (.int .i64 E)]) ∧ Below w'.heap.size w' w1) ∨
    (∃ (f s sc : Int) (m : Nat) (a : List UInt8), SOk f s sc m ∧ a.length = m ∧ encL f s sc a = l ∧ ∀ w', Below w.heap.size w w' → Calls Try.prog 26 #[.slice A n c] w' fun e w1 => ∃ A' c', e = .returned (.tuple #[subnetV f s sc A' m c', .nilIface]) ∧ Rd u8R w1 w1.heap.size A' m c' a ∧ Below w'.heap.size w' w1) := by
  by_cases hn : n < 4
  · have h1 := h.max
    unfold maxLen at h1
    exact .inl ⟨2, fun w' _ => Decode_short w' A n c hn (by omega) h.cap⟩
  · obtain ⟨b, o, rfl, _⟩ := h.addr (by omega)
    by_cases k : SOk (decF l) (decS l) (decC l) (famN (decF l))
    · by_cases hr : RestOk l
      · have hb := back_ok l (by rw [h.len]; omega) k hr
        refine .inr ⟨_, _, _, _, addrL l, k, hb.2, hb.1, fun w' hw => (Decode_ok w' b o n c l (h.later hw) (by omega) k hr).mono ?_⟩
        rintro e w1 ⟨A', m', c', he, rfl, hr, hb⟩
        exact ⟨A', c', he, hr, hb⟩
      · exact .inl ⟨1, fun w' hw => Decode_syntax w' b o n c l (h.later hw) (by omega) k hr⟩
    · exact .inl ⟨6, fun w' hw => Decode_range w' b o n c l (h.later hw) (by omega) k⟩

end subnetBack
end Go.Proofs.Ytkdfiedemhjjjaa
