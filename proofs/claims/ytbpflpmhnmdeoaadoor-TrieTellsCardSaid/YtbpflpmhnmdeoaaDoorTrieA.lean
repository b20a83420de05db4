/- The program's trie: New, bit, Len, Put, Get. -/
import Derived.Test.YtbpflpmhnmdeoaaDoorTrieP
import Derived.Test.YtbpflpmhnmdeoaaDoorBits
namespace Go.Proofs.YtbpflpmhnmdeoaaDoor
open Go.RowKit
set_option linter.unusedVariables false

theorem new_any (w : World) : Calls Tryd.prog 12 #[] w fun e w' => e = .returned (.pointer (some ⟨w.heap.size, 0, none⟩)) ∧ w' = w.alloc (.cells #[.bool false, .int .i64 0, .pointer none, .pointer none, .int .i64 0] 79) := by
  go_enter Tryd.func12, Tryd.ntmps12
  go_wp2
  go_ret
  exact ⟨rfl, rfl⟩

theorem and_one (z : Nat) (h : z < 256) : bits .and .u8 (z : Int) 1 = ((z % 2 : Nat) : Int) := by
  have h1 := b8_and (UInt8.ofNat z) 1
  rw [show ((1 : UInt8).toNat : Int) = 1 from rfl, UInt8.toNat_ofNat', Nat.mod_eq_of_lt h] at h1
  rw [h1, show (1 : UInt8).toNat = 2 ^ 1 - 1 from rfl, Nat.and_two_pow_sub_one_eq_mod]

set_option maxRecDepth 100000 in
theorem bit_any {w : World} {B n c : Nat} {A : Option Addr} {l : List UInt8} (h : Rd u8R w B A n c l) (i : Nat) (hi : i < 8 * n) :
    Calls Tryd.prog 34 #[.slice A n c, .int .i64 (i : Int)] w fun e w' => e = .returned (.int .u8 ((bitL l i : Nat) : Int)) ∧ w' = w := by
  obtain ⟨a, ha⟩ : ∃ a, i / 8 = a := ⟨_, rfl⟩
  obtain ⟨j, hj⟩ : ∃ j, i % 8 = j := ⟨_, rfl⟩
  have han : a < n := by omega
  have hj7 : j ≤ 7 := by omega
  obtain ⟨b, o, rfl, lb⟩ := h.addr (by omega)
  obtain ⟨x, hx, c0, k0, _⟩ := h.byte a han
  have hm := h.max
  have hc := h.cap
  unfold maxLen at hm
  have hl := h.lim
  simp only [u8R, Nat.mul_one] at hl
  have hx8 := x.toNat_lt
  have hres : bitL l i = x.toNat / 2 ^ (7 - j) % 2 := by unfold bitL; rw [ha, hx, hj]
  have HRES := hid hres
  have q1 : (i : Int) / 8 = (a : Int) := by omega
  have q2 : Int.tdiv (i : Int) 8 = (a : Int) := by rw [Int.tdiv_eq_ediv_of_nonneg (by omega)]; exact q1
  have q3 : (i : Int) % 8 = (j : Int) := by omega
  have q4 : Int.tmod (i : Int) 8 = (j : Int) := by rw [Int.tmod_eq_emod_of_nonneg (by omega)]; exact q3
  have j0 : (a : Int) < (n : Int) := by omega
  have j1 : (0 : Int) ≤ (a : Int) := by omega
  clear hres hx ha hj h
  obtain ⟨v, hv⟩ : ∃ v : Nat, x.toNat = v := ⟨_, rfl⟩
  rw [hv] at c0 hx8 HRES
  clear hv k0
  go_enter Tryd.func34, Tryd.ntmps34
  go_wp2
  go_ret
  refine ⟨?_, rfl⟩
  have hz : v / 2 ^ (7 - j) < 256 := Nat.lt_of_le_of_lt (Nat.div_le_self _ _) hx8
  rw [HRES.out]
  have e : ((v : Int) / 2 ^ (7 - j)) = ((v / 2 ^ (7 - j) : Nat) : Int) := by simp
  have e2 := and_one (v / 2 ^ (7 - j)) hz
  rw [← e] at e2
  show Ending.returned (Value.int IntKind.u8 (bits BinOp.and IntKind.u8 (↑v / 2 ^ (7 - j)) 1)) = _
  rw [e2]

theorem bit_below {w : World} {B n c : Nat} {A : Option Addr} {l : List UInt8} (h : Rd u8R w B A n c l) (i : Nat) (hi : i < 8 * n) :
    Calls Tryd.prog 34 #[.slice A n c, .int .i64 (i : Int)] w fun e w' => e = .returned (.int .u8 (((bitB l i).toNat : Nat) : Int)) ∧ Below w.heap.size w w' :=
  (bit_any h i hi).mono fun _ _ ⟨h1, h2⟩ => ⟨by rw [bitB_nat]; exact h1, by subst h2; exact Below.refl _ _⟩

section
variable {w w' : World} {base g : Nat} {N : Nodes} {V : Vals} {cnt : Int} {p : List Bool} {b : Nat}
theorem TrieAt.c0 (h : TrieAt w base g N V cnt) (hp : N p = some b) : w.cell? ⟨b, 0, none⟩ = some (.bool (V p).isSome) := by obtain ⟨T, hb⟩ := h.node p b hp; rw [hb.cell 0]; by_cases e : p = [] <;> simp [nodeCs, e]
theorem TrieAt.c1 (h : TrieAt w base g N V cnt) (hp : N p = some b) : w.cell? ⟨b, 1, none⟩ = some (.int .i64 ((V p).getD 0)) := by obtain ⟨T, hb⟩ := h.node p b hp; rw [hb.cell 1]; by_cases e : p = [] <;> simp [nodeCs, e]
theorem TrieAt.c2 (h : TrieAt w base g N V cnt) (hp : N p = some b) (c : Bool) : w.cell? ⟨b, 2 + c.toNat, none⟩ = some (ptrV (N (p ++ [c]))) := by obtain ⟨T, hb⟩ := h.node p b hp; rw [hb.cell _]; by_cases e : p = [] <;> cases c <;> simp [nodeCs, e]
theorem TrieAt.c4 (h : TrieAt w base g N V cnt) : w.cell? ⟨g, 4, none⟩ = some (.int .i64 cnt) := by obtain ⟨T, hb⟩ := h.node _ _ h.root; rw [hb.cell 4]; simp [nodeCs]
theorem TrieAt.fr (h : TrieAt w base g N V cnt) (hp : N p = some b) (i : Nat) : w.frozen? ⟨b, i, none⟩ = false := by obtain ⟨T, hb⟩ := h.node p b hp; exact hb.frozen i
end

/-- what Put hands back, where it puts -/
structure PutO (base g : Nat) (N : Nodes) (w : World) (N' : Nodes) (V' : Vals) (cnt' : Int) (w' : World) : Prop where
  trie : TrieAt w' base g N' V' cnt'
  out : Outside N w w'
  sub : ∀ p b, N' p = some b → N p = some b ∨ w.heap.size ≤ b

section
variable {w wr : World} {base g : Nat} {N N1 : Nodes} {V V1 : Vals} {cnt : Int} {p : List Bool} {b : Nat}
theorem PutO.ext (h : PutO base g N w N1 V cnt wr) (os : Array Obj) (d : Nat) : PutO base g N w N1 V cnt (ext wr os d) :=
  ⟨h.trie.later (below_ext _ _ _), h.out.trans (Outside.of_below (N := fun _ => none) (below_ext _ _ _)) (fun p b e => by cases e), h.sub⟩
theorem PutO.sub' (h : PutO base g N w N1 V cnt wr) : ∀ p b, N1 p = some b → (∃ q, N q = some b) ∨ w.heap.size ≤ b := fun p b hp => (h.sub p b hp).imp (fun e => ⟨p, e⟩) id
theorem PutO.grow (h : PutO base g N w N1 V cnt wr) (hw : base ≤ w.heap.size) (hp : N1 p = some b) (c : Bool) (hc : N1 (p ++ [c]) = none) (T : TypeId) (os : Array Obj) (d : Nat) {i : Nat} (hi : i = 2 + c.toNat) :
    PutO base g N w (putN N1 (p ++ [c]) (wr.heap.size + os.size)) V cnt ((Go.Proofs.YtbpflpmhnmdeoaaDoor.ext (wr.setCell ⟨b, i, none⟩ (.pointer (some ⟨wr.heap.size + os.size, 0, none⟩))) os d).alloc (.cells #[.bool false, .int .i64 0, .pointer none, .pointer none] T)) := by
  subst hi
  have lb := h.trie.lt hp
  have hs := h.out.size
  have e : (Go.Proofs.YtbpflpmhnmdeoaaDoor.ext (wr.setCell ⟨b, 2 + c.toNat, none⟩ (.pointer (some ⟨wr.heap.size + os.size, 0, none⟩))) os d).alloc (.cells #[.bool false, .int .i64 0, .pointer none, .pointer none] T) =
      ((Go.Proofs.YtbpflpmhnmdeoaaDoor.ext wr os d).alloc (.cells #[.bool false, .int .i64 0, .pointer none, .pointer none] T)).setCell ⟨b, 2 + c.toNat, none⟩ (.pointer (some ⟨(Go.Proofs.YtbpflpmhnmdeoaaDoor.ext wr os d).heap.size, 0, none⟩)) := by
    rw [← setCell_ext _ _ _ _ _ _ lb, size_ext, World.setCell_alloc_past _ _ _ _ (by rw [size_ext]; omega)]
  rw [e, ← size_ext wr os d]
  have h1 := h.ext os d
  refine ⟨h1.trie.grow hp c hc T (by rw [size_ext]; omega), ?_, fun q b' hq => ?_⟩
  · refine h1.out.trans (M := N1) ?_ h.sub'
    exact (Outside.of_below ((Below.refl _ _).alloc (Nat.le_refl _) _)).trans (Outside.set hp _ _ _) fun p b hp => .inl ⟨p, hp⟩
  · by_cases e1 : q = p ++ [c]
    · subst e1
      rw [putN_same] at hq
      cases hq
      rw [size_ext]
      omega
    · rw [putN_other _ _ e1] at hq
      exact h.sub _ _ hq
theorem PutO.lay (h : PutO base g N w N1 V cnt wr) (hp : N1 p = some b) (v : Int) : PutO base g N w N1 (putV V p v) cnt ((wr.setCell ⟨b, 0, none⟩ (.bool true)).setCell ⟨b, 1, none⟩ (.int .i64 v)) :=
  ⟨h.trie.lay hp v, h.out.trans ((Outside.set hp _ _ _).trans (Outside.set hp _ _ _) fun p b hp => .inl ⟨p, hp⟩) h.sub', h.sub⟩
theorem PutO.count (h : PutO base g N w N1 V cnt wr) (cnt' : Int) : PutO base g N w N1 V cnt' (wr.setCell ⟨g, 4, none⟩ (.int .i64 cnt')) :=
  ⟨h.trie.count cnt', h.out.trans (Outside.set h.trie.root _ _ _) h.sub', h.sub⟩
end

/-- how many there are behind a put -/
def cntV (V : Vals) (p : List Bool) (cnt : Int) : Int := if (V p).isSome then cnt else cnt + 1
theorem put_bad {w : World} {q : Value} {A : Option Addr} {n c : Nat} (hn : n ≤ 140737488355328) (m v : Int) (hm : I64 m) (hbad : 16 < n ∨ m < 0 ∨ 8 * (n : Int) < m) :
    Calls Tryd.prog 15 #[q, .slice A n c, .int .i64 m, .int .i64 v] w fun e w' => e = .returned (.iface 28 (.int .i64 6)) ∧ w' = w := by
  unfold I64 at hm
  have ways : 16 < n ∨ (¬ (16 < n) ∧ m < 0) ∨ (¬ (16 < n) ∧ 0 ≤ m ∧ 8 * (n : Int) < m) := by omega
  clear hbad
  rcases ways with h | ⟨h, h1⟩ | ⟨h, h1, h2⟩
  all_goals
    go_enter Tryd.func15, Tryd.ntmps15
    go_wp2
    go_ret
    exact ⟨rfl, rfl⟩

set_option maxRecDepth 100000 in
set_option maxHeartbeats 4000000 in
theorem put_ok {w : World} {base g : Nat} {N : Nodes} {V : Vals} {cnt : Int} (ht : TrieAt w base g N V cnt) (hw : base ≤ w.heap.size) (hc0 : 0 ≤ cnt) (hc1 : cnt ≤ 1048576)
    {B : Nat} {A : Option Addr} {n c : Nat} {l : List UInt8} (h : ∀ w', Outside N w w' → Rd u8R w' B A n c l) (hn : n ≤ 16) (m : Nat) (hm : m ≤ 8 * n) (v : Int) :
    Calls Tryd.prog 15 #[.pointer (some ⟨g, 0, none⟩), .slice A n c, .int .i64 (m : Int), .int .i64 v] w fun e w' => e = .returned .nilIface ∧
      ∃ N', PutO base g N w N' (putV V ((bitsL l).take m) v) (cntV V ((bitsL l).take m) cnt) w' := by
  have HT := hid ht
  have H := hid h
  have hlen := hid (h w (Outside.refl _ _)).len
  clear ht h
  go_enter Tryd.func15, Tryd.ntmps15
  go_wp2
  go_loopg [9, 31] m (fun gk v9 v31 wi => ∃ (k b : Nat) (N' : Nodes), k ≤ m ∧ gk = m - k ∧ v31 = .int .i64 (k : Int) ∧ v9 = .pointer (some ⟨b, 0, none⟩) ∧ N' ((bitsL l).take k) = some b ∧ PutO base g N w N' V cnt wi)
  case atStart => exact ⟨0, g, N, Nat.zero_le _, rfl, rfl, rfl, HT.out.root, HT.out, Outside.refl _ _, fun p b hp => .inl hp⟩
  case round =>
    obtain ⟨k, b, N', hk, rfl, rfl, rfl, hb, hP⟩ := hrel
    have HP := hid hP
    have HB := hid hb
    clear hP hb
    have f0 := HP.out.trie.fr HB.out 0
    have f1 := HP.out.trie.fr HB.out 1
    have f2 := HP.out.trie.fr HB.out 2
    have f3 := HP.out.trie.fr HB.out 3
    have e0 := HP.out.trie.c0 HB.out
    have e1 := HP.out.trie.c1 HB.out
    have lb := HP.out.trie.lt HB.out
    have lg := HP.out.trie.lt HP.out.trie.root
    have hbel := hid (HP.out.out.below HT.out.low hw)
    have hsz := HP.out.out.size
    by_cases hlt : k < m
    · have HTK := hid (bitsL_take (l := l) (k := k) (by rw [hlen.out]; omega))
      have CB := fun w' (hb : Below wr.heap.size wr w') => bit_below (H.out w' (HP.out.out.trans (Outside.of_below (N := fun _ => none) hb) fun p b e => by cases e)) k (by omega)
      have C2 := HP.out.trie.c2 HB.out (bitB l k)
      cases hcb : bitB l k <;> cases hx : N' ((bitsL l).take k ++ [bitB l k])
      all_goals
        rw [hx] at C2
        rw [hcb] at CB C2
        have HC := hid CB
        have HX := hid hx
        have HCB := hid hcb
        clear CB hx hcb
        simp only [Bool.toNat_false, Bool.toNat_true, Nat.add_zero, Nat.reduceAdd, ptrV] at C2
        go_wp2
        refine wp_region_ext (by kernel_rfl) (by kernel_rfl) ?_
        repeat (go_big_quiet_step ((go_at_call 34; with_reducible exact Calls.quiet_ext (HC.out _ (by ((first | (with_reducible refine exts_below ?_ ?_ _) | skip); (repeat' (first | (with_reducible exact Below.refl _ _) | (with_reducible assumption) | (with_reducible refine below_ext0 ?_ _ _) | (with_reducible refine below_alloc0 ?_ _) | (with_reducible refine Below.ext ?_ ?_ _ _) | (with_reducible refine Below.alloc ?_ ?_ _) | (with_reducible refine Below.setCell ?_ ?_ _) | (with_reducible refine Below.drew ?_) | (with_reducible refine below_draws ?_ _) | go_size | (simp [size_ext]; done) | (simp [size_ext]; omega)))))))))
        refine wpQuiet_nil ?_
        rintro _ ⟨⟨os, d⟩, rfl⟩
        simp only [exts]
        go_wp2
        go_roundg (m - (k + 1))
        case measure => omega
        case rel =>
          first
            | exact ⟨k + 1, _, _, by omega, rfl, by go_num, rfl, by rw [HTK.out]; exact HX.out, HP.out.ext _ _⟩
            | exact ⟨k + 1, _, _, by omega, rfl, by go_num, rfl, by rw [HTK.out]; exact putN_same _ _ _, HP.out.grow hw HB.out _ HX.out _ _ _ (by rw [HCB.out]; rfl)⟩
    · obtain rfl : m = k := by omega
      have eg := HP.out.trie.c4
      have fg := HP.out.trie.fr HP.out.trie.root 4
      cases hv : V ((bitsL l).take m) with
      | none =>
        rw [hv] at e0 e1
        simp only [Option.isSome_none, Option.getD_none] at e0 e1
        have HV := hid hv
        clear hv
        go_wp2
        go_ret
        refine ⟨rfl, N', ?_⟩
        unfold cntV
        rw [HV.out]
        exact (HP.out.count _).lay HB.out _
      | some u =>
        rw [hv] at e0 e1
        simp only [Option.isSome_some, Option.getD_some] at e0 e1
        have HV := hid hv
        clear hv
        go_wp2
        go_ret
        refine ⟨rfl, N', ?_⟩
        unfold cntV
        rw [HV.out]
        exact HP.out.lay HB.out _

/-- may it be put? -/
def rightB (l : List UInt8) (m : Int) : Bool := decide (l.length ≤ 16 ∧ 0 ≤ m ∧ m ≤ 8 * (l.length : Int))
def keyB (l : List UInt8) (m : Int) : List Bool := (bitsL l).take m.toNat
/-- values, and how many, behind a put that may be none -/
def stepV (V : Vals) (l : List UInt8) (m v : Int) : Vals := if rightB l m = true then putV V (keyB l m) v else V
def stepC (V : Vals) (cnt : Int) (l : List UInt8) (m : Int) : Int := if rightB l m = true then cntV V (keyB l m) cnt else cnt
theorem stepC_le (V : Vals) (cnt : Int) (l : List UInt8) (m : Int) : cnt ≤ stepC V cnt l m ∧ stepC V cnt l m ≤ cnt + 1 := by
  unfold stepC cntV
  split
  · split <;> omega
  · omega
def errB (l : List UInt8) (m : Int) : Value := if rightB l m = true then .nilIface else .iface 28 (.int .i64 6)
theorem PutO.refl {w : World} {base g : Nat} {N : Nodes} {V : Vals} {cnt : Int} (ht : TrieAt w base g N V cnt) : PutO base g N w N V cnt w := ⟨ht, Outside.refl _ _, fun p b hp => .inl hp⟩
theorem PutO.trans {w w1 w2 : World} {base g : Nat} {N N1 N2 : Nodes} {V1 V2 : Vals} {cnt1 cnt2 : Int} (h : PutO base g N w N1 V1 cnt1 w1) (k : PutO base g N1 w1 N2 V2 cnt2 w2) : PutO base g N w N2 V2 cnt2 w2 :=
  ⟨k.trie, h.out.trans k.out h.sub', fun p b hp => by
    have hs := h.out.size
    rcases k.sub p b hp with e | e
    · exact h.sub p b e
    · exact .inr (by omega)⟩
theorem put_any {w : World} {base g : Nat} {N : Nodes} {V : Vals} {cnt : Int} (ht : TrieAt w base g N V cnt) (hw : base ≤ w.heap.size) (hc0 : 0 ≤ cnt) (hc1 : cnt ≤ 1048576)
    {B : Nat} {A : Option Addr} {n c : Nat} {l : List UInt8} (h : ∀ w', Outside N w w' → Rd u8R w' B A n c l) (m : Int) (hm : I64 m) (v : Int) :
    Calls Tryd.prog 15 #[.pointer (some ⟨g, 0, none⟩), .slice A n c, .int .i64 m, .int .i64 v] w fun e w' => e = .returned (errB l m) ∧
      ∃ N', PutO base g N w N' (stepV V l m v) (stepC V cnt l m) w' := by
  have h0 := h w (Outside.refl _ _)
  have hl := h0.len
  have hlim := h0.lim
  simp only [u8R, Nat.mul_one] at hlim
  unfold errB stepV stepC
  cases hr : rightB l m with
  | true =>
    obtain ⟨h1, h2, h3⟩ := of_decide_eq_true hr
    obtain ⟨k, rfl⟩ : ∃ k : Nat, m = (k : Int) := ⟨m.toNat, by omega⟩
    exact put_ok ht hw hc0 hc1 h (by omega) k (by omega) v
  | false =>
    have h1 := of_decide_eq_false hr
    refine (put_bad (by omega) m v hm (by omega)).mono ?_
    rintro e w' ⟨rfl, rfl⟩
    exact ⟨rfl, N, PutO.refl ht⟩
end Go.Proofs.YtbpflpmhnmdeoaaDoor
