/- The document's answers of rules: Plained. -/
import Derived.Test.YtemgbfppdopfbaaDoorRuleN
import Derived.Test.YtemgbfppdopfbaaDoorOwnRowB
namespace Go.Proofs.YtemgbfppdopfbaaDoor
open Go.RowKit
open Tree
set_option linter.unusedVariables false
set_option linter.unusedSimpArgs false

theorem match_one' {w : World} {B : Nat} (a : MT) (vs : List Value) (h : matchR.rel w B a vs) : ∀ u ∈ vs, u.oneCell' = true := by
  obtain ⟨A, n, c, A', n', c', op, N, l, ad, _, rfl, _⟩ := match_of h
  simp [Value.oneCell']
theorem rel_match {w : World} {B : Nat} {op N : Int} {l : List ByteArray} {ad : List UInt8} {A1 A2 : Option Addr} {n1 c1 n2 c2 : Nat} (hi : I64 op ∧ I64 N) (h1 : Rd strR w B A1 n1 c1 l) (h2 : Rd u8R w B A2 n2 c2 ad) :
    matchR.rel w B (op, N, l, ad, ()) [.int .i64 op, .int .i64 N, .slice A1 n1 c1, .slice A2 n2 c2] :=
  ⟨[_], _, rfl, ⟨rfl, hi.1⟩, [_], _, rfl, ⟨rfl, hi.2⟩, [_], _, rfl, ⟨A1, n1, c1, rfl, h1⟩, [_], _, rfl, ⟨A2, n2, c2, rfl, h2⟩, rfl⟩
theorem rel_notM {w : World} {B : Nat} : matchR.rel w B notM [.int .i64 8, .int .i64 0, .slice none 0 0, .slice none 0 0] :=
  rel_match (op := 8) (N := 0) (l := []) (ad := []) ⟨by unfold I64; omega, by unfold I64; omega⟩ (rd_nil _ _) (rd_nil _ _)
/-- a row of the call's own as a source -/
theorem own_src {w : World} {base k n c : Nat} {e : TypeId} {A : Option Addr} {xs : List Value} (h : w.ownsRow base e k (.slice A n c) n xs) (hone : ∀ u ∈ xs, u.oneCell' = true) : Src w A n c k xs := by
  refine ⟨h.1, fun ad ha j u hu => ?_, fun ha => ?_, hone⟩
  · rcases h.2 with ⟨e0, e9⟩ | ⟨g, cap, cur, e0, rest⟩
    · injection e0 with e1 e2 e3
      rw [e1] at ha
      cases ha
    · injection e0 with e1 e2 e3
      rw [e1] at ha
      cases ha
      have := h.cells (g := g) (by rw [e1]; rfl) j u hu
      simpa [add_none] using this
  · rcases h.2 with ⟨e0, e9⟩ | ⟨g, cap, cur, e0, rest⟩
    · injection e0 with e1 e2 e3
      exact ⟨e2, e3⟩
    · injection e0 with e1 e2 e3
      rw [e1] at ha
      cases ha
theorem OwnR.src {α : Type} {R : Rep α} {e : TypeId} {B base n c : Nat} {w : World} {A : Option Addr} {l : List α} (h : OwnR R e B base w (.slice A n c) l) (hn : l.length = n) (h1 : ∀ (a : α) vs, R.rel w B a vs → ∀ u ∈ vs, u.oneCell' = true) : SrcR R B w A n c l := by
  subst hn
  obtain ⟨⟨xs, ho, hr⟩, _⟩ := h
  refine ⟨⟨xs, own_src ho ?_, hr⟩, rfl⟩
  intro u hu
  obtain ⟨vss, v1, e1, v2⟩ := hr
  rw [e1, List.mem_flatten] at hu
  obtain ⟨vs, hvs, hu⟩ := hu
  obtain ⟨j, hj, rfl⟩ := List.getElem_of_mem hvs
  exact h1 _ _ (v2 j (by omega) hj) u hu
theorem OwnR.lessBase {α : Type} {R : Rep α} {e : TypeId} {B base base' : Nat} {w : World} {v : Value} {l : List α} (h : OwnR R e B base w v l) (hb : base' ≤ base) (hB : B ≤ base') : OwnR R e B base' w v l := by
  obtain ⟨⟨xs, ho, hr⟩, _, hle⟩ := h
  exact ⟨⟨xs, own_base ho hb, hr⟩, hB, Nat.le_trans hb hle⟩
/-- what Plained hands back -/
def PlainedO (B : Nat) (w : World) (L : Nat) (l : List MT) (e : Ending) (w' : World) : Prop :=
  ∃ A' c', e = .returned (.slice A' L c') ∧ OwnR matchR 81 B w.heap.size w' (.slice A' L c') l ∧ Below w.heap.size w w'
def PlainedC (t : Tree) : Prop := ∀ (w : World) {B : Nat} {A : Option Addr} {n c : Nat} {r : List MT} {k : Nat} {p : List MT} {K : Int} (nb : Bool) {L : Nat}, K = (k : Int) → B ≤ w.heap.size →
    Rd matchR w B A n c r → AtT r k p [t] → k < n → t.size ≤ 200 → (t.plain nb).flat.length = L →
    Calls Tryd.prog 26 #[.slice A n c, .int .i64 K, .bool nb] w (PlainedO B w L (t.plain nb).flat)
theorem lit_own {W : World} {g B base : Nat} {cs : Array Value} {l : List MT} {n : Nat} (hg : g = W.heap.size) (hn : l.length = n) (hc : cs.size = n * 4) (hn2 : n ≤ 1000) (hB : B ≤ base) (hb : base ≤ W.heap.size) (hr : Rels matchR W B l cs.toList) :
    OwnR matchR 81 B base (W.alloc (.cells cs 81)) (.slice (some ⟨g, 0, none⟩) n n) l := by
  subst hn
  exact ⟨⟨cs.toList, own_lit (e := 81) (size := 4) cs cs.toList hg (by omega) hc (by unfold maxLen; omega) rfl, hr.below ((Below.refl _ _).alloc (Nat.le_trans hB hb) _)⟩, hB, by simp; omega⟩
set_option maxRecDepth 100000 in
set_option maxHeartbeats 8000000 in
theorem plained_leaf {m : MT} (hok : (Tree.leaf m).ok) : PlainedC (.leaf m) := by
  intro w B A n c r k p K nb L hK hBw hR hat hk hsz hL
  subst hK
  have hm := hR.max
  have hcap := hR.cap
  unfold maxLen at hm
  have e0 := at_leaf hat (by rw [hR.len]; exact hk)
  obtain ⟨b, o, A1, n1, c1, A2, n2, c2, op, N, l, ad, rfl, hb, e3, k0, k1, k2, k3, r1, r2, hi⟩ := hR.match_ k hk
  have e' : m = (op, N, l, ad, ()) := e0.symm.trans e3
  subst e'
  have h0 : takesN op = 0 := hok
  have hne : op ≠ 8 ∧ op ≠ 9 ∧ op ≠ 10 := by
    unfold takesN at h0
    split at h0
    · cases h0
    · split at h0
      · cases h0
      · omega
  have b8 : (op == 8) = false := beq_eq_false_iff_ne.2 hne.1
  have b9 : (op == 9) = false := beq_eq_false_iff_ne.2 hne.2.1
  have b10 : (op == 10) = false := beq_eq_false_iff_ne.2 hne.2.2
  have t0 : (k : Int) < (n : Int) := by omega
  have t2 : (0 : Int) ≤ (k : Int) := by omega
  have HM := hid fun (w' : World) (hb : Below w.heap.size w w') => rel_match hi (r1.below (hb.mono hBw)) (r2.below (hb.mono hBw))
  have HBW := hid hBw
  cases nb
  · have hL1 : 1 = L := hL
    subst hL1
    clear hR hat e0 e3 r1 r2 hok h0 hne hL hi
    go_enter Tryd.func26, Tryd.ntmps26
    go_wp2
    go_ret
    exact ⟨_, _, rfl, lit_own (l := [(op, N, l, ad, ())]) (by first | rfl | (simp [size_ext]; done) | (simp [size_ext]; omega)) rfl rfl (by omega) HBW.out (by first | omega | (simp [size_ext]; done) | (simp [size_ext]; omega)) (Rels.one (HM.out _ (by (repeat' (first | (with_reducible exact Below.refl _ _) | (with_reducible assumption) | (with_reducible refine below_ext0 ?_ _ _) | (with_reducible refine below_alloc0 ?_ _) | (with_reducible refine Below.ext ?_ ?_ _ _) | (with_reducible refine Below.alloc ?_ ?_ _) | (with_reducible refine Below.setCell ?_ ?_ _) | (with_reducible refine Below.drew ?_) | (with_reducible refine below_draws ?_ _) | go_size | (simp [size_ext]; done) | (simp [size_ext]; omega)))))), (by (repeat' (first | (with_reducible exact Below.refl _ _) | (with_reducible assumption) | (with_reducible refine below_ext0 ?_ _ _) | (with_reducible refine below_alloc0 ?_ _) | (with_reducible refine Below.ext ?_ ?_ _ _) | (with_reducible refine Below.alloc ?_ ?_ _) | (with_reducible refine Below.setCell ?_ ?_ _) | (with_reducible refine Below.drew ?_) | (with_reducible refine below_draws ?_ _) | go_size | (simp [size_ext]; done) | (simp [size_ext]; omega))))⟩
  · have hL1 : 2 = L := hL
    subst hL1
    clear hR hat e0 e3 r1 r2 hok h0 hne hL hi
    go_enter Tryd.func26, Tryd.ntmps26
    go_wp2
    go_ret
    exact ⟨_, _, rfl, lit_own (l := [(op, N, l, ad, ()), notM]) (by first | rfl | (simp [size_ext]; done) | (simp [size_ext]; omega)) rfl rfl (by omega) HBW.out (by first | omega | (simp [size_ext]; done) | (simp [size_ext]; omega)) (Rels.append (l := [(op, N, l, ad, ())]) (m := [notM]) (Rels.one (HM.out _ (by (repeat' (first | (with_reducible exact Below.refl _ _) | (with_reducible assumption) | (with_reducible refine below_ext0 ?_ _ _) | (with_reducible refine below_alloc0 ?_ _) | (with_reducible refine Below.ext ?_ ?_ _ _) | (with_reducible refine Below.alloc ?_ ?_ _) | (with_reducible refine Below.setCell ?_ ?_ _) | (with_reducible refine Below.drew ?_) | (with_reducible refine below_draws ?_ _) | go_size | (simp [size_ext]; done) | (simp [size_ext]; omega)))))) (Rels.one rel_notM)), (by (repeat' (first | (with_reducible exact Below.refl _ _) | (with_reducible assumption) | (with_reducible refine below_ext0 ?_ _ _) | (with_reducible refine below_alloc0 ?_ _) | (with_reducible refine Below.ext ?_ ?_ _ _) | (with_reducible refine Below.alloc ?_ ?_ _) | (with_reducible refine Below.setCell ?_ ?_ _) | (with_reducible refine Below.drew ?_) | (with_reducible refine below_draws ?_ _) | go_size | (simp [size_ext]; done) | (simp [size_ext]; omega))))⟩
set_option maxRecDepth 100000 in
set_option maxHeartbeats 8000000 in
theorem plained_not {m : MT} {a : Tree} (hok : (Tree.one m a).ok) (ha : PlainedC a) : PlainedC (.one m a) := by
  intro w B A n c r k p K nb L hK hBw hR hat hk hsz hL
  subst hK
  have hm := hR.max
  have hcap := hR.cap
  unfold maxLen at hm
  have lim := hR.lim
  rw [show matchR.bs = 64 from rfl] at lim
  obtain ⟨e0, j, hj, hat2⟩ := at_one hat (by rw [hR.len]; exact hk)
  obtain ⟨b, o, A1, n1, c1, A2, n2, c2, op, N, l, ad, rfl, hb, e3, k0, k1, k2, k3, r1, r2, _⟩ := hR.match_ k hk
  have e' : m = (op, N, l, ad, ()) := e0.symm.trans e3
  subst e'
  obtain rfl : op = 8 := takes_one (m := (op, N, l, ad, ())) hok.1
  have hL' : (a.plain (!nb)).flat.length = L := hL
  have hsz' : a.size ≤ 200 := by simp only [Tree.size] at hsz; omega
  have C := fun (w' : World) (hb : Below w.heap.size w w') => ha w' (!nb) (L := L) (K := (j : Int)) rfl (Nat.le_trans hBw hb.size) (hR.below (hb.mono hBw)) hat2 (by omega) hsz' hL'
  obtain ⟨fl, hfl⟩ : ∃ fl, (a.plain (!nb)).flat = fl := ⟨_, rfl⟩
  have HF := hid (show ((Tree.one (8, N, l, ad, ()) a).plain nb).flat = fl from hfl)
  obtain ⟨x, hx⟩ : ∃ x, (!nb) = x := ⟨_, rfl⟩
  rw [hfl, hx] at C
  have HX := hid hx
  replace C := hid C
  have t0 : (k : Int) < (n : Int) := by omega
  have t2 : (0 : Int) ≤ (k : Int) := by omega
  have hjb : j ≤ 2199023255552 := by omega
  have q1 : IntKind.i64.wrap ((k : Int) - 1) = (j : Int) := by rw [IntWalk.i64_in _ (by omega)]; omega
  have q2 : (k : Int) - 1 = (j : Int) := by omega
  clear hR hat hat2 e0 e3 r1 r2 hok ha hj hL hL' hfl hsz hsz' hx
  cases nb
  all_goals
    have hx := HX.out
    simp at hx
    subst hx
    have tk0 : True := trivial; have tk1 : True := trivial; have tk2 : True := trivial; have tk3 : True := trivial; have tk4 : True := trivial; have tk5 : True := trivial; have tk6 : True := trivial; have tk7 : True := trivial; have tk8 : True := trivial; have tk9 : True := trivial; have tk10 : True := trivial; have tk11 : True := trivial; have tk12 : True := trivial
    go_enter Tryd.func26, Tryd.ntmps26
    go_wp2_with (go_at_call 26; have _t := tk1; (with_reducible refine (C.out _ (by (repeat' (first | (with_reducible exact Below.refl _ _) | (with_reducible assumption) | (with_reducible refine below_ext0 ?_ _ _) | (with_reducible refine below_alloc0 ?_ _) | (with_reducible refine Below.ext ?_ ?_ _ _) | (with_reducible refine Below.alloc ?_ ?_ _) | (with_reducible refine Below.setCell ?_ ?_ _) | (with_reducible refine Below.drew ?_) | (with_reducible refine below_draws ?_ _) | go_size | (simp [size_ext]; done) | (simp [size_ext]; omega))))).mono ?_); rintro e w1 ⟨A9, c9, rfl, hr, hb⟩; have R9 := hid (hr.lessBase (by first | omega | (simp [size_ext]; done) | (simp [size_ext]; omega)) hBw : OwnR matchR _ B w.heap.size _ _ _); have LW := hid (Below.trans (by (repeat' (first | (with_reducible exact Below.refl _ _) | (with_reducible assumption) | (with_reducible refine below_ext0 ?_ _ _) | (with_reducible refine below_alloc0 ?_ _) | (with_reducible refine Below.ext ?_ ?_ _ _) | (with_reducible refine Below.alloc ?_ ?_ _) | (with_reducible refine Below.setCell ?_ ?_ _) | (with_reducible refine Below.drew ?_) | (with_reducible refine below_draws ?_ _) | go_size | (simp [size_ext]; done) | (simp [size_ext]; omega)))) (hb.mono (by first | omega | (simp [size_ext]; done) | (simp [size_ext]; omega))) : Below w.heap.size w w1); clear hb tk1 hr)
    go_ret
    exact ⟨_, _, rfl, by rw [HF.out]; exact R9.out, LW.out⟩
set_option maxRecDepth 100000 in
set_option maxHeartbeats 20000000 in
theorem plained_pair {m : MT} {a b' : Tree} (hok : (Tree.two m a b').ok) (ha : PlainedC a) (hb0 : PlainedC b') : PlainedC (.two m a b') := by
  intro w B A n c r k p K nb L hK hBw hR hat hk hsz hL
  subst hK
  have hm := hR.max
  have hcap := hR.cap
  unfold maxLen at hm
  have lim := hR.lim
  rw [show matchR.bs = 64 from rfl] at lim
  obtain ⟨e0, k', hk', hat2, j, hj, hjk, hat3⟩ := at_two hat (by rw [hR.len]; exact hk)
  obtain ⟨b, o, A1, n1, c1, A2, n2, c2, op, N, l, ad, rfl, hb, e3, k0, k1, k2, k3, r1, r2, hi⟩ := hR.match_ k hk
  have e' : m = (op, N, l, ad, ()) := e0.symm.trans e3
  subst e'
  have hop : op = 9 ∨ op = 10 := takes_two (m := (op, N, l, ad, ())) hok.1
  obtain ⟨opx, hopx⟩ : ∃ opx, (if nb then 19 - op else op) = opx := ⟨_, rfl⟩
  have hix : I64 opx := by rw [← hopx]; cases nb; exact hi.1; exact I64_swap hop
  obtain ⟨fa, hfa⟩ : ∃ fa, (a.plain nb).flat = fa := ⟨_, rfl⟩
  obtain ⟨fb, hfb⟩ : ∃ fb, (b'.plain nb).flat = fb := ⟨_, rfl⟩
  obtain ⟨La, hLa⟩ : ∃ La, fa.length = La := ⟨_, rfl⟩
  obtain ⟨Lb, hLb⟩ : ∃ Lb, fb.length = Lb := ⟨_, rfl⟩
  have htx : ((Tree.two (op, N, l, ad, ()) a b').plain nb).flat = fa ++ fb ++ [(opx, N, l, ad, ())] := by rw [← hopx, ← hfa, ← hfb]; cases nb <;> rfl
  have hLL : La + Lb + 1 = L := by rw [← hL, htx, List.length_append, List.length_append, hLa, hLb]; rfl
  have sa := plain_size a nb
  have sb := plain_size b' nb
  rw [← tflat_len (a.plain nb), hfa, hLa] at sa
  rw [← tflat_len (b'.plain nb), hfb, hLb] at sb
  simp only [Tree.size] at hsz
  have hLa4 : La ≤ 400 := by omega
  have hLb4 : Lb ≤ 400 := by omega
  obtain ⟨P1, hP1⟩ : ∃ P1, (p ++ a.flat).length = P1 := ⟨_, rfl⟩
  have hPj : P1 = j + 1 := hP1.symm.trans hj
  have C := fun (w' : World) (hb : Below w.heap.size w w') => hb0 w' nb (L := Lb) (K := (k' : Int)) rfl (Nat.le_trans hBw hb.size) (hR.below (hb.mono hBw)) hat2 (by omega) (by omega) (by rw [hfb]; exact hLb)
  have D := fun (w' : World) (hb : Below w.heap.size w w') => ha w' nb (L := La) (K := (j : Int)) rfl (Nat.le_trans hBw hb.size) (hR.below (hb.mono hBw)) hat3 (by omega) (by omega) (by rw [hfa]; exact hLa)
  have E := fun (w' : World) (hb : Below w.heap.size w w') => ahead_any ((hR.below (hb.mono hBw)).mono' mono_match (Nat.le_trans hBw hb.size) fun _ _ _ hu => hu) hok.2.2 hat2 (by omega) hP1 (K := (k' : Int)) rfl
  rw [hfb] at C
  rw [hfa] at D
  replace C := hid C
  replace D := hid D
  replace E := hid E
  have HTX := hid htx
  have HLA := hid hLa
  have HLB := hid hLb
  have HM := hid fun (w' : World) (hb : Below w.heap.size w w') => rel_match ⟨hix, hi.2⟩ (r1.below (hb.mono hBw)) (r2.below (hb.mono hBw))
  have t0 : (k : Int) < (n : Int) := by omega
  have t2 : (0 : Int) ≤ (k : Int) := by omega
  have hjb : j ≤ 2199023255552 := by omega
  have hkb : k' ≤ 2199023255552 := by omega
  have hpb : P1 ≤ 2199023255553 := by omega
  have q1 : IntKind.i64.wrap ((k : Int) - 1) = (k' : Int) := by rw [IntWalk.i64_in _ (by omega)]; omega
  have q2 : (k : Int) - 1 = (k' : Int) := by omega
  have q3 : IntKind.i64.wrap ((P1 : Int) - 1) = (j : Int) := by rw [IntWalk.i64_in _ (by omega)]; omega
  have q4 : (P1 : Int) - 1 = (j : Int) := by omega
  have ab1 : (([] : List MT).length + La) * 64 ≤ 140737488355328 := by simp; omega
  have ab2 : ([] : List MT).length + La ≤ maxLen := by simp [maxLen]; omega
  have ab3 : (([] ++ fa).length + Lb) * 64 ≤ 140737488355328 := by simp only [List.nil_append, hLa]; omega
  have ab4 : ([] ++ fa).length + Lb ≤ maxLen := by simp only [List.nil_append, hLa, maxLen]; omega
  have ab5 : (([] ++ fa ++ fb).length + 1) * 64 ≤ 140737488355328 := by simp only [List.nil_append, List.length_append, hLa, hLb]; omega
  have ab6 : ([] ++ fa ++ fb).length + 1 ≤ maxLen := by simp only [List.nil_append, List.length_append, hLa, hLb, maxLen]; omega
  subst hLL
  have HOX := hid hopx
  clear hR hat hat2 hat3 e0 e3 r1 r2 hok ha hb0 hj hk' hjk hP1 hPj htx hLa hLb hL hfa hfb hi hix sa sb hsz hopx
  rcases hop with rfl | rfl
  all_goals
    cases nb
    all_goals
      have hox := HOX.out
      simp at hox
      subst hox
      have tk0 : True := trivial; have tk1 : True := trivial; have tk2 : True := trivial; have tk3 : True := trivial; have tk4 : True := trivial; have tk5 : True := trivial; have tk6 : True := trivial; have tk7 : True := trivial; have tk8 : True := trivial; have tk9 : True := trivial; have tk10 : True := trivial; have tk11 : True := trivial; have tk12 : True := trivial
      go_enter Tryd.func26, Tryd.ntmps26
      go_wp2_with (first
        | (go_at_call 43; have _t := tk1; (with_reducible refine (E.out _ (by (repeat' (first | (with_reducible exact Below.refl _ _) | (with_reducible assumption) | (with_reducible refine below_ext0 ?_ _ _) | (with_reducible refine below_alloc0 ?_ _) | (with_reducible refine Below.ext ?_ ?_ _ _) | (with_reducible refine Below.alloc ?_ ?_ _) | (with_reducible refine Below.setCell ?_ ?_ _) | (with_reducible refine Below.drew ?_) | (with_reducible refine below_draws ?_ _) | go_size | (simp [size_ext]; done) | (simp [size_ext]; omega))))).mono ?_); rintro e w1 ⟨rfl, hb⟩; obtain ⟨otk1, dtk1, rfl⟩ := ext_of_below hb; clear hb tk1)
        | (go_at_call 26; have _t := tk2; go_loud ((with_reducible refine (D.out _ (by (repeat' (first | (with_reducible exact Below.refl _ _) | (with_reducible assumption) | (with_reducible refine below_ext0 ?_ _ _) | (with_reducible refine below_alloc0 ?_ _) | (with_reducible refine Below.ext ?_ ?_ _ _) | (with_reducible refine Below.alloc ?_ ?_ _) | (with_reducible refine Below.setCell ?_ ?_ _) | (with_reducible refine Below.drew ?_) | (with_reducible refine below_draws ?_ _) | go_size | (simp [size_ext]; done) | (simp [size_ext]; omega))))).mono ?_); rintro e w1 ⟨A9, c9, rfl, hr, hb⟩; have kz : Blk w1 w.heap.size 81 #[.int .i64 _, .int .i64 N, .slice A1 n1 c1, .slice A2 n2 c2] := Blk.below (by ((repeat' (first | (with_reducible assumption) | (with_reducible refine Blk.drew ?_) | exact Blk.new' _ _ (by first | rfl | (simp [size_ext]; done) | (simp [size_ext]; omega)) | (with_reducible refine Blk.ext ?_ _ _) | (with_reducible refine Blk.alloc ?_ _))); (all_goals fail))) hb (by first | omega | (simp [size_ext]; done) | (simp [size_ext]; omega)); have gz1 := kz.lt; have hz1 := hb.size; have y0 := kz.cell 0; have y1 := kz.cell 1; have y2 := kz.cell 2; have y3 := kz.cell 3; simp only [List.getElem?_toArray, List.getElem?_cons_zero, List.getElem?_cons_succ] at y0 y1 y2 y3; have LW1 := hid (Below.trans (by (repeat' (first | (with_reducible exact Below.refl _ _) | (with_reducible assumption) | (with_reducible refine below_ext0 ?_ _ _) | (with_reducible refine below_alloc0 ?_ _) | (with_reducible refine Below.ext ?_ ?_ _ _) | (with_reducible refine Below.alloc ?_ ?_ _) | (with_reducible refine Below.setCell ?_ ?_ _) | (with_reducible refine Below.drew ?_) | (with_reducible refine below_draws ?_ _) | go_size | (simp [size_ext]; done) | (simp [size_ext]; omega)))) (hb.mono (by first | omega | (simp [size_ext]; done) | (simp [size_ext]; omega))) : Below w.heap.size w w1); have R9 := hid (hr.lessBase (base' := w.heap.size + 1) (by first | omega | (simp [size_ext]; done) | (simp [size_ext]; omega)) (by omega)); have KZ1 := hid kz; clear hb tk2 hr kz))
        | (go_at_call 26; have _t := tk3; (with_reducible refine (C.out _ LW1.out).mono ?_); rintro e w3 ⟨A8, c8, rfl, hr, hb⟩; have kz := Blk.below KZ1.out hb gz1; have gz3 := kz.lt; have hz3 := hb.size; have x0 := kz.cell 0; have x1 := kz.cell 1; have x2 := kz.cell 2; have x3 := kz.cell 3; have f0 := kz.frozen 0; simp only [List.getElem?_toArray, List.getElem?_cons_zero, List.getElem?_cons_succ] at x0 x1 x2 x3; have LW3 := hid (LW1.out.trans (hb.mono (by omega))); have R7 := hid (R9.out.below hb); have R8 := hid (hr.lessBase (base' := w.heap.size + 1) (by omega) (by omega)); have KZ3 := hid kz; clear hb tk3 hr kz)
        | (at_builtin; have _t := tk4; (first | (have s9 := R7.out.src HLA.out match_one'; have s8 := R8.out.src HLB.out match_one'; have kz := KZ3.out; refine wpList_own (w := w3) (R := matchR) (B := B) (base := w3.heap.size) (l := ([] : List MT)) el_match rfl _ _ rfl rfl (OwnR.nil (by omega) (Nat.le_refl _)) rfl s9 ab1 ab2 ?_) | (have s9 := (R7.out.set (k := w.heap.size) hBw (Nat.lt_succ_self _) 0 none (.int .i64 10)).src HLA.out match_one'; have s8 := (R8.out.set (k := w.heap.size) hBw (Nat.lt_succ_self _) 0 none (.int .i64 10)).src HLB.out match_one'; have kz := KZ3.out.set 0 (.int .i64 10); refine wpList_own (w := w3.setCell ⟨w.heap.size, 0, none⟩ (.int .i64 10)) (R := matchR) (B := B) (base := w3.heap.size) (l := ([] : List MT)) el_match rfl _ _ rfl rfl (OwnR.nil (by omega) (by simp)) rfl s9 ab1 ab2 ?_) | (have s9 := (R7.out.set (k := w.heap.size) hBw (Nat.lt_succ_self _) 0 none (.int .i64 9)).src HLA.out match_one'; have s8 := (R8.out.set (k := w.heap.size) hBw (Nat.lt_succ_self _) 0 none (.int .i64 9)).src HLB.out match_one'; have kz := KZ3.out.set 0 (.int .i64 9); refine wpList_own (w := w3.setCell ⟨w.heap.size, 0, none⟩ (.int .i64 9)) (R := matchR) (B := B) (base := w3.heap.size) (l := ([] : List MT)) el_match rfl _ _ rfl rfl (OwnR.nil (by omega) (by simp)) rfl s9 ab1 ab2 ?_)); intro v4 w4 ho hb; have HO4 := hid ho; have kq := Blk.below kz hb gz3; have S8 := hid (s8.below (by first | exact hb | simpa using hb) (by first | omega | (simp; omega))); have hz4 := hb.size; have KQ4 := hid kq; have LW4 := hid (Below.trans (by have lw3 := LW3.out; (repeat' (first | (with_reducible exact Below.refl _ _) | (with_reducible assumption) | (with_reducible refine below_ext0 ?_ _ _) | (with_reducible refine below_alloc0 ?_ _) | (with_reducible refine Below.ext ?_ ?_ _ _) | (with_reducible refine Below.alloc ?_ ?_ _) | (with_reducible refine Below.setCell ?_ ?_ _) | (with_reducible refine Below.drew ?_) | (with_reducible refine below_draws ?_ _) | go_size | (simp [size_ext]; done) | (simp [size_ext]; omega)))) (hb.mono (by omega)) : Below w.heap.size w w4); clear ho hb tk4 s9 s8 kz kq)
        | (at_builtin; have _t := tk5; refine wpList_own (R := matchR) (B := B) (base := w3.heap.size) el_match rfl _ _ rfl rfl HO4.out rfl S8.out ab3 ab4 ?_; intro v5 w5 ho hb; have HO5 := hid ho; have kq := Blk.below KQ4.out hb gz3; have u0 := kq.cell 0; have u1' := kq.cell 1; have u2' := kq.cell 2; have u3' := kq.cell 3; simp at u0 u1' u2' u3'; have gz5 := kq.lt; have LW5 := hid (LW4.out.trans (hb.mono (by omega))); clear ho hb tk5 kq)
        | (at_builtin; have _t := tk6; refine wpList_own (R := matchR) (B := B) (base := w3.heap.size) el_match rfl _ _ rfl rfl (HO5.out.below (by (repeat' (first | (with_reducible exact Below.refl _ _) | (with_reducible assumption) | (with_reducible refine below_ext0 ?_ _ _) | (with_reducible refine below_alloc0 ?_ _) | (with_reducible refine Below.ext ?_ ?_ _ _) | (with_reducible refine Below.alloc ?_ ?_ _) | (with_reducible refine Below.setCell ?_ ?_ _) | (with_reducible refine Below.drew ?_) | (with_reducible refine below_draws ?_ _) | go_size | (simp [size_ext]; done) | (simp [size_ext]; omega))))) rfl (SrcR.lit (ty := 81) (cs := #[.int .i64 _, .int .i64 N, .slice A1 n1 c1, .slice A2 n2 c2]) (by ((repeat' (first | (with_reducible assumption) | (with_reducible refine Blk.drew ?_) | exact Blk.new' _ _ (by first | rfl | (simp [size_ext]; done) | (simp [size_ext]; omega)) | (with_reducible refine Blk.ext ?_ _ _) | (with_reducible refine Blk.alloc ?_ _))); (all_goals fail))) (HM.out _ (by have lw5 := LW5.out; (repeat' (first | (with_reducible exact Below.refl _ _) | (with_reducible assumption) | (with_reducible refine below_ext0 ?_ _ _) | (with_reducible refine below_alloc0 ?_ _) | (with_reducible refine Below.ext ?_ ?_ _ _) | (with_reducible refine Below.alloc ?_ ?_ _) | (with_reducible refine Below.setCell ?_ ?_ _) | (with_reducible refine Below.drew ?_) | (with_reducible refine below_draws ?_ _) | go_size | (simp [size_ext]; done) | (simp [size_ext]; omega))))) (by simp [Value.oneCell'])) ab5 ab6 ?_; intro v6 w6 ho hb; have HO6 := hid ho; have LW6 := hid (Below.trans (by have lw5 := LW5.out; (repeat' (first | (with_reducible exact Below.refl _ _) | (with_reducible assumption) | (with_reducible refine below_ext0 ?_ _ _) | (with_reducible refine below_alloc0 ?_ _) | (with_reducible refine Below.ext ?_ ?_ _ _) | (with_reducible refine Below.alloc ?_ ?_ _) | (with_reducible refine Below.setCell ?_ ?_ _) | (with_reducible refine Below.drew ?_) | (with_reducible refine below_draws ?_ _) | go_size | (simp [size_ext]; done) | (simp [size_ext]; omega)))) (hb.mono (by omega)) : Below w.heap.size w w6); clear ho hb tk6))
      go_ret
      have hl6 : ∀ z : MT, ([] ++ fa ++ fb ++ [z]).length = La + Lb + 1 := fun z => by simp only [List.nil_append, List.length_append, List.length_singleton, HLA.out, HLB.out]
      obtain ⟨A6, c6, hv6⟩ := HO6.out.slice' (hl6 _)
      subst hv6
      refine ⟨A6, c6, rfl, ?_, LW6.out⟩
      rw [HTX.out]
      exact HO6.out.lessBase (by omega) hBw
theorem plained_any : ∀ (t : Tree), t.ok → PlainedC t
  | .leaf m, hok => plained_leaf hok
  | .one m a, hok => plained_not hok (plained_any a hok.2)
  | .two m a b, hok => plained_pair hok (plained_any a hok.2.1) (plained_any b hok.2.2)
end Go.Proofs.YtemgbfppdopfbaaDoor
