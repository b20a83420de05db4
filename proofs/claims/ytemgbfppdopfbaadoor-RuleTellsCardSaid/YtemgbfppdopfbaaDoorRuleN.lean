/- The document's answers of rules: Ahead, Held. -/
import Derived.Test.YtemgbfppdopfbaaDoorRuleM
import Derived.Test.YtemgbfppdopfbaaDoorRuleQ
namespace Go.Proofs.YtemgbfppdopfbaaDoor
open Go.RowKit
open Tree
set_option linter.unusedVariables false
set_option linter.unusedSimpArgs false

theorem flats_ge (ts : List Tree) : ts.length ≤ (flats ts).length := by
  induction ts with
  | nil => simp [flats]
  | cons t ts ih =>
    have : 0 < t.flat.length := List.length_pos_iff.2 (flat_ne t)
    simp only [flats, List.length_append, List.length_cons]
    omega
theorem AtT.len {r : List MT} {a : Nat} {p : List MT} {ts : List Tree} (h : AtT r a p ts) : p.length + (flats ts).length ≤ a + 1 := by
  have := congrArg List.length (show r.take (a + 1) = p ++ flats ts from h)
  rw [List.length_take, List.length_append] at this
  omega
set_option maxRecDepth 100000 in
set_option maxHeartbeats 4000000 in
theorem ahead_any {w : World} {A : Option Addr} {n c : Nat} {r : List MT} (hR : Rd matchR w w.heap.size A n c r) {k : Nat} {p : List MT} {t : Tree} (ht : t.ok) (h : AtT r k p [t]) (hk : k < n) {P : Nat} (hP : p.length = P) {K : Int} (hK : K = (k : Int)) :
    Calls Tryd.prog 43 #[.slice A n c, .int .i64 K] w fun e w' => e = .returned (.int .i64 (P : Int)) ∧ Below w.heap.size w w' := by
  subst hK
  have hm := hR.max
  have hcap := hR.cap
  unfold maxLen at hm
  have lim := hR.lim
  rw [show matchR.bs = 64 from rfl] at lim
  have HR := hid hR
  have HL := hid hR.len
  have HPP := hid hP
  have HAT := hid h
  have HOK := hid ht
  clear hR hP h ht
  have tk0 : True := trivial; have tk1 : True := trivial; have tk2 : True := trivial; have tk3 : True := trivial; have tk4 : True := trivial; have tk5 : True := trivial; have tk6 : True := trivial; have tk7 : True := trivial; have tk8 : True := trivial; have tk9 : True := trivial; have tk10 : True := trivial; have tk11 : True := trivial; have tk12 : True := trivial
  go_enter Tryd.func43, Tryd.ntmps43
  go_wp2
  go_loopg [1, 5] k (fun gk v1 v5 wi => ∃ (a : Nat) (ts : List Tree) (nd : Nat), a ≤ k ∧ a = gk ∧ v1 = .int .i64 (a : Int) ∧ v5 = .int .i64 (nd : Int) ∧ Hid (ts.length = nd) ∧ Hid (AtT r a p ts) ∧ Hid (∀ t ∈ ts, t.ok) ∧ Hid (ts ≠ []) ∧ wi = w)
  case atStart => exact ⟨k, [t], 1, Nat.le_refl _, rfl, rfl, rfl, hid rfl, HAT, hid (fun x hx => by simp at hx; rw [hx]; exact HOK.out), hid (by simp), rfl⟩
  case round =>
    obtain ⟨a, ts, nd, ha, hga, rfl, rfl, hnd, hat, hok, hne, hww⟩ := hrel
    subst hww
    subst hga
    have haL : a < r.length := by rw [HL.out]; omega
    have t0 : (a : Int) < (n : Int) := by omega
    have t1 : (0 : Int) ≤ (a : Int) := by omega
    obtain ⟨ts', t', hts⟩ : ∃ ts' t', ts = ts' ++ [t'] := by
      rcases List.eq_nil_or_concat ts with h | ⟨l', a', h⟩
      · exact absurd h hne.out
      · exact ⟨l', a', by rw [h, List.concat_eq_append]⟩
    subst hts
    obtain ⟨e1, e2⟩ := AtT.step hat.out haL
    have hokt := hok.out t' (by simp)
    obtain ⟨hk1, hk2⟩ := hokt.kids
    obtain ⟨b, o, A1, n1, c1, A2, n2, c2, op, N, l, ad, rfl, hb, e3, k0, _, _, _, _, _, _⟩ := HR.out.match_ a (by omega)
    have htop : t'.top = (op, N, l, ad, ()) := e1.symm.trans e3
    rw [htop] at hk1
    have hlen := hat.out.len
    have hfg := flats_ge (ts' ++ [t'])
    have hnd2 := hnd.out
    rw [List.length_append, List.length_singleton] at hnd2
    rw [hnd.out] at hfg
    obtain ⟨tk, htk⟩ : ∃ tk, takesN op = tk := ⟨_, rfl⟩
    have ht2 : tk ≤ 2 := by rw [← htk]; exact takes_le op
    have CT := rtakes_any op
    rw [htk] at CT
    replace CT := hid CT
    simp only [htk] at hk1
    obtain ⟨nd2, hn2⟩ : ∃ nd2, nd + tk - 1 = nd2 := ⟨_, rfl⟩
    have hlen2 : (ts' ++ t'.kids).length = nd2 := by rw [List.length_append, hk1]; omega
    have v4 : IntKind.i64.wrap ((tk : Int) - 1) = (tk : Int) - 1 := IntWalk.i64_in _ (by omega)
    have v5 : (nd : Int) + ((tk : Int) - 1) = (nd2 : Int) := by omega
    have v6 : IntKind.i64.wrap ((nd : Int) + ((tk : Int) - 1)) = (nd2 : Int) := by rw [IntWalk.i64_in _ (by omega)]; exact v5
    have hnb : nd2 ≤ 4398046511104 := by omega
    have hok2 : ∀ x ∈ ts' ++ t'.kids, x.ok := fun x hx => by
      rcases List.mem_append.1 hx with hx | hx
      · exact hok.out x (by simp [hx])
      · exact hk2 x hx
    by_cases hz : nd2 = 0
    · subst hz
      have hnil : ts' ++ t'.kids = [] := List.eq_nil_of_length_eq_zero hlen2
      have HA := hid (show a = P by
        rw [hnil] at e2
        have := congrArg List.length e2
        rw [List.length_take] at this
        simp [flats] at this
        have := HPP.out
        omega)
      clear e1 e2 e3 hokt hk1 hk2 htop hlen hfg hnd2 hlen2 hok2 hnil hn2 htk hnd hat hok hne
      go_wp2_with (go_at_call 40; have _t := tk2; (with_reducible refine (CT.out _).mono ?_); rintro e w1 ⟨rfl, hw⟩; subst w1; clear tk2)
      go_ret
      exact ⟨by rw [HA.out]; rfl, Below.refl _ _⟩
    · have hnn : ts' ++ t'.kids ≠ [] := fun e => by rw [e] at hlen2; simp at hlen2; omega
      obtain ⟨a2, ha2, hat2⟩ := AtT.pos e2 haL hnn
      have HAT2 := hid hat2
      have HOK2 := hid hok2
      have HNN := hid hnn
      have HLL := hid hlen2
      have z1 : ((nd2 : Int) == 0) = false := beq_eq_false_iff_ne.2 (by omega)
      have z2 : (nd2 == 0) = false := beq_eq_false_iff_ne.2 hz
      have z3 : ¬ (nd2 : Int) = 0 := by omega
      have q1 : IntKind.i64.wrap ((a : Int) - 1) = (a2 : Int) := by rw [IntWalk.i64_in _ (by omega)]; omega
      have q2 : (a : Int) - 1 = (a2 : Int) := by omega
      have ha2k : a2 ≤ k := by omega
      have ha2a : a2 < a := by omega
      clear e1 e2 e3 hokt hk1 hk2 htop hlen hfg hnd2 hlen2 hok2 hn2 htk hnd hat hok hne hat2 hnn ha2
      go_wp2_with (go_at_call 40; have _t := tk2; (with_reducible refine (CT.out _).mono ?_); rintro e w1 ⟨rfl, hw⟩; subst w1; clear tk2)
      go_roundg a2
      case measure => omega
      case rel => exact ⟨a2, _, nd2, ha2k, rfl, (by first | rfl | (rw [q2]) | (congr 1)), rfl, HLL, HAT2, HOK2, HNN, rfl⟩
/-- what Held answers of a tree -/
def HeldC (qn : List ByteArray) (ty cl oc : Int) (rd : Bool) (qf : List UInt8) (t : Tree) : Prop := ∀ (w : World) {A Aq Af : Option Addr} {n c nq cq nf cf : Nat} {r : List MT} {k : Nat} {p : List MT} {K : Int}, K = (k : Int) →
    Rd matchR w w.heap.size A n c r → Rd strR w w.heap.size Aq nq cq qn → Rd u8R w w.heap.size Af nf cf qf → AtT r k p [t] → k < n →
    Calls Tryd.prog 24 #[.slice A n c, .int .i64 K, .agg #[.slice Aq nq cq, .int .i64 ty, .int .i64 cl, .int .i64 oc, .bool rd, .slice Af nf cf]] w fun e w' => e = .returned (.bool (t.holds (qn, ty, cl, oc, rd, qf, ()))) ∧ Below w.heap.size w w'
section
variable {qn : List ByteArray} {ty cl oc : Int} {rd : Bool} {qf : List UInt8}
set_option maxRecDepth 100000 in
set_option maxHeartbeats 16000000 in
theorem held_leaf {m : MT} (hok : (Tree.leaf m).ok) (herr : ∀ x ∈ (Tree.leaf m).flat, matchErr x = 0) : HeldC qn ty cl oc rd qf (.leaf m) := by
  intro w A Aq Af n c nq cq nf cf r k p K hK hR hq hf hat hk
  subst hK
  have hm := hR.max
  have hcap := hR.cap
  unfold maxLen at hm
  have e0 := at_leaf hat (by rw [hR.len]; exact hk)
  obtain ⟨b, o, A1, n1, c1, A2, n2, c2, op, N, l, ad, rfl, hb, e3, k0, k1, k2, k3, r1, r2, _⟩ := hR.match_ k hk
  have e' : m = (op, N, l, ad, ()) := e0.symm.trans e3
  subst e'
  obtain ⟨e1, e2, e7⟩ := err_ops (herr (op, N, l, ad, ()) (by simp [flat]))
  simp only at e1 e2 e7
  have h0 : takesN op = 0 := hok
  have hne : op ≠ 8 ∧ op ≠ 9 ∧ op ≠ 10 := by
    unfold takesN at h0
    split at h0
    · cases h0
    · split at h0
      · cases h0
      · omega
  have t0 : (k : Int) < (n : Int) := by omega
  have t2 : (0 : Int) ≤ (k : Int) := by omega
  have CU := hid fun (w' : World) (hb : Below w.heap.size w w') => rbelow_any w' Aq nq cq qn (hq.later hb) A1 n1 c1 l (r1.later hb)
  have hfl := hf.len
  have hl := hf.lim
  simp only [u8R, Nat.mul_one] at hl
  have ways : op = 1 ∨ op = 2 ∨ (op = 3 ∨ op = 4 ∨ op = 5) ∨ op = 6 ∨ op = 7 := by omega
  rcases ways with rfl | rfl | hop | rfl | rfl
  · clear hR hq hf hat e0 e3 r1 r2 hok herr e1 e2 e7 h0 hne
    go_enter Tryd.func24, Tryd.ntmps24
    go_wp2
    go_ret
    exact ⟨rfl, (by (repeat' (first | (with_reducible exact Below.refl _ _) | (with_reducible assumption) | (with_reducible refine below_ext0 ?_ _ _) | (with_reducible refine below_alloc0 ?_ _) | (with_reducible refine Below.ext ?_ ?_ _ _) | (with_reducible refine Below.alloc ?_ ?_ _) | (with_reducible refine Below.setCell ?_ ?_ _) | (with_reducible refine Below.drew ?_) | (with_reducible refine below_draws ?_ _) | go_size | (simp [size_ext]; done) | (simp [size_ext]; omega))))⟩
  · clear hR hq hf hat e0 e3 r1 r2 hok herr e1 e2 e7 h0 hne
    have tk0 : True := trivial; have tk1 : True := trivial; have tk2 : True := trivial; have tk3 : True := trivial; have tk4 : True := trivial; have tk5 : True := trivial; have tk6 : True := trivial; have tk7 : True := trivial; have tk8 : True := trivial; have tk9 : True := trivial; have tk10 : True := trivial; have tk11 : True := trivial; have tk12 : True := trivial
    go_enter Tryd.func24, Tryd.ntmps24
    go_wp2_with (go_at_call 38; have _t := tk1; (with_reducible refine (CU.out _ (by (repeat' (first | (with_reducible exact Below.refl _ _) | (with_reducible assumption) | (with_reducible refine below_ext0 ?_ _ _) | (with_reducible refine below_alloc0 ?_ _) | (with_reducible refine Below.ext ?_ ?_ _ _) | (with_reducible refine Below.alloc ?_ ?_ _) | (with_reducible refine Below.setCell ?_ ?_ _) | (with_reducible refine Below.drew ?_) | (with_reducible refine below_draws ?_ _) | go_size | (simp [size_ext]; done) | (simp [size_ext]; omega))))).mono ?_); rintro e w1 ⟨rfl, hb⟩; obtain ⟨otk1, dtk1, rfl⟩ := ext_of_below hb; clear hb tk1)
    go_ret
    exact ⟨rfl, (by (repeat' (first | (with_reducible exact Below.refl _ _) | (with_reducible assumption) | (with_reducible refine below_ext0 ?_ _ _) | (with_reducible refine below_alloc0 ?_ _) | (with_reducible refine Below.ext ?_ ?_ _ _) | (with_reducible refine Below.alloc ?_ ?_ _) | (with_reducible refine Below.setCell ?_ ?_ _) | (with_reducible refine Below.drew ?_) | (with_reducible refine below_draws ?_ _) | go_size | (simp [size_ext]; done) | (simp [size_ext]; omega))))⟩
  · clear hR hq hf hat e0 e3 r1 r2 hok herr e1 e2 e7 h0 hne
    rcases hop with rfl | rfl | rfl
    · by_cases h : ty = N
      · have HH := hid (show (Tree.leaf (3, N, l, ad, ())).holds (qn, ty, cl, oc, rd, qf, ()) = true from by show decide (ty = N) = true; rw [decide_eq_true h])
        subst h
        go_enter Tryd.func24, Tryd.ntmps24
        go_wp2
        go_ret
        exact ⟨by rw [HH.out]; simp, (by (repeat' (first | (with_reducible exact Below.refl _ _) | (with_reducible assumption) | (with_reducible refine below_ext0 ?_ _ _) | (with_reducible refine below_alloc0 ?_ _) | (with_reducible refine Below.ext ?_ ?_ _ _) | (with_reducible refine Below.alloc ?_ ?_ _) | (with_reducible refine Below.setCell ?_ ?_ _) | (with_reducible refine Below.drew ?_) | (with_reducible refine below_draws ?_ _) | go_size | (simp [size_ext]; done) | (simp [size_ext]; omega))))⟩
      · have HH := hid (show (Tree.leaf (3, N, l, ad, ())).holds (qn, ty, cl, oc, rd, qf, ()) = false from by show decide (ty = N) = false; rw [decide_eq_false h])
        have z : (ty == N) = false := beq_eq_false_iff_ne.2 h
        clear h
        go_enter Tryd.func24, Tryd.ntmps24
        go_wp2
        go_ret
        exact ⟨by rw [HH.out]; simp, (by (repeat' (first | (with_reducible exact Below.refl _ _) | (with_reducible assumption) | (with_reducible refine below_ext0 ?_ _ _) | (with_reducible refine below_alloc0 ?_ _) | (with_reducible refine Below.ext ?_ ?_ _ _) | (with_reducible refine Below.alloc ?_ ?_ _) | (with_reducible refine Below.setCell ?_ ?_ _) | (with_reducible refine Below.drew ?_) | (with_reducible refine below_draws ?_ _) | go_size | (simp [size_ext]; done) | (simp [size_ext]; omega))))⟩
    · by_cases h : cl = N
      · have HH := hid (show (Tree.leaf (4, N, l, ad, ())).holds (qn, ty, cl, oc, rd, qf, ()) = true from by show decide (cl = N) = true; rw [decide_eq_true h])
        subst h
        go_enter Tryd.func24, Tryd.ntmps24
        go_wp2
        go_ret
        exact ⟨by rw [HH.out]; simp, (by (repeat' (first | (with_reducible exact Below.refl _ _) | (with_reducible assumption) | (with_reducible refine below_ext0 ?_ _ _) | (with_reducible refine below_alloc0 ?_ _) | (with_reducible refine Below.ext ?_ ?_ _ _) | (with_reducible refine Below.alloc ?_ ?_ _) | (with_reducible refine Below.setCell ?_ ?_ _) | (with_reducible refine Below.drew ?_) | (with_reducible refine below_draws ?_ _) | go_size | (simp [size_ext]; done) | (simp [size_ext]; omega))))⟩
      · have HH := hid (show (Tree.leaf (4, N, l, ad, ())).holds (qn, ty, cl, oc, rd, qf, ()) = false from by show decide (cl = N) = false; rw [decide_eq_false h])
        have z : (cl == N) = false := beq_eq_false_iff_ne.2 h
        clear h
        go_enter Tryd.func24, Tryd.ntmps24
        go_wp2
        go_ret
        exact ⟨by rw [HH.out]; simp, (by (repeat' (first | (with_reducible exact Below.refl _ _) | (with_reducible assumption) | (with_reducible refine below_ext0 ?_ _ _) | (with_reducible refine below_alloc0 ?_ _) | (with_reducible refine Below.ext ?_ ?_ _ _) | (with_reducible refine Below.alloc ?_ ?_ _) | (with_reducible refine Below.setCell ?_ ?_ _) | (with_reducible refine Below.drew ?_) | (with_reducible refine below_draws ?_ _) | go_size | (simp [size_ext]; done) | (simp [size_ext]; omega))))⟩
    · by_cases h : oc = N
      · have HH := hid (show (Tree.leaf (5, N, l, ad, ())).holds (qn, ty, cl, oc, rd, qf, ()) = true from by show decide (oc = N) = true; rw [decide_eq_true h])
        subst h
        go_enter Tryd.func24, Tryd.ntmps24
        go_wp2
        go_ret
        exact ⟨by rw [HH.out]; simp, (by (repeat' (first | (with_reducible exact Below.refl _ _) | (with_reducible assumption) | (with_reducible refine below_ext0 ?_ _ _) | (with_reducible refine below_alloc0 ?_ _) | (with_reducible refine Below.ext ?_ ?_ _ _) | (with_reducible refine Below.alloc ?_ ?_ _) | (with_reducible refine Below.setCell ?_ ?_ _) | (with_reducible refine Below.drew ?_) | (with_reducible refine below_draws ?_ _) | go_size | (simp [size_ext]; done) | (simp [size_ext]; omega))))⟩
      · have HH := hid (show (Tree.leaf (5, N, l, ad, ())).holds (qn, ty, cl, oc, rd, qf, ()) = false from by show decide (oc = N) = false; rw [decide_eq_false h])
        have z : (oc == N) = false := beq_eq_false_iff_ne.2 h
        clear h
        go_enter Tryd.func24, Tryd.ntmps24
        go_wp2
        go_ret
        exact ⟨by rw [HH.out]; simp, (by (repeat' (first | (with_reducible exact Below.refl _ _) | (with_reducible assumption) | (with_reducible refine below_ext0 ?_ _ _) | (with_reducible refine below_alloc0 ?_ _) | (with_reducible refine Below.ext ?_ ?_ _ _) | (with_reducible refine Below.alloc ?_ ?_ _) | (with_reducible refine Below.setCell ?_ ?_ _) | (with_reducible refine Below.drew ?_) | (with_reducible refine below_draws ?_ _) | go_size | (simp [size_ext]; done) | (simp [size_ext]; omega))))⟩
  · clear hR hq hf hat e0 e3 r1 r2 hok herr e1 e2 e7 h0 hne
    go_enter Tryd.func24, Tryd.ntmps24
    go_wp2
    go_ret
    exact ⟨rfl, (by (repeat' (first | (with_reducible exact Below.refl _ _) | (with_reducible assumption) | (with_reducible refine below_ext0 ?_ _ _) | (with_reducible refine below_alloc0 ?_ _) | (with_reducible refine Below.ext ?_ ?_ _ _) | (with_reducible refine Below.alloc ?_ ?_ _) | (with_reducible refine Below.setCell ?_ ?_ _) | (with_reducible refine Below.drew ?_) | (with_reducible refine below_draws ?_ _) | go_size | (simp [size_ext]; done) | (simp [size_ext]; omega))))⟩
  · obtain ⟨h7, h8⟩ := e7 rfl
    obtain ⟨M, rfl⟩ : ∃ M : Nat, N = (M : Int) := ⟨N.toNat, by omega⟩
    have hM2 : M ≤ 8 * n2 := by rw [r2.len] at h8; omega
    have v8 : IntKind.i64.wrap (8 * (nf : Int)) = 8 * (nf : Int) := IntWalk.i64_in _ (by omega)
    by_cases hM1 : M ≤ 8 * nf
    · have CL := fun (w' : World) (hb : Below w.heap.size w w') => alikeBits_any (hf.later hb) (r2.later hb) M (y := (M : Int)) rfl hM1 hM2
      have HB := hid (show begT qf ad (M : Int) = decide (∀ i, i < M → bitL qf i = bitL ad i) by unfold begT; rw [decide_eq_true (by rw [hfl]; omega), Bool.true_and]; rfl)
      replace CL := hid CL
      have z1 : (M : Int) ≤ 8 * (nf : Int) := by omega
      clear hR hq hf hat e0 e3 r1 r2 hok herr e1 e2 e7 h0 hne h8 hfl
      have tk0 : True := trivial; have tk1 : True := trivial; have tk2 : True := trivial; have tk3 : True := trivial; have tk4 : True := trivial; have tk5 : True := trivial; have tk6 : True := trivial; have tk7 : True := trivial; have tk8 : True := trivial; have tk9 : True := trivial; have tk10 : True := trivial; have tk11 : True := trivial; have tk12 : True := trivial
      go_enter Tryd.func24, Tryd.ntmps24
      go_wp2_with (go_at_call 42; have _t := tk1; (with_reducible refine (CL.out _ (by (repeat' (first | (with_reducible exact Below.refl _ _) | (with_reducible assumption) | (with_reducible refine below_ext0 ?_ _ _) | (with_reducible refine below_alloc0 ?_ _) | (with_reducible refine Below.ext ?_ ?_ _ _) | (with_reducible refine Below.alloc ?_ ?_ _) | (with_reducible refine Below.setCell ?_ ?_ _) | (with_reducible refine Below.drew ?_) | (with_reducible refine below_draws ?_ _) | go_size | (simp [size_ext]; done) | (simp [size_ext]; omega))))).mono ?_); rintro e w1 ⟨rfl, hw⟩; subst w1; clear tk1)
      go_ret
      exact ⟨by show _ = Ending.returned (.bool (begT qf ad (M : Int))); rw [HB.out]; rfl, (by (repeat' (first | (with_reducible exact Below.refl _ _) | (with_reducible assumption) | (with_reducible refine below_ext0 ?_ _ _) | (with_reducible refine below_alloc0 ?_ _) | (with_reducible refine Below.ext ?_ ?_ _ _) | (with_reducible refine Below.alloc ?_ ?_ _) | (with_reducible refine Below.setCell ?_ ?_ _) | (with_reducible refine Below.drew ?_) | (with_reducible refine below_draws ?_ _) | go_size | (simp [size_ext]; done) | (simp [size_ext]; omega))))⟩
    · have HB := hid (show begT qf ad (M : Int) = false by unfold begT; rw [decide_eq_false (by rw [hfl]; omega), Bool.false_and])
      have z1 : ¬ (M : Int) ≤ 8 * (nf : Int) := by omega
      clear hR hq hf hat e0 e3 r1 r2 hok herr e1 e2 e7 h0 hne h8 hfl
      go_enter Tryd.func24, Tryd.ntmps24
      go_wp2
      go_ret
      exact ⟨by show _ = Ending.returned (.bool (begT qf ad (M : Int))); rw [HB.out]; rfl, (by (repeat' (first | (with_reducible exact Below.refl _ _) | (with_reducible assumption) | (with_reducible refine below_ext0 ?_ _ _) | (with_reducible refine below_alloc0 ?_ _) | (with_reducible refine Below.ext ?_ ?_ _ _) | (with_reducible refine Below.alloc ?_ ?_ _) | (with_reducible refine Below.setCell ?_ ?_ _) | (with_reducible refine Below.drew ?_) | (with_reducible refine below_draws ?_ _) | go_size | (simp [size_ext]; done) | (simp [size_ext]; omega))))⟩
set_option maxRecDepth 100000 in
set_option maxHeartbeats 8000000 in
theorem held_not {m : MT} {a : Tree} (hok : (Tree.one m a).ok) (ha : HeldC qn ty cl oc rd qf a) : HeldC qn ty cl oc rd qf (.one m a) := by
  intro w A Aq Af n c nq cq nf cf r k p K hK hR hq hf hat hk
  subst hK
  have hm := hR.max
  have hcap := hR.cap
  unfold maxLen at hm
  have lim := hR.lim
  rw [show matchR.bs = 64 from rfl] at lim
  obtain ⟨e0, j, hj, hat2⟩ := at_one hat (by rw [hR.len]; exact hk)
  obtain ⟨b, o, A1, n1, c1, A2, n2, c2, op, N, l, ad, rfl, hb, e3, k0, k1, k2, k3, r1, r2, _⟩ := hR.match_ k hk
  have e' : m = (op, N, l, ad, ()) := e0.symm.trans e3
  subst e'
  obtain rfl : op = 8 := takes_one (m := (op, N, l, ad, ())) hok.1
  obtain ⟨x, hx⟩ : ∃ x, a.holds (qn, ty, cl, oc, rd, qf, ()) = x := ⟨_, rfl⟩
  have HH := hid (show (Tree.one (8, N, l, ad, ()) a).holds (qn, ty, cl, oc, rd, qf, ()) = !x by rw [← hx]; rfl)
  have C := fun (w' : World) (hb : Below w.heap.size w w') => ha w' (K := (j : Int)) rfl (hR.later hb) (hq.later hb) (hf.later hb) hat2 (by omega)
  rw [hx] at C
  replace C := hid C
  have t0 : (k : Int) < (n : Int) := by omega
  have t2 : (0 : Int) ≤ (k : Int) := by omega
  have hjb : j ≤ 2199023255552 := by omega
  have q1 : IntKind.i64.wrap ((k : Int) - 1) = (j : Int) := by rw [IntWalk.i64_in _ (by omega)]; omega
  have q2 : (k : Int) - 1 = (j : Int) := by omega
  clear hR hq hf hat hat2 e0 e3 r1 r2 hok ha hx hj
  cases x
  all_goals
    have tk0 : True := trivial; have tk1 : True := trivial; have tk2 : True := trivial; have tk3 : True := trivial; have tk4 : True := trivial; have tk5 : True := trivial; have tk6 : True := trivial; have tk7 : True := trivial; have tk8 : True := trivial; have tk9 : True := trivial; have tk10 : True := trivial; have tk11 : True := trivial; have tk12 : True := trivial
    go_enter Tryd.func24, Tryd.ntmps24
    go_wp2_with (go_at_call 24; have _t := tk1; (with_reducible refine (C.out _ (by (repeat' (first | (with_reducible exact Below.refl _ _) | (with_reducible assumption) | (with_reducible refine below_ext0 ?_ _ _) | (with_reducible refine below_alloc0 ?_ _) | (with_reducible refine Below.ext ?_ ?_ _ _) | (with_reducible refine Below.alloc ?_ ?_ _) | (with_reducible refine Below.setCell ?_ ?_ _) | (with_reducible refine Below.drew ?_) | (with_reducible refine below_draws ?_ _) | go_size | (simp [size_ext]; done) | (simp [size_ext]; omega))))).mono ?_); rintro e w1 ⟨rfl, hb⟩; obtain ⟨otk1, dtk1, rfl⟩ := ext_of_below hb; clear hb tk1)
    go_ret
    exact ⟨by rw [HH.out]; rfl, (by (repeat' (first | (with_reducible exact Below.refl _ _) | (with_reducible assumption) | (with_reducible refine below_ext0 ?_ _ _) | (with_reducible refine below_alloc0 ?_ _) | (with_reducible refine Below.ext ?_ ?_ _ _) | (with_reducible refine Below.alloc ?_ ?_ _) | (with_reducible refine Below.setCell ?_ ?_ _) | (with_reducible refine Below.drew ?_) | (with_reducible refine below_draws ?_ _) | go_size | (simp [size_ext]; done) | (simp [size_ext]; omega))))⟩
set_option maxRecDepth 100000 in
set_option maxHeartbeats 16000000 in
theorem held_pair {m : MT} {a b' : Tree} (hok : (Tree.two m a b').ok) (ha : HeldC qn ty cl oc rd qf a) (hb0 : HeldC qn ty cl oc rd qf b') : HeldC qn ty cl oc rd qf (.two m a b') := by
  intro w A Aq Af n c nq cq nf cf r k p K hK hR hq hf hat hk
  subst hK
  have hm := hR.max
  have hcap := hR.cap
  unfold maxLen at hm
  have lim := hR.lim
  rw [show matchR.bs = 64 from rfl] at lim
  obtain ⟨e0, k', hk', hat2, j, hj, hjk, hat3⟩ := at_two hat (by rw [hR.len]; exact hk)
  obtain ⟨b, o, A1, n1, c1, A2, n2, c2, op, N, l, ad, rfl, hb, e3, k0, k1, k2, k3, r1, r2, _⟩ := hR.match_ k hk
  have e' : m = (op, N, l, ad, ()) := e0.symm.trans e3
  subst e'
  have hop : op = 9 ∨ op = 10 := takes_two (m := (op, N, l, ad, ())) hok.1
  obtain ⟨x, hx⟩ : ∃ x, a.holds (qn, ty, cl, oc, rd, qf, ()) = x := ⟨_, rfl⟩
  obtain ⟨y, hy⟩ : ∃ y, b'.holds (qn, ty, cl, oc, rd, qf, ()) = y := ⟨_, rfl⟩
  have HH := hid (show (Tree.two (op, N, l, ad, ()) a b').holds (qn, ty, cl, oc, rd, qf, ()) = (if op = 9 then x && y else x || y) by rw [← hx, ← hy]; rfl)
  have C := fun (w' : World) (hb : Below w.heap.size w w') => hb0 w' (K := (k' : Int)) rfl (hR.later hb) (hq.later hb) (hf.later hb) hat2 (by omega)
  have D := fun (w' : World) (hb : Below w.heap.size w w') => ha w' (K := (j : Int)) rfl (hR.later hb) (hq.later hb) (hf.later hb) hat3 (by omega)
  obtain ⟨P1, hP1⟩ : ∃ P1, (p ++ a.flat).length = P1 := ⟨_, rfl⟩
  have hPj : P1 = j + 1 := hP1.symm.trans hj
  have E := fun (w' : World) (hb : Below w.heap.size w w') => ahead_any (hR.later hb) hok.2.2 hat2 (by omega) hP1 (K := (k' : Int)) rfl
  rw [hy] at C
  rw [hx] at D
  replace C := hid C
  replace D := hid D
  replace E := hid E
  have t0 : (k : Int) < (n : Int) := by omega
  have t2 : (0 : Int) ≤ (k : Int) := by omega
  have q1 : IntKind.i64.wrap ((k : Int) - 1) = (k' : Int) := by rw [IntWalk.i64_in _ (by omega)]; omega
  have q2 : (k : Int) - 1 = (k' : Int) := by omega
  have hjb : j ≤ 2199023255552 := by omega
  have hkb : k' ≤ 2199023255552 := by omega
  have q3 : IntKind.i64.wrap ((P1 : Int) - 1) = (j : Int) := by rw [IntWalk.i64_in _ (by omega)]; omega
  have q4 : (P1 : Int) - 1 = (j : Int) := by omega
  clear hR hq hf hat hat2 hat3 e0 e3 r1 r2 hok ha hb0 hx hy hj hk' hjk hP1 hPj
  rcases hop with rfl | rfl
  all_goals
    cases x
    all_goals
      cases y
      all_goals
        have tk0 : True := trivial; have tk1 : True := trivial; have tk2 : True := trivial; have tk3 : True := trivial; have tk4 : True := trivial; have tk5 : True := trivial; have tk6 : True := trivial; have tk7 : True := trivial; have tk8 : True := trivial; have tk9 : True := trivial; have tk10 : True := trivial; have tk11 : True := trivial; have tk12 : True := trivial
        go_enter Tryd.func24, Tryd.ntmps24
        go_wp2_with (go_at_call 24; have _t := tk1; (with_reducible refine (C.out _ (by (repeat' (first | (with_reducible exact Below.refl _ _) | (with_reducible assumption) | (with_reducible refine below_ext0 ?_ _ _) | (with_reducible refine below_alloc0 ?_ _) | (with_reducible refine Below.ext ?_ ?_ _ _) | (with_reducible refine Below.alloc ?_ ?_ _) | (with_reducible refine Below.setCell ?_ ?_ _) | (with_reducible refine Below.drew ?_) | (with_reducible refine below_draws ?_ _) | go_size | (simp [size_ext]; done) | (simp [size_ext]; omega))))).mono ?_); rintro e w1 ⟨rfl, hb⟩; obtain ⟨otk1, dtk1, rfl⟩ := ext_of_below hb; clear hb tk1)
        refine wp_region_ext (by kernel_rfl) (by kernel_rfl) ?_
        repeat (go_big_quiet_step ((first | (go_at_call 43; with_reducible exact Calls.quiet_ext (E.out _ (by ((first | (with_reducible refine exts_below ?_ ?_ _) | skip); (repeat' (first | (with_reducible exact Below.refl _ _) | (with_reducible assumption) | (with_reducible refine below_ext0 ?_ _ _) | (with_reducible refine below_alloc0 ?_ _) | (with_reducible refine Below.ext ?_ ?_ _ _) | (with_reducible refine Below.alloc ?_ ?_ _) | (with_reducible refine Below.setCell ?_ ?_ _) | (with_reducible refine Below.drew ?_) | (with_reducible refine below_draws ?_ _) | go_size | (simp [size_ext]; done) | (simp [size_ext]; omega))))))) | (go_at_call 24; with_reducible exact Calls.quiet_ext (D.out _ (by ((first | (with_reducible refine exts_below ?_ ?_ _) | skip); (repeat' (first | (with_reducible exact Below.refl _ _) | (with_reducible assumption) | (with_reducible refine below_ext0 ?_ _ _) | (with_reducible refine below_alloc0 ?_ _) | (with_reducible refine Below.ext ?_ ?_ _ _) | (with_reducible refine Below.alloc ?_ ?_ _) | (with_reducible refine Below.setCell ?_ ?_ _) | (with_reducible refine Below.drew ?_) | (with_reducible refine below_draws ?_ _) | go_size | (simp [size_ext]; done) | (simp [size_ext]; omega))))))))))
        refine wpQuiet_nil ?_
        rintro _ ⟨⟨os, d⟩, rfl⟩
        simp only [exts]
        go_wp2
        go_ret
        exact ⟨by rw [HH.out]; rfl, (by (repeat' (first | (with_reducible exact Below.refl _ _) | (with_reducible assumption) | (with_reducible refine below_ext0 ?_ _ _) | (with_reducible refine below_alloc0 ?_ _) | (with_reducible refine Below.ext ?_ ?_ _ _) | (with_reducible refine Below.alloc ?_ ?_ _) | (with_reducible refine Below.setCell ?_ ?_ _) | (with_reducible refine Below.drew ?_) | (with_reducible refine below_draws ?_ _) | go_size | (simp [size_ext]; done) | (simp [size_ext]; omega))))⟩
theorem held_any : ∀ (t : Tree), t.ok → (∀ m ∈ t.flat, matchErr m = 0) → HeldC qn ty cl oc rd qf t
  | .leaf m, hok, herr => held_leaf hok herr
  | .one m a, hok, herr => held_not hok (held_any a hok.2 fun x hx => herr x (by simp [flat, hx]))
  | .two m a b, hok, herr => held_pair hok (held_any a hok.2.1 fun x hx => herr x (by simp [flat, hx])) (held_any b hok.2.2 fun x hx => herr x (by simp [flat, hx]))
end
end Go.Proofs.YtemgbfppdopfbaaDoor
