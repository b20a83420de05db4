/- TriePuts is true of every input of at most 1048576 values in all: a value put for some bits is told to each address that begins with them, unless it was told one for more bits; to all others nothing changes. Condition: the bound on what comes in. -/
import Derived.Test.YtbpflpmhnmdeoaaTrieD
import Derived.OpenShut
import Derived.JoinedCond
namespace Go.Proofs.Ytbpflpmhnmdeoaa
open Go.ChangeShapes Go.WideShapes Go.ChangeAt Go.RowKit
set_option linter.unusedVariables false
namespace triePuts

theorem sz_ge {α : Type} {R : Rep α} (h1 : ∀ a, 1 ≤ R.sz a) (l : List α) : l.length ≤ (sliceR R).sz l := by
  show _ ≤ (l.map R.sz).sum + 1
  induction l with
  | nil => simp
  | cons a l ih => have := h1 a; simp at ih ⊢; omega

theorem law_fits {V : Vals} {a b : List UInt8} {m : Nat} (ha : m ≤ 8 * a.length) (hb : m ≤ 8 * b.length) (hal : ∀ i, i < m → bitL a i = bitL b i) (h : (getV V (bitsL b)).2.2 = false ∨ (getV V (bitsL b)).2.1 ≤ m) :
    getV (putV V ((bitsL a).take m) 1000) (bitsL b) = (1000, m, true) := by
  rw [(bits_alike ha hb).2 hal]
  exact getV_put_fits (by rw [bitsL_len]; exact hb) h
theorem law_not {V : Vals} {a b : List UInt8} {m : Nat} (ha : m ≤ 8 * a.length) (h : ¬ (m ≤ 8 * b.length ∧ (∀ i, i < m → bitL a i = bitL b i) ∧ ((getV V (bitsL b)).2.2 = false ∨ (getV V (bitsL b)).2.1 ≤ m))) :
    getV (putV V ((bitsL a).take m) 1000) (bitsL b) = getV V (bitsL b) := by
  have hl : ((bitsL a).take m).length = m := by rw [List.length_take, bitsL_len]; omega
  refine getV_put_not fun ⟨h1, h2, h3⟩ => h ?_
  rw [hl, bitsL_len] at h2
  rw [hl] at h1 h3
  exact ⟨h2, (bits_alike ha h2).1 h1, h3⟩

set_option maxRecDepth 100000 in
set_option maxHeartbeats 8000000 in
theorem walkUpto (w : World) (A1 : Option Addr) (n1 c1 : Nat) (ads : List (List UInt8)) (h1 : Rd (sliceR u8R) w w.heap.size A1 n1 c1 ads) (A2 : Option Addr) (n2 c2 : Nat) (ns : List Int) (h2 : Rd intR w w.heap.size A2 n2 c2 ns)
    (A3 : Option Addr) (n3 c3 : Nat) (l3 : List UInt8) (h3 : Rd u8R w w.heap.size A3 n3 c3 l3) (n : Int) (hn : I64 n) (A5 : Option Addr) (n5 c5 : Nat) (l5 : List UInt8) (h5 : Rd u8R w w.heap.size A5 n5 c5 l5)
    (hz : (sliceR (sliceR u8R)).sz ads + (sliceR intR).sz ns ≤ 1048576) :
    Calls Try.prog 6 #[.slice A1 n1 c1, .slice A2 n2 c2, .slice A3 n3 c3, .int .i64 n, .slice A5 n5 c5] w fun e w' => e = .returned (.bool true) ∧ Below w.heap.size w w' := by
  have z1 := sz_ge (R := sliceR u8R) (fun a => Nat.le_add_left _ _) ads
  rw [h1.len] at z1
  have l3' := h3.lim
  have l5' := h5.lim
  simp only [u8R, Nat.mul_one] at l3' l5'
  obtain ⟨k, hk⟩ : ∃ k, k = min n1 n2 := ⟨_, rfl⟩
  have hk2 : k ≤ 1048576 := by omega
  have CB := hid fun w' (hb : Below w.heap.size w w') => begins_any hb.size (h1.below hb) (h2.below hb) k hk hk2
  have CT := hid (tried_true)
  have H3 := hid h3
  have H5 := hid h5
  have L3 := hid h3.len
  have L5 := hid h5.len
  have HN := hid hn
  obtain ⟨hn1, hn2⟩ := hn
  clear h1 h2 h3 h5 hz z1 hk
  have tk0 : True := trivial; have tk1 : True := trivial; have tk2 : True := trivial; have tk3 : True := trivial; have tk4 : True := trivial; have tk5 : True := trivial; have tk6 : True := trivial; have tk7 : True := trivial; have tk8 : True := trivial; have tk9 : True := trivial; have tk10 : True := trivial; have tk11 : True := trivial; have tk12 : True := trivial
  by_cases hk60 : 60 < k
  · have q1 : (60 : Int) < (k : Int) := by omega
    go_enter Try.func6, Try.ntmps6
    go_wp2_with (first
      | (go_at_call 15; have _t := tk1; refine (CT.out _).mono ?_; rintro e w1 ⟨rfl, hb⟩; obtain ⟨otk1, dtk1, rfl⟩ := ext_of_below hb; clear hb tk1)
      | (go_at_call 16; have _t := tk2; refine (new_any _).mono ?_; rintro e w1 ⟨rfl, rfl⟩; clear tk2)
      | (go_at_call 17; have _t := tk3; (with_reducible refine (CB.out _ (by (repeat' (first | (with_reducible exact Below.refl _ _) | (with_reducible assumption) | (with_reducible refine below_ext0 ?_ _ _) | (with_reducible refine below_alloc0 ?_ _) | (with_reducible refine Below.ext ?_ ?_ _ _) | (with_reducible refine Below.alloc ?_ ?_ _) | (with_reducible refine Below.setCell ?_ ?_ _) | (with_reducible refine Below.drew ?_) | (with_reducible refine below_draws ?_ _) | go_size | (simp [size_ext]; done) | (simp [size_ext]; omega))))).mono ?_); rintro e w1 ⟨A, c, rfl, _, hb⟩; obtain ⟨o3, d3, rfl⟩ := ext_of_below hb; clear hb tk3))
    go_ret
    exact ⟨rfl, by (repeat' (first | (with_reducible exact Below.refl _ _) | (with_reducible assumption) | (with_reducible refine below_ext0 ?_ _ _) | (with_reducible refine below_alloc0 ?_ _) | (with_reducible refine Below.ext ?_ ?_ _ _) | (with_reducible refine Below.alloc ?_ ?_ _) | (with_reducible refine Below.setCell ?_ ?_ _) | (with_reducible refine Below.drew ?_) | (with_reducible refine below_draws ?_ _) | go_size | (simp [size_ext]; done) | (simp [size_ext]; omega)))⟩
  · have q1 : ¬ (60 : Int) < (k : Int) := by omega
    go_enter Try.func6, Try.ntmps6
    go_wp2_with (first
      | (go_at_call 15; have _t := tk1; refine (CT.out _).mono ?_; rintro e w1 ⟨rfl, hb⟩; obtain ⟨otk1, dtk1, rfl⟩ := ext_of_below hb; clear hb tk1)
      | (go_at_call 16; have _t := tk2; refine (new_any _).mono ?_; rintro e w1 ⟨rfl, rfl⟩; clear tk2)
      | (go_at_call 17; have _t := tk3; (with_reducible refine (CB.out _ (by (repeat' (first | (with_reducible exact Below.refl _ _) | (with_reducible assumption) | (with_reducible refine below_ext0 ?_ _ _) | (with_reducible refine below_alloc0 ?_ _) | (with_reducible refine Below.ext ?_ ?_ _ _) | (with_reducible refine Below.alloc ?_ ?_ _) | (with_reducible refine Below.setCell ?_ ?_ _) | (with_reducible refine Below.drew ?_) | (with_reducible refine below_draws ?_ _) | go_size | (simp [size_ext]; done) | (simp [size_ext]; omega))))).mono ?_); rintro e w1 ⟨A, c, rfl, hown, hb⟩; have HO := hid hown; have HB := hid hb; clear hb hown tk3))
    obtain ⟨g, hg⟩ : ∃ g, w.heap.size + otk1.size = g := ⟨_, rfl⟩
    have T0 := hid ((TrieAt.new (ext w otk1 dtk1) w.heap.size 72 (by simp [size_ext]) (g := w.heap.size + otk1.size) (by simp [size_ext])).later HB.out)
    have O1 := hid (show OwnR beginR 43 w.heap.size (w.heap.size + otk1.size + 1) w1 (.slice A k c) (begL ads ns k) by simpa [size_ext] using HO.out)
    have B1 := hid (Below.trans (by (repeat' (first | (with_reducible exact Below.refl _ _) | (with_reducible assumption) | (with_reducible refine below_ext0 ?_ _ _) | (with_reducible refine below_alloc0 ?_ _) | (with_reducible refine Below.ext ?_ ?_ _ _) | (with_reducible refine Below.alloc ?_ ?_ _) | (with_reducible refine Below.setCell ?_ ?_ _) | (with_reducible refine Below.drew ?_) | (with_reducible refine below_draws ?_ _) | go_size | (simp [size_ext]; done) | (simp [size_ext]; omega)))) (HB.out.mono (by simp [size_ext]; omega)) : Below w.heap.size w w1)
    rw [hg] at T0 O1 ⊢
    have gw : w.heap.size ≤ g := by omega
    have HG := hid hg
    have ll := hid (begL_len ads ns k)
    generalize begL ads ns k = bs at *
    clear HO HB hg CB
    have hro : Hid (∀ p b, rootN g p = some b → w.heap.size ≤ b ∧ b < g + 1) := fun p b e => by
      unfold rootN at e
      split at e
      · cases e; omega
      · cases e
    go_loopg [14] k (fun gk v14 wi => ∃ (i : Nat) (N : Nodes) (V : Vals) (cnt : Int), i ≤ k ∧ gk = k - i ∧ v14 = .int .i64 (i : Int) ∧ PutO w.heap.size g (rootN g) w1 N V cnt wi ∧ 0 ≤ cnt ∧ cnt ≤ (i : Int))
    case atStart => exact ⟨0, rootN g, noVals, 0, Nat.zero_le _, rfl, rfl, PutO.refl T0.out, by omega, by omega⟩
    case round =>
      obtain ⟨i, N, V, cnt, hi, rfl, rfl, hP, cn0, cn1⟩ := hrel
      have HP := hid hP
      have hsz := hP.out.size
      have hs1 := B1.out.size
      clear hP
      by_cases hlt : i < k
      · obtain ⟨g', vs, rfl, hg1, hg2, hr, hc⟩ := (O1.out.outside HP.out.out hro.out).at_ i (by rw [ll.out]; exact hlt) (by decide)
        have hil : i < bs.length := by rw [ll.out]; exact hlt
        have HCELL := hid hc
        obtain ⟨x, hx⟩ : ∃ x, bs[i]'hil = x := ⟨_, rfl⟩
        rw [hx] at hr
        obtain ⟨a, m, v, _⟩ := x
        obtain ⟨_, _, rfl, ⟨A', n', c', rfl, ra⟩, _, _, rfl, ⟨rfl, hm⟩, _, _, rfl, ⟨rfl, hv⟩, rfl⟩ := hr
        have c0 : wr.cell? ⟨g', i * 3, none⟩ = some (.slice A' n' c') := hc 0 _ rfl
        have c1' : wr.cell? ⟨g', i * 3 + 1, none⟩ = some (.int .i64 m) := hc 1 _ rfl
        have c2' : wr.cell? ⟨g', i * 3 + 2, none⟩ = some (.int .i64 v) := hc 2 _ rfl
        have RA := hid ra
        have CP := hid (put_later HP.out (by omega) cn0 (by omega) (fun w' ho => RA.out.below (ho.below HP.out.trie.low (by omega))) m hm v)
        have hst := stepC_le V cnt a m
        have nN : Hid (∀ p, N p ≠ some g') := fun p e => by
          rcases HP.out.sub p g' e with h | h
          · have := (hro.out p g' h).2; omega
          · have : g' < w1.heap.size := (O1.out.at_ i (by rw [ll.out]; exact hlt) (by decide)).elim fun g2 h => by obtain ⟨_, e, _, h, _⟩ := h; cases e; exact h
            omega
        obtain ⟨cnt', hcnt⟩ : ∃ x, stepC V cnt a m = x := ⟨_, rfl⟩
        obtain ⟨V', hV'⟩ : ∃ x, stepV V a m v = x := ⟨_, rfl⟩
        rw [hcnt] at hst CP
        rw [hV'] at CP
        obtain ⟨ev, hev⟩ : ∃ x, errB a m = x := ⟨_, rfl⟩
        rw [hev] at CP
        clear hc hx ra hm hv hcnt hV' hev
        have g3 : (i : Int) < (k : Int) := by omega
        go_wp2_with fail
        go_region_held3 (fun w' => w'.cell? ⟨g', i * 3, none⟩ = some (.slice A' n' c') ∧ w'.cell? ⟨g', i * 3 + 1, none⟩ = some (.int .i64 m) ∧ w'.cell? ⟨g', i * 3 + 2, none⟩ = some (.int .i64 v)) (((try dsimp only); (repeat' apply And.intro) <;> (first | assumption | (go_simp; done))))
          (first
            | (go_at_call 18; (with_reducible refine (CP.out _ (by (repeat' (first | (with_reducible exact Below.refl _ _) | (with_reducible assumption) | (with_reducible refine below_ext0 ?_ _ _) | (with_reducible refine below_alloc0 ?_ _) | (with_reducible refine Below.ext ?_ ?_ _ _) | (with_reducible refine Below.alloc ?_ ?_ _) | (with_reducible refine Below.setCell ?_ ?_ _) | (with_reducible refine Below.drew ?_) | (with_reducible refine below_draws ?_ _) | go_size | (simp [size_ext]; done) | (simp [size_ext]; omega))))).mono ?_); rintro e w2 ⟨rfl, N2, hP2, ho2⟩; have kk := (fun j => World.cell?_of_block (w := wr) (w' := w2) (a := ⟨g', j, none⟩) (ho2.block g' hg2 nN.out)); have y0 := (kk _).trans c0; have y1 := (kk _).trans c1'; have y2 := (kk _).trans c2'; have HP2 := hid hP2; clear hP2 ho2 kk)
            | fail)
        all_goals
          go_wp2
          go_roundg (k - (i + 1))
          case measure => omega
          case rel => exact ⟨i + 1, N2, V', cnt', by omega, rfl, by go_num, HP2.out, by omega, by omega⟩
      · obtain rfl : i = k := by omega
        have BW := hid (B1.out.trans (HP.out.out.below (fun p b e => (hro.out p b e).1) (by omega)))
        have CG := hid fun w' (hb : Below wr.heap.size wr w') => get_ok (HP.out.trie.later hb) (B := w.heap.size) (by have := hb.size; omega) (H5.out.below (BW.out.trans (hb.mono (by omega))))
        have CP := hid (put_later HP.out (by omega) cn0 (by omega) (fun w' ho => H3.out.below (BW.out.trans (ho.below HP.out.trie.low (by omega)))) n HN.out 1000)
        have CG2 := hid fun N' V' cnt' w2 (h : PutO w.heap.size g (rootN g) w1 N' V' cnt' w2) w' (hb : Below w2.heap.size w2 w') => get_ok (h.trie.later hb) (B := w.heap.size) (by have := hb.size; have := h.out.size; omega) (H5.out.below ((B1.out.trans (h.out.below (fun p b e => (hro.out p b e).1) (by omega))).trans (hb.mono (by have := h.out.size; omega))))
        have OUT := hid fun N' V' cnt' w2 (h : PutO w.heap.size g (rootN g) w1 N' V' cnt' w2) => (B1.out.trans (h.out.below (fun p b e => (hro.out p b e).1) (by omega)) : Below w.heap.size w w2)
        have SZ2 := hid fun N' V' cnt' w2 (h : PutO w.heap.size g (rootN g) w1 N' V' cnt' w2) => h.out.size
        obtain ⟨a1, a2, a3, hG⟩ : ∃ a1 a2 a3, getV V (bitsL l5) = (a1, a2, a3) := ⟨_, _, _, rfl⟩
        rw [hG] at CG
        cases hr : rightB l3 n with
        | false =>
          have HE := hid (show errB l3 n = .iface 65 (.int .i64 6) by unfold errB; rw [hr]; rfl)
          rw [HE.out] at CP
          clear hr hG CG2
          have bw := BW.out
          go_wp2_with (first
            | (go_at_call 19; have _t := tk4; (with_reducible refine (CG.out _ (by (repeat' (first | (with_reducible exact Below.refl _ _) | (with_reducible assumption) | (with_reducible refine below_ext0 ?_ _ _) | (with_reducible refine below_alloc0 ?_ _) | (with_reducible refine Below.ext ?_ ?_ _ _) | (with_reducible refine Below.alloc ?_ ?_ _) | (with_reducible refine Below.setCell ?_ ?_ _) | (with_reducible refine Below.drew ?_) | (with_reducible refine below_draws ?_ _) | go_size | (simp [size_ext]; done) | (simp [size_ext]; omega))))).mono ?_); rintro e w2 ⟨rfl, hb⟩; obtain ⟨o4, d4, rfl⟩ := ext_of_below hb; clear hb tk4)
            | (go_at_call 18; have _t := tk5; (with_reducible refine (CP.out _ (by (repeat' (first | (with_reducible exact Below.refl _ _) | (with_reducible assumption) | (with_reducible refine below_ext0 ?_ _ _) | (with_reducible refine below_alloc0 ?_ _) | (with_reducible refine Below.ext ?_ ?_ _ _) | (with_reducible refine Below.alloc ?_ ?_ _) | (with_reducible refine Below.setCell ?_ ?_ _) | (with_reducible refine Below.drew ?_) | (with_reducible refine below_draws ?_ _) | go_size | (simp [size_ext]; done) | (simp [size_ext]; omega))))).mono ?_); rintro e w2 ⟨rfl, N2, hP2, _⟩; have O2 := hid (OUT.out _ _ _ _ hP2); clear hP2 tk5))
          go_ret
          exact ⟨rfl, O2.out⟩
        | true =>
          obtain ⟨r1, r2, r3⟩ := of_decide_eq_true hr
          obtain ⟨m, rfl⟩ : ∃ m : Nat, n = (m : Int) := ⟨n.toNat, by omega⟩
          have HE := hid (show errB l3 m = .nilIface by unfold errB; rw [hr]; rfl)
          have hst : stepV V l3 m 1000 = putV V ((bitsL l3).take m) 1000 := by unfold stepV keyB; rw [hr]; rfl
          rw [HE.out, hst] at CP
          obtain ⟨b1, b2, b3, hG2⟩ : ∃ a1 a2 a3, getV (putV V ((bitsL l3).take m) 1000) (bitsL l5) = (a1, a2, a3) := ⟨_, _, _, rfl⟩
          obtain ⟨al, hal⟩ : ∃ al, decide (∀ i, i < m → bitL l3 i = bitL l5 i) = al := ⟨_, rfl⟩
          have ways : (8 * n5 < m ∧ a1 = b1 ∧ a2 = b2 ∧ a3 = b3) ∨ (m ≤ 8 * n5 ∧ al = false ∧ a1 = b1 ∧ a2 = b2 ∧ a3 = b3) ∨ (m ≤ 8 * n5 ∧ al = true ∧ a3 = false ∧ b1 = 1000 ∧ b2 = m ∧ b3 = true) ∨ (m ≤ 8 * n5 ∧ al = true ∧ a3 = true ∧ a2 ≤ m ∧ b1 = 1000 ∧ b2 = m ∧ b3 = true) ∨ (m ≤ 8 * n5 ∧ al = true ∧ a3 = true ∧ m < a2 ∧ a1 = b1 ∧ a2 = b2 ∧ b3 = true) := by
            have q3 : m ≤ 8 * l3.length := by omega
            have ln := law_not (V := V) (a := l3) (b := l5) q3
            rw [hG2, hG, L5.out] at ln
            simp only [Prod.mk.injEq] at ln
            by_cases y1 : m ≤ 8 * n5
            · have lf := fun h1 h2 => law_fits (V := V) (a := l3) (b := l5) q3 (by rw [L5.out]; exact y1) h1 h2
              rw [hG2, hG] at lf
              simp only [Prod.mk.injEq] at lf
              cases al with
              | false =>
                obtain ⟨e1, e2, e3⟩ := ln fun h => (of_decide_eq_false hal) h.2.1
                exact .inr (.inl ⟨y1, rfl, e1.symm, e2.symm, e3.symm⟩)
              | true =>
                have h1 := of_decide_eq_true hal
                cases a3 with
                | false =>
                  obtain ⟨e1, e2, e3⟩ := lf h1 (.inl rfl)
                  exact .inr (.inr (.inl ⟨y1, rfl, rfl, e1, e2, e3⟩))
                | true =>
                  by_cases y2 : a2 ≤ m
                  · obtain ⟨e1, e2, e3⟩ := lf h1 (.inr y2)
                    exact .inr (.inr (.inr (.inl ⟨y1, rfl, rfl, y2, e1, e2, e3⟩)))
                  · obtain ⟨e1, e2, e3⟩ := ln fun h => by rcases h.2.2 with h | h <;> simp_all
                    exact .inr (.inr (.inr (.inr ⟨y1, rfl, rfl, by omega, e1.symm, e2.symm, e3⟩)))
            · obtain ⟨e1, e2, e3⟩ := ln fun h => y1 h.1
              exact .inl ⟨by omega, e1.symm, e2.symm, e3.symm⟩
          have CA := hid fun (h : m ≤ 8 * n5) w' (hb : Below w.heap.size w w') => alike_any (H3.out.below hb) (H5.out.below hb) m rfl (by have := L3.out; omega) h
          rw [hal] at CA
          have CG3 := hid fun N' cnt' w2 (h : PutO w.heap.size g (rootN g) w1 N' (putV V ((bitsL l3).take m) 1000) cnt' w2) w' (hb : Below w2.heap.size w2 w') => CG2.out N' _ cnt' w2 h w' hb
          rw [hG2] at CG3
          clear hr hG hG2 hal hst CG2
          have bw := BW.out
          rcases ways with ⟨y1, rfl, rfl, rfl⟩ | ⟨y1, rfl, rfl, rfl, rfl⟩ | ⟨y1, rfl, rfl, rfl, rfl, rfl⟩ | ⟨y1, rfl, rfl, y2, rfl, rfl, rfl⟩ | ⟨y1, rfl, rfl, y2, rfl, rfl, rfl⟩
          all_goals
            go_wp2_with (first
              | (go_at_call 19; have _t := tk4; (with_reducible refine (CG.out _ (by (repeat' (first | (with_reducible exact Below.refl _ _) | (with_reducible assumption) | (with_reducible refine below_ext0 ?_ _ _) | (with_reducible refine below_alloc0 ?_ _) | (with_reducible refine Below.ext ?_ ?_ _ _) | (with_reducible refine Below.alloc ?_ ?_ _) | (with_reducible refine Below.setCell ?_ ?_ _) | (with_reducible refine Below.drew ?_) | (with_reducible refine below_draws ?_ _) | go_size | (simp [size_ext]; done) | (simp [size_ext]; omega))))).mono ?_); rintro e w2 ⟨rfl, hb⟩; obtain ⟨o4, d4, rfl⟩ := ext_of_below hb; clear hb tk4)
              | (go_at_call 18; have _t := tk5; (with_reducible refine (CP.out _ (by (repeat' (first | (with_reducible exact Below.refl _ _) | (with_reducible assumption) | (with_reducible refine below_ext0 ?_ _ _) | (with_reducible refine below_alloc0 ?_ _) | (with_reducible refine Below.ext ?_ ?_ _ _) | (with_reducible refine Below.alloc ?_ ?_ _) | (with_reducible refine Below.setCell ?_ ?_ _) | (with_reducible refine Below.drew ?_) | (with_reducible refine below_draws ?_ _) | go_size | (simp [size_ext]; done) | (simp [size_ext]; omega))))).mono ?_); rintro e w2 ⟨rfl, N2, hP2, _⟩; have O2 := hid (OUT.out _ _ _ _ hP2); have HP2 := hid hP2; have zz := SZ2.out _ _ _ _ hP2; clear hP2 tk5)
              | (go_at_call 19; have _t := tk6; (with_reducible refine (CG3.out _ _ _ HP2.out _ (by (repeat' (first | (with_reducible exact Below.refl _ _) | (with_reducible assumption) | (with_reducible refine below_ext0 ?_ _ _) | (with_reducible refine below_alloc0 ?_ _) | (with_reducible refine Below.ext ?_ ?_ _ _) | (with_reducible refine Below.alloc ?_ ?_ _) | (with_reducible refine Below.setCell ?_ ?_ _) | (with_reducible refine Below.drew ?_) | (with_reducible refine below_draws ?_ _) | go_size | (simp [size_ext]; done) | (simp [size_ext]; omega))))).mono ?_); rintro e w3 ⟨rfl, hb⟩; obtain ⟨o6, d6, rfl⟩ := ext_of_below hb; clear hb tk6)
              | (go_at_call 20; have _t := tk7; (with_reducible refine (CA.out y1 _ (by have := O2.out; (repeat' (first | (with_reducible exact Below.refl _ _) | (with_reducible assumption) | (with_reducible refine below_ext0 ?_ _ _) | (with_reducible refine below_alloc0 ?_ _) | (with_reducible refine Below.ext ?_ ?_ _ _) | (with_reducible refine Below.alloc ?_ ?_ _) | (with_reducible refine Below.setCell ?_ ?_ _) | (with_reducible refine Below.drew ?_) | (with_reducible refine below_draws ?_ _) | go_size | (simp [size_ext]; done) | (simp [size_ext]; omega))))).mono ?_); rintro e w4 ⟨rfl, hw⟩; subst w4; clear tk7))
            go_ret
            exact ⟨by first | rfl | (simp; done) | (simp; omega), by have := O2.out; (repeat' (first | (with_reducible exact Below.refl _ _) | (with_reducible assumption) | (with_reducible refine below_ext0 ?_ _ _) | (with_reducible refine below_alloc0 ?_ _) | (with_reducible refine Below.ext ?_ ?_ _ _) | (with_reducible refine Below.alloc ?_ ?_ _) | (with_reducible refine Below.setCell ?_ ?_ _) | (with_reducible refine Below.drew ?_) | (with_reducible refine below_draws ?_ _) | go_size | (simp [size_ext]; done) | (simp [size_ext]; omega)))⟩
set_option maxRecDepth 100000 in
theorem contractUpto (H : Type) (enc : TypeId × Value → H) (W : World) (base : Nat) (args : Array Value) (ds gs : List (DataW H)) (before : List MemPlace)
    (hval : ∀ (j : Nat) t v, Try.f6.params[j]? = some t → args[j]? = some v → Value.okWide Try.prog W .any base t v)
    (hW : DataW.Whole enc Try.prog Try.f6.params.toList Rows.triePutsSpec.vars false W args.toList ds gs before) (hsz : (DataW.weightsEach Try.prog (Try.f6.params.toList ++ Rows.triePutsSpec.plain.varTypes Try.prog) (ds ++ gs)).all (· ≤ reachBytes) = true) (hk : Rows.uptoSmall H (ds ++ gs) = true) :
    Calls Try.prog 6 args W fun e W' => ∃ v, e = .returned v ∧ Rows.triePutsSpec.post enc Try.prog Try.f6 false true false false W args v W' := by
  have hW' := hW
  obtain ⟨p, q, hA0, hV, rfl, hfz, hnd⟩ := hW
  have hA : DataW.TrodAll enc Try.prog W 0 (fun _ => true) true Try.f6.params.toList args.toList ds p := hA0
  rw [Try.params6] at hA hval hsz
  obtain ⟨v0, vs0, d0, ds0, p0, q0, hargs, rfl, rfl, k0, r0⟩ := trodAll_cons hA
  obtain ⟨v1, vs1, d1, ds1, p1, q1, rfl, rfl, rfl, k1, r1⟩ := trodAll_cons r0
  obtain ⟨v2, vs2, d2, ds2, p2, q2, rfl, rfl, rfl, k2, r2⟩ := trodAll_cons r1
  obtain ⟨v3, vs3, d3, ds3, p3, q3, rfl, rfl, rfl, k3, r3⟩ := trodAll_cons r2
  obtain ⟨v4, vs4, d4, ds4, p4, q4, rfl, rfl, rfl, k4, r4⟩ := trodAll_cons r3
  obtain ⟨rfl, rfl, rfl⟩ := trodAll_nil r4
  obtain rfl : args = #[v0, v1, v2, v3, v4] := by cases args; simp_all
  obtain ⟨rfl, rfl⟩ := trodVars_none hV
  have lt0 : ∀ x ∈ p0, x.block < W.heap.size := by obtain ⟨m, hm⟩ := k0; exact DataW.trod_lt m _ _ _ hm
  have lt1 : ∀ x ∈ p1, x.block < W.heap.size := by obtain ⟨m, hm⟩ := k1; exact DataW.trod_lt m _ _ _ hm
  have lt2 : ∀ x ∈ p2, x.block < W.heap.size := by obtain ⟨m, hm⟩ := k2; exact DataW.trod_lt m _ _ _ hm
  have lt3 : ∀ x ∈ p3, x.block < W.heap.size := by obtain ⟨m, hm⟩ := k3; exact DataW.trod_lt m _ _ _ hm
  have lt4 : ∀ x ∈ p4, x.block < W.heap.size := by obtain ⟨m, hm⟩ := k4; exact DataW.trod_lt m _ _ _ hm
  have hsz' : ∀ k ∈ _, k ≤ reachBytes := fun k hk => of_decide_eq_true (List.all_eq_true.1 hsz k hk)
  have u0 : ∀ k ∈ d0.weights Try.prog 35, k ≤ reachBytes := fun k hk => hsz' k (by simp [DataW.weightsEach, hk])
  have u1 : ∀ k ∈ d1.weights Try.prog 30, k ≤ reachBytes := fun k hk => hsz' k (by simp [DataW.weightsEach, hk])
  have u2 : ∀ k ∈ d2.weights Try.prog 36, k ≤ reachBytes := fun k hk => hsz' k (by simp [DataW.weightsEach, hk])
  have u3 : ∀ k ∈ d3.weights Try.prog 3, k ≤ reachBytes := fun k hk => hsz' k (by simp [DataW.weightsEach, hk])
  have u4 : ∀ k ∈ d4.weights Try.prog 36, k ≤ reachBytes := fun k hk => hsz' k (by simp [DataW.weightsEach, hk])
  obtain ⟨A0, n0, c0, l0, rfl, w0, z0⟩ := arg_slice Try.underlying35 (opens_slice Try.underlying35 (opens_slice Try.underlying36 (opens_u8 Try.underlying5) (by kernel_rfl) (by decide) (of_decide_eq_true (by kernel_rfl))) (by kernel_rfl) (by decide) (of_decide_eq_true (by kernel_rfl))) (hval 0 35 v0 rfl rfl) k0 u0
  obtain ⟨A1, n1, c1, l1, rfl, w1, z1⟩ := arg_slice Try.underlying30 (opens_slice Try.underlying30 (opens_int Try.underlying3) (by kernel_rfl) (by decide) (of_decide_eq_true (by kernel_rfl))) (hval 1 30 v1 rfl rfl) k1 u1
  obtain ⟨A2, n2, c2, l2, rfl, w2, z2⟩ := arg_slice Try.underlying36 (opens_slice Try.underlying36 (opens_u8 Try.underlying5) (by kernel_rfl) (by decide) (of_decide_eq_true (by kernel_rfl))) (hval 2 36 v2 rfl rfl) k2 u2
  obtain ⟨a3, rfl, w3, z3⟩ := arg_int Try.underlying3 (hval 3 3 v3 rfl rfl) k3 u3
  obtain ⟨A4, n4, c4, l4, rfl, w4, z4⟩ := arg_slice Try.underlying36 (opens_slice Try.underlying36 (opens_u8 Try.underlying5) (by kernel_rfl) (by decide) (of_decide_eq_true (by kernel_rfl))) (hval 4 36 v4 rfl rfl) k4 u4
  have hsum := bulk_of hk
  simp only [List.append_nil, List.map_cons, List.map_nil, List.sum_cons, List.sum_nil] at hsum
  clear hA0 hA
  refine (walkUpto W A0 n0 c0 l0 w0 A1 n1 c1 l1 w1 A2 n2 c2 l2 w2 a3 w3 A4 n4 c4 l4 w4 (by omega)).mono fun e W' ⟨he, bel⟩ => ?_
  subst he
  exact ⟨_, rfl, _, _, _, [], _, [], hW', trodAll_mk1 (shut_bool Try.underlying4 _), (trodAll_cons_mk (Below.trod laidOut (by kernel_rfl) (of_decide_eq_true (by kernel_rfl)) k0 bel lt0) (trodAll_cons_mk (Below.trod laidOut (by kernel_rfl) (of_decide_eq_true (by kernel_rfl)) k1 bel lt1) (trodAll_cons_mk (Below.trod laidOut (by kernel_rfl) (of_decide_eq_true (by kernel_rfl)) k2 bel lt2) (trodAll_cons_mk (Below.trod laidOut (by kernel_rfl) (of_decide_eq_true (by kernel_rfl)) k3 bel lt3) (trodAll_cons_mk (Below.trod laidOut (by kernel_rfl) (of_decide_eq_true (by kernel_rfl)) k4 bel lt4) trodAll_mk0))))), rfl, bel.frame _, fun h => by cases h⟩

set_option maxRecDepth 100000 in
theorem liftedUpto (os : Os) (started : os.Started) (H : Type) (enc : TypeId × Value → H) (F : Stop.Interp) :
    ReturnsInHanded {} Try.checked os 6 .any ((Rows.OpenSpec.upto Rows.triePutsSpec).pre6 enc Try.prog Try.f6 Rows.triePutsUptoRow.domain false) (((Rows.OpenSpec.upto Rows.triePutsSpec).at F).post enc Try.prog Try.f6 false true false false) := by
  refine returnsInHanded_of_cond_sized (C := Try.checked) (s := Rows.OpenSpec.upto Rows.triePutsSpec) (k := Rows.uptoSmall) rfl own started (by kernel_rfl) Try.func6
    (OpenSpec.witness (enc := enc) (C := Try.checked) (s := Rows.OpenSpec.upto Rows.triePutsSpec) (k := Rows.uptoSmall) rfl false ⟨#[], #[.slice none 0 0, .slice none 0 0, .slice none 0 0, .int .i64 0, .slice none 0 0], []⟩ 8 (by kernel_rfl) (by kernel_rfl) (by kernel_rfl)
      (x := ([.nil, .nil, .nil, .lit (.int .i64 0), .nil], [], [])) (by kernel_rfl) rfl (by kernel_rfl)) ?_
  intro W base args ds gs before hval hW _ hk hsz _
  exact contractUpto H enc W base args ds gs before hval hW hsz hk

/-- the statement -/
theorem provedUpto : Rows.TriePutsUptoSaid :=
  OpenClaim.holds_of_cond 6 Try.f6 rfl rfl rfl rfl rfl rfl rfl ⟨rfl, rfl, rfl, rfl, rfl⟩ rfl rfl rfl rfl rfl (by kernel_rfl) Try.func6 (by kernel_rfl)
    (of_decide_eq_true (by kernel_rfl)) (by unfold Func.isWrapper; first | (rw [if_pos (by decide +kernel)]; kernel_rfl) | (rw [if_neg (by decide +kernel)]; exact ⟨rfl, rfl⟩))
    (fun os started H enc _ F => liftedUpto os started H enc F)

end triePuts
end Go.Proofs.Ytbpflpmhnmdeoaa
