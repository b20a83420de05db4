/- msg: Write. -/
import Derived.Test.YthccknobnpbdeaaDoorK5
namespace Go.Proofs.YthccknobnpbdeaaDoor
open Go.RowKit
set_option linter.unusedVariables false
set_option linter.unusedSimpArgs false

abbrev qR : Rep QT := pairR (sliceR strR) (pairR intR (pairR intR unitR))
/-- a question, a record in a row: its cells -/
theorem Rd.quest {w : World} {B n c : Nat} {A : Option Addr} {qs : List QT} (h : Rd qR w B A n c qs) (k : Nat) (hk : k < n) :
    ∃ b o A3 n3 c3 l T C, A = some ⟨b, o, none⟩ ∧ b < B ∧ qs[k]'(by rw [h.len]; exact hk) = (l, T, C, ()) ∧ w.cell? ⟨b, o + k * 3, none⟩ = some (.slice A3 n3 c3) ∧ w.cell? ⟨b, o + k * 3 + 1, none⟩ = some (.int .i64 T) ∧ w.cell? ⟨b, o + k * 3 + 2, none⟩ = some (.int .i64 C) ∧ Rd strR w B A3 n3 c3 l ∧ I64 T ∧ I64 C := by
  have hk' : k < qs.length := by rw [h.len]; exact hk
  obtain ⟨b, o, vs, e, hb, hr, hc⟩ := h.at_ k hk'
  rcases hq : qs[k] with ⟨l, T, C, u⟩
  rw [hq] at hr
  obtain ⟨_, _, rfl, ⟨A3, n3, c3, rfl, h1⟩, _, _, rfl, ⟨rfl, h2⟩, _, _, rfl, ⟨rfl, h3⟩, rfl⟩ := hr
  exact ⟨b, o, A3, n3, c3, l, T, C, e, hb, rfl, hc 0 _ rfl, hc 1 _ rfl, hc 2 _ rfl, h1, h2, h3⟩
theorem Rd.recd {w : World} {B n c : Nat} {A : Option Addr} {rs : List RecT} (h : Rd recR w B A n c rs) (k : Nat) (hk : k < n) :
    ∃ b o A3 n3 c3 A4 n4 c4 l T C L d, A = some ⟨b, o, none⟩ ∧ b < B ∧ rs[k]'(by rw [h.len]; exact hk) = (l, T, C, L, d, ()) ∧ w.cell? ⟨b, o + k * 5, none⟩ = some (.slice A3 n3 c3) ∧ w.cell? ⟨b, o + k * 5 + 1, none⟩ = some (.int .i64 T) ∧ w.cell? ⟨b, o + k * 5 + 2, none⟩ = some (.int .i64 C) ∧ w.cell? ⟨b, o + k * 5 + 3, none⟩ = some (.int .i64 L) ∧ w.cell? ⟨b, o + k * 5 + 4, none⟩ = some (.slice A4 n4 c4) ∧ Rd strR w B A3 n3 c3 l ∧ (I64 T ∧ I64 C ∧ I64 L) ∧ Rd u8R w B A4 n4 c4 d := by
  have hk' : k < rs.length := by rw [h.len]; exact hk
  obtain ⟨b, o, vs, e, hb, hr, hc⟩ := h.at_ k hk'
  rcases hq : rs[k] with ⟨l, T, C, L, d, u⟩
  rw [hq] at hr
  obtain ⟨_, _, rfl, ⟨A3, n3, c3, rfl, h1⟩, _, _, rfl, ⟨rfl, h2⟩, _, _, rfl, ⟨rfl, h3⟩, _, _, rfl, ⟨rfl, h4⟩, _, _, rfl, ⟨A4, n4, c4, rfl, h5⟩, rfl⟩ := hr
  exact ⟨b, o, A3, n3, c3, A4, n4, c4, l, T, C, L, d, e, hb, rfl, hc 0 _ rfl, hc 1 _ rfl, hc 2 _ rfl, hc 3 _ rfl, hc 4 _ rfl, h1, ⟨h2, h3, h4⟩, h5⟩

/-- a message's cells -/
@[reducible] def msgC (h : Hd) (Q X Y Z : Value) : Array Value := #[.int .i64 h.id, .bool h.an, .int .i64 h.op, .bool h.aa, .bool h.tc, .bool h.rd, .bool h.ra, .bool h.z, .bool h.ad, .bool h.cd, .int .i64 h.code, Q, X, Y, Z]
/-- the header's bytes -/
def hdB (h : Hd) : List UInt8 := [UInt8.ofNat (h.id / 256).toNat, UInt8.ofNat (h.id % 256).toNat, UInt8.ofNat (word h / 256 % 256).toNat, UInt8.ofNat (word h % 256).toNat]

/-- how many of each, so far -/
def cntB (q x y z k : Nat) : List UInt8 := (([q, x, y, z].take k).map fun (n : Nat) => two2 (n : Int)).flatten
theorem hd_cells (h : Hd) (hh : HOk h) (w0 : 0 ≤ word h) (w1 : word h ≤ 65535) : [Value.int .u8 (h.id / 256), .int .u8 (h.id % 256), .int .u8 (word h / 256 % 256), .int .u8 (word h % 256)] = bytesV (hdB h) := by
  have c : ∀ x : Int, 0 ≤ x → x ≤ 255 → ((UInt8.ofNat x.toNat).toNat : Int) = x := fun x h0 h1 => by rw [UInt8.toNat_ofNat']; omega
  have h0 := hh.i0
  have h1 := hh.i1
  simp only [hdB, bytesV, List.map_cons, List.map_nil]
  rw [c (h.id / 256) (by omega) (by omega), c (h.id % 256) (by omega) (by omega), c (word h / 256 % 256) (by omega) (by omega), c (word h % 256) (by omega) (by omega)]
theorem sections_any (b : Nat) (w : World) : Calls Tryd.prog 18 #[.pointer (some ⟨b, 0, none⟩)] w fun e w' => e = .returned (.agg #[.pointer (some ⟨b, 12, none⟩), .pointer (some ⟨b, 13, none⟩), .pointer (some ⟨b, 14, none⟩)]) ∧ Below w.heap.size w w' := by
  go_enter Tryd.func18, Tryd.ntmps18
  go_wp2
  go_region
  all_goals
    go_wp2
    refine bodyPost_ret (v := .agg #[.pointer (some ⟨b, 12, none⟩), .pointer (some ⟨b, 13, none⟩), .pointer (some ⟨b, 14, none⟩)]) (by simp [results, Tryd.results18, go_sem]) rfl ⟨rfl, ?_⟩
    (repeat' (first | (with_reducible exact Below.refl _ _) | (with_reducible assumption) | (with_reducible refine below_ext0 ?_ _ _) | (with_reducible refine below_alloc0 ?_ _) | (with_reducible refine Below.ext ?_ ?_ _ _) | (with_reducible refine Below.alloc ?_ ?_ _) | (with_reducible refine Below.setCell ?_ ?_ _) | (with_reducible refine Below.drew ?_) | (with_reducible refine below_draws ?_ _) | go_size | (simp [size_ext]; done) | (simp [size_ext]; omega)))
theorem qB_len (b : List UInt8) (ss : List Int) (q : QT) (h : qErr q = 0) : (qB b ss q).length ≤ b.length + 300 ∧ (stS b ss q.1).length ≤ ss.length + 255 := by
  have h0 := (qErr_zero h).1
  have hok := nameErr_zero.1 h0
  have h2 := hok.2
  rw [nsize_lsum] at h2
  have hp := packT_len b ss q.1 hok.1
  have h1 := packN_len b ss q.1 b.length
  have h3 := lsum_len q.1
  unfold qB stS
  simp only [List.length_append, two2_len]
  omega
theorem recB_len (b : List UInt8) (ss : List Int) (r : RecT) (h : recErr r = 0) : (recB b ss r).length ≤ b.length + 66000 ∧ (stS b ss r.1).length ≤ ss.length + 255 := by
  have h0 := (recErr_zero h).1
  have h4 := (recErr_zero h).2.2.2.2
  have hok := nameErr_zero.1 h0
  have h2 := hok.2
  rw [nsize_lsum] at h2
  have hp := packT_len b ss r.1 hok.1
  have h1 := packN_len b ss r.1 b.length
  have h3 := lsum_len r.1
  unfold recB stS
  simp only [List.length_append, recTail_len]
  omega
/-- what Write tells: what is wrong, the bytes -/
def mwR (qs : List QT) (rs : List RecT) (b0 : List UInt8) : Int × List UInt8 :=
  if (wrQ qs b0 []).1 = 0 then
    if (wrR rs (wrQ qs b0 []).2.1 (wrQ qs b0 []).2.2).1 = 0 then
      if (wrR rs (wrQ qs b0 []).2.1 (wrQ qs b0 []).2.2).2.1.length ≤ 65535 then (0, (wrR rs (wrQ qs b0 []).2.1 (wrQ qs b0 []).2.2).2.1) else (7, [])
    else ((wrR rs (wrQ qs b0 []).2.1 (wrQ qs b0 []).2.2).1, [])
  else ((wrQ qs b0 []).1, [])
def MwO (w : World) (t : Int × List UInt8) (e : Ending) (w' : World) : Prop :=
  Below w.heap.size w w' ∧ if t.1 = 0 then ∃ A c, e = .returned (.tuple #[.slice A t.2.length c, .nilIface]) ∧ Rd u8R w' w'.heap.size A t.2.length c t.2 ∧ w'.ownsRow w.heap.size 5 1 (.slice A t.2.length c) t.2.length (bytesV t.2)
    else e = .returned (.tuple #[.slice none 0 0, .iface 29 (.int .i64 t.1)])
theorem mwO_q {w w' : World} {qs : List QT} {rs : List RecT} {b0 : List UInt8} {k : Int} (h : wrQ qs b0 [] = (k, [], [])) (hk : k ≠ 0) (hb : Below w.heap.size w w') : MwO w (mwR qs rs b0) (.returned (.tuple #[.slice none 0 0, .iface 29 (.int .i64 k)])) w' := by
  have e : mwR qs rs b0 = (k, []) := by unfold mwR; rw [h, if_neg hk]
  rw [e]
  refine ⟨hb, ?_⟩
  rw [if_neg hk]
theorem mwO_r {w w' : World} {qs : List QT} {rs : List RecT} {b0 b1 : List UInt8} {s1 : List Int} {k : Int} (h : wrQ qs b0 [] = (0, b1, s1)) (h2 : wrR rs b1 s1 = (k, [], [])) (hk : k ≠ 0) (hb : Below w.heap.size w w') : MwO w (mwR qs rs b0) (.returned (.tuple #[.slice none 0 0, .iface 29 (.int .i64 k)])) w' := by
  have e : mwR qs rs b0 = (k, []) := by unfold mwR; simp only [h, if_true]; rw [h2, if_neg hk]
  rw [e]
  refine ⟨hb, ?_⟩
  rw [if_neg hk]
theorem mwO_full {w w' : World} {qs : List QT} {rs : List RecT} {b0 b1 b2 : List UInt8} {s1 s2 : List Int} (h : wrQ qs b0 [] = (0, b1, s1)) (h2 : wrR rs b1 s1 = (0, b2, s2)) (hn : ¬ b2.length ≤ 65535) (hb : Below w.heap.size w w') : MwO w (mwR qs rs b0) (.returned (.tuple #[.slice none 0 0, .iface 29 (.int .i64 7)])) w' := by
  have e : mwR qs rs b0 = (7, []) := by unfold mwR; simp only [h, if_true]; rw [h2]; simp only [if_true]; rw [if_neg hn]
  rw [e]
  exact ⟨hb, by rw [if_neg (by decide)]⟩
theorem mwO_ok {w w' : World} {qs : List QT} {rs : List RecT} {b0 b1 b2 : List UInt8} {s1 s2 : List Int} {A : Option Addr} {n c : Nat} (h : wrQ qs b0 [] = (0, b1, s1)) (h2 : wrR rs b1 s1 = (0, b2, s2)) (hn : b2.length ≤ 65535) (hr : Rd u8R w' w'.heap.size A n c b2) (ho : w'.ownsRow w.heap.size 5 1 (.slice A n c) n (bytesV b2)) (hb : Below w.heap.size w w') : MwO w (mwR qs rs b0) (.returned (.tuple #[.slice A n c, .nilIface])) w' := by
  have e : mwR qs rs b0 = (0, b2) := by unfold mwR; simp only [h, if_true]; rw [h2]; simp only [if_true]; rw [if_pos hn]
  rw [e]
  have hl := hr.len
  subst hl
  exact ⟨hb, by rw [if_pos rfl]; exact ⟨A, c, rfl, hr, ho⟩⟩
theorem wrR_append (a b : List RecT) : ∀ (m : List UInt8) (s : List Int), wrR (a ++ b) m s = if (wrR a m s).1 = 0 then wrR b (wrR a m s).2.1 (wrR a m s).2.2 else wrR a m s := by
  induction a with
  | nil => intro m s; simp [wrR]
  | cons r a ih =>
    intro m s
    rw [List.cons_append, wrR, wrR]
    by_cases h : recErr r = 0
    · rw [if_pos h, if_pos h, ih]
    · rw [if_neg h, if_neg h, if_neg h]
/-- the records that are still to be written -/
def restR (x y z : List RecT) : Nat → List RecT
  | 0 => x ++ (y ++ z)
  | 1 => y ++ z
  | 2 => z
  | _ => []
theorem bd1 {a b c i : Nat} (h1 : a ≤ b + 66000) (h2 : b ≤ c + 66000 * i) : a ≤ c + 66000 * (i + 1) := Nat.le_trans (Nat.le_trans h1 (Nat.add_le_add_right h2 _)) (Nat.le_of_eq (by rw [Nat.add_assoc, Nat.mul_add, Nat.mul_one]))
theorem bd2 {a b c i : Nat} (h1 : a ≤ b + 255) (h2 : b ≤ c + 255 * i) : a ≤ c + 255 * (i + 1) := Nat.le_trans (Nat.le_trans h1 (Nat.add_le_add_right h2 _)) (Nat.le_of_eq (by rw [Nat.add_assoc, Nat.mul_add, Nat.mul_one]))
theorem two_cells (x : Int) (h0 : 0 ≤ x) (h1 : x ≤ 65535) : [Value.int .u8 (x / 256), .int .u8 (x % 256)] = bytesV (two2 x) := by
  have c : ∀ x : Int, 0 ≤ x → x ≤ 255 → ((UInt8.ofNat x.toNat).toNat : Int) = x := fun x h0 h1 => by rw [UInt8.toNat_ofNat']; omega
  simp only [two2, bytesV, List.map_cons, List.map_nil]
  rw [c (x / 256 % 256) (by omega) (by omega), c (x % 256) (by omega) (by omega), show x / 256 % 256 = x / 256 by omega]
/-- where Write is, while it tells how many there are -/
structure CntS (w : World) (gw : Nat) (M : Array Value) (bs : List UInt8) (wi : World) (A : Option Addr) (n c : Nat) : Prop where
  wr : Blk wi gw 85 (wrC A n c none 0 0)
  own : wi.ownsRow (w.heap.size + 1) 5 1 (.slice A n c) n (bytesV bs)
  ne : (Value.slice A n c).ownBlock ≠ some gw
  low : Below w.heap.size w wi
  box : Blk wi w.heap.size 28 M
  lt : gw < wi.heap.size
  gt : w.heap.size < gw
theorem CntS.step {w : World} {gw : Nat} {M : Array Value} {bs : List UInt8} {wi : World} {A : Option Addr} {n c : Nat} (h : CntS w gw M bs wi A n c) (x : Int) (h0 : 0 ≤ x) (h1 : x ≤ 65535) {o : Obj} {w2 : World} {A2 : Option Addr} {c2 : Nat}
    (ho : w2.ownsRow (w.heap.size + 1) 5 1 (.slice A2 (n + 2) c2) (n + 2) (bytesV bs ++ [Value.int .u8 (x / 256), .int .u8 (x % 256)])) (ha : AppTo (wi.alloc o) w2 (.slice A n c) (.slice A2 (n + 2) c2)) :
    CntS w gw M (bs ++ two2 x) (w2.setCell ⟨gw, 0, none⟩ (.slice A2 (n + 2) c2)) A2 (n + 2) c2 := by
  have hz := h.lt
  have hgt := h.gt
  have hb2 := ha.below (h.own.alloc o) (by simp; omega)
  have hz2 := hb2.size
  simp only [World.size_alloc] at hz2
  have hne : (Value.slice A2 (n + 2) c2).ownBlock ≠ some gw := by
    rcases ha.blk with e | ⟨g', e, hg'⟩
    · rw [e]; exact h.ne
    · rw [e]; simp at hg' ⊢; omega
  have hk := (h.wr.alloc o).grown ha.grown (Ne.symm h.ne)
  refine ⟨?_, ?_, hne, ?_, ?_, ?_, hgt⟩
  · have := hk.set 0 (.slice A2 (n + 2) c2)
    simpa [wrC] using this
  · rw [two_cells x h0 h1] at ho
    have := ho.kept (grown_set 0 (.slice A2 (n + 2) c2)) (.inr hne)
    simpa [bytesV] using this
  · exact Below.setCell ((Below.alloc h.low (by omega) _).trans (hb2.mono (by omega))) (show w.heap.size ≤ gw by omega) _
  · exact Blk.far ((h.box.alloc o).below hb2 (by omega)) (show w.heap.size ≠ gw by omega) _
  · simp; omega
/-- where Write is, behind that -/
structure WrS (w : World) (gw : Nat) (M : Array Value) (b : List UInt8) (ss : List Int) (wi : World) : Prop where
  ex : ∃ A n c A1 n1 c1, Blk wi gw 85 (wrC A n c A1 n1 c1) ∧ Rd u8R wi wi.heap.size A n c b ∧ Rd intR wi wi.heap.size A1 n1 c1 ss ∧ wi.ownsRow w.heap.size 5 1 (.slice A n c) n (bytesV b)
  low : Below w.heap.size w wi
  box : Blk wi w.heap.size 28 M
  lt : gw < wi.heap.size
  gt : w.heap.size < gw
theorem CntS.done {w : World} {gw : Nat} {M : Array Value} {bs : List UInt8} {wi : World} {A : Option Addr} {n c : Nat} (h : CntS w gw M bs wi A n c) (hn : n ≤ 140737488355328) : WrS w gw M bs [] wi := by
  obtain ⟨A', c', he, hr⟩ := own_rd_u8 h.own (by have := h.gt; have := h.lt; omega) hn
  cases he
  exact ⟨⟨_, _, _, _, _, _, h.wr, hr, rd_nil _ _, own_less h.own (by omega)⟩, h.low, h.box, h.lt, h.gt⟩
theorem WrS.step {w : World} {gw : Nat} {M : Array Value} {b b' : List UInt8} {ss ss' : List Int} {wi w2 : World} {o : Obj} (h : WrS w gw M b ss wi) (ho : WrO (wi.alloc o) w2 gw b' ss') : WrS w gw M b' ss' w2 := by
  have hz := h.lt
  have hgt := h.gt
  have hg := ho.grown
  have hs := hg.size
  simp only [World.size_alloc] at hs
  obtain ⟨A, n, c, A1, n1, c1, e1, e2, e3, e4⟩ := ho.ex
  refine ⟨⟨A, n, c, A1, n1, c1, e1, e2, e3, own_less e4 (by simp; omega)⟩, ?_, ?_, by omega, hgt⟩
  · refine (Below.alloc h.low (by omega) o).trans ⟨hg.os, hg.tape, hg.output, hg.size, fun k hk => hg.block k (by simp; omega) (by simp; omega)⟩
  · exact (h.box.alloc o).grown hg (by simp; omega)
theorem WrS.below {w : World} {gw : Nat} {M : Array Value} {b : List UInt8} {ss : List Int} {wi w2 : World} (h : WrS w gw M b ss wi) (hb : Below wi.heap.size wi w2) : WrS w gw M b ss w2 := by
  obtain ⟨A, n, c, A1, n1, c1, h1, h2, h3, h4⟩ := h.ex
  have hz := h.lt
  have hgt := h.gt
  have := hb.size
  exact ⟨⟨A, n, c, A1, n1, c1, h1.below hb (by omega), h2.later hb, h3.later hb, own_low h4 hb (Nat.le_refl _)⟩, h.low.trans (hb.mono (by omega)), h.box.below hb (by omega), by omega, hgt⟩
set_option maxRecDepth 100000 in
set_option maxHeartbeats 8000000 in
theorem msgwrite_few {w : World} {h : Hd} (hh : HOk h) {Aq : Option Addr} {nq cq : Nat} {qs : List QT} (hQ : Rd qR w w.heap.size Aq nq cq qs) {Ax : Option Addr} {nx cx : Nat} {xs : List RecT} (hX : Rd recR w w.heap.size Ax nx cx xs) {Ay : Option Addr} {ny cy : Nat} {ys : List RecT} (hY : Rd recR w w.heap.size Ay ny cy ys) {Az : Option Addr} {nz cz : Nat} {zs : List RecT} (hZ : Rd recR w w.heap.size Az nz cz zs)
    (l1 : nq ≤ 65535) (l2 : nx ≤ 65535) (l3 : ny ≤ 65535) (l4 : nz ≤ 65535) :
    Calls Tryd.prog 9 #[.agg (msgC h (.slice Aq nq cq) (.slice Ax nx cx) (.slice Ay ny cy) (.slice Az nz cz))] w (MwO w (mwR qs (xs ++ (ys ++ zs)) (hdB h ++ cntB nq nx ny nz 4))) := by
  obtain ⟨b0, hb0⟩ : ∃ b0, hdB h ++ cntB nq nx ny nz 4 = b0 := ⟨_, rfl⟩
  rw [hb0]
  have HB0E := hid hb0
  clear hb0
  have CS := hid sections_any
  have CH := hid fun w' => hwrite_ok h hh w'
  obtain ⟨_, wd0, wd1⟩ := back_head h hh
  have HDC := hid (hd_cells h hh wd0 wd1)
  clear hh
  have tk0 : True := trivial; have tk1 : True := trivial; have tk2 : True := trivial; have tk3 : True := trivial; have tk4 : True := trivial; have tk5 : True := trivial; have tk6 : True := trivial; have tk7 : True := trivial; have tk8 : True := trivial; have tk9 : True := trivial; have tk10 : True := trivial; have tk11 : True := trivial; have tk12 : True := trivial
  go_enter Tryd.func9, Tryd.ntmps9
  go_wp2_with (go_at_call 32; have _t := tk1; (with_reducible refine (CH.out _).mono ?_); rintro e w1 ⟨g, rfl, hg, hk, hb⟩; have kx := (Blk.below (by (repeat' (first | (with_reducible exact Blk.new _ _ _) | (with_reducible assumption) | (with_reducible refine Blk.ext ?_ _ _) | (with_reducible refine Blk.drew ?_) | (with_reducible refine Blk.alloc ?_ _)))) hb (by simp) : Blk w1 w.heap.size 28 (msgC h (.slice Aq nq cq) (.slice Ax nx cx) (.slice Ay ny cy) (.slice Az nz cz))); have x11 : w1.cell? ⟨w.heap.size, 11, none⟩ = some (.slice Aq nq cq) := kx.cell 11; have x12 : w1.cell? ⟨w.heap.size, 12, none⟩ = some (.slice Ax nx cx) := kx.cell 12; have x13 : w1.cell? ⟨w.heap.size, 13, none⟩ = some (.slice Ay ny cy) := kx.cell 13; have x14 : w1.cell? ⟨w.heap.size, 14, none⟩ = some (.slice Az nz cz) := kx.cell 14; have HB1 := hid (Below.trans (by (repeat' (first | (with_reducible exact Below.refl _ _) | (with_reducible assumption) | (with_reducible refine below_ext0 ?_ _ _) | (with_reducible refine below_alloc0 ?_ _) | (with_reducible refine Below.ext ?_ ?_ _ _) | (with_reducible refine Below.alloc ?_ ?_ _) | (with_reducible refine Below.setCell ?_ ?_ _) | (with_reducible refine Below.drew ?_) | (with_reducible refine below_draws ?_ _) | go_size | (simp [size_ext]; done) | (simp [size_ext]; omega)))) (hb.mono (by simp)) : Below w.heap.size w w1); have z1 := hb.size; simp at z1 hg; have zw : w.heap.size < w1.heap.size := (by omega); have KX := hid kx; have KG := hid hk; clear hb kx hk tk1)
  go_loopg [42] 4 (fun gk v wi => ∃ (k : Nat) (A : Option Addr) (n c : Nat), k ≤ 4 ∧ gk = 4 - k ∧ v = .int .i64 (k : Int) ∧ CntS w w1.heap.size (msgC h (.slice Aq nq cq) (.slice Ax nx cx) (.slice Ay ny cy) (.slice Az nz cz)) (hdB h ++ cntB nq nx ny nz k) wi A n c)
  case atStart =>
    refine ⟨0, _, _, _, Nat.zero_le _, rfl, rfl, Blk.new _ _ _, ?_, ?_, ?_, ?_, ?_, zw⟩
    · refine (World.ownsRow.alloc (w := w1) ?_ _)
      refine ⟨by simp [bytesV, hdB, cntB], .inr ⟨g, 4, _, rfl, by omega, KG.out, Nat.le_refl _, by simp [maxLen], rfl, ?_⟩⟩
      rw [HDC.out]
      simp [cntB]
      rfl
    · simp [Value.ownBlock]
      have := KG.out.lt
      omega
    · exact Below.alloc HB1.out (by omega) _
    · exact KX.out.alloc _
    · simp
  case round =>
    obtain ⟨k, A, n, c, hk, rfl, rfl, hs⟩ := hrel
    have hnl := hs.own.1
    have hz := hs.lt
    have HS := hid hs
    have x0 : wr.cell? ⟨w1.heap.size, 0, none⟩ = some (.slice A n c) := hs.wr.cell 0
    have x1 : wr.cell? ⟨w1.heap.size, 1, none⟩ = some (.slice none 0 0) := hs.wr.cell 1
    have y0 : wr.frozen? ⟨w1.heap.size, 0, none⟩ = false := hs.wr.frozen 0
    have y11 : wr.cell? ⟨w.heap.size, 11, none⟩ = some (.slice Aq nq cq) := hs.box.cell 11
    have hn12 : n = 4 + 2 * k := by
      have hc : (cntB nq nx ny nz k).length = 2 * k := by
        have hk' : k = 0 ∨ k = 1 ∨ k = 2 ∨ k = 3 ∨ k = 4 := by omega
        rcases hk' with rfl | rfl | rfl | rfl | rfl <;> rfl
      simp only [bytesV, List.length_map, List.length_append, hc, Nat.mul_one] at hnl
      have : (hdB h).length = 4 := rfl
      omega
    have ab1 : (n + 2) * 1 ≤ 140737488355328 := by omega
    have ab2 : n + 2 ≤ maxLen := by unfold maxLen; omega
    have HN12 := hid hn12
    clear hs hn12 hnl
    by_cases hk4 : k < 4
    · have hk' : k = 0 ∨ k = 1 ∨ k = 2 ∨ k = 3 := by omega
      rcases hk' with rfl | rfl | rfl | rfl
      · have ix : ∀ w', (Instr.index 86 (.agg #[.int .i64 (nq : Int), .int .i64 (nx : Int), .int .i64 (ny : Int), .int .i64 (nz : Int)]) (.int .i64 0)).run Tryd.prog w' = .ok (.int .i64 (nq : Int)) w' := fun _ => by first | kernel_rfl | (simp [Instr.index, go_sem]; done)
        have q0 : ¬ (65535 : Int) < (nq : Int) := by omega
        have q1 : decide ((65535 : Int) < (nq : Int)) = false := decide_eq_false q0
        go_wp2_with (at_builtin; refine wpList_appT rfl _ _ 22 rfl (w.heap.size + 1) 5 1 1 el_u8 (.slice A n c) n _ rfl (HS.out.own.alloc _) _ 2 2 _ rfl (src_lit _ rfl (by simp [Value.oneCell']) rfl) ab1 ab2 (by simp; omega) ?_; intro v2 w2 ho2 ha2; obtain ⟨A2, c2, rfl, _⟩ := own_slice ho2; have hs2 := HS.out.step (nq : Int) (by omega) (by omega) ho2 ha2; have hk2 := (HS.out.wr.alloc _).grown ha2.grown (Ne.symm HS.out.ne); have x20 : w2.cell? ⟨w1.heap.size, 0, none⟩ = some (.slice A n c) := hk2.cell 0; have f20 : w2.frozen? ⟨w1.heap.size, 0, none⟩ = false := hk2.frozen 0; have z2 := ha2.grown.size; simp only [World.size_alloc] at z2; have HS2 := hid hs2; clear ho2 ha2 hs2 hk2)
        go_roundg (4 - (0 + 1))
        case measure => omega
        case rel => exact ⟨0 + 1, _, _, _, by omega, rfl, by go_num, by have := HS2.out; simpa [cntB] using this⟩
      · have ix : ∀ w', (Instr.index 86 (.agg #[.int .i64 (nq : Int), .int .i64 (nx : Int), .int .i64 (ny : Int), .int .i64 (nz : Int)]) (.int .i64 1)).run Tryd.prog w' = .ok (.int .i64 (nx : Int)) w' := fun _ => by first | kernel_rfl | (simp [Instr.index, go_sem]; done)
        have q0 : ¬ (65535 : Int) < (nx : Int) := by omega
        have q1 : decide ((65535 : Int) < (nx : Int)) = false := decide_eq_false q0
        go_wp2_with (at_builtin; refine wpList_appT rfl _ _ 22 rfl (w.heap.size + 1) 5 1 1 el_u8 (.slice A n c) n _ rfl (HS.out.own.alloc _) _ 2 2 _ rfl (src_lit _ rfl (by simp [Value.oneCell']) rfl) ab1 ab2 (by simp; omega) ?_; intro v2 w2 ho2 ha2; obtain ⟨A2, c2, rfl, _⟩ := own_slice ho2; have hs2 := HS.out.step (nx : Int) (by omega) (by omega) ho2 ha2; have hk2 := (HS.out.wr.alloc _).grown ha2.grown (Ne.symm HS.out.ne); have x20 : w2.cell? ⟨w1.heap.size, 0, none⟩ = some (.slice A n c) := hk2.cell 0; have f20 : w2.frozen? ⟨w1.heap.size, 0, none⟩ = false := hk2.frozen 0; have z2 := ha2.grown.size; simp only [World.size_alloc] at z2; have HS2 := hid hs2; clear ho2 ha2 hs2 hk2)
        go_roundg (4 - (1 + 1))
        case measure => omega
        case rel => exact ⟨1 + 1, _, _, _, by omega, rfl, by go_num, by have := HS2.out; simpa [cntB] using this⟩
      · have ix : ∀ w', (Instr.index 86 (.agg #[.int .i64 (nq : Int), .int .i64 (nx : Int), .int .i64 (ny : Int), .int .i64 (nz : Int)]) (.int .i64 2)).run Tryd.prog w' = .ok (.int .i64 (ny : Int)) w' := fun _ => by first | kernel_rfl | (simp [Instr.index, go_sem]; done)
        have q0 : ¬ (65535 : Int) < (ny : Int) := by omega
        have q1 : decide ((65535 : Int) < (ny : Int)) = false := decide_eq_false q0
        go_wp2_with (at_builtin; refine wpList_appT rfl _ _ 22 rfl (w.heap.size + 1) 5 1 1 el_u8 (.slice A n c) n _ rfl (HS.out.own.alloc _) _ 2 2 _ rfl (src_lit _ rfl (by simp [Value.oneCell']) rfl) ab1 ab2 (by simp; omega) ?_; intro v2 w2 ho2 ha2; obtain ⟨A2, c2, rfl, _⟩ := own_slice ho2; have hs2 := HS.out.step (ny : Int) (by omega) (by omega) ho2 ha2; have hk2 := (HS.out.wr.alloc _).grown ha2.grown (Ne.symm HS.out.ne); have x20 : w2.cell? ⟨w1.heap.size, 0, none⟩ = some (.slice A n c) := hk2.cell 0; have f20 : w2.frozen? ⟨w1.heap.size, 0, none⟩ = false := hk2.frozen 0; have z2 := ha2.grown.size; simp only [World.size_alloc] at z2; have HS2 := hid hs2; clear ho2 ha2 hs2 hk2)
        go_roundg (4 - (2 + 1))
        case measure => omega
        case rel => exact ⟨2 + 1, _, _, _, by omega, rfl, by go_num, by have := HS2.out; simpa [cntB] using this⟩
      · have ix : ∀ w', (Instr.index 86 (.agg #[.int .i64 (nq : Int), .int .i64 (nx : Int), .int .i64 (ny : Int), .int .i64 (nz : Int)]) (.int .i64 3)).run Tryd.prog w' = .ok (.int .i64 (nz : Int)) w' := fun _ => by first | kernel_rfl | (simp [Instr.index, go_sem]; done)
        have q0 : ¬ (65535 : Int) < (nz : Int) := by omega
        have q1 : decide ((65535 : Int) < (nz : Int)) = false := decide_eq_false q0
        go_wp2_with (at_builtin; refine wpList_appT rfl _ _ 22 rfl (w.heap.size + 1) 5 1 1 el_u8 (.slice A n c) n _ rfl (HS.out.own.alloc _) _ 2 2 _ rfl (src_lit _ rfl (by simp [Value.oneCell']) rfl) ab1 ab2 (by simp; omega) ?_; intro v2 w2 ho2 ha2; obtain ⟨A2, c2, rfl, _⟩ := own_slice ho2; have hs2 := HS.out.step (nz : Int) (by omega) (by omega) ho2 ha2; have hk2 := (HS.out.wr.alloc _).grown ha2.grown (Ne.symm HS.out.ne); have x20 : w2.cell? ⟨w1.heap.size, 0, none⟩ = some (.slice A n c) := hk2.cell 0; have f20 : w2.frozen? ⟨w1.heap.size, 0, none⟩ = false := hk2.frozen 0; have z2 := ha2.grown.size; simp only [World.size_alloc] at z2; have HS2 := hid hs2; clear ho2 ha2 hs2 hk2)
        go_roundg (4 - (3 + 1))
        case measure => omega
        case rel => exact ⟨3 + 1, _, _, _, by omega, rfl, by go_num, by have := HS2.out; simpa [cntB] using this⟩
    · obtain rfl : k = 4 := by omega
      have hs0 := HS.out.done (by omega)
      have HS0 := hid hs0
      have hb0l : (hdB h ++ cntB nq nx ny nz 4).length = 12 := rfl
      have HB0L := hid hb0l
      clear hb0l hs0
      rw [HB0E.out] at HS0 HB0L
      go_wp2
      go_loopg [66] nq (fun gk v wi => ∃ (k : Nat) (b : List UInt8) (ss : List Int), k ≤ nq ∧ gk = nq - k ∧ v = .int .i64 (k : Int) ∧ WrS w w1.heap.size (msgC h (.slice Aq nq cq) (.slice Ax nx cx) (.slice Ay ny cy) (.slice Az nz cz)) b ss wi ∧ wrQ qs b0 [] = wrQ (qs.drop k) b ss ∧ b.length ≤ 12 + 300 * k ∧ ss.length ≤ 255 * k)
      case atStart => exact ⟨0, b0, [], Nat.zero_le _, rfl, rfl, HS0.out, rfl, by have := HB0L.out; omega, by simp⟩
      case round =>
        obtain ⟨k, b, ss, hk2, rfl, rfl, hs, hwq, hbl, hsl⟩ := hrel
        have HWQ := hid hwq
        have HBL := hid (And.intro hbl hsl)
        have HSW := hid hs
        have hz2 := hs.lt
        obtain ⟨Aw, nw, cw, Aw1, nw1, cw1, hwb, hwm, hws, _⟩ := hs.ex
        have hwl := hwm.len
        have hwl1 := hws.len
        have hgt := hs.gt
        by_cases hlt : k < nq
        · obtain ⟨bq, oq, A3, n3, c3, l, T, C, rfl, hbq, hel, e0, e1, e2, hL3, hT, hC⟩ := (hQ.below hs.low).quest k hlt
          have hkl : k < qs.length := by rw [hQ.len]; exact hlt
          have hdr : qs.drop k = (l, T, C, ()) :: qs.drop (k + 1) := by rw [List.drop_eq_getElem_cons hkl, hel]
          rw [hdr, wrQ] at hwq
          have hbw : Below wr.heap.size wr (wr.alloc (.cells #[.slice A3 n3 c3, .int .i64 T, .int .i64 C] 51)) := Below.alloc (Below.refl _ _) (Nat.le_refl _) _
          have hlow2 := hs.low
          have hL3' : Rd strR (wr.alloc (.cells #[.slice A3 n3 c3, .int .i64 T, .int .i64 C] 51)) (wr.alloc (.cells #[.slice A3 n3 c3, .int .i64 T, .int .i64 C] 51)).heap.size A3 n3 c3 l := hL3.keep (by simp; omega) (fun p hp => hbw.cell (by omega))
          have hi1 : (k : Int) < (nq : Int) := by omega
          by_cases hq : qErr (l, T, C, ()) = 0
          · rw [if_pos hq] at hwq
            have hql := qB_len b ss _ hq
            have CQ := hid (wquestion_ok (hwb.alloc _) (hwm.later hbw) (hws.later hbw) hL3' (by omega) (by omega) hq)
            have HWQ2 := hid hwq
            have HQL := hid hql
            clear hs hwq hbl hsl hwb hwm hws hwl hwl1 hL3 hL3' hbw hlow2 hq hel hdr hql hT hC HWQ
            go_wp2_with (go_at_call 33; (with_reducible refine CQ.out.mono ?_); rintro e w2 ⟨rfl, ho⟩; have HS2 := hid (HSW.out.step ho); clear ho)
            go_roundg (nq - (k + 1))
            case measure => omega
            case rel => exact ⟨k + 1, _, _, by omega, rfl, by go_num, HS2.out, HWQ2.out, by have := HQL.out.1; have := HBL.out.1; omega, by have := HQL.out.2; have := HBL.out.2; omega⟩
          · rw [if_neg hq] at hwq
            have CQ := hid (wquestion_bad (hwb.alloc _) (hwm.later hbw) (hws.later hbw) hL3' hT hC (by omega) (by omega) rfl hq)
            have HWQ2 := hid hwq
            have HQ := hid hq
            have HLW := hid (Below.alloc hs.low (by omega) (.cells #[.slice A3 n3 c3, .int .i64 T, .int .i64 C] 51))
            clear hs hwq hbl hsl hwb hwm hws hwl hwl1 hL3 hL3' hbw hlow2 hq hel hdr hT hC HWQ
            go_wp2_with (go_at_call 33; (with_reducible refine CQ.out.mono ?_); rintro e w2 ⟨rfl, hb⟩; have HB2 := hid hb; clear hb)
            go_ret2
            exact mwO_q HWQ2.out HQ.out (HLW.out.trans (HB2.out.mono (by simp; omega)))
        · obtain rfl : nq = k := by omega
          have hd0 : qs.drop nq = [] := List.drop_eq_nil_of_le (by rw [hQ.len]; exact Nat.le_refl _)
          rw [hd0, wrQ] at hwq
          have HWQ2 := hid hwq
          obtain ⟨b1, hb1⟩ : ∃ b1, b = b1 := ⟨_, rfl⟩
          obtain ⟨s1, hs1⟩ : ∃ s1, ss = s1 := ⟨_, rfl⟩
          subst hb1 hs1
          clear hs hwb hwm hws hwl hwl1 hwq hd0 HWQ
          go_wp2_with (go_at_call 18; (with_reducible refine (CS.out _ _).mono ?_); rintro e w2 ⟨rfl, hb⟩; have HS2 := hid (HSW.out.below hb); clear hb)
          go_loopg [78] 3 (fun gk v wi => ∃ (j : Nat) (b2 : List UInt8) (s2 : List Int), j ≤ 3 ∧ gk = 3 - j ∧ v = .int .i64 (j : Int) ∧ WrS w w1.heap.size (msgC h (.slice Aq nq cq) (.slice Ax nx cx) (.slice Ay ny cy) (.slice Az nz cz)) b2 s2 wi ∧ wrR (xs ++ (ys ++ zs)) b ss = wrR (restR xs ys zs j) b2 s2 ∧ b2.length ≤ 19660512 + 4325310000 * j ∧ s2.length ≤ 16711425 + 16711425 * j)
          case atStart => exact ⟨0, b, ss, Nat.zero_le _, rfl, rfl, HS2.out, rfl, by have := HBL.out.1; omega, by have := HBL.out.2; omega⟩
          case round =>
            obtain ⟨j, b2, s2, hj, rfl, rfl, hs, hwr, hbl3, hsl3⟩ := hrel
            have HSJ := hid hs
            have HWR := hid hwr
            have HBJ := hid (And.intro hbl3 hsl3)
            have hzj := hs.lt
            by_cases hj3 : j < 3
            · have hj' : j = 0 ∨ j = 1 ∨ j = 2 := by omega
              rcases hj' with rfl | rfl | rfl
              · have ix : ∀ w', (Instr.index 63 (.agg #[.pointer (some ⟨w.heap.size, 12, none⟩), .pointer (some ⟨w.heap.size, 13, none⟩), .pointer (some ⟨w.heap.size, 14, none⟩)]) (.int .i64 0)).run Tryd.prog w' = .ok (.pointer (some ⟨w.heap.size, 12, none⟩)) w' := fun _ => by first | kernel_rfl | (simp [Instr.index, go_sem]; done)
                have yy : wr.cell? ⟨w.heap.size, 12, none⟩ = some (.slice Ax nx cx) := hs.box.cell 12
                clear hs hwr hbl3 hsl3
                go_wp2
                go_loopg [85] nx (fun gk v wi => ∃ (i : Nat) (b3 : List UInt8) (s3 : List Int), i ≤ nx ∧ gk = nx - i ∧ v = .int .i64 (i : Int) ∧ WrS w w1.heap.size (msgC h (.slice Aq nq cq) (.slice Ax nx cx) (.slice Ay ny cy) (.slice Az nz cz)) b3 s3 wi ∧ wrR (xs ++ (ys ++ zs)) b ss = wrR (xs.drop i ++ restR xs ys zs (0 + 1)) b3 s3 ∧ b3.length ≤ 19660512 + 4325310000 * 0 + 66000 * i ∧ s3.length ≤ 16711425 + 16711425 * 0 + 255 * i)
                case atStart => exact ⟨0, b2, s2, Nat.zero_le _, rfl, rfl, HSJ.out, by rw [HWR.out]; simp [restR], by have := HBJ.out.1; omega, by have := HBJ.out.2; omega⟩
                case round =>
                  obtain ⟨i, b3, s3, hi, rfl, rfl, hs, hwr, hbl3, hsl3⟩ := hrel
                  have HSI := hid hs
                  have HWI := hid hwr
                  have HBI := hid (And.intro hbl3 hsl3)
                  have hz3 := hs.lt
                  have hgt3 := hs.gt
                  obtain ⟨Aw, nw, cw, Aw1, nw1, cw1, hwb, hwm, hws, _⟩ := hs.ex
                  have hwl := hwm.len
                  have hwl1 := hws.len
                  by_cases hlt : i < nx
                  · obtain ⟨bq, oq, A3, n3, c3, A4, n4, c4, l, T, C, L, d, hAX, hbq, hel, e0, e1, e2, e3, e4, hL3, ⟨hT, hC, hTL⟩, hD3⟩ := (hX.below hs.low).recd i hlt
                    have hkl : i < xs.length := by rw [hX.len]; exact hlt
                    have hdr : xs.drop i = (l, T, C, L, d, ()) :: xs.drop (i + 1) := by rw [List.drop_eq_getElem_cons hkl, hel]
                    rw [hdr, List.cons_append, wrR] at hwr
                    have hbw : Below wr.heap.size wr (wr.alloc (.cells #[.slice A3 n3 c3, .int .i64 T, .int .i64 C, .int .i64 L, .slice A4 n4 c4] 53)) := Below.alloc (Below.refl _ _) (Nat.le_refl _) _
                    have hL3' : Rd strR (wr.alloc (.cells #[.slice A3 n3 c3, .int .i64 T, .int .i64 C, .int .i64 L, .slice A4 n4 c4] 53)) (wr.alloc (.cells #[.slice A3 n3 c3, .int .i64 T, .int .i64 C, .int .i64 L, .slice A4 n4 c4] 53)).heap.size A3 n3 c3 l := hL3.keep (by simp; omega) (fun p hp => hbw.cell (by omega))
                    have hD3' : Rd u8R (wr.alloc (.cells #[.slice A3 n3 c3, .int .i64 T, .int .i64 C, .int .i64 L, .slice A4 n4 c4] 53)) (wr.alloc (.cells #[.slice A3 n3 c3, .int .i64 T, .int .i64 C, .int .i64 L, .slice A4 n4 c4] 53)).heap.size A4 n4 c4 d := hD3.keep (by simp; omega) (fun p hp => hbw.cell (by omega))
                    have hi1 : (i : Int) < (nx : Int) := by omega
                    have HAX := hid hAX
                    by_cases hq : recErr (l, T, C, L, d, ()) = 0
                    · rw [if_pos hq] at hwr
                      have hql := recB_len b3 s3 _ hq
                      have CQ := hid (wrecord_ok (hwb.alloc _) (hwm.later hbw) (hws.later hbw) hL3' hD3' (by omega) (by omega) (by omega) (by omega) hq)
                      have HWQ3 := hid hwr
                      have HQL := hid hql
                      clear hs hwr hbl3 hsl3 hwb hwm hws hwl hwl1 hL3 hL3' hD3 hD3' hbw hq hel hdr hql hT hC hTL HWI
                      subst hAX
                      go_wp2_with (go_at_call 34; (with_reducible refine CQ.out.mono ?_); rintro e w2 ⟨rfl, ho⟩; have HS3 := hid (HSI.out.step ho); clear ho)
                      go_roundg (nx - (i + 1))
                      case measure => omega
                      case rel => exact ⟨i + 1, _, _, by omega, rfl, by go_num, HS3.out, HWQ3.out, bd1 HQL.out.1 HBI.out.1, bd2 HQL.out.2 HBI.out.2⟩
                    · rw [if_neg hq] at hwr
                      have CQ := hid (wrecord_bad (hwb.alloc _) (hwm.later hbw) (hws.later hbw) hL3' hD3' hT hC hTL (by omega) (by omega) rfl hq)
                      have HWQ3 := hid hwr
                      have HQ := hid hq
                      have HLW := hid (Below.alloc hs.low (by omega) (.cells #[.slice A3 n3 c3, .int .i64 T, .int .i64 C, .int .i64 L, .slice A4 n4 c4] 53))
                      clear hs hwr hbl3 hsl3 hwb hwm hws hwl hwl1 hL3 hL3' hD3 hD3' hbw hq hel hdr hT hC hTL HWI
                      subst hAX
                      go_wp2_with (go_at_call 34; (with_reducible refine CQ.out.mono ?_); rintro e w2 ⟨rfl, hb⟩; have HB2 := hid hb; clear hb)
                      go_ret2
                      exact mwO_r HWQ2.out HWQ3.out HQ.out (HLW.out.trans (HB2.out.mono (by simp; omega)))
                  · obtain rfl : nx = i := by omega
                    have hd0 : xs.drop nx = [] := List.drop_eq_nil_of_le (by rw [hX.len]; exact Nat.le_refl _)
                    rw [hd0, List.nil_append] at hwr
                    have HWQ3 := hid hwr
                    clear hs hwr hbl3 hsl3 hwb hwm hws hwl hwl1 hd0 HWI
                    go_wp2
                    go_roundg (3 - (0 + 1))
                    case measure => omega
                    case rel => exact ⟨0 + 1, b3, s3, by omega, rfl, by go_num, HSI.out, HWQ3.out, by have := HBI.out.1; omega, by have := HBI.out.2; omega⟩
              · have ix : ∀ w', (Instr.index 63 (.agg #[.pointer (some ⟨w.heap.size, 12, none⟩), .pointer (some ⟨w.heap.size, 13, none⟩), .pointer (some ⟨w.heap.size, 14, none⟩)]) (.int .i64 1)).run Tryd.prog w' = .ok (.pointer (some ⟨w.heap.size, 13, none⟩)) w' := fun _ => by first | kernel_rfl | (simp [Instr.index, go_sem]; done)
                have yy : wr.cell? ⟨w.heap.size, 13, none⟩ = some (.slice Ay ny cy) := hs.box.cell 13
                clear hs hwr hbl3 hsl3
                go_wp2
                go_loopg [85] ny (fun gk v wi => ∃ (i : Nat) (b3 : List UInt8) (s3 : List Int), i ≤ ny ∧ gk = ny - i ∧ v = .int .i64 (i : Int) ∧ WrS w w1.heap.size (msgC h (.slice Aq nq cq) (.slice Ax nx cx) (.slice Ay ny cy) (.slice Az nz cz)) b3 s3 wi ∧ wrR (xs ++ (ys ++ zs)) b ss = wrR (ys.drop i ++ restR xs ys zs (1 + 1)) b3 s3 ∧ b3.length ≤ 19660512 + 4325310000 * 1 + 66000 * i ∧ s3.length ≤ 16711425 + 16711425 * 1 + 255 * i)
                case atStart => exact ⟨0, b2, s2, Nat.zero_le _, rfl, rfl, HSJ.out, by rw [HWR.out]; simp [restR], by have := HBJ.out.1; omega, by have := HBJ.out.2; omega⟩
                case round =>
                  obtain ⟨i, b3, s3, hi, rfl, rfl, hs, hwr, hbl3, hsl3⟩ := hrel
                  have HSI := hid hs
                  have HWI := hid hwr
                  have HBI := hid (And.intro hbl3 hsl3)
                  have hz3 := hs.lt
                  have hgt3 := hs.gt
                  obtain ⟨Aw, nw, cw, Aw1, nw1, cw1, hwb, hwm, hws, _⟩ := hs.ex
                  have hwl := hwm.len
                  have hwl1 := hws.len
                  by_cases hlt : i < ny
                  · obtain ⟨bq, oq, A3, n3, c3, A4, n4, c4, l, T, C, L, d, hAX, hbq, hel, e0, e1, e2, e3, e4, hL3, ⟨hT, hC, hTL⟩, hD3⟩ := (hY.below hs.low).recd i hlt
                    have hkl : i < ys.length := by rw [hY.len]; exact hlt
                    have hdr : ys.drop i = (l, T, C, L, d, ()) :: ys.drop (i + 1) := by rw [List.drop_eq_getElem_cons hkl, hel]
                    rw [hdr, List.cons_append, wrR] at hwr
                    have hbw : Below wr.heap.size wr (wr.alloc (.cells #[.slice A3 n3 c3, .int .i64 T, .int .i64 C, .int .i64 L, .slice A4 n4 c4] 53)) := Below.alloc (Below.refl _ _) (Nat.le_refl _) _
                    have hL3' : Rd strR (wr.alloc (.cells #[.slice A3 n3 c3, .int .i64 T, .int .i64 C, .int .i64 L, .slice A4 n4 c4] 53)) (wr.alloc (.cells #[.slice A3 n3 c3, .int .i64 T, .int .i64 C, .int .i64 L, .slice A4 n4 c4] 53)).heap.size A3 n3 c3 l := hL3.keep (by simp; omega) (fun p hp => hbw.cell (by omega))
                    have hD3' : Rd u8R (wr.alloc (.cells #[.slice A3 n3 c3, .int .i64 T, .int .i64 C, .int .i64 L, .slice A4 n4 c4] 53)) (wr.alloc (.cells #[.slice A3 n3 c3, .int .i64 T, .int .i64 C, .int .i64 L, .slice A4 n4 c4] 53)).heap.size A4 n4 c4 d := hD3.keep (by simp; omega) (fun p hp => hbw.cell (by omega))
                    have hi1 : (i : Int) < (ny : Int) := by omega
                    have HAX := hid hAX
                    by_cases hq : recErr (l, T, C, L, d, ()) = 0
                    · rw [if_pos hq] at hwr
                      have hql := recB_len b3 s3 _ hq
                      have CQ := hid (wrecord_ok (hwb.alloc _) (hwm.later hbw) (hws.later hbw) hL3' hD3' (by omega) (by omega) (by omega) (by omega) hq)
                      have HWQ3 := hid hwr
                      have HQL := hid hql
                      clear hs hwr hbl3 hsl3 hwb hwm hws hwl hwl1 hL3 hL3' hD3 hD3' hbw hq hel hdr hql hT hC hTL HWI
                      subst hAX
                      go_wp2_with (go_at_call 34; (with_reducible refine CQ.out.mono ?_); rintro e w2 ⟨rfl, ho⟩; have HS3 := hid (HSI.out.step ho); clear ho)
                      go_roundg (ny - (i + 1))
                      case measure => omega
                      case rel => exact ⟨i + 1, _, _, by omega, rfl, by go_num, HS3.out, HWQ3.out, bd1 HQL.out.1 HBI.out.1, bd2 HQL.out.2 HBI.out.2⟩
                    · rw [if_neg hq] at hwr
                      have CQ := hid (wrecord_bad (hwb.alloc _) (hwm.later hbw) (hws.later hbw) hL3' hD3' hT hC hTL (by omega) (by omega) rfl hq)
                      have HWQ3 := hid hwr
                      have HQ := hid hq
                      have HLW := hid (Below.alloc hs.low (by omega) (.cells #[.slice A3 n3 c3, .int .i64 T, .int .i64 C, .int .i64 L, .slice A4 n4 c4] 53))
                      clear hs hwr hbl3 hsl3 hwb hwm hws hwl hwl1 hL3 hL3' hD3 hD3' hbw hq hel hdr hT hC hTL HWI
                      subst hAX
                      go_wp2_with (go_at_call 34; (with_reducible refine CQ.out.mono ?_); rintro e w2 ⟨rfl, hb⟩; have HB2 := hid hb; clear hb)
                      go_ret2
                      exact mwO_r HWQ2.out HWQ3.out HQ.out (HLW.out.trans (HB2.out.mono (by simp; omega)))
                  · obtain rfl : ny = i := by omega
                    have hd0 : ys.drop ny = [] := List.drop_eq_nil_of_le (by rw [hY.len]; exact Nat.le_refl _)
                    rw [hd0, List.nil_append] at hwr
                    have HWQ3 := hid hwr
                    clear hs hwr hbl3 hsl3 hwb hwm hws hwl hwl1 hd0 HWI
                    go_wp2
                    go_roundg (3 - (1 + 1))
                    case measure => omega
                    case rel => exact ⟨1 + 1, b3, s3, by omega, rfl, by go_num, HSI.out, HWQ3.out, by have := HBI.out.1; omega, by have := HBI.out.2; omega⟩
              · have ix : ∀ w', (Instr.index 63 (.agg #[.pointer (some ⟨w.heap.size, 12, none⟩), .pointer (some ⟨w.heap.size, 13, none⟩), .pointer (some ⟨w.heap.size, 14, none⟩)]) (.int .i64 2)).run Tryd.prog w' = .ok (.pointer (some ⟨w.heap.size, 14, none⟩)) w' := fun _ => by first | kernel_rfl | (simp [Instr.index, go_sem]; done)
                have yy : wr.cell? ⟨w.heap.size, 14, none⟩ = some (.slice Az nz cz) := hs.box.cell 14
                clear hs hwr hbl3 hsl3
                go_wp2
                go_loopg [85] nz (fun gk v wi => ∃ (i : Nat) (b3 : List UInt8) (s3 : List Int), i ≤ nz ∧ gk = nz - i ∧ v = .int .i64 (i : Int) ∧ WrS w w1.heap.size (msgC h (.slice Aq nq cq) (.slice Ax nx cx) (.slice Ay ny cy) (.slice Az nz cz)) b3 s3 wi ∧ wrR (xs ++ (ys ++ zs)) b ss = wrR (zs.drop i ++ restR xs ys zs (2 + 1)) b3 s3 ∧ b3.length ≤ 19660512 + 4325310000 * 2 + 66000 * i ∧ s3.length ≤ 16711425 + 16711425 * 2 + 255 * i)
                case atStart => exact ⟨0, b2, s2, Nat.zero_le _, rfl, rfl, HSJ.out, by rw [HWR.out]; simp [restR], by have := HBJ.out.1; omega, by have := HBJ.out.2; omega⟩
                case round =>
                  obtain ⟨i, b3, s3, hi, rfl, rfl, hs, hwr, hbl3, hsl3⟩ := hrel
                  have HSI := hid hs
                  have HWI := hid hwr
                  have HBI := hid (And.intro hbl3 hsl3)
                  have hz3 := hs.lt
                  have hgt3 := hs.gt
                  obtain ⟨Aw, nw, cw, Aw1, nw1, cw1, hwb, hwm, hws, _⟩ := hs.ex
                  have hwl := hwm.len
                  have hwl1 := hws.len
                  by_cases hlt : i < nz
                  · obtain ⟨bq, oq, A3, n3, c3, A4, n4, c4, l, T, C, L, d, hAX, hbq, hel, e0, e1, e2, e3, e4, hL3, ⟨hT, hC, hTL⟩, hD3⟩ := (hZ.below hs.low).recd i hlt
                    have hkl : i < zs.length := by rw [hZ.len]; exact hlt
                    have hdr : zs.drop i = (l, T, C, L, d, ()) :: zs.drop (i + 1) := by rw [List.drop_eq_getElem_cons hkl, hel]
                    rw [hdr, List.cons_append, wrR] at hwr
                    have hbw : Below wr.heap.size wr (wr.alloc (.cells #[.slice A3 n3 c3, .int .i64 T, .int .i64 C, .int .i64 L, .slice A4 n4 c4] 53)) := Below.alloc (Below.refl _ _) (Nat.le_refl _) _
                    have hL3' : Rd strR (wr.alloc (.cells #[.slice A3 n3 c3, .int .i64 T, .int .i64 C, .int .i64 L, .slice A4 n4 c4] 53)) (wr.alloc (.cells #[.slice A3 n3 c3, .int .i64 T, .int .i64 C, .int .i64 L, .slice A4 n4 c4] 53)).heap.size A3 n3 c3 l := hL3.keep (by simp; omega) (fun p hp => hbw.cell (by omega))
                    have hD3' : Rd u8R (wr.alloc (.cells #[.slice A3 n3 c3, .int .i64 T, .int .i64 C, .int .i64 L, .slice A4 n4 c4] 53)) (wr.alloc (.cells #[.slice A3 n3 c3, .int .i64 T, .int .i64 C, .int .i64 L, .slice A4 n4 c4] 53)).heap.size A4 n4 c4 d := hD3.keep (by simp; omega) (fun p hp => hbw.cell (by omega))
                    have hi1 : (i : Int) < (nz : Int) := by omega
                    have HAX := hid hAX
                    by_cases hq : recErr (l, T, C, L, d, ()) = 0
                    · rw [if_pos hq] at hwr
                      have hql := recB_len b3 s3 _ hq
                      have CQ := hid (wrecord_ok (hwb.alloc _) (hwm.later hbw) (hws.later hbw) hL3' hD3' (by omega) (by omega) (by omega) (by omega) hq)
                      have HWQ3 := hid hwr
                      have HQL := hid hql
                      clear hs hwr hbl3 hsl3 hwb hwm hws hwl hwl1 hL3 hL3' hD3 hD3' hbw hq hel hdr hql hT hC hTL HWI
                      subst hAX
                      go_wp2_with (go_at_call 34; (with_reducible refine CQ.out.mono ?_); rintro e w2 ⟨rfl, ho⟩; have HS3 := hid (HSI.out.step ho); clear ho)
                      go_roundg (nz - (i + 1))
                      case measure => omega
                      case rel => exact ⟨i + 1, _, _, by omega, rfl, by go_num, HS3.out, HWQ3.out, bd1 HQL.out.1 HBI.out.1, bd2 HQL.out.2 HBI.out.2⟩
                    · rw [if_neg hq] at hwr
                      have CQ := hid (wrecord_bad (hwb.alloc _) (hwm.later hbw) (hws.later hbw) hL3' hD3' hT hC hTL (by omega) (by omega) rfl hq)
                      have HWQ3 := hid hwr
                      have HQ := hid hq
                      have HLW := hid (Below.alloc hs.low (by omega) (.cells #[.slice A3 n3 c3, .int .i64 T, .int .i64 C, .int .i64 L, .slice A4 n4 c4] 53))
                      clear hs hwr hbl3 hsl3 hwb hwm hws hwl hwl1 hL3 hL3' hD3 hD3' hbw hq hel hdr hT hC hTL HWI
                      subst hAX
                      go_wp2_with (go_at_call 34; (with_reducible refine CQ.out.mono ?_); rintro e w2 ⟨rfl, hb⟩; have HB2 := hid hb; clear hb)
                      go_ret2
                      exact mwO_r HWQ2.out HWQ3.out HQ.out (HLW.out.trans (HB2.out.mono (by simp; omega)))
                  · obtain rfl : nz = i := by omega
                    have hd0 : zs.drop nz = [] := List.drop_eq_nil_of_le (by rw [hZ.len]; exact Nat.le_refl _)
                    rw [hd0, List.nil_append] at hwr
                    have HWQ3 := hid hwr
                    clear hs hwr hbl3 hsl3 hwb hwm hws hwl hwl1 hd0 HWI
                    go_wp2
                    go_roundg (3 - (2 + 1))
                    case measure => omega
                    case rel => exact ⟨2 + 1, b3, s3, by omega, rfl, by go_num, HSI.out, HWQ3.out, by have := HBI.out.1; omega, by have := HBI.out.2; omega⟩
            · obtain rfl : j = 3 := by omega
              obtain ⟨A2, n2, c2, A3, n3, c3, hwb, hwm, hws, hwo⟩ := hs.ex
              have HWO := hid hwo
              clear hwo
              have hnl2 := hwm.len
              have z0 : wr.cell? ⟨w1.heap.size, 0, none⟩ = some (.slice A2 n2 c2) := hwb.cell 0
              have HWM := hid hwm
              have HNL2 := hid hnl2
              have HLOW := hid hs.low
              clear hs hwr hbl3 hsl3 hwb hwm hws hnl2
              have hwr2 := HWR.out
              simp only [restR, wrR] at hwr2
              have HWR2 := hid hwr2
              clear hwr2
              by_cases hful : n2 ≤ 65535
              · have f0 : ¬ (65535 : Int) < (n2 : Int) := by omega
                have f1 : decide ((65535 : Int) < (n2 : Int)) = false := decide_eq_false f0
                go_wp2
                go_ret2
                exact mwO_ok HWQ2.out HWR2.out (by rw [HNL2.out]; exact hful) HWM.out HWO.out HLOW.out
              · have f0 : (65535 : Int) < (n2 : Int) := by omega
                have f1 : decide ((65535 : Int) < (n2 : Int)) = true := decide_eq_true f0
                go_wp2
                go_ret2
                exact mwO_full HWQ2.out HWR2.out (by rw [HNL2.out]; exact hful) HLOW.out
end Go.Proofs.YthccknobnpbdeaaDoor
