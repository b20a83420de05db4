/- A row of the call's own whose elements hold slices that lie elsewhere: kept while it grows, while others grow, and while one block is stored into that holds no bytes and no texts. No function of the program. -/
import Derived.Test.YthccknobnpbdeaaDoorK2
import Derived.Test.YthccknobnpbdeaaDoorK6
import Derived.Test.YthccknobnpbdeaaDoorK5
namespace Go.Proofs.YthccknobnpbdeaaDoor
open Go.RowKit
set_option linter.unusedVariables false
set_option linter.unusedSimpArgs false

def IsD (v : Value) : Prop := IsStr v ∨ IsU8 v
def Near {α : Type} (K : Value → Prop) (R : Rep α) : Prop := ∀ {w w' : World} {a : α} {vs : List Value}, R.rel w w.heap.size a vs → NearP K w w' → R.rel w' w'.heap.size a vs
theorem near_int (K : Value → Prop) : Near K intR := fun h _ => h
theorem near_unit (K : Value → Prop) : Near K unitR := fun h _ => h
theorem near_pair {α β : Type} {K : Value → Prop} {R : Rep α} {S : Rep β} (h1 : Near K R) (h2 : Near K S) : Near K (pairR R S) := by
  rintro w w' a vs ⟨u, v, rfl, r1, r2⟩ hn
  exact ⟨u, v, rfl, h1 r1 hn, h2 r2 hn⟩
theorem near_strs : Near IsD (sliceR strR) := by
  rintro w w' a vs ⟨A, n, c, rfl, h⟩ hn
  exact ⟨A, n, c, rfl, Rd.near (R := strR) IsD (fun hr u hu => by rw [hr.1] at hu; exact .inl ⟨_, List.mem_singleton.1 hu⟩) (fun hr => hr) h hn⟩
theorem near_bytes : Near IsD (sliceR u8R) := by
  rintro w w' a vs ⟨A, n, c, rfl, h⟩ hn
  exact ⟨A, n, c, rfl, Rd.near (R := u8R) IsD (fun hr u hu => by rw [show _ = [_] from hr] at hu; exact .inr ⟨_, List.mem_singleton.1 hu⟩) (fun hr => hr) h hn⟩
theorem near_q : Near IsD qR := near_pair near_strs (near_pair (near_int _) (near_pair (near_int _) (near_unit _)))
theorem near_rec : Near IsD recR := near_pair near_strs (near_pair (near_int _) (near_pair (near_int _) (near_pair (near_int _) (near_pair near_bytes (near_unit _)))))
theorem not_d_slice (A : Option Addr) (n c : Nat) : ¬ IsD (.slice A n c) := by rintro (⟨_, h⟩ | ⟨_, h⟩) <;> cases h
theorem not_d_int (x : Int) : ¬ IsD (.int .i64 x) := by rintro (⟨_, h⟩ | ⟨_, h⟩) <;> cases h
theorem not_d_bool (x : Bool) : ¬ IsD (.bool x) := by rintro (⟨_, h⟩ | ⟨_, h⟩) <;> cases h
theorem not_d_nil (v : Value) (h : v = .slice none 0 0) : ¬ IsD v := by subst h; exact not_d_slice _ _ _
theorem rels_near {α : Type} {K : Value → Prop} {R : Rep α} (hR : Near K R) {w w' : World} {l : List α} {xs : List Value} (h : Rels R w w.heap.size l xs) (hn : NearP K w w') : Rels R w' w'.heap.size l xs := by
  obtain ⟨vss, h1, h2, r⟩ := h
  exact ⟨vss, h1, h2, fun i hi hi' => hR (r i hi hi') hn⟩
theorem near_grown {K : Value → Prop} {w w' : World} {g : Nat} (hg : w.grownBy w' (some g)) (hf : FreeB K w g) : NearP K w w' :=
  ⟨hg.size, fun k hk => by
    by_cases e : k = g
    · subst e; exact .inr hf
    · exact .inl (hg.block k hk (fun h => e (by cases h; rfl)))⟩
theorem near_below {K : Value → Prop} {w w' : World} (hb : Below w.heap.size w w') : NearP K w w' := ⟨hb.size, fun k hk => .inl (hb.block k hk)⟩

/-- such a row -/
structure Row {α : Type} (R : Rep α) (t : TypeId) (w : World) (base : Nat) (v : Value) (l : List α) : Prop where
  ex : ∃ cs, w.ownsRow base t R.k v l.length cs ∧ Rels R w w.heap.size l cs ∧ FreeV IsD w v
section
variable {α : Type} {R : Rep α} {t : TypeId} {w w' : World} {base : Nat} {v : Value} {l : List α}
theorem Row.nil (R : Rep α) (t : TypeId) (w : World) (base : Nat) : Row R t w base (.slice none 0 0) [] := ⟨[], World.ownsRow_nil w base t R.k, Rels.nil, FreeV.nil⟩
theorem Row.near (hR : Near IsD R) (h : Row R t w base v l) {r : Option Nat} (hg : w.grownBy w' r) (hne : v.ownBlock = none ∨ v.ownBlock ≠ r) (hn : NearP IsD w w') : Row R t w' base v l := by
  obtain ⟨cs, h1, h2, h3⟩ := h
  exact ⟨cs, h1.kept hg hne, rels_near hR h2 hn, h3.grown h1 hg hne⟩
theorem Row.apart (h : Row R t w base v l) {g : Nat} (hg : g < base) : v.ownBlock = none ∨ v.ownBlock ≠ some g := by
  obtain ⟨cs, h1, h2, h3⟩ := h
  cases e : v.ownBlock with
  | none => exact .inl rfl
  | some k =>
    right
    have := (h1.lt k e).1
    intro h
    cases h
    omega
theorem Row.grown (hR : Near IsD R) (h : Row R t w base v l) {g : Nat} (hg : w.grownBy w' (some g)) (hf : FreeB IsD w g) (hne : g < base) : Row R t w' base v l := h.near hR hg (h.apart hne) (near_grown hg hf)
theorem Row.below (hR : Near IsD R) (h : Row R t w base v l) (hb : Below w.heap.size w w') : Row R t w' base v l := by
  refine h.near hR (below_grown hb none) ?_ (near_below hb)
  cases e : v.ownBlock with
  | none => exact .inl rfl
  | some k => exact .inr (by simp)
theorem Row.drew (h : Row R t w base v l) : Row R t w.drew base v l := by
  obtain ⟨cs, h1, h2, h3⟩ := h
  exact ⟨cs, h1.drew, h2.keep (w' := w.drew) (Nat.le_refl _) (fun _ _ => rfl), h3⟩
theorem Row.less {base' : Nat} (h : Row R t w base v l) (hb : base' ≤ base) : Row R t w base' v l := by
  obtain ⟨cs, h1, h2, h3⟩ := h
  exact ⟨cs, own_less h1 hb, h2, h3⟩
theorem Row.rd (h : Row R t w base v l) (hb : base ≤ w.heap.size) (hlim : l.length * R.bs ≤ 140737488355328) (hk : 0 < R.k) : ∃ A c, v = .slice A l.length c ∧ Rd R w w.heap.size A l.length c l := by
  obtain ⟨cs, h1, h2, h3⟩ := h
  exact rd_of_own h1 h2 rfl (Nat.le_refl _) hlim hk
theorem Row.slice (h : Row R t w base v l) : ∃ A c, v = .slice A l.length c := by
  obtain ⟨cs, h1, h2, h3⟩ := h
  obtain ⟨A, c, e, _⟩ := own_slice h1
  exact ⟨A, c, e⟩
/-- one element more -/
theorem Row.app (hR : Near IsD R) {v' : Value} {cs ys : List Value} {a : α} (h2 : Rels R w w.heap.size l cs) (hf : FreeV IsD w v) (ho : w'.ownsRow base t R.k v' (l.length + 1) (cs ++ ys)) (ha : AppTo w w' v v') (hf' : FreeV IsD w' v') (hr : R.rel w w.heap.size a ys) : Row R t w' base v' (l ++ [a]) := by
  have hn := ha.near hf
  refine ⟨cs ++ ys, ?_, (rels_near hR h2 hn).append (Rels.one (hR hr hn)), hf'⟩
  rw [List.length_append, List.length_singleton]
  exact ho
theorem grown_refl (w : World) (r : Option Nat) : w.grownBy w r := ⟨rfl, rfl, rfl, Nat.le_refl _, fun _ _ _ => rfl⟩
end
theorem FreeB.grown_msg {w : World} {g : Nat} {T : TypeId} {h : Hd} {Q X Y Z : Value} (hb : Blk w g T (msgC h Q X Y Z)) (hq : ¬ IsD Q) (hx : ¬ IsD X) (hy : ¬ IsD Y) (hz : ¬ IsD Z) : FreeB IsD w g := by
  refine FreeB.of_blk hb ?_
  intro v hv
  simp only [msgC, List.mem_cons, List.not_mem_nil, or_false] at hv
  rcases hv with rfl | rfl | rfl | rfl | rfl | rfl | rfl | rfl | rfl | rfl | rfl | rfl | rfl | rfl | rfl <;> first | exact not_d_int _ | exact not_d_bool _ | assumption
end Go.Proofs.YthccknobnpbdeaaDoor
/- What msg.Read leans on: two bytes, the header of bytes, rows by numbers, a record that cannot be read; plain laws of the three rows of records. -/
namespace Go.Proofs.YthccknobnpbdeaaDoor
open Go.RowKit
set_option linter.unusedVariables false
set_option linter.unusedSimpArgs false

def upd {β : Type} (V : Nat → β) (i : Nat) (u : β) : Nat → β := fun j => if j = i then u else V j
theorem upd_self {β : Type} (V : Nat → β) (i : Nat) (u : β) : upd V i u i = u := by unfold upd; rw [if_pos rfl]
theorem upd_ne {β : Type} (V : Nat → β) {i j : Nat} (u : β) (h : j ≠ i) : upd V i u j = V j := by unfold upd; rw [if_neg h]
theorem msgC_at {h : Hd} {Q : Value} {V : Nat → Value} {i : Nat} (hi : i < 3) : (msgC h Q (V 0) (V 1) (V 2))[12 + i]? = some (V i) := by
  obtain rfl | rfl | rfl : i = 0 ∨ i = 1 ∨ i = 2 := by omega
  all_goals rfl
theorem msgC_set {h : Hd} {Q x u : Value} {V : Nat → Value} {i : Nat} (hi : i < 3) : (msgC h Q (upd V i x 0) (upd V i x 1) (upd V i x 2)).setIfInBounds (12 + i) u = msgC h Q (upd V i u 0) (upd V i u 1) (upd V i u 2) := by
  obtain rfl | rfl | rfl : i = 0 ∨ i = 1 ∨ i = 2 := by omega
  all_goals rfl
theorem msgC_own {h : Hd} {Q : Value} {V : Nat → Value} {i : Nat} (hi : i < 3) : msgC h Q (V 0) (V 1) (V 2) = msgC h Q (upd V i (V i) 0) (upd V i (V i) 1) (upd V i (V i) 2) := by
  obtain rfl | rfl | rfl : i = 0 ∨ i = 1 ∨ i = 2 := by omega
  all_goals rfl
theorem msgC_setQ {h : Hd} {Q x y z u : Value} : (msgC h Q x y z).setIfInBounds 11 u = msgC h u x y z := rfl

/-- the header of a message's first bytes -/
def hdOf (m : List UInt8) : Hd := hdK (bits .or .i64 (((m.getD 0 0).toNat : Int) * 256) ((m.getD 1 0).toNat : Int)) (bits .or .i64 (((m.getD 2 0).toNat : Int) * 256) ((m.getD 3 0).toNat : Int)) 7
abbrev hd0 : Hd := ⟨0, false, 0, false, false, false, false, false, false, false, 0⟩
theorem hread_rd {w : World} {A : Option Addr} {n c : Nat} {m : List UInt8} (hM : Rd u8R w w.heap.size A n c m) (hn : 4 ≤ n) :
    Calls Tryd.prog 15 #[.slice A n c] w fun e w' => e = .returned (.tuple #[.agg (hdCells (hdOf m)), .nilIface]) ∧ Below w.heap.size w w' := by
  obtain ⟨b, o, rfl, lb⟩ := hM.addr (by omega)
  obtain ⟨x0, h0, c0, k0, _⟩ := hM.byte 0 (by omega)
  obtain ⟨x1, h1, c1, k1, _⟩ := hM.byte 1 (by omega)
  obtain ⟨x2, h2, c2, k2, _⟩ := hM.byte 2 (by omega)
  obtain ⟨x3, h3, c3, k3, _⟩ := hM.byte 3 (by omega)
  unfold hdOf
  rw [h0, h1, h2, h3]
  have hm := hM.max
  unfold maxLen at hm
  exact hread_ok b o n c _ _ _ _ hn hM.cap (by omega) w c0 c1 c2 c3 (by omega) k0 (by omega) k1 (by omega) k2 (by omega) k3
theorem two_msg {w : World} {B b o n c : Nat} {m : List UInt8} (hM : Rd u8R w B (some ⟨b, o, none⟩) n c m) (h2 : 2 ≤ n) {k : Nat} (hk : at2 m 0 = k) :
    Calls Tryd.prog 16 #[.slice (some ⟨b, o, none⟩) n c] w fun e w' => e = .returned (.int .i64 (k : Int)) ∧ Below w.heap.size w w' := by
  obtain ⟨x, y, hxy, c0, c1, lb⟩ := hM.two 0 (by omega)
  rw [hk] at hxy
  rw [Nat.add_zero] at c0 c1
  have hc := hM.cap
  have hm := hM.max
  unfold maxLen at hm
  have two := two_or x y
  have hx := x.toNat_lt
  have hy := y.toNat_lt
  have hkk : (x.toNat : Int) * 256 + (y.toNat : Int) = (k : Int) := by omega
  rw [hkk] at two
  have p0 : (0 : Int) ≤ (x.toNat : Int) := by omega
  have p1 : (0 : Int) ≤ (y.toNat : Int) := by omega
  have p2 : (x.toNat : Int) ≤ 255 := by omega
  have p3 : (y.toNat : Int) ≤ 255 := by omega
  clear hM hkk hxy hk hx hy
  generalize (x.toNat : Int) = y0 at *
  generalize (y.toNat : Int) = y1 at *
  have v0 : IntKind.i64.wrap y0 = y0 := IntWalk.i64_in _ (by omega)
  have v01 : IntKind.i64.wrap (y0 * 256) = y0 * 256 := IntWalk.i64_in _ (by omega)
  have v1 : IntKind.i64.wrap y1 = y1 := IntWalk.i64_in _ (by omega)
  have j0 : (0 : Int) < (n : Int) := by omega
  have j1 : (1 : Int) < (n : Int) := by omega
  have j2 : 0 < n := by omega
  have j3 : 1 < n := by omega
  go_enter Tryd.func16, Tryd.ntmps16
  go_wp2_with fail
  go_region_held3 (fun w' => w'.cell? ⟨b, o, none⟩ = some (.int .u8 y0) ∧ w'.cell? ⟨b, o + 1, none⟩ = some (.int .u8 y1)) (go_keep) (fail)
  all_goals go_wp2
  all_goals go_ret
  all_goals exact ⟨rfl, by (repeat' (first | (with_reducible exact Below.refl _ _) | (with_reducible assumption) | (with_reducible refine below_ext0 ?_ _ _) | (with_reducible refine below_alloc0 ?_ _) | (with_reducible refine Below.ext ?_ ?_ _ _) | (with_reducible refine Below.alloc ?_ ?_ _) | (with_reducible refine Below.setCell ?_ ?_ _) | (with_reducible refine Below.drew ?_) | (with_reducible refine below_draws ?_ _) | go_size | (simp [size_ext]; done) | (simp [size_ext]; omega)))⟩
/-- two bytes from a place on -/
theorem two_at_msg {w w' : World} {b o n c p : Nat} {m : List UInt8} (hM : Rd u8R w w.heap.size (some ⟨b, o, none⟩) n c m) (hp : p + 2 ≤ n) (hb : Below w.heap.size w w') {k : Nat} (hk : at2 m p = k) :
    Calls Tryd.prog 16 #[.slice (some ⟨b, o + p, none⟩) (n - p) (c - p)] w' fun e w2 => e = .returned (.int .i64 (k : Int)) ∧ Below w'.heap.size w' w2 :=
  two_msg ((hM.later hb).dropB (k := p) (by omega)) (by omega) ((at2_drop m p 0).trans hk)
theorem rread_no {w : World} {A : Option Addr} {n c : Nat} {m : List UInt8} (hM : Rd u8R w w.heap.size A n c m) {at_ k : Int} (hr : (rrF m at_).1 = k) (hk : k ≠ 0) :
    Calls Tryd.prog 19 #[.slice A n c, .int .i64 at_] w fun e w' => e = .returned (.tuple #[.agg #[.slice none 0 0, .int .i64 0, .int .i64 0, .int .i64 0, .slice none 0 0], .int .i64 0, .iface 29 (.int .i64 k)]) ∧ Below w.heap.size w w' := by
  have CF := hid fun w' (hb : Below w.heap.size w w') => fixed_bad (hM.later hb) hr hk
  clear hr hk hM
  have tk0 : True := trivial; have tk1 : True := trivial; have tk2 : True := trivial; have tk3 : True := trivial; have tk4 : True := trivial; have tk5 : True := trivial; have tk6 : True := trivial; have tk7 : True := trivial; have tk8 : True := trivial; have tk9 : True := trivial; have tk10 : True := trivial; have tk11 : True := trivial; have tk12 : True := trivial
  go_enter Tryd.func19, Tryd.ntmps19
  go_wp2_with (go_at_call 40; have _t := tk1; (with_reducible refine (CF.out _ (by (repeat' (first | (with_reducible exact Below.refl _ _) | (with_reducible assumption) | (with_reducible refine below_ext0 ?_ _ _) | (with_reducible refine below_alloc0 ?_ _) | (with_reducible refine Below.ext ?_ ?_ _ _) | (with_reducible refine Below.alloc ?_ ?_ _) | (with_reducible refine Below.setCell ?_ ?_ _) | (with_reducible refine Below.drew ?_) | (with_reducible refine below_draws ?_ _) | go_size | (simp [size_ext]; done) | (simp [size_ext]; omega))))).mono ?_); rintro e w1 ⟨rfl, hb⟩; obtain ⟨otk1, dtk1, rfl⟩ := ext_of_below hb; clear hb tk1)
  refine bodyPost_ret (v := .tuple #[.agg #[.slice none 0 0, .int .i64 0, .int .i64 0, .int .i64 0, .slice none 0 0], .int .i64 0, .iface 29 (.int .i64 k)]) (by simp [results, Tryd.results19, go_sem]) rfl ⟨rfl, (by (repeat' (first | (with_reducible exact Below.refl _ _) | (with_reducible assumption) | (with_reducible refine below_ext0 ?_ _ _) | (with_reducible refine below_alloc0 ?_ _) | (with_reducible refine Below.ext ?_ ?_ _ _) | (with_reducible refine Below.alloc ?_ ?_ _) | (with_reducible refine Below.setCell ?_ ?_ _) | (with_reducible refine Below.drew ?_) | (with_reducible refine below_draws ?_ _) | go_size | (simp [size_ext]; done) | (simp [size_ext]; omega))))⟩
theorem el_q : El Tryd.prog 25 51 3 40 := el_of (z := .agg #[.slice none 0 0, .int .i64 0, .int .i64 0]) Tryd.underlying25 (by kernel_rfl) rfl (by decide)
theorem el_r : El Tryd.prog 26 53 5 72 := el_of (z := .agg #[.slice none 0 0, .int .i64 0, .int .i64 0, .int .i64 0, .slice none 0 0]) Tryd.underlying26 (by kernel_rfl) rfl (by decide)
theorem zq_d : ∀ z, (Tryd.prog.info? 51).bind (·.zero) = some z → ∀ u ∈ z.cells.toList, ¬ IsD u := by
  have e : (Tryd.prog.info? 51).bind (·.zero) = some (.agg #[.slice none 0 0, .int .i64 0, .int .i64 0]) := by kernel_rfl
  intro z hz
  rw [e] at hz
  cases hz
  intro u hu
  simp [Value.cells] at hu
  rcases hu with rfl | rfl
  · exact not_d_slice _ _ _
  · exact not_d_int _
theorem zr_d : ∀ z, (Tryd.prog.info? 53).bind (·.zero) = some z → ∀ u ∈ z.cells.toList, ¬ IsD u := by
  have e : (Tryd.prog.info? 53).bind (·.zero) = some (.agg #[.slice none 0 0, .int .i64 0, .int .i64 0, .int .i64 0, .slice none 0 0]) := by kernel_rfl
  intro z hz
  rw [e] at hz
  cases hz
  intro u hu
  simp [Value.cells] at hu
  rcases hu with rfl | rfl | rfl
  · exact not_d_slice _ _ _
  · exact not_d_int _
  · exact not_d_slice _ _ _
theorem rel_q {w : World} {A : Option Addr} {n c : Nat} {l : List ByteArray} {T C : Int} (h : Rd strR w w.heap.size A n c l) (hT : I64 T) (hC : I64 C) : qR.rel w w.heap.size (l, T, C, ()) [.slice A n c, .int .i64 T, .int .i64 C] :=
  ⟨[_], _, rfl, ⟨A, n, c, rfl, h⟩, [_], _, rfl, ⟨rfl, hT⟩, [_], _, rfl, ⟨rfl, hC⟩, rfl⟩
theorem rel_r {w : World} {A A' : Option Addr} {n c n' c' : Nat} {l : List ByteArray} {T C L : Int} {d : List UInt8} (h : Rd strR w w.heap.size A n c l) (hT : I64 T) (hC : I64 C) (hL : I64 L) (hd : Rd u8R w w.heap.size A' n' c' d) : recR.rel w w.heap.size (l, T, C, L, d, ()) [.slice A n c, .int .i64 T, .int .i64 C, .int .i64 L, .slice A' n' c'] :=
  ⟨[_], _, rfl, ⟨A, n, c, rfl, h⟩, [_], _, rfl, ⟨rfl, hT⟩, [_], _, rfl, ⟨rfl, hC⟩, [_], _, rfl, ⟨rfl, hL⟩, [_], _, rfl, ⟨A', n', c', rfl, hd⟩, rfl⟩

section
variable {wr W w9 : World} {base : Nat} {e : TypeId} {size n : Nat} {V v9 : Value} {xs : List Value}
/-- one element more, onto a row that was met in an earlier world -/
theorem app_blk {g : Nat} {T : TypeId} {CS : Array Value} (ho : wr.ownsRow base e size V n xs) (hk : Blk wr g T CS) (ha : AppTo W w9 V v9) (hb : Below wr.heap.size wr W) (hg : g < base) : Blk w9 g T CS :=
  (ha.grown.block g (Nat.lt_of_lt_of_le hk.lt hb.size) (fun e => by have := ho.lt g e.symm; omega)).trans ((hb.block g hk.lt).trans hk)
theorem app_low {w : World} (ho : wr.ownsRow base e size V n xs) (ha : AppTo W w9 V v9) (hb : Below wr.heap.size wr W) (hl : Below w.heap.size w wr) (hbase : w.heap.size ≤ base) (hbr : base ≤ wr.heap.size) : Below w.heap.size w w9 :=
  (hl.trans (hb.mono hl.size)).trans ((grown_below (own_low ho hb (Nat.le_refl _)) ha.grown (Nat.le_trans hbr hb.size)).mono hbase)
theorem app_row {α : Type} {R : Rep α} {l : List α} {cs ys : List Value} {a : α} (ha : AppTo W w9 V v9) (hf9 : FreeV IsD w9 v9) (hR : Near IsD R) (ho : wr.ownsRow base e R.k V l.length cs) (hr : Rels R wr wr.heap.size l cs) (hf : FreeV IsD wr V) (hb : Below wr.heap.size wr W) (ho9 : w9.ownsRow base e R.k v9 (l.length + 1) (cs ++ ys)) (hrel : R.rel W W.heap.size a ys) : Row R e w9 base v9 (l ++ [a]) :=
  Row.app hR (hr.later hb) (hf.below ho hb) ho9 ha hf9 hrel
end
theorem blk_grown {w w' : World} {g k : Nat} {T : TypeId} {cs : Array Value} (hk : Blk w k T cs) (hg : w.grownBy w' (some g)) (hne : k ≠ g) : Blk w' k T cs :=
  (hg.block k hk.lt (fun e => hne (by cases e; rfl))).trans hk
theorem low_grown {w w2 wr : World} {g : Nat} (hl : Below w.heap.size w w2) (hg : w2.grownBy wr (some g)) (h1 : w.heap.size ≤ g) (h2 : g ≤ w2.heap.size) : Below w.heap.size w wr := hl.trans ((grown_belowB hg h2).mono h1)
theorem grow_step {w2 wr W w9 : World} {g : Nat} {e : TypeId} {size n : Nat} {V v9 : Value} {xs : List Value} (hg : w2.grownBy wr (some g)) (ho : wr.ownsRow w2.heap.size e size V n xs) (ha : AppTo W w9 V v9) (hb : Below wr.heap.size wr W) : w2.grownBy w9 (some g) :=
  ⟨(ha.grown.os.trans hb.os).trans hg.os, (ha.grown.tape.trans hb.tape).trans hg.tape, (ha.grown.output.trans hb.output).trans hg.output, Nat.le_trans hg.size (Nat.le_trans hb.size ha.grown.size), fun k hk hne =>
    ((ha.grown.block k (Nat.lt_of_lt_of_le hk (Nat.le_trans hg.size hb.size)) (fun e => by have := (ho.lt k e.symm).1; omega)).trans (hb.block k (Nat.lt_of_lt_of_le hk hg.size))).trans (hg.block k hk hne)⟩
theorem upd_slice {w : World} {base : Nat} {T : TypeId} {V : Nat → Value} {L : Nat → List RecT} (h : ∀ j, Row recR T w base (V j) (L j)) (i : Nat) (A : Option Addr) (n c j : Nat) : ¬ IsD (upd V i (.slice A n c) j) := by
  unfold upd
  split
  · exact not_d_slice _ _ _
  · obtain ⟨A', c', e⟩ := (h j).slice
    rw [e]; exact not_d_slice _ _ _
theorem src_blk {w : World} {t : TypeId} {g m size : Nat} {cs : Array Value} (hb : Blk w g t cs) (hm : cs.size = m * size) (hu : ∀ u ∈ cs.toList, u.oneCell' = true) : Src w (some ⟨g, 0, none⟩) m m size cs.toList := by
  refine ⟨by simpa using hm, fun ad ha j u h => ?_, fun h => (by cases h), hu⟩
  cases ha
  have := hb.cell j
  rw [add_none, Nat.zero_add, this]
  simpa using h
/-- a message stored over another -/
theorem msg_over {w : World} {g : Nat} {T : TypeId} {h : Hd} {Q X Y Z : Value} (h2 : Hd) (Q2 X2 Y2 Z2 : Value) (hB : Blk w g T (msgC h Q X Y Z)) : Blk (((((((((((((((w.setCell ⟨g, 0, none⟩ (.int .i64 h2.id)).setCell ⟨g, 1, none⟩ (.bool h2.an)).setCell ⟨g, 2, none⟩ (.int .i64 h2.op)).setCell ⟨g, 3, none⟩ (.bool h2.aa)).setCell ⟨g, 4, none⟩ (.bool h2.tc)).setCell ⟨g, 5, none⟩ (.bool h2.rd)).setCell ⟨g, 6, none⟩ (.bool h2.ra)).setCell ⟨g, 7, none⟩ (.bool h2.z)).setCell ⟨g, 8, none⟩ (.bool h2.ad)).setCell ⟨g, 9, none⟩ (.bool h2.cd)).setCell ⟨g, 10, none⟩ (.int .i64 h2.code)).setCell ⟨g, 11, none⟩ (Q2)).setCell ⟨g, 12, none⟩ (X2)).setCell ⟨g, 13, none⟩ (Y2)).setCell ⟨g, 14, none⟩ (Z2)) g T (msgC h2 Q2 X2 Y2 Z2) := by
  have := (Blk.set (Blk.set (Blk.set (Blk.set (Blk.set (Blk.set (Blk.set (Blk.set (Blk.set (Blk.set (Blk.set (Blk.set (Blk.set (Blk.set (Blk.set hB 0 (.int .i64 h2.id)) 1 (.bool h2.an)) 2 (.int .i64 h2.op)) 3 (.bool h2.aa)) 4 (.bool h2.tc)) 5 (.bool h2.rd)) 6 (.bool h2.ra)) 7 (.bool h2.z)) 8 (.bool h2.ad)) 9 (.bool h2.cd)) 10 (.int .i64 h2.code)) 11 (Q2)) 12 (X2)) 13 (Y2)) 14 (Z2))
  simpa [msgC] using this
/-- what msg.Read's end hands back -/
theorem res_msg {tmps : Array Value} {W : World} {r : Nat} {T : TypeId} {h : Hd} {Q X Y Z ev : Value} (h2 : tmps[2]? = some (.pointer (some ⟨r, 0, none⟩))) (h3 : tmps[3]? = some ev) (hB : Blk W r T (msgC h Q X Y Z)) :
    (results Tryd.f5 tmps).run Tryd.prog W = .ok (.tuple #[.agg (msgC h Q X Y Z), ev]) W := by
  have k0 : W.cell? ⟨r, 0, none⟩ = some (.int .i64 h.id) := hB.cell 0
  have k1 : W.cell? ⟨r, 1, none⟩ = some (.bool h.an) := hB.cell 1
  have k2 : W.cell? ⟨r, 2, none⟩ = some (.int .i64 h.op) := hB.cell 2
  have k3 : W.cell? ⟨r, 3, none⟩ = some (.bool h.aa) := hB.cell 3
  have k4 : W.cell? ⟨r, 4, none⟩ = some (.bool h.tc) := hB.cell 4
  have k5 : W.cell? ⟨r, 5, none⟩ = some (.bool h.rd) := hB.cell 5
  have k6 : W.cell? ⟨r, 6, none⟩ = some (.bool h.ra) := hB.cell 6
  have k7 : W.cell? ⟨r, 7, none⟩ = some (.bool h.z) := hB.cell 7
  have k8 : W.cell? ⟨r, 8, none⟩ = some (.bool h.ad) := hB.cell 8
  have k9 : W.cell? ⟨r, 9, none⟩ = some (.bool h.cd) := hB.cell 9
  have k10 : W.cell? ⟨r, 10, none⟩ = some (.int .i64 h.code) := hB.cell 10
  have k11 : W.cell? ⟨r, 11, none⟩ = some (Q) := hB.cell 11
  have k12 : W.cell? ⟨r, 12, none⟩ = some (X) := hB.cell 12
  have k13 : W.cell? ⟨r, 13, none⟩ = some (Y) := hB.cell 13
  have k14 : W.cell? ⟨r, 14, none⟩ = some (Z) := hB.cell 14
  simp [results, Tryd.results5, go_sem, h2, h3, k0, k1, k2, k3, k4, k5, k6, k7, k8, k9, k10, k11, k12, k13, k14]
/-- append of one element, at a step of a region that draws, onto a row that was met in an earlier world -/
theorem step_row {α : Type} {P : Program} {R : Rep α} (hR : Near IsD R) {t e : TypeId} {bytes : Nat} (E : El P t e R.k bytes) (hz : ∀ z, (P.info? e).bind (·.zero) = some z → ∀ u ∈ z.cells.toList, ¬ IsD u) {wr w : World} {base : Nat} {V : Value} {l : List α} {cs : List Value} (ho : wr.ownsRow base e R.k V l.length cs) (hr : Rels R wr wr.heap.size l cs) (hf : FreeV IsD wr V)
    {ops : Array Oper} {o : Oper} {a : Act} {Q : Exit → Act → World → Prop} {K : Act → World → Prop} {F : Prop} (a' : α) (ys : List Value) (hgd : o.guard = none) (s x : Operand) (hop : o.op = .call { callee := .builtin .append, args := #[s, x], argTypes := #[t, t] }) {A : Option Addr} {c : Nat} (hs : a.eval s = V) (hx : a.eval x = .slice A 1 c)
    (hb : Below wr.heap.size wr w) (hsrc : Src w A 1 c R.k ys) (hrel : R.rel w w.heap.size a' ys) (hy : ∀ u ∈ ys, ¬ IsD u) (hbytes : (l.length + 1) * bytes ≤ 140737488355328) (h63 : l.length + 1 ≤ maxLen) (hbase : base ≤ wr.heap.size)
    (h : ∀ v' w', Row R e w' base v' (l ++ [a']) → AppTo w w' V v' → K (a.put o.dst v') w') : if Region.wanted o (yielded ops a.tmps) = true then Oper.wp P o a w K Q else F :=
  step_appF (K := IsD) hgd s x t hop base e R.k bytes E hz V l.length cs hs (own_low ho hb (Nat.le_refl _)) (hf.below ho hb) A 1 c ys hx hsrc hy hbytes h63 (Nat.le_trans hbase hb.size) fun v' w' h1 h2 h3 => h v' w' (app_row h2 h3 hR ho hr hf hb h1 hrel) h2
/-- the first rows of records are read -/
def SecOk (m : List UInt8) (i : Nat) (L : Nat → List RecT) (P : Nat → Nat) : Prop := ∀ j < i, rdR m (at2 m (6 + 2 * j)) (P j) [] = (0, L j, P (j + 1))
theorem SecOk.next {m : List UInt8} {i : Nat} {L : Nat → List RecT} {P : Nat → Nat} (h : SecOk m i L P) {rs : List RecT} {p : Nat} (hr : rdR m (at2 m (6 + 2 * i)) (P i) [] = (0, rs, p)) : SecOk m (i + 1) (upd L i rs) (upd P (i + 1) p) := by
  intro j hj
  by_cases e : j = i
  · subst e
    rw [upd_ne P p (by omega : j ≠ j + 1), upd_self, upd_self, hr]
  · rw [upd_ne P p (by omega), upd_ne P p (by omega), upd_ne L rs e]
    exact h j (by omega)
theorem rdM_sec {m : List UInt8} {i : Nat} {L : Nat → List RecT} {P : Nat → Nat} {qs : List QT} {e : Int} (h0 : ¬ m.length < 12) (h1 : rdQ m (at2 m 4) 12 [] = (0, qs, P 0)) (h : SecOk m i L P) (hi : i < 3) (hr : (rdR m (at2 m (6 + 2 * i)) (P i) []).1 = e) (he : e ≠ 0) : rdM m = (e, [], [], [], []) := by
  obtain rfl | rfl | rfl : i = 0 ∨ i = 1 ∨ i = 2 := by omega
  · exact rdM_x h0 h1 hr he
  · exact rdM_y h0 h1 (h 0 (by omega)) hr he
  · exact rdM_z h0 h1 (h 0 (by omega)) (h 1 (by omega)) hr he
theorem rdM_fin {m : List UInt8} {L : Nat → List RecT} {P : Nat → Nat} {qs : List QT} (h0 : ¬ m.length < 12) (h1 : rdQ m (at2 m 4) 12 [] = (0, qs, P 0)) (h : SecOk m 3 L P) : rdM m = if P 3 < m.length then (8, [], [], [], []) else (0, qs, L 0, L 1, L 2) :=
  rdM_end h0 h1 (h 0 (by omega)) (h 1 (by omega)) (h 2 (by omega))
end Go.Proofs.YthccknobnpbdeaaDoor
