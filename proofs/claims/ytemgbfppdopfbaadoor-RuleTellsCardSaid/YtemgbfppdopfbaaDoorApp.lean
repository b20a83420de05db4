/- append onto a row of the call's own, from whatever slice that reads as a list: in a walk, and inside a region that draws. No function of the program. -/
import Derived.Test.YtemgbfppdopfbaaDoorOwn
import Derived.Laws.AppendOwnNone
import Derived.Laws.CopyOwn
import Derived.Deep.RegionHeld3
import Derived.Deep.LoopGhost
import Derived.Deep.QuietTactic
import Derived.BigQuiet
namespace Go.Proofs.YtemgbfppdopfbaaDoor
open Go.RowKit
set_option linter.unusedVariables false
set_option linter.unusedSimpArgs false

/-- a slice type and its elements -/
structure El (P : Program) (t e : TypeId) (size bytes : Nat) : Prop where
  under : P.underlying t = some (.slice e)
  info : ∃ i z, P.info? e = some i ∧ i.zero = some z ∧ i.size = size ∧ i.bytes = bytes ∧ z.cells.size = size
  pos : 0 < size
/-- a slice's cells, one behind the other -/
structure Src (w : World) (A : Option Addr) (m c size : Nat) (ys : List Value) : Prop where
  len : ys.length = m * size
  at_ : ∀ ad, A = some ad → ∀ j u, ys[j]? = some u → w.cell? (ad.add j) = some u
  nil : A = none → m = 0 ∧ c = 0
  one : ∀ u ∈ ys, u.oneCell' = true

theorem Src.later {w w' : World} {A : Option Addr} {m c size : Nat} {ys : List Value} (h : Src w A m c size ys) (hb : Below w.heap.size w w') : Src w' A m c size ys :=
  ⟨h.len, fun ad ha j u hu => by
    have := h.at_ ad ha j u hu
    rw [hb.cell (World.block_lt_of_cell? w _ this)]
    exact this, h.nil, h.one⟩
/-- one value that was laid in a box of its own -/
theorem src_one {w : World} {t : TypeId} {g : Nat} (u : Value) (hu : u.oneCell' = true) (hg : g = w.heap.size) : Src (w.alloc (.cells #[u] t)) (some ⟨g, 0, none⟩) 1 1 1 [u] := by
  subst hg
  exact ⟨rfl, fun ad ha => by cases ha; exact cell_one_new _ _ _, fun h => (by cases h), by simp [hu]⟩
/-- values that were laid in a box, cell by cell -/
theorem src_lit {w : World} {t : TypeId} {g m size : Nat} (cs : Array Value) (hm : cs.size = m * size) (hu : ∀ u ∈ cs.toList, u.oneCell' = true) (hg : g = w.heap.size) : Src (w.alloc (.cells cs t)) (some ⟨g, 0, none⟩) m m size cs.toList := by
  subst hg
  refine ⟨by simpa using hm, fun ad ha j u h => ?_, fun h => (by cases h), hu⟩
  cases ha
  have := (Blk.new w t cs).cell j
  rw [add_none, Nat.zero_add, this]
  simpa using h

section
variable {P : Program} {w : World}
theorem run_app (base : Nat) (t ty e : TypeId) (size bytes : Nat) (E : El P t e size bytes) (v : Value) (n : Nat) (xs : List Value) (hown : w.ownsRow base e size v n xs)
    (A : Option Addr) (m c : Nat) (ys : List Value) (hs : Src w A m c size ys) (hbytes : (n + m) * bytes ≤ 140737488355328) (h63 : n + m ≤ maxLen) (hbase : base ≤ w.heap.size) :
    ∃ v' w', (Builtin.append_ #[t, t] ty #[v, .slice A m c]).run P w = .ok v' w' ∧ w'.ownsRow base e size v' (n + m) (xs ++ ys) ∧ w.grownBy w' v.ownBlock ∧ (v'.ownBlock = v.ownBlock ∨ v'.ownBlock = some w.heap.size) := by
  obtain ⟨ht, ⟨i, z, hi, hz, hsz, hby, hzs⟩, hp⟩ := E
  rcases A with _ | ad
  · obtain ⟨rfl, rfl⟩ := hs.nil rfl
    obtain rfl : ys = [] := List.eq_nil_of_length_eq_zero (by simpa using hs.len)
    have hr := run_append_owned_none (P := P) (w := w) base t ty e i size ht hi v n xs hown
    exact ⟨v, w, hr, by simpa using hown, ⟨rfl, rfl, rfl, Nat.le_refl _, fun _ _ _ => rfl⟩, .inl rfl⟩
  · obtain ⟨v', w', h1, h2, h3, _, h5⟩ := run_append_own_at w base t ty e i z size bytes ht hi hz hsz hby hzs hp v n xs hown ad m c ys hs.len (hs.at_ ad rfl) hs.one h63 hbytes hbase
    exact ⟨v', w', h1, h2, h3, h5⟩

theorem wpList_app {ops : Array Oper} {rest : List Oper} {o : Oper} {a : Act} {Q : Exit → Act → World → Prop} (hgd : o.guard = none) (s x : Operand) (t : TypeId)
    (ho : o.op = .call { callee := .builtin .append, args := #[s, x], argTypes := #[t, t] }) (base : Nat) (e : TypeId) (size bytes : Nat) (E : El P t e size bytes)
    (v : Value) (n : Nat) (xs : List Value) (hs : a.eval s = v) (hown : w.ownsRow base e size v n xs) (A : Option Addr) (m c : Nat) (ys : List Value) (hx : a.eval x = .slice A m c) (hsrc : Src w A m c size ys)
    (hbytes : (n + m) * bytes ≤ 140737488355328) (h63 : n + m ≤ maxLen) (hbase : base ≤ w.heap.size)
    (h : ∀ v' w', w'.ownsRow base e size v' (n + m) (xs ++ ys) → w.grownBy w' v.ownBlock → (v'.ownBlock = v.ownBlock ∨ v'.ownBlock = some w.heap.size) → wpList P ops Q rest (a.put o.dst v') w') :
    wpList P ops Q (o :: rest) a w := by
  refine wpList_plain hgd fun K hK => ?_
  obtain ⟨v', w', hr, h2, h3, h5⟩ := run_app (P := P) (w := w) base t o.type e size bytes E v n xs hown A m c ys hsrc hbytes h63 hbase
  unfold Oper.wp execOp
  simp only [ho, resolve, invoke, builtin, Sem.run_bind, Sem.run_pure, Result.andThen_ok, List.map_toArray, List.map_cons, List.map_nil, hs, hx, hr]
  exact hK _ _ (h v' w' h2 h3 h5)

theorem step_app {ops : Array Oper} {o : Oper} {a : Act} {Q : Exit → Act → World → Prop} {K : Act → World → Prop} {F : Prop} (hgd : o.guard = none) (s x : Operand) (t : TypeId)
    (ho : o.op = .call { callee := .builtin .append, args := #[s, x], argTypes := #[t, t] }) (base : Nat) (e : TypeId) (size bytes : Nat) (E : El P t e size bytes)
    (v : Value) (n : Nat) (xs : List Value) (hs : a.eval s = v) (hown : w.ownsRow base e size v n xs) (A : Option Addr) (m c : Nat) (ys : List Value) (hx : a.eval x = .slice A m c) (hsrc : Src w A m c size ys)
    (hbytes : (n + m) * bytes ≤ 140737488355328) (h63 : n + m ≤ maxLen) (hbase : base ≤ w.heap.size)
    (h : ∀ v' w', w'.ownsRow base e size v' (n + m) (xs ++ ys) → w.grownBy w' v.ownBlock → (v'.ownBlock = v.ownBlock ∨ v'.ownBlock = some w.heap.size) → K (a.put o.dst v') w') :
    if Region.wanted o (yielded ops a.tmps) = true then Oper.wp P o a w K Q else F := by
  have hw : Region.wanted o (yielded ops a.tmps) = true := by simp [Region.wanted, hgd]
  rw [if_pos hw]
  obtain ⟨v', w', hr, h2, h3, h5⟩ := run_app (P := P) (w := w) base t o.type e size bytes E v n xs hown A m c ys hsrc hbytes h63 hbase
  unfold Oper.wp execOp
  simp only [ho, resolve, invoke, builtin, Sem.run_bind, Sem.run_pure, Result.andThen_ok, List.map_toArray, List.map_cons, List.map_nil, hs, hx, hr]
  exact h v' w' h2 h3 h5
end

/-- a literal, just laid, is the call's own -/
theorem own_lit {w : World} {base : Nat} {e : TypeId} {size g n : Nat} (cs : Array Value) (xs : List Value) (hg : g = w.heap.size) (hb : base ≤ g) (hn : cs.size = n * size) (hm : n ≤ maxLen) (hx : cs.toList = xs) :
    (w.alloc (.cells cs e)).ownsRow base e size (.slice (some ⟨g, 0, none⟩) n n) n xs := by
  subst hg
  subst hx
  exact World.ownsRow_lit w cs n hb hm hn
/-- copy into the head of a row of the call's own -/
theorem wpList_copy_rd {P : Program} {w : World} {ops : Array Oper} {rest : List Oper} {o : Oper} {a : Act} {Q : Exit → Act → World → Prop} (hgd : o.guard = none) (d s : Operand) (dT sT : TypeId)
    (ho : o.op = .call { callee := .builtin .copy, args := #[d, s], argTypes := #[dT, sT] }) (elem : TypeId) (hu : P.underlying dT = some (.slice elem)) (hsz : (P.info? elem).map (·.size) = some 1)
    (g dLen dCap : Nat) (ad : Addr) (sLen sCap : Nat) (hd : a.eval d = .slice (some ⟨g, 0, none⟩) dLen dCap) (hs : a.eval s = .slice (some ad) sLen sCap)
    (cur : Array Value) (t : TypeId) (hg : Blk w g t cur) (hcur : cur.size = dLen) (ys : List Value) (hsrc : Src w (some ad) sLen sCap 1 ys) (hle : sLen ≤ dLen)
    (h : ∀ w', Blk w' g t (ys ++ cur.toList.drop sLen).toArray → Below g w w' → wpList P ops Q rest (a.put o.dst (goInt sLen)) w') : wpList P ops Q (o :: rest) a w := by
  have hl := hsrc.len
  rw [Nat.mul_one] at hl
  refine wpList_copy_own hgd d s dT sT ho elem hu hsz g 0 dLen dCap ad sLen sCap hd hs cur t hg ys (by rw [hl]; exact (Nat.min_eq_left hle).symm) (hsrc.at_ _ rfl) (by omega) hsrc.one ?_
  rw [hl]
  refine h _ ?_ ?_
  · have := setRow_heap w g cur (ys ++ cur.toList.drop sLen).toArray t (0, 0) hg
    simpa [Blk] using this
  · exact ⟨rfl, rfl, rfl, by simp, fun k hk => setRow_other w g k _ (by omega)⟩
theorem setRow_alloc (W : World) (cur cs : Array Value) (t : TypeId) (g : Nat) (hg : g = W.heap.size) : (W.alloc (.cells cur t)).setRow g cs = W.alloc (.cells cs t) := by
  subst hg
  unfold World.setRow World.alloc
  congr 1
  apply Array.ext_getElem?
  intro i
  simp only [Array.getElem?_modify, Array.getElem?_push]
  by_cases h : W.heap.size = i
  · simp [h]
  · simp [h, Ne.symm h]
/-- copy into the head of the block that was laid last -/
theorem wpList_copy_new {P : Program} {W : World} {ops : Array Oper} {rest : List Oper} {o : Oper} {a : Act} {Q : Exit → Act → World → Prop} (cur : Array Value) (t : TypeId) (hgd : o.guard = none) (d s : Operand) (dT sT : TypeId)
    (ho : o.op = .call { callee := .builtin .copy, args := #[d, s], argTypes := #[dT, sT] }) (elem : TypeId) (hu : P.underlying dT = some (.slice elem)) (hsz : (P.info? elem).map (·.size) = some 1)
    (g dLen dCap : Nat) (ad : Addr) (sLen sCap : Nat) (hd : a.eval d = .slice (some ⟨g, 0, none⟩) dLen dCap) (hs : a.eval s = .slice (some ad) sLen sCap) (hg : g = W.heap.size) (hcur : cur.size = dLen)
    (ys : List Value) (hsrc : Src (W.alloc (.cells cur t)) (some ad) sLen sCap 1 ys) (hle : sLen ≤ dLen)
    (h : wpList P ops Q rest (a.put o.dst (goInt sLen)) (W.alloc (.cells (ys ++ cur.toList.drop sLen).toArray t))) : wpList P ops Q (o :: rest) a (W.alloc (.cells cur t)) := by
  have hl := hsrc.len
  rw [Nat.mul_one] at hl
  refine wpList_copy_own hgd d s dT sT ho elem hu hsz g 0 dLen dCap ad sLen sCap hd hs cur t (Blk.new' _ _ hg) ys (by rw [hl]; exact (Nat.min_eq_left hle).symm) (hsrc.at_ _ rfl) (by omega) hsrc.one ?_
  rw [hl, setRow_alloc _ _ _ _ _ hg]
  simpa using h
/-- what append leaves of old memory -/
theorem grown_below {w w' : World} {base : Nat} {e : TypeId} {size n : Nat} {v : Value} {xs : List Value} (hown : w.ownsRow base e size v n xs) (hg : w.grownBy w' v.ownBlock) (hb : base ≤ w.heap.size) : Below base w w' :=
  ⟨hg.os, hg.tape, hg.output, hg.size, fun k hk => hg.block k (by omega) fun e' => by have := hown.lt k e'.symm; omega⟩

theorem Rd.addr {α : Type} {R : Rep α} {w : World} {B n c : Nat} {A : Option Addr} {l : List α} (h : Rd R w B A n c l) (hn : 0 < n) : ∃ b off, A = some ⟨b, off, none⟩ ∧ b < B := by
  obtain ⟨b, off, _, e, hb, _⟩ := h.at_ 0 (by rw [h.len]; exact hn)
  exact ⟨b, off, e, hb⟩

theorem rd_nil {α : Type} {R : Rep α} (w : World) (B : Nat) : Rd R w B none 0 0 [] := ⟨rfl, Nat.le_refl _, by simp [maxLen], by simp, fun _ => rfl, fun i hi => by simp at hi⟩
/-- a slice that is read as a list is a source for append -/
theorem Rd.src {α : Type} {R : Rep α} {w : World} {B n c : Nat} {A : Option Addr} {l : List α} (h : Rd R w B A n c l) (h1 : ∀ (a : α) vs, R.rel w B a vs → ∀ u ∈ vs, u.oneCell' = true) :
    ∃ ys, Rels R w B l ys ∧ Src w A n c R.k ys := by
  obtain ⟨xs, hr, hc⟩ := h.cells
  refine ⟨xs, hr, by rw [hr.len, h.len], hc, fun e => ⟨by have := h.nil e; have := h.cap; omega, h.nil e⟩, fun u hu => ?_⟩
  obtain ⟨vss, hl, rfl, hv⟩ := hr
  obtain ⟨vs, hvs, hu'⟩ := List.mem_flatten.1 hu
  obtain ⟨i, hi, rfl⟩ := List.getElem_of_mem hvs
  exact h1 _ _ (hv i (by omega) hi) u hu'
theorem Rd.src_u8 {w : World} {B n c : Nat} {A : Option Addr} {l : List UInt8} (h : Rd u8R w B A n c l) : Src w A n c 1 (l.map fun b => Value.int .u8 (b.toNat : Int)) := by
  obtain ⟨ys, hr, hs⟩ := h.src (R := u8R) fun a vs (hv : vs = _) u hu => by
    subst hv
    simp at hu
    subst hu
    rfl
  rw [rels_u8] at hr
  subst hr
  exact hs

/-- one byte of a slice: its cell, whatever it is called -/
theorem Rd.byte {w : World} {B n c b o : Nat} {l : List UInt8} (h : Rd u8R w B (some ⟨b, o, none⟩) n c l) (i : Nat) (hi : i < n) : ∃ x : UInt8, l.getD i 0 = x ∧ w.cell? ⟨b, o + i, none⟩ = some (.int .u8 (x.toNat : Int)) ∧ (x.toNat : Int) ≤ 255 ∧ b < B := by
  obtain ⟨b0, o0, e0, lb, c0⟩ := h.u8 i hi
  cases e0
  have := (l[i]'(by rw [h.len]; exact hi)).toNat_lt
  exact ⟨_, by rw [List.getD_eq_getElem?_getD, List.getElem?_eq_getElem]; rfl, c0, by omega, lb⟩

theorem el_of {P : Program} {t e : TypeId} {size bytes : Nat} {z : Value} (hu : P.underlying t = some (.slice e)) (hi : (P.info? e).map (fun i => (i.zero, i.size, i.bytes)) = some (some z, size, bytes)) (hz : z.cells.size = size) (hp : 0 < size) : El P t e size bytes := by
  obtain ⟨i, h1, h2, h3, h4⟩ := info_parts hi
  exact ⟨hu, ⟨i, z, h1, h2, h3, h4, hz⟩, hp⟩
theorem el_u8 : El Tryd.prog 51 5 1 1 := el_of (z := .int .u8 0) Tryd.underlying51 (by kernel_rfl) rfl (by decide)
end Go.Proofs.YtemgbfppdopfbaaDoor
