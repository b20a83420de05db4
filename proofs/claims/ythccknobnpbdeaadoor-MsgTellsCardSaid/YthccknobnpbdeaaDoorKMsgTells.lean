/- MsgTells is true of every input: any bytes are read as the document says, and any message is written as the document says, faults included. Condition: the variable errors.errorType holds what the program's text lays in it (the card ties it). -/
import Derived.Test.YthccknobnpbdeaaDoorK9
import Derived.Test.YthccknobnpbdeaaDoorK11
import Derived.Test.YthccknobnpbdeaaDoorK15
import Derived.Test.YthccknobnpbdeaaDoorK17
namespace Go.Proofs.YthccknobnpbdeaaDoor
open Go.ChangeShapes Go.WideShapes Go.ChangeAt Go.RowKit
set_option linter.unusedVariables false
set_option linter.unusedSimpArgs false
namespace msgTells

theorem messageof_any {w : World} {A : Option Addr} {n c : Nat} {m : List UInt8} (hM : Rd u8R w w.heap.size A n c m) : Calls Tryd.prog 4 #[.slice A n c] w (MoO w m) := by
  by_cases hn : n < 12
  · exact messageof_short hM hn
  · exact messageof_long hM hn
theorem msgT_nil (h : Hd) (qs : List QT) (xs ys zs : List RecT) : (msgT h qs xs ys zs).1 ≠ 0 → (msgT h qs xs ys zs).2 = [] := by
  unfold msgT
  split
  · split
    · unfold mwR
      split
      · split
        · split
          · intro h; exact absurd rfl h
          · intro _; rfl
        · intro _; rfl
      · intro _; rfl
    · intro _; rfl
  · intro _; rfl
section
variable {w : World} {h : Hd} {Aq : Option Addr} {nq cq : Nat} {qs : List QT} {Ax : Option Addr} {nx cx : Nat} {xs : List RecT} {Ay : Option Addr} {ny cy : Nat} {ys : List RecT} {Az : Option Addr} {nz cz : Nat} {zs : List RecT}
theorem mb_law (hQ : Rd qR w w.heap.size Aq nq cq qs) (hX : Rd recR w w.heap.size Ax nx cx xs) (hY : Rd recR w w.heap.size Ay ny cy ys) (hZ : Rd recR w w.heap.size Az nz cz zs) {E : Int} {b : List UInt8} {k : Nat} (hT : msgT h qs xs ys zs = (E, b)) (hk : b.length = k) :
    Calls Tryd.prog 8 #[.agg (msgC h (.slice Aq nq cq) (.slice Ax nx cx) (.slice Ay ny cy) (.slice Az nz cz))] w fun e w' => ∃ A c, e = .returned (.tuple #[.slice A k c, .int .i64 E]) ∧ Rd u8R w' w'.heap.size A k c b ∧ Below w.heap.size w w' := by
  have hnil := msgT_nil h qs xs ys zs
  refine (messagebytes_any hQ hX hY hZ).mono ?_
  rintro e w' ⟨hb, hr⟩
  rw [hT] at hr hnil
  subst hk
  by_cases hE : E = 0
  · subst hE
    rw [if_pos rfl] at hr
    obtain ⟨A, c, rfl, hr⟩ := hr
    exact ⟨A, c, rfl, hr, hb⟩
  · rw [if_neg hE] at hr
    obtain rfl : b = [] := hnil hE
    exact ⟨none, 0, hr, rd_nil _ _, hb⟩
theorem mw_law (hQ : Rd qR w w.heap.size Aq nq cq qs) (hX : Rd recR w w.heap.size Ax nx cx xs) (hY : Rd recR w w.heap.size Ay ny cy ys) (hZ : Rd recR w w.heap.size Az nz cz zs) {E : Int} {b : List UInt8} {k : Nat} (hT : msgT h qs xs ys zs = (E, b)) (hk : b.length = k) :
    Calls Tryd.prog 9 #[.agg (msgC h (.slice Aq nq cq) (.slice Ax nx cx) (.slice Ay ny cy) (.slice Az nz cz))] w fun e w' => ∃ A c, e = .returned (.tuple #[.slice A k c, errV E]) ∧ Rd u8R w' w'.heap.size A k c b ∧ Below w.heap.size w w' := by
  have hnil := msgT_nil h qs xs ys zs
  refine (msgwrite_any hQ hX hY hZ).mono ?_
  rintro e w' ⟨hb, hr⟩
  rw [hT] at hr hnil
  subst hk
  by_cases hE : E = 0
  · subst hE
    rw [if_pos rfl] at hr
    obtain ⟨A, c, rfl, hr, _⟩ := hr
    exact ⟨A, c, by rw [errV_zero], hr, hb⟩
  · rw [if_neg hE] at hr
    obtain rfl : b = [] := hnil hE
    exact ⟨none, 0, by rw [errV_ne hE]; exact hr, rd_nil _ _, hb⟩
end
theorem error_yes (E : Int) (w : World) (hg : Laid w) : Calls Tryd.prog 6 #[errV E, .int .i64 E] w fun e w' => e = .returned (.bool true) ∧ Below w.heap.size w w' := by
  have := error_any E E w hg
  simpa using this

set_option maxRecDepth 100000 in
set_option maxHeartbeats 20000000 in
theorem way (w : World) (hL : Laid w) (A1 : Option Addr) (n1 c1 : Nat) (m : List UInt8) (h1 : Rd u8R w w.heap.size A1 n1 c1 m) (g : Hd) (Aq Ax Ay Az : Option Addr) (nq cq nx cx ny cy nz cz : Nat) (qs : List QT) (xs ys zs : List RecT) (hQ : Rd qR w w.heap.size Aq nq cq qs) (hX : Rd recR w w.heap.size Ax nx cx xs) (hY : Rd recR w w.heap.size Ay ny cy ys) (hZ : Rd recR w w.heap.size Az nz cz zs) :
    Calls Tryd.prog 3 #[.slice A1 n1 c1, .agg (msgC g (.slice Aq nq cq) (.slice Ax nx cx) (.slice Ay ny cy) (.slice Az nz cz))] w fun e w' => e = .returned (.bool true) ∧ Below w.heap.size w w' := by
  have CO := fun w' (hb : Below w.heap.size w w') => messageof_any (h1.later hb)
  have CR := fun w' (hb : Below w.heap.size w w') => msgread_any (h1.later hb)
  obtain ⟨⟨E, rq, rx, ry, rz⟩, hRD⟩ : ∃ t, rdM m = t := ⟨_, rfl⟩
  obtain ⟨H, hH⟩ : ∃ H, (if E = 0 then hdOf m else hd0) = H := ⟨_, rfl⟩
  have eO : ∀ w', MoO w' m = fun e w2 => ∃ (Aq Ax Ay Az : Option Addr) (nq cq nx cx ny cy nz cz : Nat), e = .returned (.tuple #[.agg (msgC H (.slice Aq nq cq) (.slice Ax nx cx) (.slice Ay ny cy) (.slice Az nz cz)), .int .i64 E]) ∧ Rd qR w2 w2.heap.size Aq nq cq rq ∧ Rd recR w2 w2.heap.size Ax nx cx rx ∧ Rd recR w2 w2.heap.size Ay ny cy ry ∧ Rd recR w2 w2.heap.size Az nz cz rz ∧ Below w'.heap.size w' w2 := by
    intro w'; subst hH; unfold MoO; rw [hRD]
  have eR : ∀ w', MrO w' m = fun e w2 => ∃ (Aq Ax Ay Az : Option Addr) (nq cq nx cx ny cy nz cz : Nat), e = .returned (.tuple #[.agg (msgC H (.slice Aq nq cq) (.slice Ax nx cx) (.slice Ay ny cy) (.slice Az nz cz)), errV E]) ∧ Rd qR w2 w2.heap.size Aq nq cq rq ∧ Rd recR w2 w2.heap.size Ax nx cx rx ∧ Rd recR w2 w2.heap.size Ay ny cy ry ∧ Rd recR w2 w2.heap.size Az nz cz rz ∧ Below w'.heap.size w' w2 := by
    intro w'; subst hH; unfold MrO; rw [hRD]
  simp only [eO] at CO
  simp only [eR] at CR
  obtain ⟨⟨F, B⟩, hT⟩ : ∃ t, msgT g qs xs ys zs = t := ⟨_, rfl⟩
  obtain ⟨k, hk⟩ : ∃ k, B.length = k := ⟨_, rfl⟩
  have CB := hid fun w' (hb : Below w.heap.size w w') => mb_law (hQ.later hb) (hX.later hb) (hY.later hb) (hZ.later hb) hT hk
  have CW := hid fun w' (hb : Below w.heap.size w w') => mw_law (hQ.later hb) (hX.later hb) (hY.later hb) (hZ.later hb) hT hk
  have hlt : 0 < w.heap.size := World.block_lt_of_cell? w _ hL
  have EA := hid fun w' (hb : Below w.heap.size w w') => error_yes E w' (hL.below hb hlt)
  have EB := hid fun w' (hb : Below w.heap.size w w') => error_yes F w' (hL.below hb hlt)
  replace CO := hid CO
  replace CR := hid CR
  clear eO eR hRD hH hT hk hL hlt h1 hQ hX hY hZ
  have tk0 : True := trivial; have tk1 : True := trivial; have tk2 : True := trivial; have tk3 : True := trivial; have tk4 : True := trivial; have tk5 : True := trivial; have tk6 : True := trivial; have tk7 : True := trivial; have tk8 : True := trivial; have tk9 : True := trivial; have tk10 : True := trivial; have tk11 : True := trivial; have tk12 : True := trivial
  go_enter Tryd.func3, Tryd.ntmps3
  go_wp2_with (first
    | (go_at_call 4; have _t := tk0; (with_reducible refine (CO.out _ (by (repeat' (first | (with_reducible exact Below.refl _ _) | (with_reducible assumption) | (with_reducible refine below_ext0 ?_ _ _) | (with_reducible refine below_alloc0 ?_ _) | (with_reducible refine Below.ext ?_ ?_ _ _) | (with_reducible refine Below.alloc ?_ ?_ _) | (with_reducible refine Below.setCell ?_ ?_ _) | (with_reducible refine Below.drew ?_) | (with_reducible refine below_draws ?_ _) | go_size | (simp [size_ext]; done) | (simp [size_ext]; omega))))).mono ?_); rintro e w1 ⟨Oq, Ox, Oy, Oz, aq, bq, ax, bx, ay, by', az, bz, rfl, hrq, hrx, hry, hrz, hb⟩; obtain ⟨otk0, dtk0, rfl⟩ := ext_of_below hb; have OQ := hid hrq; have OX := hid hrx; have OY := hid hry; have OZ := hid hrz; clear hrq hrx hry hrz hb tk0)
    | (go_at_call 5; have _t := tk1; (with_reducible refine (CR.out _ (by (repeat' (first | (with_reducible exact Below.refl _ _) | (with_reducible assumption) | (with_reducible refine below_ext0 ?_ _ _) | (with_reducible refine below_alloc0 ?_ _) | (with_reducible refine Below.ext ?_ ?_ _ _) | (with_reducible refine Below.alloc ?_ ?_ _) | (with_reducible refine Below.setCell ?_ ?_ _) | (with_reducible refine Below.drew ?_) | (with_reducible refine below_draws ?_ _) | go_size | (simp [size_ext]; done) | (simp [size_ext]; omega))))).mono ?_); rintro e w1 ⟨Mq, Mx, My, Mz, eq, fq, ex, fx, ey, fy, ez, fz, rfl, hrq, hrx, hry, hrz, hb⟩; obtain ⟨otk1, dtk1, rfl⟩ := ext_of_below hb; have MQ := hid hrq; have MX := hid hrx; have MY := hid hry; have MZ := hid hrz; clear hrq hrx hry hrz hb tk1)
    | (go_at_call 6; have _t := tk2; (with_reducible refine (EA.out _ (by (repeat' (first | (with_reducible exact Below.refl _ _) | (with_reducible assumption) | (with_reducible refine below_ext0 ?_ _ _) | (with_reducible refine below_alloc0 ?_ _) | (with_reducible refine Below.ext ?_ ?_ _ _) | (with_reducible refine Below.alloc ?_ ?_ _) | (with_reducible refine Below.setCell ?_ ?_ _) | (with_reducible refine Below.drew ?_) | (with_reducible refine below_draws ?_ _) | go_size | (simp [size_ext]; done) | (simp [size_ext]; omega))))).mono ?_); rintro e w1 ⟨rfl, hb⟩; obtain ⟨otk2, dtk2, rfl⟩ := ext_of_below hb; clear hb tk2)
    | (go_at_call 7; have _t := tk3; (with_reducible refine (message_yes (MQ.out.later (by (repeat' (first | (with_reducible exact Below.refl _ _) | (with_reducible assumption) | (with_reducible refine below_ext0 ?_ _ _) | (with_reducible refine below_alloc0 ?_ _) | (with_reducible refine Below.ext ?_ ?_ _ _) | (with_reducible refine Below.alloc ?_ ?_ _) | (with_reducible refine Below.setCell ?_ ?_ _) | (with_reducible refine Below.drew ?_) | (with_reducible refine below_draws ?_ _) | go_size | (simp [size_ext]; done) | (simp [size_ext]; omega))))) (MX.out.later (by (repeat' (first | (with_reducible exact Below.refl _ _) | (with_reducible assumption) | (with_reducible refine below_ext0 ?_ _ _) | (with_reducible refine below_alloc0 ?_ _) | (with_reducible refine Below.ext ?_ ?_ _ _) | (with_reducible refine Below.alloc ?_ ?_ _) | (with_reducible refine Below.setCell ?_ ?_ _) | (with_reducible refine Below.drew ?_) | (with_reducible refine below_draws ?_ _) | go_size | (simp [size_ext]; done) | (simp [size_ext]; omega))))) (MY.out.later (by (repeat' (first | (with_reducible exact Below.refl _ _) | (with_reducible assumption) | (with_reducible refine below_ext0 ?_ _ _) | (with_reducible refine below_alloc0 ?_ _) | (with_reducible refine Below.ext ?_ ?_ _ _) | (with_reducible refine Below.alloc ?_ ?_ _) | (with_reducible refine Below.setCell ?_ ?_ _) | (with_reducible refine Below.drew ?_) | (with_reducible refine below_draws ?_ _) | go_size | (simp [size_ext]; done) | (simp [size_ext]; omega))))) (MZ.out.later (by (repeat' (first | (with_reducible exact Below.refl _ _) | (with_reducible assumption) | (with_reducible refine below_ext0 ?_ _ _) | (with_reducible refine below_alloc0 ?_ _) | (with_reducible refine Below.ext ?_ ?_ _ _) | (with_reducible refine Below.alloc ?_ ?_ _) | (with_reducible refine Below.setCell ?_ ?_ _) | (with_reducible refine Below.drew ?_) | (with_reducible refine below_draws ?_ _) | go_size | (simp [size_ext]; done) | (simp [size_ext]; omega))))) (OQ.out.later (by (repeat' (first | (with_reducible exact Below.refl _ _) | (with_reducible assumption) | (with_reducible refine below_ext0 ?_ _ _) | (with_reducible refine below_alloc0 ?_ _) | (with_reducible refine Below.ext ?_ ?_ _ _) | (with_reducible refine Below.alloc ?_ ?_ _) | (with_reducible refine Below.setCell ?_ ?_ _) | (with_reducible refine Below.drew ?_) | (with_reducible refine below_draws ?_ _) | go_size | (simp [size_ext]; done) | (simp [size_ext]; omega))))) (OX.out.later (by (repeat' (first | (with_reducible exact Below.refl _ _) | (with_reducible assumption) | (with_reducible refine below_ext0 ?_ _ _) | (with_reducible refine below_alloc0 ?_ _) | (with_reducible refine Below.ext ?_ ?_ _ _) | (with_reducible refine Below.alloc ?_ ?_ _) | (with_reducible refine Below.setCell ?_ ?_ _) | (with_reducible refine Below.drew ?_) | (with_reducible refine below_draws ?_ _) | go_size | (simp [size_ext]; done) | (simp [size_ext]; omega))))) (OY.out.later (by (repeat' (first | (with_reducible exact Below.refl _ _) | (with_reducible assumption) | (with_reducible refine below_ext0 ?_ _ _) | (with_reducible refine below_alloc0 ?_ _) | (with_reducible refine Below.ext ?_ ?_ _ _) | (with_reducible refine Below.alloc ?_ ?_ _) | (with_reducible refine Below.setCell ?_ ?_ _) | (with_reducible refine Below.drew ?_) | (with_reducible refine below_draws ?_ _) | go_size | (simp [size_ext]; done) | (simp [size_ext]; omega))))) (OZ.out.later (by (repeat' (first | (with_reducible exact Below.refl _ _) | (with_reducible assumption) | (with_reducible refine below_ext0 ?_ _ _) | (with_reducible refine below_alloc0 ?_ _) | (with_reducible refine Below.ext ?_ ?_ _ _) | (with_reducible refine Below.alloc ?_ ?_ _) | (with_reducible refine Below.setCell ?_ ?_ _) | (with_reducible refine Below.drew ?_) | (with_reducible refine below_draws ?_ _) | go_size | (simp [size_ext]; done) | (simp [size_ext]; omega)))))).mono ?_); rintro e w1 ⟨rfl, hb⟩; obtain ⟨otk3, dtk3, rfl⟩ := ext_of_below hb; clear hb tk3)
    | (go_at_call 8; have _t := tk4; (with_reducible refine (CB.out _ (by (repeat' (first | (with_reducible exact Below.refl _ _) | (with_reducible assumption) | (with_reducible refine below_ext0 ?_ _ _) | (with_reducible refine below_alloc0 ?_ _) | (with_reducible refine Below.ext ?_ ?_ _ _) | (with_reducible refine Below.alloc ?_ ?_ _) | (with_reducible refine Below.setCell ?_ ?_ _) | (with_reducible refine Below.drew ?_) | (with_reducible refine below_draws ?_ _) | go_size | (simp [size_ext]; done) | (simp [size_ext]; omega))))).mono ?_); rintro e w1 ⟨Atk4, ctk4, rfl, hr, hb⟩; obtain ⟨otk4, dtk4, rfl⟩ := ext_of_below hb; (try simp only [ext_drew, ext_drewN] at hr); have RB := hid hr; clear hr; clear hb tk4)
    | (go_at_call 9; have _t := tk5; (with_reducible refine (CW.out _ (by (repeat' (first | (with_reducible exact Below.refl _ _) | (with_reducible assumption) | (with_reducible refine below_ext0 ?_ _ _) | (with_reducible refine below_alloc0 ?_ _) | (with_reducible refine Below.ext ?_ ?_ _ _) | (with_reducible refine Below.alloc ?_ ?_ _) | (with_reducible refine Below.setCell ?_ ?_ _) | (with_reducible refine Below.drew ?_) | (with_reducible refine below_draws ?_ _) | go_size | (simp [size_ext]; done) | (simp [size_ext]; omega))))).mono ?_); rintro e w1 ⟨Atk5, ctk5, rfl, hr, hb⟩; obtain ⟨otk5, dtk5, rfl⟩ := ext_of_below hb; (try simp only [ext_drew, ext_drewN] at hr); have RW := hid hr; clear hr; clear hb tk5)
    | (go_at_call 6; have _t := tk6; (with_reducible refine (EB.out _ (by (repeat' (first | (with_reducible exact Below.refl _ _) | (with_reducible assumption) | (with_reducible refine below_ext0 ?_ _ _) | (with_reducible refine below_alloc0 ?_ _) | (with_reducible refine Below.ext ?_ ?_ _ _) | (with_reducible refine Below.alloc ?_ ?_ _) | (with_reducible refine Below.setCell ?_ ?_ _) | (with_reducible refine Below.drew ?_) | (with_reducible refine below_draws ?_ _) | go_size | (simp [size_ext]; done) | (simp [size_ext]; omega))))).mono ?_); rintro e w1 ⟨rfl, hb⟩; obtain ⟨otk6, dtk6, rfl⟩ := ext_of_below hb; clear hb tk6)
    | (go_at_call 10; have _t := tk7; (with_reducible refine (bytes_yes (RW.out.below (by (repeat' (first | (with_reducible exact Below.refl _ _) | (with_reducible assumption) | (with_reducible refine below_ext0 ?_ _ _) | (with_reducible refine below_alloc0 ?_ _) | (with_reducible refine Below.ext ?_ ?_ _ _) | (with_reducible refine Below.alloc ?_ ?_ _) | (with_reducible refine Below.setCell ?_ ?_ _) | (with_reducible refine Below.drew ?_) | (with_reducible refine below_draws ?_ _) | go_size | (simp [size_ext]; done) | (simp [size_ext]; omega))))) (RB.out.below (by (repeat' (first | (with_reducible exact Below.refl _ _) | (with_reducible assumption) | (with_reducible refine below_ext0 ?_ _ _) | (with_reducible refine below_alloc0 ?_ _) | (with_reducible refine Below.ext ?_ ?_ _ _) | (with_reducible refine Below.alloc ?_ ?_ _) | (with_reducible refine Below.setCell ?_ ?_ _) | (with_reducible refine Below.drew ?_) | (with_reducible refine below_draws ?_ _) | go_size | (simp [size_ext]; done) | (simp [size_ext]; omega)))))).mono ?_); rintro e w1 ⟨rfl, hb⟩; obtain ⟨otk7, dtk7, rfl⟩ := ext_of_below hb; clear hb tk7))
  go_ret
  exact ⟨by first | rfl | (simp; done), (by (repeat' (first | (with_reducible exact Below.refl _ _) | (with_reducible assumption) | (with_reducible refine below_ext0 ?_ _ _) | (with_reducible refine below_alloc0 ?_ _) | (with_reducible refine Below.ext ?_ ?_ _ _) | (with_reducible refine Below.alloc ?_ ?_ _) | (with_reducible refine Below.setCell ?_ ?_ _) | (with_reducible refine Below.drew ?_) | (with_reducible refine below_draws ?_ _) | go_size | (simp [size_ext]; done) | (simp [size_ext]; omega))))⟩

theorem walk (w : World) (hL : Laid w) (A1 : Option Addr) (n1 c1 : Nat) (m : List UInt8) (h1 : Rd u8R w w.heap.size A1 n1 c1 m) (x : MsgX) (cs : Array Value) (hx : messageR.rel w w.heap.size x cs.toList) :
    Calls Tryd.prog 3 #[.slice A1 n1 c1, .agg cs] w fun e w' => e = .returned (.bool true) ∧ Below w.heap.size w w' := by
  obtain ⟨g, Aq, Ax, Ay, Az, nq, cq, nx, cx, ny, cy, nz, cz, u, qs, xs, ys, zs, rfl, rfl, hQ, hX, hY, hZ⟩ := message_of hx
  exact way w hL A1 n1 c1 m h1 g Aq Ax Ay Az nq cq nx cx ny cy nz cz qs xs ys zs hQ hX hY hZ

set_option maxRecDepth 100000 in
theorem contract (H : Type) (enc : TypeId × Value → H) (W : World) (base : Nat) (args : Array Value) (ds gs : List (DataW H)) (before : List MemPlace)
    (hval : ∀ (j : Nat) t v, Tryd.f3.params[j]? = some t → args[j]? = some v → Value.okWide Tryd.prog W .any base t v)
    (hW : DataW.Whole enc Tryd.prog Tryd.f3.params.toList Rows.msgTellsSpec.vars false W args.toList ds gs before) (hsz : (DataW.weightsEach Tryd.prog (Tryd.f3.params.toList ++ Rows.msgTellsSpec.plain.varTypes Tryd.prog) (ds ++ gs)).all (· ≤ reachBytes) = true) (hL : Laid W) :
    Calls Tryd.prog 3 args W fun e W' => ∃ v, e = .returned v ∧ Rows.msgTellsSpec.post enc Tryd.prog Tryd.f3 false true false false W args v W' := by
  have hW' := hW
  obtain ⟨p, q, hA0, hV, rfl, hfz, hnd⟩ := hW
  have hA : DataW.TrodAll enc Tryd.prog W 0 (fun _ => true) true Tryd.f3.params.toList args.toList ds p := hA0
  rw [Tryd.params3] at hA hval hsz
  obtain ⟨v0, vs0, d0, ds0, p0, q0, hargs, rfl, rfl, k0, r0⟩ := trodAll_cons hA
  obtain ⟨v1, vs1, d1, ds1, p1, q1, rfl, rfl, rfl, k1, r1⟩ := trodAll_cons r0
  obtain ⟨rfl, rfl, rfl⟩ := trodAll_nil r1
  obtain rfl : args = #[v0, v1] := by cases args; simp_all
  obtain ⟨rfl, rfl⟩ := trodVars_none hV
  have lt0 : ∀ x ∈ p0, x.block < W.heap.size := by obtain ⟨m, hm⟩ := k0; exact DataW.trod_lt m _ _ _ hm
  have lt1 : ∀ x ∈ p1, x.block < W.heap.size := by obtain ⟨m, hm⟩ := k1; exact DataW.trod_lt m _ _ _ hm
  have hsz' : ∀ k ∈ _, k ≤ reachBytes := fun k hk => of_decide_eq_true (List.all_eq_true.1 hsz k hk)
  have u0 : ∀ k ∈ d0.weights Tryd.prog 22, k ≤ reachBytes := fun k hk => hsz' k (by simp [DataW.weightsEach, hk])
  have u1 : ∀ k ∈ d1.weights Tryd.prog 28, k ≤ reachBytes := fun k hk => hsz' k (by simp [DataW.weightsEach, hk])
  obtain ⟨A0, n0, c0, l0, rfl, w0, z0⟩ := arg_slice Tryd.underlying22 (opens_slice Tryd.underlying22 (opens_u8 Tryd.underlying5) (by kernel_rfl) (by decide) (of_decide_eq_true (by kernel_rfl))) (hval 0 22 v0 rfl rfl) k0 u0
  obtain ⟨x1, cs1, rfl, w1, z1⟩ := arg_struct Tryd.underlying28 opens_message (hval 1 28 v1 rfl rfl) k1 u1
  clear hA0 hA
  refine (walk W hL A0 n0 c0 l0 w0 x1 cs1 w1).mono fun e W' ⟨he, bel⟩ => ?_
  subst he
  exact ⟨_, rfl, _, _, _, [], _, [], hW', trodAll_mk1 (shut_bool Tryd.underlying4 _), (trodAll_cons_mk (Below.trod laidOut (by kernel_rfl) (of_decide_eq_true (by kernel_rfl)) k0 bel lt0) (trodAll_cons_mk (Below.trod laidOut (by kernel_rfl) (of_decide_eq_true (by kernel_rfl)) k1 bel lt1) trodAll_mk0)), rfl, bel.frame _, fun h => by cases h⟩

set_option maxRecDepth 100000 in
theorem lifted (os : Os) (started : os.Started) (H : Type) (enc : TypeId × Value → H) :
    ReturnsInHanded {} Tryd.checked os 3 .any (fun w args => (Rows.msgTellsSpec.pre enc Tryd.prog Tryd.f3 [] false w args ∧ laidMetH Tryd.prog laidL w) ∧ sizedMet enc Tryd.prog Tryd.f3 (OpenSpec.ofChange Rows.msgTellsSpec) false w args) (Rows.msgTellsSpec.post enc Tryd.prog Tryd.f3 false true false false) := by
  refine returnsInHanded_of_change_and (C := Tryd.checked) (X := fun w _ => laidMetH Tryd.prog laidL w) (fun _ _ _ hh h => h.of_heap hh) own started (by kernel_rfl) Tryd.func3
    (ChangeSpec.witness_at (enc := enc) (C := Tryd.checked) (os := os) (X := fun w _ => laidMetH Tryd.prog laidL w) false (laidWorld os) #[.slice none 0 0, .agg #[.int .i64 0, .bool false, .int .i64 0, .bool false, .bool false, .bool false, .bool false, .bool false, .bool false, .bool false, .int .i64 0, .slice none 0 0, .slice none 0 0, .slice none 0 0, .slice none 0 0]] 8 rfl (by kernel_rfl) (by kernel_rfl) (by kernel_rfl) (by kernel_rfl) (by kernel_rfl) (laidWorld_met os _)) ?_
  intro W base args ds gs before hval hW _ hsz hL _
  exact contract H enc W base args ds gs before hval hW hsz (laid_of hL)

set_option maxRecDepth 100000 in
theorem said : Rows.MsgTellsSaid :=
  OpenClaim.holds_of_wide 3 Tryd.f3 rfl rfl rfl rfl rfl rfl rfl ⟨rfl, rfl, rfl, rfl, rfl⟩ rfl rfl rfl rfl rfl (by kernel_rfl) Tryd.func3 (by kernel_rfl)
    (of_decide_eq_true (by kernel_rfl)) (by unfold Func.isWrapper; first | (rw [if_pos (by decide +kernel)]; kernel_rfl) | (rw [if_neg (by decide +kernel)]; exact ⟨rfl, rfl⟩))
    (fun os started H enc _ => lifted os started H enc)
set_option maxRecDepth 100000 in
/-- the statement: the tied card -/
theorem proved : Rows.MsgTellsCardSaid :=
  Claim7.holds_tied_plain_at .later [] [.handle] true (true, "b7020dc104035848a6040fb68b0d4c236591c7ab2edbc7286d65a887c855d2db") true said (fun _ h => by cases h) (by kernel_rfl) (fun _ h => by cases h) msgTells_row_tie rfl ⟨rfl, rfl⟩ (by kernel_rfl) rfl
    (fun f fn hf hfn => by
      obtain rfl : f = 3 := Option.some.inj ((show Tryd.prog.funcNamed "pointsman/pointsmanlaw1.MsgTells" = some 3 by kernel_rfl).symm.trans hf) |>.symm
      obtain rfl : fn = Tryd.f3 := (Option.some.inj (Tryd.func3.symm.trans hfn)).symm
      exact ⟨by kernel_rfl, fun j t ht => no_stand (by kernel_rfl) j t ht⟩)
    (by kernel_rfl)


end msgTells
end Go.Proofs.YthccknobnpbdeaaDoor
