/- The longest end: New, Put, Len, Get. -/
import Derived.Test.YtemgbfppdopfbaaDoorTailA
import Derived.Maps.OwnOps
namespace Go.Proofs.YtemgbfppdopfbaaDoor
open Go.RowKit
set_option linter.unusedVariables false
set_option linter.unusedSimpArgs false

theorem zeroI (w : World) : (zeroValue 3).run Tryd.prog w = .ok (.int .i64 0) w := by kernel_rfl
theorem keyedS : Maps.Keyed Tryd.prog 9 := Maps.string_keyed Tryd.underlying9
section
variable {P : Program} {w : World}
/-- a store into a map of the call's own, in a region that draws -/
theorem step_mapUpdate {H : Type} {ops : Array Oper} {o : Oper} {a : Act} {Q : Exit → Act → World → Prop} {KK : Act → World → Prop} {F : Prop} (hgd : o.guard = none) (m x v : Operand) (t : TypeId) (hop : o.op = Op.mapUpdate t m x v)
    (k e : TypeId) (K : Maps.Keyed P k) (ht : P.underlying t = some (.map k e)) (R : Value → Option (DataW H × List MemPlace)) (b n : Nat) (D : DataW H)
    (hm : a.eval m = .map (some b)) (hown : w.ownsMap P k R b n D) (hn : n < maxLen) (key val : Value) (kl : Lit) (hx : a.eval x = key) (hv : a.eval v = val) (hkey : keyOf P k key = some kl)
    (d : DataW H) (ps : List MemPlace) (hval : R val = some (d, ps))
    (h : ∀ w', w'.ownsMap P k R b (n + 1) (D.put kl d) → w.grownBy w' (some b) → KK (a.put o.dst undef) w') : if Region.wanted o (yielded ops a.tmps) = true then Oper.wp P o a w KK Q else F := by
  have hw : Region.wanted o (yielded ops a.tmps) = true := by simp [Region.wanted, hgd]
  rw [if_pos hw]
  obtain ⟨w', hrun, r1, r2⟩ := hown.update K ht hn hkey hval
  unfold Oper.wp
  simp [execOp, hop, hm, hx, hv, hrun, Result.andThen]
  exact h w' r1 r2
/-- 'v, has := m[k]', in a region that draws -/
theorem step_lookup_int {H : Type} {ops : Array Oper} {o : Oper} {a : Act} {Q : Exit → Act → World → Prop} {KK : Act → World → Prop} {F : Prop} (hgd : o.guard = none) (m x : Operand) (t : TypeId) (hop : o.op = Op.lookup t m x true)
    (k e : TypeId) (q : IntKind) (K : Maps.Keyed P k) (ht : P.underlying t = some (.map k e)) (he : P.underlying e = some (.int q)) (hz : (zeroValue e).run P w = .ok (.int q 0) w) (b n : Nat) (D : DataW H)
    (hm : a.eval m = .map (some b)) (hown : w.ownsMap P k (plainElem P e) b n D) (key : Value) (kl : Lit) (hx : a.eval x = key) (hkey : keyOf P k key = some kl)
    (h : ∀ c : Int, D.atKey kl (.lit (.int q 0)) = .lit (.int q c) → (Lit.int q c).wf = true → KK (a.put o.dst (.tuple #[.int q c, .bool (Maps.has D kl)])) w) : if Region.wanted o (yielded ops a.tmps) = true then Oper.wp P o a w KK Q else F := by
  have hw : Region.wanted o (yielded ops a.tmps) = true := by simp [Region.wanted, hgd]
  rw [if_pos hw]
  obtain ⟨v, ps, hrun, hv⟩ := hown.look_ok K ht hz (plainElem_int he (by cases q <;> decide)) hkey
  obtain ⟨c, rfl, hc, hwc⟩ := plainElem_int_inv he hv
  unfold Oper.wp
  simp [execOp, hop, hm, hx, hrun, Result.andThen]
  exact h c (congrArg Prod.fst hc) hwc
end

/-- Tails that hold the values put: block g leads to the map b -/
structure TailS (w : World) (g b : Nat) (es : List EndT) : Prop where
  cell : w.cell? ⟨g, 0, none⟩ = some (.map (some b))
  map : w.ownsMap Tryd.prog 9 (plainElem Tryd.prog 3) b es.length (mapT es)
  sh : Shorts es
section
variable {w w' : World} {g b : Nat} {es : List EndT}
theorem TailS.glt (h : TailS w g b es) : g < w.heap.size := World.block_lt_of_cell? w _ h.cell
theorem TailS.blt (h : TailS w g b es) : b < w.heap.size := h.map.lt
theorem TailS.ne (h : TailS w g b es) : g ≠ b := by
  intro e
  subst e
  have h1 := h.cell
  obtain ⟨xs, clock, hb, _⟩ := h.map
  simp [World.cell?, hb] at h1
theorem TailS.kept (h : TailS w g b es) {row : Option Nat} (hg : w.grownBy w' row) (h1 : some g ≠ row) (h2 : some b ≠ row) : TailS w' g b es :=
  ⟨(World.cell?_of_block (hg.block g h.glt h1)).trans h.cell, h.map.kept hg h2, h.sh⟩
theorem TailS.later (h : TailS w g b es) (hb : Below w.heap.size w w') : TailS w' g b es := h.kept (row := none) ⟨hb.os, hb.tape, hb.output, hb.size, fun k hk _ => hb.block k hk⟩ (by simp) (by simp)
end

theorem tnew_any (w : World) : Calls Tryd.prog 13 #[] w fun e w' => e = .returned (.pointer (some ⟨w.heap.size + 1, 0, none⟩)) ∧ TailS w' (w.heap.size + 1) w.heap.size [] ∧ Below w.heap.size w w' := by
  have hmm := @run_makeMap Tryd.prog
  go_enter Tryd.func13, Tryd.ntmps13
  go_wp2
  go_ret
  refine ⟨rfl, ⟨?_, (World.ownsMap_made w Tryd.prog 9 (plainElem Tryd.prog 3)).alloc _, fun e h => by cases h⟩, (by (repeat' (first | (with_reducible exact Below.refl _ _) | (with_reducible assumption) | (with_reducible refine below_ext0 ?_ _ _) | (with_reducible refine below_alloc0 ?_ _) | (with_reducible refine Below.ext ?_ ?_ _ _) | (with_reducible refine Below.alloc ?_ ?_ _) | (with_reducible refine Below.setCell ?_ ?_ _) | (with_reducible refine Below.drew ?_) | (with_reducible refine below_draws ?_ _) | go_size | (simp [size_ext]; done) | (simp [size_ext]; omega))))⟩
  simp

/-- behind a Put -/
def putE (es : List EndT) (l : List ByteArray) (v : Int) : List EndT := if nameErr l = 0 then es ++ [(l, v, ())] else es
theorem short_of_err {l : List ByteArray} (h : nameErr l = 0) : short l = true ∧ lsum l ≤ 254 := by
  obtain ⟨h1, h2⟩ := nameErr_zero.1 h
  rw [nsize_lsum] at h2
  refine ⟨List.all_eq_true.2 fun s hs => ?_, by omega⟩
  have := List.all_eq_true.1 h1 s hs
  unfold labelOk at this
  simp only [Bool.and_eq_true, decide_eq_true_eq] at this ⊢
  omega
theorem own_below {w w' : World} (h : Below w.heap.size w w') (r : Option Nat) : w.grownBy w' r := ⟨h.os, h.tape, h.output, h.size, fun k hk _ => h.block k hk⟩
theorem map_later {w w' : World} {b n : Nat} {D : DataW Unit} (h : w.ownsMap Tryd.prog 9 (plainElem Tryd.prog 3) b n D) (hb : Below w.heap.size w w') : w'.ownsMap Tryd.prog 9 (plainElem Tryd.prog 3) b n D := h.kept (own_below hb none) (by simp)
theorem keyOfS {l : List ByteArray} (h : short l = true) (hs : lsum l ≤ 1073741824) : keyOf Tryd.prog 9 (.string ⟨(keyS l).toArray⟩) = some (keyLit l) := by
  have h1 : (⟨(keyS l).toArray⟩ : ByteArray).size ≤ maxLen := by
    show (keyS l).toArray.size ≤ _
    rw [List.size_toArray, keyS_sent, sentL_len, lsum_small]
    unfold maxLen
    omega
  have := Go.WideMaps.keyOf_string_mk Tryd.underlying9 h1
  rw [this]
  unfold keyLit
  simp
set_option maxRecDepth 100000 in
set_option maxHeartbeats 4000000 in
theorem tput_any {w : World} {g b : Nat} {es : List EndT} (h : TailS w g b es) (hlen : es.length ≤ 1073741824) {A : Option Addr} {n c : Nat} {l : List ByteArray} (hl : Rd strR w w.heap.size A n c l) (v : Int) (hv : I64 v) :
    Calls Tryd.prog 15 #[.pointer (some ⟨g, 0, none⟩), .slice A n c, .int .i64 v] w fun e w' => e = .returned (errV (nameErr l)) ∧ TailS w' g b (putE es l v) ∧ w.grownBy w' (some b) := by
  have CC := name_check w A n c l _ hl
  by_cases he : nameErr l = 0
  · have hp : putE es l v = es ++ [(l, v, ())] := if_pos he
    obtain ⟨s1, s2⟩ := short_of_err he
    rw [he, errV_zero] at CC
    have CK := hid fun w' (hb : Below w.heap.size w w') => key_any w' A n c l (hl.later hb) s1 (by omega)
    have KO := hid (keyOfS s1 (by omega))
    have HC := hid CC
    have cg := h.cell
    have glt := h.glt
    have hm := hid h.map
    have HP := hid hp
    have HS := hid h.sh
    have HN := hid h.ne
    have HB := hid h.blt
    have HE := hid he
    have S1 := hid s1
    have vw : (Lit.int .i64 v).wf = true := by
      unfold I64 at hv
      simp [Lit.wf, IntKind.min, IntKind.max, IntKind.bits, IntKind.signed]
      omega
    have HV := hid vw
    have hml : es.length < maxLen := by unfold maxLen; omega
    clear h hl CC he hp s1 s2 vw hv
    have tk0 : True := trivial; have tk1 : True := trivial; have tk2 : True := trivial; have tk3 : True := trivial; have tk4 : True := trivial; have tk5 : True := trivial; have tk6 : True := trivial; have tk7 : True := trivial; have tk8 : True := trivial; have tk9 : True := trivial; have tk10 : True := trivial; have tk11 : True := trivial; have tk12 : True := trivial
    go_enter Tryd.func15, Tryd.ntmps15
    go_wp2_with (go_at_call 33; refine (HC.out).mono ?_; rintro e w1 ⟨rfl, hw⟩; subst w1)
    go_region_held3 (fun w' => w'.cell? ⟨g, 0, none⟩ = some (.map (some b))) (first | assumption | (go_simp; done))
      (first
        | (go_at_call 34; have _t := tk1; (with_reducible refine (CK.out _ (by (repeat' (first | (with_reducible exact Below.refl _ _) | (with_reducible assumption) | (with_reducible refine below_ext0 ?_ _ _) | (with_reducible refine below_alloc0 ?_ _) | (with_reducible refine Below.ext ?_ ?_ _ _) | (with_reducible refine Below.alloc ?_ ?_ _) | (with_reducible refine Below.setCell ?_ ?_ _) | (with_reducible refine Below.drew ?_) | (with_reducible refine below_draws ?_ _) | go_size | (simp [size_ext]; done) | (simp [size_ext]; omega))))).mono ?_); rintro e w1 ⟨rfl, hb⟩; obtain ⟨o1, d1, rfl⟩ := ext_of_below hb; obtain ⟨w2, hrun, r1, r2⟩ := (map_later hm.out (below_ext w o1 d1)).update keyedS Tryd.underlying71 hml KO.out (plainElem_int (H := Unit) Tryd.underlying3 HV.out); have cw2 : w2.cell? ⟨g, 0, none⟩ = some (.map (some b)) := (World.cell?_of_block (r2.block g (by simp [size_ext]; omega) (by simpa using HN.out))).trans ((cell_ext _ _ _ _ _ glt).trans cg); have HW2 := hid r1; have HG2 := hid r2; clear r1 r2 hb tk1)
        | fail)
    all_goals
      go_wp2
      go_ret
      have hr := HP.out
      refine ⟨by rw [HE.out]; rfl, ?_, (own_below (below_ext w o1 d1) (some b)).trans HG2.out⟩
      rw [hr]
      refine ⟨?_, by rw [mapT_snoc, List.length_append]; exact HW2.out, fun e he => ?_⟩
      · exact cw2
      · rcases List.mem_append.1 he with he | he
        · exact HS.out e he
        · simp at he; rw [he]; exact S1.out
  · have HP := hid (show putE es l v = es from if_neg he)
    obtain ⟨E, hE⟩ : ∃ E, nameErr l = E := ⟨_, rfl⟩
    rw [hE] at CC he
    rw [errV_ne he] at CC
    have HC := hid CC
    have HE := hid hE
    have HEN := hid (errV_ne he)
    clear CC hE hl he
    go_enter Tryd.func15, Tryd.ntmps15
    go_wp2_with (go_at_call 33; refine (HC.out).mono ?_; rintro e w1 ⟨rfl, hw⟩; subst w1)
    go_ret
    exact ⟨by rw [HE.out, HEN.out]; rfl, by rw [HP.out]; exact h, own_below (Below.refl _ _) (some b)⟩

/-! Get -/
def valO (es : List EndT) : Option Nat → Int
  | none => 0
  | some i => (es.getD i ([], 0, ())).2.1
set_option maxRecDepth 100000 in
theorem look_tail {w : World} {g b : Nat} {es : List EndT} (h : TailS w g b es) {m : List ByteArray} (hm : short m = true) (hs : lsum m ≤ 1073741824) {o : Option Nat} (ho : lastFor es m = o) :
    (Instr.lookup 71 (.map (some b)) (.string ⟨(keyS m).toArray⟩) true).run Tryd.prog w = .ok (.tuple #[.int .i64 (valO es o), .bool o.isSome]) w := by
  obtain ⟨v, ps, hrun, hv⟩ := h.map.look_ok keyedS Tryd.underlying71 (zeroI w) (plainElem_int (H := Unit) Tryd.underlying3 (by decide)) (keyOfS hm hs)
  obtain ⟨c, rfl, hc, hwc⟩ := plainElem_int_inv Tryd.underlying3 hv
  have hc' : (mapT es).atKey (keyLit m) (.lit (.int .i64 0)) = .lit (.int .i64 c) := congrArg Prod.fst hc
  have hL := mapT_looks m hm es h.sh
  rw [ho] at hL
  rw [hrun]
  cases o with
  | none =>
    have hn : Maps.has (mapT es) (keyLit m) = false := hL
    rw [Maps.atKey_of_not_has hn] at hc'
    injection hc' with hc'
    injection hc' with _ hc'
    rw [hn, ← hc']
    rfl
  | some i =>
    obtain ⟨h1, h2⟩ := hL
    rw [h2] at hc'
    injection hc' with hc'
    injection hc' with _ hc'
    rw [h1, ← hc']
    rfl
theorem getT_none {es : List EndT} : ∀ {l : List ByteArray}, (∀ j, j ≤ l.length → lastFor es (l.drop j) = none) → getT es l = none
  | [], h => by rw [getT, show lastFor es [] = none from h 0 (Nat.le_refl _)]; rfl
  | a :: l, h => by
    rw [getT, show lastFor es (a :: l) = none from h 0 (Nat.zero_le _)]
    exact getT_none fun j hj => h (j + 1) (by simp; omega)
theorem getT_hit {es : List EndT} {x : Nat} : ∀ {l : List ByteArray} {i : Nat}, (∀ j, j < i → lastFor es (l.drop j) = none) → i ≤ l.length → lastFor es (l.drop i) = some x → getT es l = some (x, l.length - i)
  | [], i, h, hi, hx => by
    obtain rfl : i = 0 := by simpa using hi
    rw [getT, show lastFor es [] = some x from hx]
    rfl
  | a :: l, 0, h, hi, hx => by
    rw [getT, show lastFor es (a :: l) = some x from hx]
    rfl
  | a :: l, i + 1, h, hi, hx => by
    rw [getT, show lastFor es (a :: l) = none from h 0 (by omega)]
    have := getT_hit (l := l) (i := i) (fun j hj => h (j + 1) (by omega)) (by simpa using hi) hx
    rw [List.length_cons, Nat.add_sub_add_right]
    exact this
def tellG (es : List EndT) : Option (Nat × Nat) → Int × Nat × Bool
  | none => (0, 0, false)
  | some (i, k) => ((es.getD i ([], 0, ())).2.1, k, true)
theorem long_none {es : List EndT} (hs : Shorts es) {m : List ByteArray} (h : short m = false) : lastFor es m = none := by
  cases hl : lastFor es m with
  | none => rfl
  | some i =>
    obtain ⟨hi, h1, _⟩ := lastFor_some hl
    have := sameL_short h1
    rw [h, hs _ (List.getElem_mem hi)] at this
    cases this
/-- 'n[i:]', a nil slice too -/
theorem slice_from {w : World} {B n c i : Nat} {A : Option Addr} {l : List ByteArray} (h : Rd strR w B A n c l) (hi : i ≤ n) :
    ∃ S, (∀ w' : World, (Instr.slice 22 (.slice A n c) (some (.int .i64 (i : Int))) none none).run Tryd.prog w' = .ok (.slice S (n - i) (c - i)) w') ∧ Rd strR w B S (n - i) (c - i) (l.drop i) := by
  have hcap := h.cap
  have hln := h.len
  have hsz : (Tryd.prog.info? 9).map (·.size) = some 1 := by kernel_rfl
  rcases A with _ | ad
  · have hc0 := h.nil rfl
    obtain rfl : n = 0 := by omega
    obtain rfl : i = 0 := by omega
    subst hc0
    obtain rfl : l = [] := List.eq_nil_of_length_eq_zero hln
    refine ⟨none, fun w' => ?_, rd_nil w B⟩
    simp [Instr.slice, Instr.sliceBounds, Instr.sliceBound, go_sem, Tryd.underlying22]
  · by_cases hc : c = i
    · refine ⟨some ad, fun w' => ?_, ?_⟩
      · obtain rfl : n = i := by omega
        subst hc
        simp [Instr.slice, Instr.sliceBounds, Instr.sliceBound, go_sem, Tryd.underlying22]
      · obtain rfl : n = i := by omega
        have hl : l.drop n = [] := List.drop_eq_nil_of_le (by omega)
        rw [hl, Nat.sub_self]
        exact ⟨rfl, Nat.zero_le _, by have := h.max; omega, by simp, fun e => (by cases e), fun i hi => by simp at hi⟩
    · refine ⟨some (ad.add i), fun w' => ?_, ?_⟩
      · simp [Instr.slice, Instr.sliceBounds, Instr.sliceBound, go_sem, Tryd.underlying22, hi, hc]
      · by_cases h0 : n = 0
        · subst h0
          obtain rfl : i = 0 := by omega
          have hl : l = [] := List.eq_nil_of_length_eq_zero hln
          subst hl
          exact ⟨rfl, by omega, by have := h.max; omega, by simp, fun e => (by cases e), fun i hi => by simp at hi⟩
        · obtain ⟨b, o, e, _⟩ := h.addr (by omega)
          cases e
          rw [add_none]
          exact h.dropS hi
set_option maxRecDepth 100000 in
set_option maxHeartbeats 4000000 in
theorem tget_any {w : World} {g b : Nat} {es : List EndT} (h : TailS w g b es) {A : Option Addr} {n c : Nat} {l : List ByteArray} (hl : Rd strR w w.heap.size A n c l) (hsz : lsum l ≤ 1073741824) :
    Calls Tryd.prog 18 #[.pointer (some ⟨g, 0, none⟩), .slice A n c] w fun e w' => e = .returned (.tuple #[.int .i64 (tellG es (getT es l)).1, .int .i64 ((tellG es (getT es l)).2.1 : Int), .bool (tellG es (getT es l)).2.2]) ∧ Below w.heap.size w w' := by
  have hm := hl.max
  have hcap := hl.cap
  have hlim := hl.lim
  simp only [strR] at hlim
  unfold maxLen at hm
  have hln := hid hl.len
  have H := hid hl
  have HT := hid h
  obtain ⟨G, hG⟩ : ∃ G, tellG es (getT es l) = G := ⟨_, rfl⟩
  rw [hG]
  have HG := hid hG
  obtain ⟨G1, G2, G3⟩ := G
  clear h hl hG
  have tk0 : True := trivial; have tk1 : True := trivial; have tk2 : True := trivial; have tk3 : True := trivial; have tk4 : True := trivial; have tk5 : True := trivial; have tk6 : True := trivial; have tk7 : True := trivial; have tk8 : True := trivial; have tk9 : True := trivial; have tk10 : True := trivial; have tk11 : True := trivial; have tk12 : True := trivial
  go_enter Tryd.func18, Tryd.ntmps18
  go_wp2
  go_loopg [14] (n + 1) (fun gk v14 wi => ∃ i : Nat, i ≤ n + 1 ∧ gk = n + 1 - i ∧ v14 = .int .i64 (i : Int) ∧ Below w.heap.size w wi ∧ Hid (∀ j, j < i → lastFor es (l.drop j) = none))
  case atStart => exact ⟨0, Nat.zero_le _, rfl, rfl, Below.refl _ _, hid fun j hj => by omega⟩
  case round =>
    obtain ⟨i, hi, rfl, rfl, hlow, hno⟩ := hrel
    have HLOW := hid hlow
    have hzw := hlow.size
    clear hlow
    by_cases hlt : i ≤ n
    · obtain ⟨S, hrun0, hS⟩ := slice_from (H.out.later HLOW.out) hlt
      have hrun := hrun0
      have t0 : (i : Int) < (n : Int) + 1 := by omega
      have t1 : decide ((i : Int) < (n : Int) + 1) = true := decide_eq_true t0
      have CL := hid fun w' (hb : Below wr.heap.size wr w') => containsLong_any w' _ _ _ _ (hS.later hb)
      have hsd : lsum (l.drop i) ≤ 1073741824 := by
        have h2 : lsum l = lsum (l.take i) + lsum (l.drop i) := by
          rw [← sentL_len, ← sentL_len, ← sentL_len, ← List.length_append, ← sentL_append, List.take_append_drop]
        omega
      have tw := HT.out.later HLOW.out
      have HTW := hid tw
      have cg := tw.cell
      have glt := tw.glt
      clear tw hrun0
      cases hsh : short (l.drop i) with
      | false =>
        rw [hsh] at CL
        have HN := hid (show ∀ j, j < i + 1 → lastFor es (l.drop j) = none from fun j hj => by
          rcases Nat.lt_succ_iff_lt_or_eq.1 hj with hj | rfl
          · exact hno.out j hj
          · exact long_none HT.out.sh hsh)
        clear hsh hS hsd
        go_wp2_with (go_at_call 36; have _t := tk1; (with_reducible refine (CL.out _ (by (repeat' (first | (with_reducible exact Below.refl _ _) | (with_reducible assumption) | (with_reducible refine below_ext0 ?_ _ _) | (with_reducible refine below_alloc0 ?_ _) | (with_reducible refine Below.ext ?_ ?_ _ _) | (with_reducible refine Below.alloc ?_ ?_ _) | (with_reducible refine Below.setCell ?_ ?_ _) | (with_reducible refine Below.drew ?_) | (with_reducible refine below_draws ?_ _) | go_size | (simp [size_ext]; done) | (simp [size_ext]; omega))))).mono ?_); rintro e w1 ⟨rfl, hb⟩; obtain ⟨otk1, dtk1, rfl⟩ := ext_of_below hb; clear hb tk1)
        go_roundg (n + 1 - (i + 1))
        case measure => omega
        case rel =>
          have hlw := HLOW.out
          exact ⟨i + 1, by omega, rfl, by go_num, by (repeat' (first | (with_reducible exact Below.refl _ _) | (with_reducible assumption) | (with_reducible refine below_ext0 ?_ _ _) | (with_reducible refine below_alloc0 ?_ _) | (with_reducible refine Below.ext ?_ ?_ _ _) | (with_reducible refine Below.alloc ?_ ?_ _) | (with_reducible refine Below.setCell ?_ ?_ _) | (with_reducible refine Below.drew ?_) | (with_reducible refine below_draws ?_ _) | go_size | (simp [size_ext]; done) | (simp [size_ext]; omega))), HN⟩
      | true =>
        rw [hsh] at CL
        have CK := hid fun w' (hb : Below wr.heap.size wr w') => key_any w' _ _ _ _ (hS.later hb) hsh hsd
        cases ho : lastFor es (l.drop i) with
        | none =>
          have LK := hid fun w' (hb : Below wr.heap.size wr w') => look_tail (HTW.out.later hb) hsh hsd ho
          have HN := hid (show ∀ j, j < i + 1 → lastFor es (l.drop j) = none from fun j hj => by
            rcases Nat.lt_succ_iff_lt_or_eq.1 hj with hj | rfl
            · exact hno.out j hj
            · exact ho)
          clear hsh hS hsd ho
          go_wp2_with (go_at_call 36; have _t := tk1; (with_reducible refine (CL.out _ (by (repeat' (first | (with_reducible exact Below.refl _ _) | (with_reducible assumption) | (with_reducible refine below_ext0 ?_ _ _) | (with_reducible refine below_alloc0 ?_ _) | (with_reducible refine Below.ext ?_ ?_ _ _) | (with_reducible refine Below.alloc ?_ ?_ _) | (with_reducible refine Below.setCell ?_ ?_ _) | (with_reducible refine Below.drew ?_) | (with_reducible refine below_draws ?_ _) | go_size | (simp [size_ext]; done) | (simp [size_ext]; omega))))).mono ?_); rintro e w1 ⟨rfl, hb⟩; obtain ⟨otk1, dtk1, rfl⟩ := ext_of_below hb; clear hb tk1)
          go_region_held3 (fun w' => w'.cell? ⟨g, 0, none⟩ = some (.map (some b))) (first | assumption | (go_simp; done))
            (first
              | (go_at_call 34; have _t := tk2; (with_reducible refine (CK.out _ (by (repeat' (first | (with_reducible exact Below.refl _ _) | (with_reducible assumption) | (with_reducible refine below_ext0 ?_ _ _) | (with_reducible refine below_alloc0 ?_ _) | (with_reducible refine Below.ext ?_ ?_ _ _) | (with_reducible refine Below.alloc ?_ ?_ _) | (with_reducible refine Below.setCell ?_ ?_ _) | (with_reducible refine Below.drew ?_) | (with_reducible refine below_draws ?_ _) | go_size | (simp [size_ext]; done) | (simp [size_ext]; omega))))).mono ?_); rintro e w1 ⟨rfl, hb⟩; obtain ⟨o1, d1, rfl⟩ := ext_of_below hb; have hlk := LK.out (ext (ext wr otk1 (dtk1 + 1)) o1 d1) (by (repeat' (first | (with_reducible exact Below.refl _ _) | (with_reducible assumption) | (with_reducible refine below_ext0 ?_ _ _) | (with_reducible refine below_alloc0 ?_ _) | (with_reducible refine Below.ext ?_ ?_ _ _) | (with_reducible refine Below.alloc ?_ ?_ _) | (with_reducible refine Below.setCell ?_ ?_ _) | (with_reducible refine Below.drew ?_) | (with_reducible refine below_draws ?_ _) | go_size | (simp [size_ext]; done) | (simp [size_ext]; omega)))); clear hb tk2)
              | fail)
          all_goals
            go_wp2
            go_roundg (n + 1 - (i + 1))
            case measure => omega
            case rel =>
              have hlw := HLOW.out
              exact ⟨i + 1, by omega, rfl, by go_num, by (repeat' (first | (with_reducible exact Below.refl _ _) | (with_reducible assumption) | (with_reducible refine below_ext0 ?_ _ _) | (with_reducible refine below_alloc0 ?_ _) | (with_reducible refine Below.ext ?_ ?_ _ _) | (with_reducible refine Below.alloc ?_ ?_ _) | (with_reducible refine Below.setCell ?_ ?_ _) | (with_reducible refine Below.drew ?_) | (with_reducible refine below_draws ?_ _) | go_size | (simp [size_ext]; done) | (simp [size_ext]; omega))), HN⟩
        | some x =>
          have LK := hid fun w' (hb : Below wr.heap.size wr w') => look_tail (HTW.out.later hb) hsh hsd ho
          have hg := HG.out
          rw [getT_hit hno.out (by rw [hln.out]; exact hlt) ho] at hg
          simp only [tellG, Prod.mk.injEq] at hg
          obtain ⟨rfl, rfl, rfl⟩ := hg
          have HLN := hln
          clear hsh hS hsd ho HG
          go_wp2_with (go_at_call 36; have _t := tk1; (with_reducible refine (CL.out _ (by (repeat' (first | (with_reducible exact Below.refl _ _) | (with_reducible assumption) | (with_reducible refine below_ext0 ?_ _ _) | (with_reducible refine below_alloc0 ?_ _) | (with_reducible refine Below.ext ?_ ?_ _ _) | (with_reducible refine Below.alloc ?_ ?_ _) | (with_reducible refine Below.setCell ?_ ?_ _) | (with_reducible refine Below.drew ?_) | (with_reducible refine below_draws ?_ _) | go_size | (simp [size_ext]; done) | (simp [size_ext]; omega))))).mono ?_); rintro e w1 ⟨rfl, hb⟩; obtain ⟨otk1, dtk1, rfl⟩ := ext_of_below hb; clear hb tk1)
          go_region_held3 (fun w' => w'.cell? ⟨g, 0, none⟩ = some (.map (some b))) (first | assumption | (go_simp; done))
            (first
              | (go_at_call 34; have _t := tk2; (with_reducible refine (CK.out _ (by (repeat' (first | (with_reducible exact Below.refl _ _) | (with_reducible assumption) | (with_reducible refine below_ext0 ?_ _ _) | (with_reducible refine below_alloc0 ?_ _) | (with_reducible refine Below.ext ?_ ?_ _ _) | (with_reducible refine Below.alloc ?_ ?_ _) | (with_reducible refine Below.setCell ?_ ?_ _) | (with_reducible refine Below.drew ?_) | (with_reducible refine below_draws ?_ _) | go_size | (simp [size_ext]; done) | (simp [size_ext]; omega))))).mono ?_); rintro e w1 ⟨rfl, hb⟩; obtain ⟨o1, d1, rfl⟩ := ext_of_below hb; have hlk := LK.out (ext (ext wr otk1 (dtk1 + 1)) o1 d1) (by (repeat' (first | (with_reducible exact Below.refl _ _) | (with_reducible assumption) | (with_reducible refine below_ext0 ?_ _ _) | (with_reducible refine below_alloc0 ?_ _) | (with_reducible refine Below.ext ?_ ?_ _ _) | (with_reducible refine Below.alloc ?_ ?_ _) | (with_reducible refine Below.setCell ?_ ?_ _) | (with_reducible refine Below.drew ?_) | (with_reducible refine below_draws ?_ _) | go_size | (simp [size_ext]; done) | (simp [size_ext]; omega)))); clear hb tk2)
              | fail)
          all_goals
            go_wp2
            go_ret3
            have hlw := HLOW.out
            exact ⟨by rw [HLN.out]; rfl, by (repeat' (first | (with_reducible exact Below.refl _ _) | (with_reducible assumption) | (with_reducible refine below_ext0 ?_ _ _) | (with_reducible refine below_alloc0 ?_ _) | (with_reducible refine Below.ext ?_ ?_ _ _) | (with_reducible refine Below.alloc ?_ ?_ _) | (with_reducible refine Below.setCell ?_ ?_ _) | (with_reducible refine Below.drew ?_) | (with_reducible refine below_draws ?_ _) | go_size | (simp [size_ext]; done) | (simp [size_ext]; omega)))⟩
    · obtain rfl : i = n + 1 := by omega
      have t0 : ¬ ((n + 1 : Nat) : Int) < (n : Int) + 1 := by omega
      have hg := HG.out
      rw [getT_none fun j hj => hno.out j (by rw [hln.out] at hj; omega)] at hg
      simp only [tellG, Prod.mk.injEq] at hg
      obtain ⟨rfl, rfl, rfl⟩ := hg
      clear HG
      go_wp2
      go_ret3
      exact ⟨rfl, HLOW.out⟩
end Go.Proofs.YtemgbfppdopfbaaDoor
