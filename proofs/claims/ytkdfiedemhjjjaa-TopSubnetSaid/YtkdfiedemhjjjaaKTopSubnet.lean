/- TopSubnet is true of every input: a subnet, laid in a message as an option, sent and read again, is the subnet, masked, and who was in it is in it. No condition. -/
import Derived.Test.YtkdfiedemhjjjaaK14
import Derived.Test.YtkdfiedemhjjjaaK19
import Derived.OpenShut
import Derived.JoinedCond
namespace Go.Proofs.Ytkdfiedemhjjjaa
open Go.ChangeShapes Go.WideShapes Go.ChangeAt Go.RowKit
set_option linter.unusedVariables false
set_option linter.unusedSimpArgs false
namespace topSubnet

theorem sent_any (w : World) : Calls Try.prog 23 #[] w fun e w' => e = .returned (.bool true) ∧ Below w.heap.size w w' := by
  have tk0 : True := trivial; have tk1 : True := trivial; have tk2 : True := trivial; have tk3 : True := trivial; have tk4 : True := trivial; have tk5 : True := trivial; have tk6 : True := trivial; have tk7 : True := trivial; have tk8 : True := trivial; have tk9 : True := trivial; have tk10 : True := trivial; have tk11 : True := trivial; have tk12 : True := trivial
  go_enter Try.func23, Try.ntmps23
  go_wp2_with (go_at_call 12; have _t := tk0; (with_reducible refine (msgwrite_fact _).mono ?_); rintro e w1 ⟨Atk0, ctk0, rfl, hr, hb⟩; obtain ⟨otk0, dtk0, rfl⟩ := ext_of_below hb; (try simp only [ext_drew, ext_drewN] at hr); have RF := hid hr; clear hr; clear hb tk0)
  go_ret
  exact ⟨by first | rfl | (simp; done), (by (repeat' (first | (with_reducible exact Below.refl _ _) | (with_reducible assumption) | (with_reducible refine below_ext0 ?_ _ _) | (with_reducible refine below_alloc0 ?_ _) | (with_reducible refine Below.ext ?_ ?_ _ _) | (with_reducible refine Below.alloc ?_ ?_ _) | (with_reducible refine Below.setCell ?_ ?_ _) | (with_reducible refine Below.drew ?_) | (with_reducible refine below_draws ?_ _) | go_size | (simp [size_ext]; done) | (simp [size_ext]; omega))))⟩
theorem rd_opt1 {W : World} {g : Nat} {t : TypeId} {A : Option Addr} {n c : Nat} {d : List UInt8} (hb : Blk W g t #[.int .i64 8, .slice A n c]) (hr : Rd u8R W W.heap.size A n c d) : Rd oR W W.heap.size (some ⟨g, 0, none⟩) 1 1 [(8, d, ())] := by
  refine ⟨rfl, Nat.le_refl _, by unfold maxLen; omega, by simp [oR, pairR, intR, sliceR, unitR], fun e => (by cases e), fun i hi => ?_⟩
  have : i = 0 := by simpa using hi
  subst this
  refine ⟨g, 0, _, rfl, hb.lt, rel_o (by unfold I64; omega) hr, fun j u hu => ?_⟩
  rw [hb.cell]
  simpa using hu
def x0 : OptX := ⟨1232, 0, 0, false, 0⟩
section
variable {w : World} {h : Hd} {Aq Ax Ay Az : Option Addr} {nq cq nx cx ny cy nz cz : Nat} {qs : List QT} {xs ys zs : List RecT} {f s sc : Int} {A1 : Option Addr} {n1 c1 : Nat} {l1 : List UInt8} {A2 : Option Addr} {n2 c2 : Nat} {l2 : List UInt8}
set_option maxRecDepth 100000 in
set_option maxHeartbeats 8000000 in
theorem way_no (k : ¬ SOk f s sc n1) :
    Calls Try.prog 7 #[.agg (msgC h (.slice Aq nq cq) (.slice Ax nx cx) (.slice Ay ny cy) (.slice Az nz cz)), subnetV f s sc A1 n1 c1, .slice A2 n2 c2] w fun e w' => e = .returned (.bool true) ∧ Below w.heap.size w w' := by
  have CE := hid fun w' => Encode_bad w' f s sc A1 n1 c1 k
  clear k
  have tk0 : True := trivial; have tk1 : True := trivial; have tk2 : True := trivial; have tk3 : True := trivial; have tk4 : True := trivial; have tk5 : True := trivial; have tk6 : True := trivial; have tk7 : True := trivial; have tk8 : True := trivial; have tk9 : True := trivial; have tk10 : True := trivial; have tk11 : True := trivial; have tk12 : True := trivial
  go_enter Try.func7, Try.ntmps7
  go_wp2_with (first
    | (go_at_call 23; have _t := tk1; (with_reducible refine (sent_any _).mono ?_); rintro e w1 ⟨rfl, hb⟩; obtain ⟨otk1, dtk1, rfl⟩ := ext_of_below hb; clear hb tk1)
    | (go_at_call 25; have _t := tk2; (with_reducible refine (CE.out _).mono ?_); rintro e w1 ⟨rfl, hb⟩; obtain ⟨otk2, dtk2, rfl⟩ := ext_of_below hb; clear hb tk2))
  go_ret
  exact ⟨rfl, (by (repeat' (first | (with_reducible exact Below.refl _ _) | (with_reducible assumption) | (with_reducible refine below_ext0 ?_ _ _) | (with_reducible refine below_alloc0 ?_ _) | (with_reducible refine Below.ext ?_ ?_ _ _) | (with_reducible refine Below.alloc ?_ ?_ _) | (with_reducible refine Below.setCell ?_ ?_ _) | (with_reducible refine Below.drew ?_) | (with_reducible refine below_draws ?_ _) | go_size | (simp [size_ext]; done) | (simp [size_ext]; omega))))⟩
set_option maxRecDepth 100000 in
set_option maxHeartbeats 8000000 in
theorem way_long (hQ : Rd qR w w.heap.size Aq nq cq qs) (hX : Rd recR w w.heap.size Ax nx cx xs) (hY : Rd recR w w.heap.size Ay ny cy ys) (hZ : Rd recR w w.heap.size Az nz cz zs) (tz : nz * 72 ≤ 140737488351232) (h1 : Rd u8R w w.heap.size A1 n1 c1 l1) (k : SOk f s sc n1)
    {os : List OT} (ho : os = [(8, encL f s sc l1, ())]) (he : optsErr os = 0) (hd : (dataO os).length ≤ 65535) {ss : List RecT} (hs : silent zs ++ [recO x0 os] = ss) {E : Int} (hT : (msgT h qs xs ys ss).1 = E) (hE : E ≠ 0) :
    Calls Try.prog 7 #[.agg (msgC h (.slice Aq nq cq) (.slice Ax nx cx) (.slice Ay ny cy) (.slice Az nz cz)), subnetV f s sc A1 n1 c1, .slice A2 n2 c2] w fun e w' => e = .returned (.bool true) ∧ Below w.heap.size w w' := by
  obtain ⟨ns, hns⟩ : ∃ ns, ss.length = ns := ⟨_, rfl⟩
  have CE := hid fun w' (hb : Below w.heap.size w w') => Encode_ok w' f s sc A1 n1 c1 l1 (h1.later hb) k
  have CS := hid fun (w' : World) Ao co (hb : Below w.heap.size w w') (hO : Rd oR w' w'.heap.size Ao 1 co [(8, encL f s sc l1, ())]) => set_yes (h := h) (hQ.later hb) (hX.later hb) (hY.later hb) (hZ.later hb) tz (x := x0) (by rw [← ho] at hO; exact hO) fact_ok2 he hd hs hns
  have CW := hid fun (w' : World) Aq cq Ax cx Ay cy Az cz (q : Rd qR w' w'.heap.size Aq nq cq qs) (x : Rd recR w' w'.heap.size Ax nx cx xs) (y : Rd recR w' w'.heap.size Ay ny cy ys) (t : Rd recR w' w'.heap.size Az ns cz ss) => msgwrite_no (h := h) q x y t hT hE
  clear hQ hX hY hZ h1 k ho he hd hs hT hE hns tz
  unfold x0 at CS
  have tk0 : True := trivial; have tk1 : True := trivial; have tk2 : True := trivial; have tk3 : True := trivial; have tk4 : True := trivial; have tk5 : True := trivial; have tk6 : True := trivial; have tk7 : True := trivial; have tk8 : True := trivial; have tk9 : True := trivial; have tk10 : True := trivial; have tk11 : True := trivial; have tk12 : True := trivial
  go_enter Try.func7, Try.ntmps7
  go_wp2_with (first
    | (go_at_call 23; have _t := tk1; (with_reducible refine (sent_any _).mono ?_); rintro e w1 ⟨rfl, hb⟩; obtain ⟨otk1, dtk1, rfl⟩ := ext_of_below hb; clear hb tk1)
    | (go_at_call 25; have _t := tk2; (with_reducible refine (CE.out _ (by (repeat' (first | (with_reducible exact Below.refl _ _) | (with_reducible assumption) | (with_reducible refine below_ext0 ?_ _ _) | (with_reducible refine below_alloc0 ?_ _) | (with_reducible refine Below.ext ?_ ?_ _ _) | (with_reducible refine Below.alloc ?_ ?_ _) | (with_reducible refine Below.setCell ?_ ?_ _) | (with_reducible refine Below.drew ?_) | (with_reducible refine below_draws ?_ _) | go_size | (simp [size_ext]; done) | (simp [size_ext]; omega))))).mono ?_); rintro e w1 ⟨A3, n3, c3, rfl, hr, hb⟩; obtain ⟨o3, d3, rfl⟩ := ext_of_below hb; (try simp only [ext_drew, ext_drewN] at hr); have R2 := hid hr; clear hr; clear hb tk2)
    | (go_at_call 17; have _t := tk3; (with_reducible refine (CS.out _ _ _ (by (repeat' (first | (with_reducible exact Below.refl _ _) | (with_reducible assumption) | (with_reducible refine below_ext0 ?_ _ _) | (with_reducible refine below_alloc0 ?_ _) | (with_reducible refine Below.ext ?_ ?_ _ _) | (with_reducible refine Below.alloc ?_ ?_ _) | (with_reducible refine Below.setCell ?_ ?_ _) | (with_reducible refine Below.drew ?_) | (with_reducible refine below_draws ?_ _) | go_size | (simp [size_ext]; done) | (simp [size_ext]; omega)))) (rd_opt1 (by ((repeat' (first | (with_reducible assumption) | (with_reducible refine Blk.drew ?_) | exact Blk.new' _ _ (by first | rfl | (simp [size_ext]; done) | (simp [size_ext]; omega)) | (with_reducible refine Blk.ext ?_ _ _) | (with_reducible refine Blk.alloc ?_ _))); (all_goals fail))) (R2.out.later (by (repeat' (first | (with_reducible exact Below.refl _ _) | (with_reducible assumption) | (with_reducible refine below_ext0 ?_ _ _) | (with_reducible refine below_alloc0 ?_ _) | (with_reducible refine Below.ext ?_ ?_ _ _) | (with_reducible refine Below.alloc ?_ ?_ _) | (with_reducible refine Below.setCell ?_ ?_ _) | (with_reducible refine Below.drew ?_) | (with_reducible refine below_draws ?_ _) | go_size | (simp [size_ext]; done) | (simp [size_ext]; omega))))))).mono ?_); rintro e w1 ⟨Aqtk3, cqtk3, Axtk3, cxtk3, Aytk3, cytk3, Aztk3, cztk3, rfl, ⟨hrq, hrx, hry, hrz⟩, hb⟩; obtain ⟨otk3, dtk3, rfl⟩ := ext_of_below hb; (try simp only [ext_drew, ext_drewN] at hrq); have R3q := hid hrq; clear hrq; (try simp only [ext_drew, ext_drewN] at hrx); have R3x := hid hrx; clear hrx; (try simp only [ext_drew, ext_drewN] at hry); have R3y := hid hry; clear hry; (try simp only [ext_drew, ext_drewN] at hrz); have R3z := hid hrz; clear hrz; clear hb tk3)
    | (go_at_call 12; have _t := tk4; (with_reducible refine (CW.out _ _ _ _ _ _ _ _ _ (R3q.out.later (by (repeat' (first | (with_reducible exact Below.refl _ _) | (with_reducible assumption) | (with_reducible refine below_ext0 ?_ _ _) | (with_reducible refine below_alloc0 ?_ _) | (with_reducible refine Below.ext ?_ ?_ _ _) | (with_reducible refine Below.alloc ?_ ?_ _) | (with_reducible refine Below.setCell ?_ ?_ _) | (with_reducible refine Below.drew ?_) | (with_reducible refine below_draws ?_ _) | go_size | (simp [size_ext]; done) | (simp [size_ext]; omega))))) (R3x.out.later (by (repeat' (first | (with_reducible exact Below.refl _ _) | (with_reducible assumption) | (with_reducible refine below_ext0 ?_ _ _) | (with_reducible refine below_alloc0 ?_ _) | (with_reducible refine Below.ext ?_ ?_ _ _) | (with_reducible refine Below.alloc ?_ ?_ _) | (with_reducible refine Below.setCell ?_ ?_ _) | (with_reducible refine Below.drew ?_) | (with_reducible refine below_draws ?_ _) | go_size | (simp [size_ext]; done) | (simp [size_ext]; omega))))) (R3y.out.later (by (repeat' (first | (with_reducible exact Below.refl _ _) | (with_reducible assumption) | (with_reducible refine below_ext0 ?_ _ _) | (with_reducible refine below_alloc0 ?_ _) | (with_reducible refine Below.ext ?_ ?_ _ _) | (with_reducible refine Below.alloc ?_ ?_ _) | (with_reducible refine Below.setCell ?_ ?_ _) | (with_reducible refine Below.drew ?_) | (with_reducible refine below_draws ?_ _) | go_size | (simp [size_ext]; done) | (simp [size_ext]; omega))))) (R3z.out.later (by (repeat' (first | (with_reducible exact Below.refl _ _) | (with_reducible assumption) | (with_reducible refine below_ext0 ?_ _ _) | (with_reducible refine below_alloc0 ?_ _) | (with_reducible refine Below.ext ?_ ?_ _ _) | (with_reducible refine Below.alloc ?_ ?_ _) | (with_reducible refine Below.setCell ?_ ?_ _) | (with_reducible refine Below.drew ?_) | (with_reducible refine below_draws ?_ _) | go_size | (simp [size_ext]; done) | (simp [size_ext]; omega)))))).mono ?_); rintro e w1 ⟨rfl, hb⟩; obtain ⟨otk4, dtk4, rfl⟩ := ext_of_below hb; clear hb tk4))
  go_ret
  exact ⟨rfl, (by (repeat' (first | (with_reducible exact Below.refl _ _) | (with_reducible assumption) | (with_reducible refine below_ext0 ?_ _ _) | (with_reducible refine below_alloc0 ?_ _) | (with_reducible refine Below.ext ?_ ?_ _ _) | (with_reducible refine Below.alloc ?_ ?_ _) | (with_reducible refine Below.setCell ?_ ?_ _) | (with_reducible refine Below.drew ?_) | (with_reducible refine below_draws ?_ _) | go_size | (simp [size_ext]; done) | (simp [size_ext]; omega))))⟩
set_option maxRecDepth 100000 in
set_option maxHeartbeats 8000000 in
theorem way_yes (hQ : Rd qR w w.heap.size Aq nq cq qs) (hX : Rd recR w w.heap.size Ax nx cx xs) (hY : Rd recR w w.heap.size Ay ny cy ys) (hZ : Rd recR w w.heap.size Az nz cz zs) (tz : nz * 72 ≤ 140737488351232) (h1 : Rd u8R w w.heap.size A1 n1 c1 l1) (k : SOk f s sc n1) (h2 : Rd u8R w w.heap.size A2 n2 c2 l2)
    {os : List OT} (ho : os = [(8, encL f s sc l1, ())]) (he : optsErr os = 0) (hd : (dataO os).length ≤ 65535) {ss : List RecT} (hs : silent zs ++ [recO x0 os] = ss) {b : List UInt8} (hT : msgT h qs xs ys ss = (0, b)) :
    Calls Try.prog 7 #[.agg (msgC h (.slice Aq nq cq) (.slice Ax nx cx) (.slice Ay ny cy) (.slice Az nz cz)), subnetV f s sc A1 n1 c1, .slice A2 n2 c2] w fun e w' => e = .returned (.bool true) ∧ Below w.heap.size w w' := by
  obtain ⟨ns, hns⟩ : ∃ ns, ss.length = ns := ⟨_, rfl⟩
  obtain ⟨kb, hkb⟩ : ∃ kb, b.length = kb := ⟨_, rfl⟩
  obtain ⟨b1, b2, _⟩ := msg_back hT
  have CE := hid fun w' (hb : Below w.heap.size w w') => Encode_ok w' f s sc A1 n1 c1 l1 (h1.later hb) k
  have CS := hid fun (w' : World) Ao co (hb : Below w.heap.size w w') (hO : Rd oR w' w'.heap.size Ao 1 co [(8, encL f s sc l1, ())]) => set_yes (h := h) (hQ.later hb) (hX.later hb) (hY.later hb) (hZ.later hb) tz (x := x0) (by rw [← ho] at hO; exact hO) fact_ok2 he hd hs hns
  have CW := hid fun (w' : World) Aq cq Ax cx Ay cy Az cz (q : Rd qR w' w'.heap.size Aq nq cq qs) (x : Rd recR w' w'.heap.size Ax nx cx xs) (y : Rd recR w' w'.heap.size Ay ny cy ys) (t : Rd recR w' w'.heap.size Az ns cz ss) => msgwrite_yes (h := h) q x y t hT hkb
  have CR := hid fun (w' : World) A c (hr : Rd u8R w' w'.heap.size A kb c b) => msgread_yes hr b1 b2 hQ.len hX.len hY.len hns
  have CF := hid fun (w' : World) Aq nq cq Ax nx cx Ay ny cy Az cz (t : Rd recR w' w'.heap.size Az ns cz ss) => find_put (h := h) (Aq := Aq) (Ax := Ax) (Ay := Ay) (nq := nq) (cq := cq) (nx := nx) (cx := cx) (ny := ny) (cy := cy) (zs := zs) (x := x0) (os := [(8, encL f s sc l1, ())]) (by rw [← ho, hs]; exact t) fact_ok2 (by rw [← ho]; exact he) (by rw [← ho]; exact hd) (no := 1) rfl
  have CD := hid fun (w' : World) A m c (hr : Rd u8R w' w'.heap.size A m c (encL f s sc l1)) => subnetBack.Decode_enc w' f s sc n1 l1 h1.len k A m c hr
  have CI := fun (w' : World) (hb : Below w.heap.size w w') => In_any w' A2 n2 c2 l2 (h2.later hb) f s sc A1 n1 c1 l1 (h1.later hb)
  have CJ := fun (w' : World) A m c (hb : Below w.heap.size w w') (hr : Rd u8R w' w'.heap.size A m c (maskL l1 s)) => In_any w' A2 n2 c2 l2 (h2.later hb) f s sc A m c (maskL l1 s) hr
  have hin : inB f s sc l2 (maskL l1 s) = inB f s sc l2 l1 := by
    unfold inB
    rw [maskL_len, maskL_maskL, if_pos (Int.le_refl _)]
  rw [hin] at CJ
  obtain ⟨B, hB⟩ : ∃ B, inB f s sc l2 l1 = B := ⟨_, rfl⟩
  rw [hB] at CI CJ
  replace CI := hid CI
  replace CJ := hid CJ
  clear hQ hX hY hZ h1 h2 k ho he hd hs hT hns hkb b1 b2 tz hin hB
  unfold x0 at CS CF
  have tk0 : True := trivial; have tk1 : True := trivial; have tk2 : True := trivial; have tk3 : True := trivial; have tk4 : True := trivial; have tk5 : True := trivial; have tk6 : True := trivial; have tk7 : True := trivial; have tk8 : True := trivial; have tk9 : True := trivial; have tk10 : True := trivial; have tk11 : True := trivial; have tk12 : True := trivial
  go_enter Try.func7, Try.ntmps7
  go_wp2_with (first
    | (go_at_call 23; have _t := tk1; (with_reducible refine (sent_any _).mono ?_); rintro e w1 ⟨rfl, hb⟩; obtain ⟨otk1, dtk1, rfl⟩ := ext_of_below hb; clear hb tk1)
    | (go_at_call 25; have _t := tk2; (with_reducible refine (CE.out _ (by (repeat' (first | (with_reducible exact Below.refl _ _) | (with_reducible assumption) | (with_reducible refine below_ext0 ?_ _ _) | (with_reducible refine below_alloc0 ?_ _) | (with_reducible refine Below.ext ?_ ?_ _ _) | (with_reducible refine Below.alloc ?_ ?_ _) | (with_reducible refine Below.setCell ?_ ?_ _) | (with_reducible refine Below.drew ?_) | (with_reducible refine below_draws ?_ _) | go_size | (simp [size_ext]; done) | (simp [size_ext]; omega))))).mono ?_); rintro e w1 ⟨A3, n3, c3, rfl, hr, hb⟩; obtain ⟨o3, d3, rfl⟩ := ext_of_below hb; (try simp only [ext_drew, ext_drewN] at hr); have R2 := hid hr; clear hr; clear hb tk2)
    | (go_at_call 17; have _t := tk3; (with_reducible refine (CS.out _ _ _ (by (repeat' (first | (with_reducible exact Below.refl _ _) | (with_reducible assumption) | (with_reducible refine below_ext0 ?_ _ _) | (with_reducible refine below_alloc0 ?_ _) | (with_reducible refine Below.ext ?_ ?_ _ _) | (with_reducible refine Below.alloc ?_ ?_ _) | (with_reducible refine Below.setCell ?_ ?_ _) | (with_reducible refine Below.drew ?_) | (with_reducible refine below_draws ?_ _) | go_size | (simp [size_ext]; done) | (simp [size_ext]; omega)))) (rd_opt1 (by ((repeat' (first | (with_reducible assumption) | (with_reducible refine Blk.drew ?_) | exact Blk.new' _ _ (by first | rfl | (simp [size_ext]; done) | (simp [size_ext]; omega)) | (with_reducible refine Blk.ext ?_ _ _) | (with_reducible refine Blk.alloc ?_ _))); (all_goals fail))) (R2.out.later (by (repeat' (first | (with_reducible exact Below.refl _ _) | (with_reducible assumption) | (with_reducible refine below_ext0 ?_ _ _) | (with_reducible refine below_alloc0 ?_ _) | (with_reducible refine Below.ext ?_ ?_ _ _) | (with_reducible refine Below.alloc ?_ ?_ _) | (with_reducible refine Below.setCell ?_ ?_ _) | (with_reducible refine Below.drew ?_) | (with_reducible refine below_draws ?_ _) | go_size | (simp [size_ext]; done) | (simp [size_ext]; omega))))))).mono ?_); rintro e w1 ⟨Aqtk3, cqtk3, Axtk3, cxtk3, Aytk3, cytk3, Aztk3, cztk3, rfl, ⟨hrq, hrx, hry, hrz⟩, hb⟩; obtain ⟨otk3, dtk3, rfl⟩ := ext_of_below hb; (try simp only [ext_drew, ext_drewN] at hrq); have R3q := hid hrq; clear hrq; (try simp only [ext_drew, ext_drewN] at hrx); have R3x := hid hrx; clear hrx; (try simp only [ext_drew, ext_drewN] at hry); have R3y := hid hry; clear hry; (try simp only [ext_drew, ext_drewN] at hrz); have R3z := hid hrz; clear hrz; clear hb tk3)
    | (go_at_call 12; have _t := tk4; (with_reducible refine (CW.out _ _ _ _ _ _ _ _ _ (R3q.out.later (by (repeat' (first | (with_reducible exact Below.refl _ _) | (with_reducible assumption) | (with_reducible refine below_ext0 ?_ _ _) | (with_reducible refine below_alloc0 ?_ _) | (with_reducible refine Below.ext ?_ ?_ _ _) | (with_reducible refine Below.alloc ?_ ?_ _) | (with_reducible refine Below.setCell ?_ ?_ _) | (with_reducible refine Below.drew ?_) | (with_reducible refine below_draws ?_ _) | go_size | (simp [size_ext]; done) | (simp [size_ext]; omega))))) (R3x.out.later (by (repeat' (first | (with_reducible exact Below.refl _ _) | (with_reducible assumption) | (with_reducible refine below_ext0 ?_ _ _) | (with_reducible refine below_alloc0 ?_ _) | (with_reducible refine Below.ext ?_ ?_ _ _) | (with_reducible refine Below.alloc ?_ ?_ _) | (with_reducible refine Below.setCell ?_ ?_ _) | (with_reducible refine Below.drew ?_) | (with_reducible refine below_draws ?_ _) | go_size | (simp [size_ext]; done) | (simp [size_ext]; omega))))) (R3y.out.later (by (repeat' (first | (with_reducible exact Below.refl _ _) | (with_reducible assumption) | (with_reducible refine below_ext0 ?_ _ _) | (with_reducible refine below_alloc0 ?_ _) | (with_reducible refine Below.ext ?_ ?_ _ _) | (with_reducible refine Below.alloc ?_ ?_ _) | (with_reducible refine Below.setCell ?_ ?_ _) | (with_reducible refine Below.drew ?_) | (with_reducible refine below_draws ?_ _) | go_size | (simp [size_ext]; done) | (simp [size_ext]; omega))))) (R3z.out.later (by (repeat' (first | (with_reducible exact Below.refl _ _) | (with_reducible assumption) | (with_reducible refine below_ext0 ?_ _ _) | (with_reducible refine below_alloc0 ?_ _) | (with_reducible refine Below.ext ?_ ?_ _ _) | (with_reducible refine Below.alloc ?_ ?_ _) | (with_reducible refine Below.setCell ?_ ?_ _) | (with_reducible refine Below.drew ?_) | (with_reducible refine below_draws ?_ _) | go_size | (simp [size_ext]; done) | (simp [size_ext]; omega)))))).mono ?_); rintro e w1 ⟨Atk4, ctk4, rfl, hr, hb⟩; obtain ⟨otk4, dtk4, rfl⟩ := ext_of_below hb; (try simp only [ext_drew, ext_drewN] at hr); have R4 := hid hr; clear hr; clear hb tk4)
    | (go_at_call 18; have _t := tk5; (with_reducible refine (CR.out _ _ _ (R4.out.later (by (repeat' (first | (with_reducible exact Below.refl _ _) | (with_reducible assumption) | (with_reducible refine below_ext0 ?_ _ _) | (with_reducible refine below_alloc0 ?_ _) | (with_reducible refine Below.ext ?_ ?_ _ _) | (with_reducible refine Below.alloc ?_ ?_ _) | (with_reducible refine Below.setCell ?_ ?_ _) | (with_reducible refine Below.drew ?_) | (with_reducible refine below_draws ?_ _) | go_size | (simp [size_ext]; done) | (simp [size_ext]; omega)))))).mono ?_); rintro e w1 ⟨Aqtk5, cqtk5, Axtk5, cxtk5, Aytk5, cytk5, Aztk5, cztk5, rfl, ⟨hrq, hrx, hry, hrz⟩, hb⟩; obtain ⟨otk5, dtk5, rfl⟩ := ext_of_below hb; (try simp only [ext_drew, ext_drewN] at hrq); have R5q := hid hrq; clear hrq; (try simp only [ext_drew, ext_drewN] at hrx); have R5x := hid hrx; clear hrx; (try simp only [ext_drew, ext_drewN] at hry); have R5y := hid hry; clear hry; (try simp only [ext_drew, ext_drewN] at hrz); have R5z := hid hrz; clear hrz; clear hb tk5))
  (with_reducible refine (CF.out _ _ _ _ _ _ _ _ _ _ _ _ (R5z.out.later (by (repeat' (first | (with_reducible exact Below.refl _ _) | (with_reducible assumption) | (with_reducible refine below_ext0 ?_ _ _) | (with_reducible refine below_alloc0 ?_ _) | (with_reducible refine Below.ext ?_ ?_ _ _) | (with_reducible refine Below.alloc ?_ ?_ _) | (with_reducible refine Below.setCell ?_ ?_ _) | (with_reducible refine Below.drew ?_) | (with_reducible refine below_draws ?_ _) | go_size | (simp [size_ext]; done) | (simp [size_ext]; omega)))))).mono ?_)
  rintro e w6 ⟨A6, c6, rfl, hr, hb⟩
  have kx := (Blk.below (by ((repeat' (first | (with_reducible assumption) | (with_reducible refine Blk.drew ?_) | exact Blk.new' _ _ (by first | rfl | (simp [size_ext]; done) | (simp [size_ext]; omega)) | (with_reducible refine Blk.ext ?_ _ _) | (with_reducible refine Blk.alloc ?_ _))); (all_goals fail))) hb (by first | omega | (simp [size_ext]; done) | (simp [size_ext]; omega)) : Blk w6 (w.heap.size + 1) 71 #[.int .i64 f, .int .i64 s, .int .i64 sc, .slice A1 n1 c1])
  have HB6 := hid (Below.trans (by (repeat' (first | (with_reducible exact Below.refl _ _) | (with_reducible assumption) | (with_reducible refine below_ext0 ?_ _ _) | (with_reducible refine below_alloc0 ?_ _) | (with_reducible refine Below.ext ?_ ?_ _ _) | (with_reducible refine Below.alloc ?_ ?_ _) | (with_reducible refine Below.setCell ?_ ?_ _) | (with_reducible refine Below.drew ?_) | (with_reducible refine below_draws ?_ _) | go_size | (simp [size_ext]; done) | (simp [size_ext]; omega)))) (hb.mono (by first | omega | (simp [size_ext]; done) | (simp [size_ext]; omega))) : Below w.heap.size w w6)
  obtain ⟨b6, o6, C6, A7, n7, c7, d7, rfl, hb6, e6, x60, x61, r7, _⟩ := hr.opt 0 (by decide)
  simp only [Nat.zero_mul, Nat.add_zero] at x60 x61
  cases e6
  have f0 : w6.cell? ⟨w.heap.size + 1, 0, none⟩ = some (.int .i64 f) := kx.cell 0
  have f1 : w6.cell? ⟨w.heap.size + 1, 1, none⟩ = some (.int .i64 s) := kx.cell 1
  have f2 : w6.cell? ⟨w.heap.size + 1, 2, none⟩ = some (.int .i64 sc) := kx.cell 2
  have f3 : w6.cell? ⟨w.heap.size + 1, 3, none⟩ = some (.slice A1 n1 c1) := kx.cell 3
  have z6 := kx.lt
  have g6 : ¬ b6 = w6.heap.size := by omega
  have g7 : ¬ w6.heap.size = b6 := by omega
  have R7 := hid r7
  have KX6 := hid kx
  clear hr hb kx r7 tk6
  go_wp2_with fail
  (with_reducible refine (CD.out _ _ _ _ (R7.out.later (by (repeat' (first | (with_reducible exact Below.refl _ _) | (with_reducible assumption) | (with_reducible refine below_ext0 ?_ _ _) | (with_reducible refine below_alloc0 ?_ _) | (with_reducible refine Below.ext ?_ ?_ _ _) | (with_reducible refine Below.alloc ?_ ?_ _) | (with_reducible refine Below.setCell ?_ ?_ _) | (with_reducible refine Below.drew ?_) | (with_reducible refine below_draws ?_ _) | go_size | (simp [size_ext]; done) | (simp [size_ext]; omega)))))).mono ?_)
  rintro e w7 ⟨A8, m8, c8, rfl, hr, hb⟩
  have kx7 : Blk w7 (w.heap.size + 1) 71 #[.int .i64 f, .int .i64 s, .int .i64 sc, .slice A1 n1 c1] := Blk.below (KX6.out.alloc _) hb (by have := KX6.out.lt; simp; omega)
  have HB7 := hid (HB6.out.trans (Below.trans (by (repeat' (first | (with_reducible exact Below.refl _ _) | (with_reducible assumption) | (with_reducible refine below_ext0 ?_ _ _) | (with_reducible refine below_alloc0 ?_ _) | (with_reducible refine Below.ext ?_ ?_ _ _) | (with_reducible refine Below.alloc ?_ ?_ _) | (with_reducible refine Below.setCell ?_ ?_ _) | (with_reducible refine Below.drew ?_) | (with_reducible refine below_draws ?_ _) | go_size | (simp [size_ext]; done) | (simp [size_ext]; omega))) : Below w.heap.size w6 _) (hb.mono (by have := HB6.out.size; simp; omega))))
  have z7 := kx7.lt
  have p0 : w7.cell? ⟨w.heap.size + 1, 0, none⟩ = some (.int .i64 f) := kx7.cell 0
  have p1 : w7.cell? ⟨w.heap.size + 1, 1, none⟩ = some (.int .i64 s) := kx7.cell 1
  have p2 : w7.cell? ⟨w.heap.size + 1, 2, none⟩ = some (.int .i64 sc) := kx7.cell 2
  have p3 : w7.cell? ⟨w.heap.size + 1, 3, none⟩ = some (.slice A1 n1 c1) := kx7.cell 3
  have g8 : ¬ w.heap.size + 1 = w7.heap.size := by omega
  have z8 : w.heap.size < w7.heap.size := by omega
  (try simp only [ext_drew, ext_drewN] at hr); have R8 := hid hr; clear hr
  clear hb kx7 tk7
  go_wp2_with fail
  refine wp_region_ext (by kernel_rfl) (by kernel_rfl) ?_
  repeat (go_big_quiet_step ((first | (go_at_call 27; with_reducible exact Calls.quiet_ext (CJ.out _ _ _ _ (by have := HB7.out; ((first | (with_reducible refine exts_below ?_ ?_ _) | skip); (repeat' (first | (with_reducible exact Below.refl _ _) | (with_reducible assumption) | (with_reducible refine below_ext0 ?_ _ _) | (with_reducible refine below_alloc0 ?_ _) | (with_reducible refine Below.ext ?_ ?_ _ _) | (with_reducible refine Below.alloc ?_ ?_ _) | (with_reducible refine Below.setCell ?_ ?_ _) | (with_reducible refine Below.drew ?_) | (with_reducible refine below_draws ?_ _) | go_size | (simp [size_ext]; done) | (simp [size_ext]; omega))))) (R8.out.later (by ((first | (with_reducible refine exts_below ?_ ?_ _) | skip); (repeat' (first | (with_reducible exact Below.refl _ _) | (with_reducible assumption) | (with_reducible refine below_ext0 ?_ _ _) | (with_reducible refine below_alloc0 ?_ _) | (with_reducible refine Below.ext ?_ ?_ _ _) | (with_reducible refine Below.alloc ?_ ?_ _) | (with_reducible refine Below.setCell ?_ ?_ _) | (with_reducible refine Below.drew ?_) | (with_reducible refine below_draws ?_ _) | go_size | (simp [size_ext]; done) | (simp [size_ext]; omega)))))))) | (go_at_call 27; with_reducible exact Calls.quiet_ext (CI.out _ (by have := HB7.out; ((first | (with_reducible refine exts_below ?_ ?_ _) | skip); (repeat' (first | (with_reducible exact Below.refl _ _) | (with_reducible assumption) | (with_reducible refine below_ext0 ?_ _ _) | (with_reducible refine below_alloc0 ?_ _) | (with_reducible refine Below.ext ?_ ?_ _ _) | (with_reducible refine Below.alloc ?_ ?_ _) | (with_reducible refine Below.setCell ?_ ?_ _) | (with_reducible refine Below.drew ?_) | (with_reducible refine below_draws ?_ _) | go_size | (simp [size_ext]; done) | (simp [size_ext]; omega))))))))))
  refine wpQuiet_nil ?_
  rintro _ ⟨⟨os, d⟩, rfl⟩
  simp only [exts]
  go_wp2
  go_ret
  exact ⟨by first | rfl | (simp; done), (by have := HB7.out; (repeat' (first | (with_reducible exact Below.refl _ _) | (with_reducible assumption) | (with_reducible refine below_ext0 ?_ _ _) | (with_reducible refine below_alloc0 ?_ _) | (with_reducible refine Below.ext ?_ ?_ _ _) | (with_reducible refine Below.alloc ?_ ?_ _) | (with_reducible refine Below.setCell ?_ ?_ _) | (with_reducible refine Below.drew ?_) | (with_reducible refine below_draws ?_ _) | go_size | (simp [size_ext]; done) | (simp [size_ext]; omega))))⟩
end
theorem os_ok {f s sc : Int} {l : List UInt8} {n : Nat} (hn : l.length = n) (k : SOk f s sc n) : optsErr [(8, encL f s sc l, ())] = 0 ∧ (dataO [(8, encL f s sc l, ())]).length ≤ 65535 := by
  obtain ⟨e1, e2⟩ := subnetBack.enc_len f s sc l n hn k
  have hn16 : n ≤ 16 := by rcases (SOk_iff f s sc n).1 k with ⟨⟨_, h⟩ | ⟨_, h⟩, _⟩ <;> omega
  constructor
  · rw [optsErr]
    simp only
    rw [if_pos (by omega), if_pos (by omega)]
    rfl
  · simp [dataO, optB, two2_len]
    omega
theorem walk (w : World) (x : MsgX) (cs : Array Value) (hx : messageT.rel w w.heap.size x cs.toList) (y : Int × Int × Int × List UInt8 × Unit) (co : Array Value) (hy : subnetR.rel w w.heap.size y co.toList) (A2 : Option Addr) (n2 c2 : Nat) (l2 : List UInt8) (h2 : Rd u8R w w.heap.size A2 n2 c2 l2) :
    Calls Try.prog 7 #[.agg cs, .agg co, .slice A2 n2 c2] w fun e w' => e = .returned (.bool true) ∧ Below w.heap.size w w' := by
  obtain ⟨g, Aq, Ax, Ay, Az, nq, cq, nx, cx, ny, cy, nz, cz, u, qs, xs, ys, zs, rfl, rfl, ⟨a1, a2, a3, a4⟩, t1, t2, t3, t4⟩ := message_ofT hx
  obtain ⟨f, s, sc, A1, n1, c1, l1, _, rfl, _, _, _, h1⟩ := subnet_of hy
  by_cases k : SOk f s sc n1
  · obtain ⟨o1, o2⟩ := os_ok h1.len k
    obtain ⟨b, hb⟩ : ∃ b, msgT g qs xs ys (silent zs ++ [recO x0 [(8, encL f s sc l1, ())]]) = b := ⟨_, rfl⟩
    obtain ⟨E, b⟩ := b
    by_cases hE : E = 0
    · subst hE
      exact way_yes a1 a2 a3 a4 t4 h1 k h2 rfl o1 o2 rfl hb
    · exact way_long a1 a2 a3 a4 t4 h1 k rfl o1 o2 rfl (E := E) (by rw [hb]) hE
  · exact way_no k
set_option maxRecDepth 100000 in
theorem contract (H : Type) (enc : TypeId × Value → H) (W : World) (base : Nat) (args : Array Value) (ds gs : List (DataW H)) (before : List MemPlace)
    (hval : ∀ (j : Nat) t v, Try.f7.params[j]? = some t → args[j]? = some v → Value.okWide Try.prog W .any base t v)
    (hW : DataW.Whole enc Try.prog Try.f7.params.toList Rows.topSubnetSpec.vars false W args.toList ds gs before) (hsz : (DataW.weightsEach Try.prog (Try.f7.params.toList ++ Rows.topSubnetSpec.plain.varTypes Try.prog) (ds ++ gs)).all (· ≤ reachBytes) = true) :
    Calls Try.prog 7 args W fun e W' => ∃ v, e = .returned v ∧ Rows.topSubnetSpec.post enc Try.prog Try.f7 false true false false W args v W' := by
  have hW' := hW
  obtain ⟨p, q, hA0, hV, rfl, hfz, hnd⟩ := hW
  have hA : DataW.TrodAll enc Try.prog W 0 (fun _ => true) true Try.f7.params.toList args.toList ds p := hA0
  rw [Try.params7] at hA hval hsz
  obtain ⟨v0, vs0, d0, ds0, p0, q0, hargs, rfl, rfl, k0, r0⟩ := trodAll_cons hA
  obtain ⟨v1, vs1, d1, ds1, p1, q1, rfl, rfl, rfl, k1, r1⟩ := trodAll_cons r0
  obtain ⟨v2, vs2, d2, ds2, p2, q2, rfl, rfl, rfl, k2, r2⟩ := trodAll_cons r1
  obtain ⟨rfl, rfl, rfl⟩ := trodAll_nil r2
  obtain rfl : args = #[v0, v1, v2] := by cases args; simp_all
  obtain ⟨rfl, rfl⟩ := trodVars_none hV
  have lt0 : ∀ x ∈ p0, x.block < W.heap.size := by obtain ⟨m, hm⟩ := k0; exact DataW.trod_lt m _ _ _ hm
  have lt1 : ∀ x ∈ p1, x.block < W.heap.size := by obtain ⟨m, hm⟩ := k1; exact DataW.trod_lt m _ _ _ hm
  have lt2 : ∀ x ∈ p2, x.block < W.heap.size := by obtain ⟨m, hm⟩ := k2; exact DataW.trod_lt m _ _ _ hm
  have hsz' : ∀ k ∈ _, k ≤ reachBytes := fun k hk => of_decide_eq_true (List.all_eq_true.1 hsz k hk)
  have u0 : ∀ k ∈ d0.weights Try.prog 43, k ≤ reachBytes := fun k hk => hsz' k (by simp [DataW.weightsEach, hk])
  have u1 : ∀ k ∈ d1.weights Try.prog 71, k ≤ reachBytes := fun k hk => hsz' k (by simp [DataW.weightsEach, hk])
  have u2 : ∀ k ∈ d2.weights Try.prog 22, k ≤ reachBytes := fun k hk => hsz' k (by simp [DataW.weightsEach, hk])
  obtain ⟨x0, cs0, rfl, w0, z0⟩ := arg_struct Try.underlying43 opens_messageT (hval 0 43 v0 rfl rfl) k0 u0
  obtain ⟨x1, cs1, rfl, w1, z1⟩ := arg_struct Try.underlying71 opens_subnet (hval 1 71 v1 rfl rfl) k1 u1
  obtain ⟨A2, n2, c2, l2, rfl, w2, z2⟩ := arg_slice Try.underlying22 (opens_slice Try.underlying22 (opens_u8 Try.underlying5) (by kernel_rfl) (by decide) (of_decide_eq_true (by kernel_rfl))) (hval 2 22 v2 rfl rfl) k2 u2
  clear hA0 hA
  refine (walk W x0 cs0 w0 x1 cs1 w1 A2 n2 c2 l2 w2).mono fun e W' ⟨he, bel⟩ => ?_
  subst he
  exact ⟨_, rfl, _, _, _, [], _, [], hW', trodAll_mk1 (shut_bool Try.underlying4 _), (trodAll_cons_mk (Below.trod laidOut (by kernel_rfl) (of_decide_eq_true (by kernel_rfl)) k0 bel lt0) (trodAll_cons_mk (Below.trod laidOut (by kernel_rfl) (of_decide_eq_true (by kernel_rfl)) k1 bel lt1) (trodAll_cons_mk (Below.trod laidOut (by kernel_rfl) (of_decide_eq_true (by kernel_rfl)) k2 bel lt2) trodAll_mk0))), rfl, bel.frame _, fun h => by cases h⟩

set_option maxRecDepth 100000 in
theorem lifted (os : Os) (started : os.Started) (H : Type) (enc : TypeId × Value → H) :
    ReturnsInHanded {} Try.checked os 7 .any (Rows.topSubnetSpec.pre6 enc Try.prog Try.f7 Rows.topSubnetRow.domain false) (Rows.topSubnetSpec.post enc Try.prog Try.f7 false true false false) := by
  refine returnsInHanded_of_change_sized (C := Try.checked) own started (by kernel_rfl) Try.func7
    (ChangeSpec.witness6 (enc := enc) (C := Try.checked) false ⟨#[], #[.agg #[.int .i64 0, .bool false, .int .i64 0, .bool false, .bool false, .bool false, .bool false, .bool false, .bool false, .bool false, .int .i64 0, .slice none 0 0, .slice none 0 0, .slice none 0 0, .slice none 0 0], .agg #[.int .i64 0, .int .i64 0, .int .i64 0, .slice none 0 0], .slice none 0 0], []⟩ 8 (by kernel_rfl) (by kernel_rfl) (by kernel_rfl) (by kernel_rfl)) ?_
  intro W base args ds gs before hval hW _ hsz _
  exact contract H enc W base args ds gs before hval hW hsz

/-- the statement -/
theorem proved : Rows.TopSubnetSaid :=
  OpenClaim.holds_of_wide 7 Try.f7 rfl rfl rfl rfl rfl rfl rfl ⟨rfl, rfl, rfl, rfl, rfl⟩ rfl rfl rfl rfl rfl (by kernel_rfl) Try.func7 (by kernel_rfl)
    (of_decide_eq_true (by kernel_rfl)) (by unfold Func.isWrapper; first | (rw [if_pos (by decide +kernel)]; kernel_rfl) | (rw [if_neg (by decide +kernel)]; exact ⟨rfl, rfl⟩))
    (fun os started H enc _ => lifted os started H enc)

end topSubnet
end Go.Proofs.Ytkdfiedemhjjjaa
