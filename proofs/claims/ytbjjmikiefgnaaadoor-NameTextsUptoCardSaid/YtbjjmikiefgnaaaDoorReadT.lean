/- name.read: the labels of a text. -/
import Derived.Test.YtbjjmikiefgnaaaDoorText
import Derived.Test.YtbjjmikiefgnaaaDoorNameC
import Derived.Test.YtbjjmikiefgnaaaDoorQuietExt
namespace Go.Proofs.YtbjjmikiefgnaaaDoor
open Go.RowKit
set_option linter.unusedVariables false
set_option linter.unusedSimpArgs false

theorem own_ne {w : World} {base : Nat} {e1 e2 : TypeId} {s1 s2 n1 n2 : Nat} {v1 v2 : Value} {x1 x2 : List Value} (h1 : w.ownsRow base e1 s1 v1 n1 x1) (h2 : w.ownsRow base e2 s2 v2 n2 x2) (hne : e1 ≠ e2) : v1.ownBlock = none ∨ v1.ownBlock ≠ v2.ownBlock := by
  rcases h1.2 with ⟨rfl, _⟩ | ⟨g, cap, cur, rfl, _, hg, _⟩
  · exact .inl rfl
  · refine .inr fun e => ?_
    rcases h2.2 with ⟨rfl, _⟩ | ⟨g2, cap2, cur2, rfl, _, hg2, _⟩
    · cases e
    · cases e
      rw [hg] at hg2
      injection hg2 with hg2
      injection hg2 with _ hg2
      exact hne hg2
/-- both rows of the call's own: the labels so far, and the one at hand -/
structure Two2 (w0 : World) (v2 v4 : Value) (ns : List (List UInt8)) (lab : List UInt8) (wi : World) : Prop where
  o2 : wi.ownsRow w0.heap.size 9 1 v2 ns.length (ns.map fun l => Value.string ⟨l.toArray⟩)
  o4 : wi.ownsRow w0.heap.size 5 1 v4 lab.length (lab.map fun x => Value.int .u8 (x.toNat : Int))
  nil : lab = [] → v4 = .slice none 0 0
  low : Below w0.heap.size w0 wi
section
variable {w0 wi w' : World} {v2 v4 v' : Value} {ns : List (List UInt8)} {lab lab' : List UInt8}
theorem Two2.later (h : Two2 w0 v2 v4 ns lab wi) (hb : Below wi.heap.size wi w') : Two2 w0 v2 v4 ns lab w' := ⟨own_low h.o2 hb (Nat.le_refl _), own_low h.o4 hb (Nat.le_refl _), h.nil, h.low.trans (hb.mono h.low.size)⟩
theorem Two2.push (h : Two2 w0 v2 v4 ns lab wi) {x : UInt8} (ho : w'.ownsRow w0.heap.size 5 1 v' (lab.length + 1) ((lab.map fun x => Value.int .u8 (x.toNat : Int)) ++ [.int .u8 (x.toNat : Int)])) (ha : AppTo wi w' v4 v') : Two2 w0 v2 v' ns (lab ++ [x]) w' :=
  ⟨(ha.other h.o2 (own_ne h.o2 h.o4 (by decide))).1, by simpa using ho, fun e => by simp at e, h.low.trans (ha.below h.o4 h.low.size)⟩
theorem Two2.close (h : Two2 w0 v2 v4 ns lab wi) (ho : w'.ownsRow w0.heap.size 9 1 v' (ns.length + 1) ((ns.map fun l => Value.string ⟨l.toArray⟩) ++ [.string ⟨lab.toArray⟩])) (ha : AppTo wi w' v2 v') : Two2 w0 v' (.slice none 0 0) (ns ++ [lab]) [] w' :=
  ⟨by simpa using ho, World.ownsRow_nil _ _ _ _, fun _ => rfl, h.low.trans (ha.below h.o2 h.low.size)⟩
end

theorem read_dot (w : World) : Calls Tryd.prog 56 #[.string ⟨#[46]⟩] w fun e w' => e = .returned (.tuple #[.slice none 0 0, .bool true]) ∧ w' = w := by
  go_enter Tryd.func56, Tryd.ntmps56
  go_wp2
  go_ret2
  exact ⟨rfl, rfl⟩

theorem drop_at (s : ByteArray) {i : Nat} (h : i < s.size) : s.data.toList.drop i = s[i] :: s.data.toList.drop (i + 1) := by
  rw [List.drop_eq_getElem_cons (by rw [Array.length_toList]; exact h)]
  rfl
/-- what read hands back -/
def ReadO (w : World) (r : Option (List (List UInt8) × Bool)) (e : Ending) (w' : World) : Prop :=
  Below w.heap.size w w' ∧ ((r = none ∧ e = .returned (.tuple #[.slice none 0 0, .bool false])) ∨
      ∃ ns b A c, r = some (ns, b) ∧ e = .returned (.tuple #[.slice A ns.length c, .bool b]) ∧ Rd strR w' w'.heap.size A ns.length c (ns.map fun l => ⟨l.toArray⟩))
theorem back_of {w : World} {base g cap : Nat} {lab : List UInt8} (h : w.ownsRow base 5 1 (.slice (some ⟨g, 0, none⟩) lab.length cap) lab.length (lab.map fun x => Value.int .u8 (x.toNat : Int))) :
    (convert 24 9 (.slice (some ⟨g, 0, none⟩) lab.length cap)).run Tryd.prog w = .ok (.string ⟨lab.toArray⟩) w := by
  refine run_convert_bytes_back w 24 9 5 ⟨g, 0, none⟩ cap lab Tryd.underlying24 Tryd.underlying5 Tryd.underlying9 fun j hj => ?_
  have := h.cells (g := g) rfl j (.int .u8 (lab[j].toNat : Int)) (by simp [hj])
  exact this
theorem back_nil (w : World) : (convert 24 9 (.slice none 0 0)).run Tryd.prog w = .ok (.string ⟨#[]⟩) w := by kernel_rfl

set_option maxRecDepth 100000 in
set_option maxHeartbeats 8000000 in
theorem read_main {w : World} (s : ByteArray) (hs : s.size ≤ 1048576) (hne : s.data.toList ≠ [46]) :
    Calls Tryd.prog 56 #[.string s] w (ReadO w (rdT s.data.toList [] [])) := by
  have hslen := hid (show s.data.toList.length = s.size by rw [Array.length_toList]; rfl)
  have hdot : (s.toList == [46]) = false := by rw [ByteArray.toList_eq, beq_eq_false_iff_ne]; exact hne
  clear hne
  have tk0 : True := trivial; have tk1 : True := trivial; have tk2 : True := trivial; have tk3 : True := trivial; have tk4 : True := trivial; have tk5 : True := trivial; have tk6 : True := trivial; have tk7 : True := trivial; have tk8 : True := trivial; have tk9 : True := trivial; have tk10 : True := trivial; have tk11 : True := trivial; have tk12 : True := trivial
  go_enter Tryd.func56, Tryd.ntmps56
  go_wp2
  go_loopg [2, 4, 5] s.size (fun gk v2 v4 v5 wi => ∃ (i : Nat) (ns : List (List UInt8)) (lab : List UInt8) (A2 : Option Addr) (m2 c2 : Nat) (A4 : Option Addr) (m4 c4 : Nat), i ≤ s.size ∧ gk = s.size - i ∧ v5 = .int .i64 (i : Int) ∧ v2 = .slice A2 m2 c2 ∧ v4 = .slice A4 m4 c4 ∧ ns.length = m2 ∧ lab.length = m4 ∧ m2 ≤ i ∧ m4 ≤ i ∧ (∀ l ∈ ns, l.length ≤ s.size) ∧ Hid (rdT s.data.toList [] [] = rdT (s.data.toList.drop i) lab ns) ∧ Two2 w (.slice A2 m2 c2) (.slice A4 m4 c4) ns lab wi)
  case atStart => exact ⟨0, [], [], none, 0, 0, none, 0, 0, Nat.zero_le _, rfl, rfl, rfl, rfl, rfl, rfl, Nat.le_refl _, Nat.le_refl _, by simp, rfl, World.ownsRow_nil _ _ _ _, World.ownsRow_nil _ _ _ _, fun _ => rfl, Below.refl _ _⟩
  case round =>
    obtain ⟨i, ns, lab, A2, m2, c2, A4, m4, c4, hi, rfl, rfl, rfl, rfl, nl, ll, nle, lle, hsz, hR, hT⟩ := hrel
    have HT := hid hT
    have HSZ := hid hsz
    have NL := hid nl
    have LL := hid ll
    have HR := hid hR.out
    have hww := hT.low.size
    clear hT hsz hR
    by_cases hlt : i < s.size
    · have g0 : (i : Int) < (s.size : Int) := by omega
      obtain ⟨x, hx⟩ : ∃ x, s[i] = x := ⟨_, rfl⟩
      have hd := drop_at s hlt
      rw [hx] at hd
      have HD := hid hd
      have xlt := x.toNat_lt
      have x0 : (0 : Int) ≤ (x.toNat : Int) := by omega
      have x1 : (x.toNat : Int) ≤ 255 := by omega
      clear hd
      have ab1 : (m4 + 1) * 1 ≤ 140737488355328 := by omega
      have ab2 : m4 + 1 ≤ maxLen := by unfold maxLen; omega
      have ab3 : (m2 + 1) * 16 ≤ 140737488355328 := by omega
      have ab4 : m2 + 1 ≤ maxLen := by unfold maxLen; omega
      by_cases hdt : x.toNat = 46
      · have y1 : ((x.toNat : Int) == 46) = true := by rw [beq_iff_eq]; omega
        have hst := hid (show rdT s.data.toList [] [] = rdT (s.data.toList.drop (i + 1)) [] (ns ++ [lab]) by rw [HR.out, HD.out, rdT_dot hdt])
        have hcv : (convert 24 9 (.slice A4 m4 c4)).run Tryd.prog wr = .ok (.string ⟨lab.toArray⟩) wr := by
          cases lab with
          | nil =>
            have e := HT.out.nil rfl
            rw [e]
            exact back_nil wr
          | cons a lab =>
            obtain ⟨A, cap, e, _, _, hA⟩ := own_slice HT.out.o4
            obtain ⟨g, rfl, _⟩ := hA (by simp)
            have ho := HT.out.o4
            rw [e] at ho ⊢
            exact back_of ho
        have hlab : ∀ l ∈ ns ++ [lab], l.length ≤ s.size := fun l hl => by
          rcases List.mem_append.1 hl with h | h
          · exact HSZ.out l h
          · simp at h; subst h; have := LL.out; omega
        have HLAB := hid hlab
        clear hdt hlab
        go_wp2_with (at_builtin; refine wpList_appT rfl _ _ 38 rfl w.heap.size 9 1 16 el_str (.slice A2 m2 c2) m2 _ rfl (by have := HT.out.o2; rw [NL.out] at this; exact this.alloc _) _ 1 1 [.string ⟨lab.toArray⟩] rfl (src_one _ rfl rfl) ab3 ab4 (by simp; omega) ?_; intro v2 w2 ho2 ha2; obtain ⟨A2', k2, rfl, _⟩ := own_slice ho2; have hT2 := (HT.out.later ((Below.refl _ wr).alloc (Nat.le_refl _) _)).close (by rw [NL.out]; exact ho2) ha2; have HT2 := hid hT2; clear ho2 ha2 hT2)
        go_roundg (s.size - (i + 1))
        case measure => omega
        case rel => exact ⟨i + 1, ns ++ [lab], [], _, _, _, _, _, _, by omega, rfl, by go_num, rfl, rfl, by simp [NL.out], rfl, by omega, by omega, HLAB.out, hst.out, HT2.out⟩
      · have y1 : ((x.toNat : Int) == 46) = false := by rw [beq_eq_false_iff_ne]; omega
        by_cases hbs : x.toNat = 92
        · have y2 : ((x.toNat : Int) != 92) = false := by rw [bne_eq_false_iff_eq]; omega
          by_cases h1 : i + 1 < s.size
          · have g1 : (i : Int) + 1 < (s.size : Int) := by omega
            obtain ⟨c, hc⟩ : ∃ c, s[i + 1] = c := ⟨_, rfl⟩
            have hd1 := drop_at s h1
            rw [hc] at hd1
            have clt := c.toNat_lt
            have c0 : (0 : Int) ≤ (c.toNat : Int) := by omega
            have c1 : (c.toNat : Int) ≤ 255 := by omega
            have w1e : IntKind.i64.wrap ((i : Int) + 1) = (i : Int) + 1 := IntWalk.i64_in _ (by omega)
            by_cases hdg : digitB c = false
            · have hst := hid (show rdT s.data.toList [] [] = rdT (s.data.toList.drop (i + 1 + 1)) (lab ++ [c]) ns by rw [HR.out, HD.out, hd1, rdT_esc hbs hdg])
              have hways : (c.toNat : Int) < 48 ∨ (¬ (c.toNat : Int) < 48 ∧ (57 : Int) < (c.toNat : Int)) := by
                have := of_decide_eq_false hdg
                omega
              clear hdt hbs hd1 hdg
              rcases hways with z1 | ⟨z1, z2⟩
              all_goals
                go_wp2_with (at_builtin; refine wpList_appT rfl _ _ 24 rfl w.heap.size 5 1 1 el_u8 (.slice A4 m4 c4) m4 _ rfl (by have := HT.out.o4; rw [LL.out] at this; exact this.alloc _) _ 1 1 [.int .u8 (c.toNat : Int)] rfl (src_one _ rfl rfl) ab1 ab2 (by simp; omega) ?_; intro v4 w4 ho4 ha4; obtain ⟨A4', k4, rfl, _⟩ := own_slice ho4; have hT2 := (HT.out.later ((Below.refl _ wr).alloc (Nat.le_refl _) _)).push (by rw [LL.out]; exact ho4) ha4; have HT2 := hid hT2; clear ho4 ha4 hT2)
                go_roundg (s.size - (i + 1 + 1))
                case measure => omega
                case rel => exact ⟨i + 1 + 1, ns, lab ++ [c], _, _, _, _, _, _, by omega, rfl, by go_num, rfl, rfl, NL.out, by simp [LL.out], by omega, by omega, HSZ.out, hst.out, HT2.out⟩
            · have hdg' : digitB c = true := by cases h : digitB c with
                | false => exact absurd h hdg
                | true => rfl
              have hb := of_decide_eq_true hdg'
              have z1 : ¬ (c.toNat : Int) < 48 := by omega
              have z2 : ¬ (57 : Int) < (c.toNat : Int) := by omega
              by_cases h3 : i + 3 < s.size
              · have g3 : (i : Int) + 3 < (s.size : Int) := by omega
                have g2 : (i : Int) + 2 < (s.size : Int) := by omega
                obtain ⟨d', hdd⟩ : ∃ d', s[i + 2]'(by omega) = d' := ⟨_, rfl⟩
                obtain ⟨e, hee⟩ : ∃ e, s[i + 3] = e := ⟨_, rfl⟩
                have hd2 := drop_at s (i := i + 1 + 1) (by omega)
                have hd3 := drop_at s (i := i + 1 + 1 + 1) (by omega)
                rw [show s[i + 1 + 1]'(by omega) = d' from hdd] at hd2
                rw [show s[i + 1 + 1 + 1]'(by omega) = e from hee] at hd3
                have hst := hid (show rdT s.data.toList [] [] = rdT (s.data.toList.drop (i + 3 + 1)) (lab ++ [three c d' e]) ns by rw [HR.out, HD.out, hd1, hd2, hd3, rdT_num hbs hdg'])
                have dlt := d'.toNat_lt
                have elt := e.toNat_lt
                have ht := three_nat c d' e
                unfold threeI at ht
                have d0 : (0 : Int) ≤ (d'.toNat : Int) := by omega
                have d1 : (d'.toNat : Int) ≤ 255 := by omega
                have e0 : (0 : Int) ≤ (e.toNat : Int) := by omega
                have e1 : (e.toNat : Int) ≤ 255 := by omega
                have n1 : i + 1 < s.size := by omega
                have n2 : i + 2 < s.size := by omega
                have p1 : (0 : Int) ≤ (i : Int) + 1 := by omega
                have p2 : (0 : Int) ≤ (i : Int) + 2 := by omega
                have p3 : (0 : Int) ≤ (i : Int) + 3 := by omega
                have hv4 : -6000 ≤ 100 * ((c.toNat : Int) - 48) + 10 * ((d'.toNat : Int) - 48) + (e.toNat : Int) - 48 ∧ 100 * ((c.toNat : Int) - 48) + 10 * ((d'.toNat : Int) - 48) + (e.toNat : Int) - 48 ≤ 30000 := by omega
                have w2e : IntKind.i64.wrap ((i : Int) + 2) = (i : Int) + 2 := IntWalk.i64_in _ (by omega)
                have w3e : IntKind.i64.wrap ((i : Int) + 3) = (i : Int) + 3 := IntWalk.i64_in _ (by omega)
                have vc : IntKind.i64.wrap (c.toNat : Int) = (c.toNat : Int) := IntWalk.i64_in _ (by omega)
                have vd : IntKind.i64.wrap (d'.toNat : Int) = (d'.toNat : Int) := IntWalk.i64_in _ (by omega)
                have ve : IntKind.i64.wrap (e.toNat : Int) = (e.toNat : Int) := IntWalk.i64_in _ (by omega)
                have vc1 : IntKind.i64.wrap ((c.toNat : Int) - 48) = (c.toNat : Int) - 48 := IntWalk.i64_in _ (by omega)
                have vd1 : IntKind.i64.wrap ((d'.toNat : Int) - 48) = (d'.toNat : Int) - 48 := IntWalk.i64_in _ (by omega)
                have vc2 : IntKind.i64.wrap (100 * ((c.toNat : Int) - 48)) = 100 * ((c.toNat : Int) - 48) := IntWalk.i64_in _ (by omega)
                have vd2 : IntKind.i64.wrap (10 * ((d'.toNat : Int) - 48)) = 10 * ((d'.toNat : Int) - 48) := IntWalk.i64_in _ (by omega)
                have vs1 : IntKind.i64.wrap (100 * ((c.toNat : Int) - 48) + 10 * ((d'.toNat : Int) - 48)) = 100 * ((c.toNat : Int) - 48) + 10 * ((d'.toNat : Int) - 48) := IntWalk.i64_in _ (by omega)
                have vs2 : IntKind.i64.wrap (100 * ((c.toNat : Int) - 48) + 10 * ((d'.toNat : Int) - 48) + (e.toNat : Int)) = 100 * ((c.toNat : Int) - 48) + 10 * ((d'.toNat : Int) - 48) + (e.toNat : Int) := IntWalk.i64_in _ (by omega)
                have vs3 : IntKind.i64.wrap (100 * ((c.toNat : Int) - 48) + 10 * ((d'.toNat : Int) - 48) + (e.toNat : Int) - 48) = 100 * ((c.toNat : Int) - 48) + 10 * ((d'.toNat : Int) - 48) + (e.toNat : Int) - 48 := IntWalk.i64_in _ (by omega)
                have HT3 := hid ht
                obtain ⟨hv5, hv6⟩ := hv4
                clear hdt hbs hd1 hd2 hd3 hdg hdg' hb ht
                go_wp2_with fail
                refine wp_region_ext (by kernel_rfl) (by kernel_rfl) ?_
                repeat (go_big_quiet_step ((fail)))
                refine wpQuiet_nil ?_
                rintro _ ⟨⟨os, d⟩, rfl⟩
                simp only [exts]
                have hwr : IntKind.u8.wrap (100 * ((c.toNat : Int) - 48) + 10 * ((d'.toNat : Int) - 48) + (e.toNat : Int) - 48) = ((three c d' e).toNat : Int) := by rw [HT3.out]; simp [IntKind.wrap, IntKind.bits, IntKind.signed]
                clear vc vd ve vc1 vd1 vc2 vd2 vs1 vs2 vs3
                generalize 100 * ((c.toNat : Int) - 48) + 10 * ((d'.toNat : Int) - 48) + (e.toNat : Int) - 48 = V at *
                go_wp2_with (at_builtin; refine wpList_appT rfl _ _ 24 rfl w.heap.size 5 1 1 el_u8 (.slice A4 m4 c4) m4 _ rfl (by have := (HT.out.later (below_ext wr os d)).o4; rw [LL.out] at this; exact this.alloc _) _ 1 1 [.int .u8 ((three c d' e).toNat : Int)] rfl (src_one _ rfl (by simp [size_ext])) ab1 ab2 (by simp [size_ext]; omega) ?_; intro v4 w4 ho4 ha4; obtain ⟨A4', k4, rfl, _⟩ := own_slice ho4; have hT2 := ((HT.out.later (below_ext wr os d)).later ((Below.refl _ _).alloc (Nat.le_refl _) _)).push (by rw [LL.out]; exact ho4) ha4; have HT2 := hid hT2; clear ho4 ha4 hT2)
                go_roundg (s.size - (i + 3 + 1))
                case measure => omega
                case rel => exact ⟨i + 3 + 1, ns, lab ++ [three c d' e], _, _, _, _, _, _, by omega, rfl, by go_num, rfl, rfl, NL.out, by simp [LL.out], by omega, by omega, HSZ.out, hst.out, HT2.out⟩
              · have g3 : ¬ (i : Int) + 3 < (s.size : Int) := by omega
                have hst := hid (show rdT s.data.toList [] [] = none by
                  rw [HR.out, HD.out, hd1]
                  by_cases h2 : i + 1 + 1 < s.size
                  · have hd3 : s.data.toList.drop (i + 1 + 1 + 1) = [] := List.drop_eq_nil_of_le (by rw [hslen.out]; omega)
                    rw [drop_at s h2, hd3]
                    exact rdT_stop3 hbs hdg' _ _ _
                  · have hd3 : s.data.toList.drop (i + 1 + 1) = [] := List.drop_eq_nil_of_le (by rw [hslen.out]; omega)
                    rw [hd3]
                    exact rdT_stop2 hbs hdg' _ _)
                have hlo := HT.out.low
                clear hdt hbs hd1 hdg hdg' hb
                go_wp2
                go_ret2
                exact ⟨hlo, .inl ⟨hst.out, rfl⟩⟩
          · have g1 : ¬ (i : Int) + 1 < (s.size : Int) := by omega
            have g3 : ¬ (i : Int) + 3 < (s.size : Int) := by omega
            have hst := hid (show rdT s.data.toList [] [] = none by
              have hd3 : s.data.toList.drop (i + 1) = [] := List.drop_eq_nil_of_le (by rw [hslen.out]; omega)
              rw [HR.out, HD.out, hd3]
              exact rdT_stop1 hbs _ _)
            have hlo := HT.out.low
            clear hdt hbs
            go_wp2
            go_ret2
            exact ⟨hlo, .inl ⟨hst.out, rfl⟩⟩
        · have y2 : ((x.toNat : Int) != 92) = true := by rw [bne_iff_ne]; omega
          have hst := hid (show rdT s.data.toList [] [] = rdT (s.data.toList.drop (i + 1)) (lab ++ [x]) ns by rw [HR.out, HD.out, rdT_plain hdt hbs])
          clear hdt hbs
          go_wp2_with (at_builtin; refine wpList_appT rfl _ _ 24 rfl w.heap.size 5 1 1 el_u8 (.slice A4 m4 c4) m4 _ rfl (by have := HT.out.o4; rw [LL.out] at this; exact this.alloc _) _ 1 1 [.int .u8 (x.toNat : Int)] rfl (src_one _ rfl rfl) ab1 ab2 (by simp; omega) ?_; intro v4 w4 ho4 ha4; obtain ⟨A4', k4, rfl, _⟩ := own_slice ho4; have hT2 := (HT.out.later ((Below.refl _ wr).alloc (Nat.le_refl _) _)).push (by rw [LL.out]; exact ho4) ha4; have HT2 := hid hT2; clear ho4 ha4 hT2)
          go_roundg (s.size - (i + 1))
          case measure => omega
          case rel => exact ⟨i + 1, ns, lab ++ [x], _, _, _, _, _, _, by omega, rfl, by go_num, rfl, rfl, NL.out, by simp [LL.out], by omega, by omega, HSZ.out, hst.out, HT2.out⟩
    · obtain rfl : i = s.size := by omega
      have hd3 : s.data.toList.drop s.size = [] := List.drop_eq_nil_of_le (by rw [hslen.out]; exact Nat.le_refl _)
      have hst := hid (show rdT s.data.toList [] [] = some (ns, lab.isEmpty && !ns.isEmpty) by rw [HR.out, hd3, rdT_nil])
      have ho2 := HT.out.o2
      have hl2 : (ns.map fun l => (⟨l.toArray⟩ : ByteArray)).length = m2 := by simp [NL.out]
      obtain ⟨A', c', e, hr⟩ := rd_of_own (R := strR) (l := ns.map fun l => (⟨l.toArray⟩ : ByteArray)) (by rw [NL.out] at ho2; exact ho2) (by
        have := rels_str (w := wr) (B := w.heap.size) (l := ns.map fun l => (⟨l.toArray⟩ : ByteArray)) (fun t ht => by
          obtain ⟨l, hl, rfl⟩ := List.mem_map.1 ht
          have h1 := HSZ.out l hl
          have h2 : (⟨l.toArray⟩ : ByteArray).size = l.length := by simp [ByteArray.size]
          omega)
        rw [show (ns.map fun l => Value.string ⟨l.toArray⟩) = strsV (ns.map fun l => (⟨l.toArray⟩ : ByteArray)) by simp [strsV]]
        exact this) hl2 hww (by show m2 * 16 ≤ _; omega) (by decide)
      cases e
      have HRD := hid hr
      have hlo := HT.out.low
      clear hr ho2 hl2 hd3
      have hfin : ∀ b, (lab.isEmpty && !ns.isEmpty) = b → ReadO w (rdT s.data.toList [] []) (.returned (.tuple #[.slice A2 m2 c2, .bool b])) wr := fun b hb => by
        refine ⟨hlo, .inr ⟨ns, b, A2, c2, by rw [hst.out, hb], by rw [NL.out], by rw [NL.out]; exact HRD.out⟩⟩
      have HFIN := hid hfin
      clear hfin
      cases lab with
      | nil =>
        have hm4 : m4 = 0 := LL.out.symm
        subst hm4
        cases ns with
        | nil =>
          have hm2 : m2 = 0 := NL.out.symm
          subst hm2
          go_wp2
          go_ret2
          exact HFIN.out _ rfl
        | cons a ns =>
          have hm2 : (0 : Int) < (m2 : Int) := by have := NL.out; simp at this; omega
          have hm3 : 0 < m2 := by omega
          go_wp2
          go_ret2
          first | exact HFIN.out _ rfl | exact HFIN.out _ (decide_eq_true hm3).symm
      | cons a lab =>
        have hm4 : ((m4 : Int) == 0) = false := by rw [beq_eq_false_iff_ne]; have := LL.out; simp at this; omega
        go_wp2
        go_ret2
        exact HFIN.out _ rfl
end Go.Proofs.YtbjjmikiefgnaaaDoor
