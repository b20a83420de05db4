/- How many values and letters came in with a message, with an Opt. -/
import Derived.Test.YtfihedcobopbcaaDoorK14
namespace Go.Proofs.YtfihedcobopbcaaDoor
open Go.RowKit
set_option linter.unusedVariables false
set_option linter.unusedSimpArgs false

theorem sz_os (os : List OT) : (dataO os).length ≤ 4 * (sliceR oR).sz os := by
  induction os with
  | nil => simp [dataO]
  | cons o os ih =>
    obtain ⟨C, d, u⟩ := o
    have e1 : (dataO ((C, d, u) :: os)).length = 4 + d.length + (dataO os).length := by simp [dataO, optB, two2_len]; omega
    have e2 : (sliceR oR).sz ((C, d, u) :: os) = (1 + ((sliceR u8R).sz d + 0)) + (sliceR oR).sz os := by
      show (List.map oR.sz ((C, d, u) :: os)).sum + 1 = _
      rw [List.map_cons, List.sum_cons]
      show (1 + ((sliceR u8R).sz d + 0)) + (List.map oR.sz os).sum + 1 = _
      show _ = (1 + ((sliceR u8R).sz d + 0)) + ((List.map oR.sz os).sum + 1)
      omega
    have e3 := sz_bytes d
    omega
theorem sz_opt (x : OptX) (os : List OT) : (sliceR oR).sz os ≤ optR.sz (x.size, x.code, x.ver, x.dob, x.z, os, ()) := by
  have e : optR.sz (x.size, x.code, x.ver, x.dob, x.z, os, ()) = 1 + (1 + (1 + (1 + (1 + ((sliceR oR).sz os + 0))))) := rfl
  omega
theorem sz_recs (l : List RecT) : l.length ≤ (sliceR recR).sz l := by
  induction l with
  | nil => simp
  | cons r l ih =>
    have e : (sliceR recR).sz (r :: l) = recR.sz r + (sliceR recR).sz l := by
      show (List.map recR.sz (r :: l)).sum + 1 = _
      rw [List.map_cons, List.sum_cons, Nat.add_assoc]
      rfl
    have h1 : 1 ≤ recR.sz r := by
      obtain ⟨n, T, C, L, d, u⟩ := r
      show 1 ≤ (sliceR strR).sz n + (1 + (1 + (1 + ((sliceR u8R).sz d + 0))))
      omega
    rw [List.length_cons, e]
    omega
theorem sz_more (u : Int × Bool × Int × Bool × Bool × Bool × Bool × Bool × Bool × Bool × Int × Unit) (qs : List QT) (xs ys zs : List RecT) : (sliceR recR).sz zs ≤ messageT.sz (u, qs, xs, ys, zs, ()) := by
  have e : messageT.sz (u, qs, xs, ys, zs, ()) = headerR.sz u + ((sliceR qR).sz qs + ((sliceR recR).sz xs + ((sliceR recR).sz ys + ((sliceR recR).sz zs + 0)))) := rfl
  omega
end Go.Proofs.YtfihedcobopbcaaDoor
