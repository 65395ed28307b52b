/- THE WALK over the reference's Text. -/
import Derived.Test.YtanclhcoiagcfaaDoorSchT
namespace Go.Proofs.YtanclhcoiagcfaaDoor
open Go.RowKit

theorem name_size {s : ByteArray} (h : nameB s = true) : s.size ≤ 20 := by
  have := name_len h; simpa using this
theorem name_size' {s : ByteArray} (h : s.size ≠ 0 → nameB s = true) : s.size ≤ 20 := by
  by_cases h0 : s.size = 0
  · omega
  · exact name_size (h h0)
theorem star_size {s : ByteArray} (h : s.size ≠ 0 → nameB s = true) : (starB s).size ≤ 20 := by
  have h1 := name_size' h
  show (starL s.data.toList).toArray.size ≤ 20
  unfold starL
  split
  · simp
  · simpa using h1
theorem word_size (n : Int) : (wordB n).size ≤ 4 := by
  show (wordN n).toArray.size ≤ 4
  unfold wordN
  repeat' split
  all_goals simp
theorem digits_size {n : Nat} (h : n ≤ 4000) : (asB (Lib.decDigits n)).size ≤ 4 := by
  have := decDigits_length 3 n (by omega)
  simpa [asB, ByteArray.size] using this
theorem ba_app (a b : ByteArray) : (a ++ b).data.toList = a.data.toList ++ b.data.toList := by simp
theorem asB_eq {a : ByteArray} {l : List UInt8} (h : a.data.toList = l) : a = asB l := ba_ext h

end Go.Proofs.YtanclhcoiagcfaaDoor
