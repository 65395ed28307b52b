/- THE WALKS over the two Texts and the two Parses. -/
import Derived.Test.YtanclhcoiagcfaaDoorNumC
import Derived.Test.YtanclhcoiagcfaaDoorShelf
import Derived.Lib.AtoiErrMem
import Derived.Lib.AppendIntMem
namespace Go.Proofs.YtanclhcoiagcfaaDoor
open Go.RowKit

/-- WHAT THE PACKAGE VARIABLES OF THE LIBRARY HOLD. -/
structure LaidW (w : World) : Prop where
  tab : Lib.TabIs Tryd.prog w "internal/strconv.uint64pow10" .u64 Lib.pow10Tab
  bad : ∃ tp p, w.var? Tryd.prog "strconv.ErrSyntax" = some #[.iface tp p]
  far : ∃ tp p, w.var? Tryd.prog "strconv.ErrRange" = some #[.iface tp p]

theorem var_stays {w w' : World} {n : String} {cs : Array Value} (hb : Below w.heap.size w w') (h : w.var? Tryd.prog n = some cs) : w'.var? Tryd.prog n = some cs := by
  unfold World.var? at h ⊢
  obtain ⟨g, hg, h⟩ := Option.bind_eq_some_iff.1 h
  rw [hg]
  have hlt : g < w.heap.size := by
    rcases Nat.lt_or_ge g w.heap.size with k | k
    · exact k
    · rw [Array.getElem?_eq_none k] at h; cases h
  show (match w'.heap[g]? with | some (.cells cs _ _) => some cs | _ => none) = some cs
  rw [hb.block g hlt]; exact h

theorem LaidW.below {w w' : World} (h : LaidW w) (hb : Below w.heap.size w w') : LaidW w' := by
  obtain ⟨h1, ⟨a, b, h2⟩, ⟨c, d, h3⟩⟩ := h
  exact ⟨var_stays hb h1, ⟨a, b, var_stays hb h2⟩, ⟨c, d, var_stays hb h3⟩⟩

theorem LaidW.drewN {w : World} (h : LaidW w) (n : Nat) : LaidW (w.drewN n) := ⟨h.tab, h.bad, h.far⟩

theorem byte_cell (m : Nat) : (Value.int .u8 (48 + ((m % 10 : Nat) : Int))) = Value.int .u8 ((digB m).toNat : Int) := by
  rw [digB_toNat]; congr 1

theorem ret_str {a b : List UInt8} (h : a = b) : Ending.returned (.string ⟨a.toArray⟩) = .returned (.string ⟨b.toArray⟩) := by rw [h]

theorem run_byte_string (w : World) (x : Int) (m : Nat) (hx : x = 48 + ((m % 10 : Nat) : Int)) :
    (convert 74 9 (.slice (some ⟨w.heap.size, 0, none⟩) 1 1)).run Tryd.prog (w.alloc (.cells #[.int .u8 x] 5)) = .ok (.string ⟨#[digB m]⟩) (w.alloc (.cells #[.int .u8 x] 5)) := by
  subst hx
  rw [byte_cell m]
  refine run_convert_bytes_back (P := Tryd.prog) _ 74 9 5 _ 1 [digB m] Tryd.underlying74 Tryd.underlying5 Tryd.underlying9 ?_
  intro j hj
  obtain rfl : j = 0 := by simpa using hj
  exact World.cell?_alloc_mark _ _ _ _ 0

theorem str_cons (c : UInt8) (l : List UInt8) : Value.string (⟨#[c]⟩ ++ ⟨l.toArray⟩) = .string ⟨(c :: l).toArray⟩ := by
  congr 1

set_option maxHeartbeats 400000 in
theorem num_Text (n : Int) (w : World) (hw : LaidW w) (h1 : -9223372036854775808 ≤ n) (h2 : n ≤ 9223372036854775807) :
    Calls Tryd.prog 43 #[.int .i64 n] w fun e w' => e = .returned (.string ⟨(Lib.itoa n).toArray⟩) ∧ Below w.heap.size w w' := by
  go_enter Tryd.func43, Tryd.ntmps43
  go_wp2_with fail
  refine (Tryd.strconv_Itoa n h1 h2 _ hw.tab).mono ?_
  rintro e w' ⟨rfl, k, os, rfl⟩
  have hb := Lib.below_grow w.heap.size w (Nat.le_refl _) k os
  generalize Sort.grow (w.drewN k) os = w1 at hb ⊢
  go_wp2
  go_ret
  exact ⟨rfl, hb⟩

end Go.Proofs.YtanclhcoiagcfaaDoor
