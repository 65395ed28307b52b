/- THE WALK over the reference's Check. -/
import Derived.Test.YtanclhcoiagcfaaDoorSchH
namespace Go.Proofs.YtanclhcoiagcfaaDoor
open Go.RowKit

theorem chkR_eq (ak an : Int) (anm aky afr ato : ByteArray) : chkR ⟨ak, an, anm, aky, afr, ato⟩ =
    if ak < 1 ∨ 7 < ak ∨ numB ak an = false then 1
    else if (keyK ak = false ∧ aky.size ≠ 0) ∨ (ak ≠ 6 ∧ (afr.size ≠ 0 ∨ ato.size ≠ 0)) then 1
    else if nameB anm = false ∨ (keyK ak = true ∧ nameB aky = false) ∨ (afr.size ≠ 0 ∧ nameB afr = false) ∨ (ato.size ≠ 0 ∧ nameB ato = false) then 6
    else 0 := rfl

theorem size_beq (s : ByteArray) : (s.toList == ([] : List UInt8)) = decide (s.size = 0) := by
  rw [beq_list, decide_eq_decide]
  exact ⟨fun h => by have := congrArg List.length h; simpa using this, size_zero⟩

/-- A RULE IN A BOX of the call's own. -/
structure RSt (w : World) (g : Nat) (r : RuleP) (V : World) : Prop where
  below : Below w.heap.size w V
  c0 : V.cell? ⟨g, 0, none⟩ = some (.int .i64 r.kind)
  c1 : V.cell? ⟨g, 1, none⟩ = some (.int .i64 r.n)
  c2 : V.cell? ⟨g, 2, none⟩ = some (.string r.name)
  c3 : V.cell? ⟨g, 3, none⟩ = some (.string r.key)
  c4 : V.cell? ⟨g, 4, none⟩ = some (.string r.frm)
  c5 : V.cell? ⟨g, 5, none⟩ = some (.string r.tov)
  base : w.heap.size ≤ g
  lt : g < V.heap.size

theorem RSt.step {w : World} {g : Nat} {r : RuleP} {V V' : World} (h : RSt w g r V) (hb : Below V.heap.size V V') : RSt w g r V' :=
  ⟨h.below.trans (hb.mono (Nat.le_of_lt (Nat.lt_of_le_of_lt h.base h.lt))), (hb.cell (p := ⟨g, 0, none⟩) h.lt).trans h.c0, (hb.cell (p := ⟨g, 1, none⟩) h.lt).trans h.c1, (hb.cell (p := ⟨g, 2, none⟩) h.lt).trans h.c2, (hb.cell (p := ⟨g, 3, none⟩) h.lt).trans h.c3, (hb.cell (p := ⟨g, 4, none⟩) h.lt).trans h.c4, (hb.cell (p := ⟨g, 5, none⟩) h.lt).trans h.c5, h.base, Nat.lt_of_lt_of_le h.lt hb.size⟩

theorem RSt.start (w : World) (r : RuleP) (t : TypeId) : RSt w w.heap.size r (w.alloc (.cells #[.int .i64 r.kind, .int .i64 r.n, .string r.name, .string r.key, .string r.frm, .string r.tov] t)) :=
  ⟨(by repeat (first | with_reducible exact Below.refl _ _ | with_reducible assumption | with_reducible refine below_drewS ?_ | (with_reducible refine Below.setCell ?_ (by first | omega | (simp; done) | (simp; omega)) _) | (with_reducible refine Below.alloc ?_ (by first | exact Nat.le_refl _ | omega | (simp; done) | (simp; omega)) _))), by go_simp, by go_simp, by go_simp, by go_simp, by go_simp, by go_simp, Nat.le_refl _, by simp⟩

end Go.Proofs.YtanclhcoiagcfaaDoor
