/- THE WALK over the reference's guess. -/
import Derived.Test.YtanclhcoiagcfaaDoorSchV
import Derived.Deep.Cut
namespace Go.Proofs.YtanclhcoiagcfaaDoor
open Go.RowKit

/-- an empty rule in a box of the call's own -/
structure Zero6 (w : World) (g : Nat) : Prop where
  z0 : w.cell? ⟨g, 0, none⟩ = some (.int .i64 0)
  f0 : w.frozen? ⟨g, 0, none⟩ = false
  z1 : w.cell? ⟨g, 1, none⟩ = some (.int .i64 0)
  f1 : w.frozen? ⟨g, 1, none⟩ = false
  z2 : w.cell? ⟨g, 2, none⟩ = some (.string ⟨#[]⟩)
  f2 : w.frozen? ⟨g, 2, none⟩ = false
  z3 : w.cell? ⟨g, 3, none⟩ = some (.string ⟨#[]⟩)
  f3 : w.frozen? ⟨g, 3, none⟩ = false
  z4 : w.cell? ⟨g, 4, none⟩ = some (.string ⟨#[]⟩)
  f4 : w.frozen? ⟨g, 4, none⟩ = false
  z5 : w.cell? ⟨g, 5, none⟩ = some (.string ⟨#[]⟩)
  f5 : w.frozen? ⟨g, 5, none⟩ = false
theorem box_zero (w : World) : ∃ (g : Nat) (w1 : World), g = w.heap.size ∧ w1 = w.alloc (.cells #[.int .i64 0, .int .i64 0, .string ⟨#[]⟩, .string ⟨#[]⟩, .string ⟨#[]⟩, .string ⟨#[]⟩] 23) ∧ Zero6 w1 g ∧ Ext w w1 ∧ w.heap.size ≤ g :=
  ⟨_, _, rfl, rfl, ⟨by go_simp, by go_simp, by go_simp, by go_simp, by go_simp, by go_simp, by go_simp, by go_simp, by go_simp, by go_simp, by go_simp, by go_simp⟩, (Ext.refl _).alloc _, Nat.le_refl _⟩
theorem Zero6.ext {a w : World} {g : Nat} (h : Zero6 a g) (e : Ext a w) : Zero6 w g :=
  ⟨e.cell h.z0, (Below.frozen e (p := ⟨g, 0, none⟩) (block_lt_of_cell h.z0)).trans h.f0, e.cell h.z1, (Below.frozen e (p := ⟨g, 1, none⟩) (block_lt_of_cell h.z1)).trans h.f1, e.cell h.z2, (Below.frozen e (p := ⟨g, 2, none⟩) (block_lt_of_cell h.z2)).trans h.f2, e.cell h.z3, (Below.frozen e (p := ⟨g, 3, none⟩) (block_lt_of_cell h.z3)).trans h.f3, e.cell h.z4, (Below.frozen e (p := ⟨g, 4, none⟩) (block_lt_of_cell h.z4)).trans h.f4, e.cell h.z5, (Below.frozen e (p := ⟨g, 5, none⟩) (block_lt_of_cell h.z5)).trans h.f5⟩

theorem lies_at {w : World} {A : Option Addr} {l : List ByteArray} (h : Lies strC 1 w A l) (hp : 0 < l.length) : ∃ b off, A = some ⟨b, off, none⟩ ∧ ∀ k, k < l.length → w.cell? ⟨b, off + k, none⟩ = some (.string l[k]!) := by
  obtain ⟨b, off, hA, hc⟩ := h hp
  refine ⟨b, off, hA, fun k hk => ?_⟩
  have h := hc k hk 0 (.string l[k]) rfl
  rw [getElem!_pos l k hk, Nat.mul_one] at *
  exact h

theorem numG_step (x : Int) (s : ByteArray) (k : Nat) (h : k < s.size) : numG x (s.data.toList.drop k) = if x ≤ 4000 then numG (IntKind.i64.wrap (IntKind.i64.wrap (IntKind.i64.wrap (x * 10) + s[k].toNat) - 48)) (s.data.toList.drop (k + 1)) else x := by
  have hc : s.data.toList.drop k = s[k] :: s.data.toList.drop (k + 1) := by
    rw [List.drop_eq_getElem_cons (by simpa using h)]; congr 1
  rw [hc]; rfl

theorem wrap_is (x : Int) : IntKind.i64.wrap x = wrap64 x := by rw [IntKind.wrap_i64]; unfold wrap64; omega
theorem wrap_byte (c : UInt8) : wrap64 (c.toNat : Int) = (c.toNat : Int) := IntWalk.wrap64_in _ (by have := c.toNat_lt; omega)

end Go.Proofs.YtanclhcoiagcfaaDoor
