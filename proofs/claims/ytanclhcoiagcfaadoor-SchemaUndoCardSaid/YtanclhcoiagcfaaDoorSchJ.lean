/- RULES IN MEMORY; THE WALKS over the reference's Has, Valid and Same. -/
import Derived.Test.YtanclhcoiagcfaaDoorSchI
import Derived.Test.YtanclhcoiagcfaaDoorExt
namespace Go.Proofs.YtanclhcoiagcfaaDoor
open Go.RowKit

/-- six cells that are a rule -/
def CellsR (w : World) (b o : Nat) (r : RuleP) : Prop := w.cell? ⟨b, o, none⟩ = some (.int .i64 r.kind) ∧ w.cell? ⟨b, o + 1, none⟩ = some (.int .i64 r.n) ∧ w.cell? ⟨b, o + 2, none⟩ = some (.string r.name) ∧ w.cell? ⟨b, o + 3, none⟩ = some (.string r.key) ∧ w.cell? ⟨b, o + 4, none⟩ = some (.string r.frm) ∧ w.cell? ⟨b, o + 5, none⟩ = some (.string r.tov)
theorem CellsR.ext {a w : World} {b o : Nat} {r : RuleP} (h : CellsR a b o r) (e : Ext a w) : CellsR w b o r :=
  ⟨e.cell h.1, e.cell h.2.1, e.cell h.2.2.1, e.cell h.2.2.2.1, e.cell h.2.2.2.2.1, e.cell h.2.2.2.2.2⟩

/-- a slice that reads as a list of rules -/
def Rules (w : World) (A : Option Addr) (s : List RuleP) : Prop := 0 < s.length → ∃ b off, A = some ⟨b, off, none⟩ ∧ ∀ k, k < s.length → CellsR w b (off + k * 6) s[k]!
theorem Rules.ext {a w : World} {A : Option Addr} {s : List RuleP} (h : Rules a A s) (e : Ext a w) : Rules w A s := fun hp =>
  let ⟨b, off, hA, hc⟩ := h hp
  ⟨b, off, hA, fun k hk => (hc k hk).ext e⟩

theorem mk_two {a V : World} {b o b' o' : Nat} {x r : RuleP} (h : CellsR a b o x) (h' : CellsR a b' o' r) (e : Ext a V) : V.cell? ⟨b, o, none⟩ = some (.int .i64 x.kind) ∧ V.cell? ⟨b, o + 1, none⟩ = some (.int .i64 x.n) ∧ V.cell? ⟨b, o + 2, none⟩ = some (.string x.name) ∧ V.cell? ⟨b, o + 3, none⟩ = some (.string x.key) ∧ V.cell? ⟨b, o + 4, none⟩ = some (.string x.frm) ∧ V.cell? ⟨b, o + 5, none⟩ = some (.string x.tov) ∧ V.cell? ⟨b', o', none⟩ = some (.int .i64 r.kind) ∧ V.cell? ⟨b', o' + 1, none⟩ = some (.int .i64 r.n) ∧ V.cell? ⟨b', o' + 2, none⟩ = some (.string r.name) ∧ V.cell? ⟨b', o' + 3, none⟩ = some (.string r.key) ∧ V.cell? ⟨b', o' + 4, none⟩ = some (.string r.frm) ∧ V.cell? ⟨b', o' + 5, none⟩ = some (.string r.tov) ∧ Ext a V :=
  let ⟨h0, h1, h2, h3, h4, h5⟩ := h.ext e
  let ⟨k0, k1, k2, k3, k4, k5⟩ := h'.ext e
  ⟨h0, h1, h2, h3, h4, h5, k0, k1, k2, k3, k4, k5, e⟩

/-- a rule in a box of the call's own -/
theorem box_rule (w : World) (r : RuleP) (t : TypeId) : ∃ (g : Nat) (w1 : World), g = w.heap.size ∧ w1 = w.alloc (.cells #[.int .i64 r.kind, .int .i64 r.n, .string r.name, .string r.key, .string r.frm, .string r.tov] t) ∧ CellsR w1 g 0 r ∧ Ext w w1 ∧ w.heap.size ≤ g :=
  ⟨_, _, rfl, rfl, ⟨by go_simp, by go_simp, by go_simp, by go_simp, by go_simp, by go_simp⟩, (Ext.refl _).alloc _, Nat.le_refl _⟩

end Go.Proofs.YtanclhcoiagcfaaDoor
