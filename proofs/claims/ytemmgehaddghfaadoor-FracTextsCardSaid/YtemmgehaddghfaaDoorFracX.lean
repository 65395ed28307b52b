/- THE WALKS over the laws: FracOrder. -/
import Derived.Test.YtemmgehaddghfaaDoorFracW
namespace Go.Proofs.YtemmgehaddghfaaDoor
open Go.RowKit

theorem Boxes.lt {V : World} : ∀ {L : List (Nat × Int × Int)}, Boxes V L → ∀ z ∈ L, z.1 < V.heap.size
  | [], _, z, hz => absurd hz List.not_mem_nil
  | (H, n, d) :: L, h, z, hz => by
    rcases List.mem_cons.1 hz with e | e
    · rw [e]; exact h.1.2.2
    · exact Boxes.lt h.2 z e

theorem Boxes.other {V : World} (H o : Nat) (v : Value) : ∀ {L : List (Nat × Int × Int)}, Boxes V L → (∀ z ∈ L, z.1 ≠ H) → Boxes (V.setCell ⟨H, o, none⟩ v) L
  | [], _, _ => trivial
  | (G, n, d) :: L, h, hne => by
    obtain ⟨⟨h0, h1, h2⟩, h3⟩ := h
    have hn : ¬ G = H := hne _ (List.mem_cons_self ..)
    have hm : ¬ H = G := fun e => hn e.symm
    exact ⟨⟨by go_simp, by go_simp, by simpa using h2⟩, Boxes.other H o v h3 (fun z hz => hne z (List.mem_cons_of_mem _ hz))⟩

theorem LivesSt.swap {w V : World} {a b : Nat × Int × Int} {L : List (Nat × Int × Int)} (h : LivesSt w (a :: b :: L) V) : LivesSt w (b :: a :: L) V :=
  ⟨h.1, ⟨h.2.1.2.1, h.2.1.1, h.2.1.2.2⟩, h.2.2⟩

theorem LivesSt.set {w V : World} {H : Nat} {n d : Int} {L : List (Nat × Int × Int)} (h : LivesSt w ((H, n, d) :: L) V) (hz : ZeroAt w) (hw : LaidW w) (hH : w.heap.size ≤ H) (hne : ∀ z ∈ L, z.1 ≠ H) (n' d' : Int) :
    LivesSt w ((H, n', d') :: L) ((V.setCell ⟨H, 0, none⟩ (.int .i64 n')).setCell ⟨H, 1, none⟩ (.int .i64 d')) := by
  obtain ⟨hb, ⟨⟨h0, h1, h2⟩, h3⟩, -, -⟩ := h
  have hb2 : Below w.heap.size w ((V.setCell ⟨H, 0, none⟩ (.int .i64 n')).setCell ⟨H, 1, none⟩ (.int .i64 d')) := (hb.setCell hH _).setCell hH _
  exact ⟨hb2, ⟨⟨by go_simp, by go_simp, by simpa using h2⟩, (h3.other H 0 _ hne).other H 1 _ hne⟩, hz.below hb2, hw.below hb2⟩

/-- a box that may be written -/
def Frz (V : World) (H : Nat) : Prop := V.frozen? ⟨H, 0, none⟩ = false ∧ V.frozen? ⟨H, 1, none⟩ = false ∧ H < V.heap.size

theorem Frz.step {V V' : World} {H : Nat} (h : Frz V H) (hb : Below V.heap.size V V') : Frz V' H := by
  obtain ⟨h0, h1, h2⟩ := h
  obtain ⟨hc, hf⟩ := bcell hb
  have hs := hb.size
  exact ⟨(hf _ _ h2).trans h0, (hf _ _ h2).trans h1, by omega⟩

theorem Frz.alloc {V : World} (a b : Value) (t : TypeId) : Frz (V.alloc (.cells #[a, b] t)) V.heap.size := ⟨by go_simp, by go_simp, by simp⟩

theorem Frz.set {V : World} {H : Nat} (h : Frz V H) (G : Nat) (u v : Value) : Frz ((V.setCell ⟨G, 0, none⟩ u).setCell ⟨G, 1, none⟩ v) H := by
  obtain ⟨h0, h1, h2⟩ := h
  exact ⟨by go_simp, by go_simp, by simpa using h2⟩

theorem sgn_cases (x : Int) : sgn x = -1 ∨ sgn x = 0 ∨ sgn x = 1 := by unfold sgn; split <;> (try split) <;> simp

theorem cmp_cases (an ad bn bd : Int) : cmpS an ad bn bd = -1 ∨ cmpS an ad bn bd = 0 ∨ cmpS an ad bn bd = 1 := sgn_cases _

end Go.Proofs.YtemmgehaddghfaaDoor
