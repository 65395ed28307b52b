/- PARTS OF THE WALKS, joined: PtR, PtV. -/
import Derived.Test.YtigmdddeplnciaaGreatDoorV00
import Derived.Test.YtigmdddeplnciaaGreatDoorV01
import Derived.Test.YtigmdddeplnciaaGreatDoorV02
import Derived.Test.YtigmdddeplnciaaGreatDoorV03
import Derived.Test.YtigmdddeplnciaaGreatDoorV04
import Derived.Test.YtigmdddeplnciaaGreatDoorV05
import Derived.Test.YtigmdddeplnciaaGreatDoorV06
import Derived.Test.YtigmdddeplnciaaGreatDoorV07
import Derived.Test.YtigmdddeplnciaaGreatDoorV08
import Derived.Test.YtigmdddeplnciaaGreatDoorV09
import Derived.Test.YtigmdddeplnciaaGreatDoorV10
import Derived.Test.YtigmdddeplnciaaGreatDoorV11
import Derived.Test.YtigmdddeplnciaaGreatDoorV12
import Derived.Test.YtigmdddeplnciaaGreatDoorV13
import Derived.Test.YtigmdddeplnciaaGreatDoorV14
import Derived.Test.YtigmdddeplnciaaGreatDoorV15
import Derived.Test.YtigmdddeplnciaaGreatDoorV16
import Derived.Test.YtigmdddeplnciaaGreatDoorV17
import Derived.Test.YtigmdddeplnciaaGreatDoorV18
import Derived.Test.YtigmdddeplnciaaGreatDoorV19
import Derived.Test.YtigmdddeplnciaaGreatDoorV20
import Derived.Deep.RegionHeld3
import Derived.Deep.CutBlock
import Derived.Deep.DeepCutAuto
import Derived.Lib.BitFns
import Derived.Test.YtigmdddeplnciaaGreatDoorShelf
import Derived.Shelf.Spec.BitsCarry
import Derived.Deep.Cut
import Derived.Lib.ItoaNum
import Derived.Lib.AtoiAll
import Derived.Deep.QuietTactic
import Derived.BigQuiet
import Derived.Test.YtigmdddeplnciaaGreatDoorProg
import Derived.WalkKit
import Derived.WalkSpells
import Derived.WalkLawsBesides
import Derived.Lib.Hide
import Derived.Sort.Walk0
import Derived.Lib.Small
import Derived.Laws.CopyRow
import Derived.Lib.AppendZerosOnto
import Derived.Lib.SlFresh
import Derived.Laws.AppendOwn
import Derived.Laws.OwnMore
import Derived.OwnWalk
import Derived.Deep.AppendLies
import Derived.Deep.MidRow
import Derived.Below
import Derived.Laws.Rows
import Derived.Deep.Draws
import Derived.OrdersHeld
import Derived.Maps.AppendAt
import Derived.Test.YtigmdddeplnciaaGreatDoorShelfG
import Derived.Shelf.SlSortCmp.NoneTotal
import Derived.Shelf.SlSortCmp.WholeK
import Derived.Calls
import Derived.Laws.BitsAllLaws
import Derived.Deep.RegionHeld
import Derived.Deep.CutRange
import Derived.Maps.OwnSet
import Derived.Maps.OwnOps
import Derived.BigRegion
import Derived.Sort.LotA
/- THE WALK over the reference's From. -/
namespace Go.Proofs.YtigmdddeplnciaaGreatDoor
open Go.RowKit
theorem vals_lt {W : World} {ok : Nat → Prop} {A : Option Addr} {l : List Val} (h : Vals W ok A l) : Vals W (fun b => ok b ∧ b < W.heap.size) A l := h.keep' (fun _ _ _ hb hc => ⟨hc, hb, block_lt_of_cell hc⟩)
end Go.Proofs.YtigmdddeplnciaaGreatDoor

/- THE LAW PathsFrom. -/
namespace Go.Proofs.YtigmdddeplnciaaGreatDoor
open Go.RowKit
theorem els_sz (s : Int) (h : List Hop) : ∀ x ∈ elsP s h, x.l = [] ∧ x.s.size = 0 := by
  intro x hx
  unfold elsP tailP at hx
  rcases List.mem_cons.1 hx with e | e
  · rw [e]; exact ⟨rfl, rfl⟩
  · obtain ⟨a, -, ha⟩ := List.mem_flatMap.1 e
    rcases List.mem_cons.1 ha with e | e
    · rw [e]; exact ⟨rfl, rfl⟩
    · rw [List.mem_singleton.1 e]; exact ⟨rfl, rfl⟩
theorem sz_betw (g : GraphG) (s tn : Int) (types : List ByteArray) (dir mode mn mx : Int) : szL (betwP g s tn types dir mode mn mx) := szL_all (fun v hv => by
  obtain ⟨-, h, rfl, -⟩ := mem_from (List.mem_filter.1 hv).1
  exact sz_path (els_sz s h))
theorem few_cnt {g : GraphG} {mx : Int} (h : fewB g mx = true) : 0 ≤ mx → mx ≤ 6 → (g.edges.length + 1) ^ mx.toNat ≤ 4000 := by
  intro h0 h6
  have h1 := (few_iff.1 h).2.2
  rwa [show min mx 6 = mx by omega] at h1
theorem box_ask (w : World) (g : GraphG) (types : List ByteArray) (fr tn dir mode mn mx : Int) (A B T : Option Addr) (c d e : Nat) : ∃ (q : Nat) (w1 : World), q = w.heap.size ∧ w1 = w.alloc (.cells #[.slice A g.nodes.length c, .slice B g.edges.length d, .int .i64 g.nn, .int .i64 g.ne, .int .i64 fr, .int .i64 tn, .int .i64 dir, .int .i64 mode, .int .i64 mn, .int .i64 mx, .slice T types.length e] 28) ∧ (w1.cell? ⟨q, 0, none⟩ = some (.slice A g.nodes.length c) ∧ w1.cell? ⟨q, 1, none⟩ = some (.slice B g.edges.length d) ∧ w1.cell? ⟨q, 2, none⟩ = some (.int .i64 g.nn) ∧ w1.cell? ⟨q, 3, none⟩ = some (.int .i64 g.ne) ∧ w1.cell? ⟨q, 4, none⟩ = some (.int .i64 fr) ∧ w1.cell? ⟨q, 5, none⟩ = some (.int .i64 tn) ∧ w1.cell? ⟨q, 6, none⟩ = some (.int .i64 dir) ∧ w1.cell? ⟨q, 7, none⟩ = some (.int .i64 mode) ∧ w1.cell? ⟨q, 8, none⟩ = some (.int .i64 mn) ∧ w1.cell? ⟨q, 9, none⟩ = some (.int .i64 mx) ∧ w1.cell? ⟨q, 10, none⟩ = some (.slice T types.length e)) ∧ Ext w w1 :=
  ⟨_, _, rfl, rfl, ⟨by go_simp, by go_simp, by go_simp, by go_simp, by go_simp, by go_simp, by go_simp, by go_simp, by go_simp, by go_simp, by go_simp⟩, (Ext.refl _).alloc _⟩
end Go.Proofs.YtigmdddeplnciaaGreatDoor
