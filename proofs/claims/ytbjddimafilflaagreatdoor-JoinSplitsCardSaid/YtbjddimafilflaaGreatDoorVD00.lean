/- PARTS OF THE WALKS, joined: Lf, Le, Lh. -/
import Derived.Test.YtbjddimafilflaaGreatDoorV00
import Derived.Test.YtbjddimafilflaaGreatDoorV01
import Derived.Test.YtbjddimafilflaaGreatDoorV02
import Derived.Test.YtbjddimafilflaaGreatDoorV03
import Derived.Test.YtbjddimafilflaaGreatDoorV04
import Derived.Test.YtbjddimafilflaaGreatDoorV05
import Derived.Test.YtbjddimafilflaaGreatDoorV06
import Derived.Test.YtbjddimafilflaaGreatDoorV07
import Derived.Test.YtbjddimafilflaaGreatDoorV08
import Derived.Test.YtbjddimafilflaaGreatDoorV09
import Derived.Test.YtbjddimafilflaaGreatDoorV10
import Derived.Test.YtbjddimafilflaaGreatDoorV11
import Derived.Test.YtbjddimafilflaaGreatDoorV12
import Derived.Test.YtbjddimafilflaaGreatDoorV13
import Derived.Test.YtbjddimafilflaaGreatDoorV14
import Derived.Test.YtbjddimafilflaaGreatDoorV15
import Derived.Test.YtbjddimafilflaaGreatDoorV16
import Derived.Test.YtbjddimafilflaaGreatDoorV17
import Derived.Test.YtbjddimafilflaaGreatDoorV18
import Derived.Test.YtbjddimafilflaaGreatDoorV19
import Derived.Test.YtbjddimafilflaaGreatDoorV20
import Derived.Test.YtbjddimafilflaaGreatDoorV21
import Derived.Deep.RegionHeld3
import Derived.Maps.OwnOps
import Derived.Maps.OwnSet
import Derived.Lib.AppendZerosOnto
import Derived.Lib.ItoaNum
import Derived.Lib.AtoiAll
import Derived.Deep.CutBlock
import Derived.Deep.DeepCutAuto
import Derived.Lib.BitFns
import Derived.Test.YtbjddimafilflaaGreatDoorShelf
import Derived.Shelf.Spec.BitsCarry
import Derived.Deep.Cut
import Derived.Deep.QuietTactic
import Derived.BigQuiet
import Derived.Test.YtbjddimafilflaaGreatDoorProg
import Derived.WalkKit
import Derived.WalkSpells
import Derived.WalkLawsBesides
import Derived.Lib.Hide
import Derived.Sort.Walk0
import Derived.Lib.Small
import Derived.Laws.CopyRow
import Derived.Lib.SlFresh
import Derived.Laws.AppendOwn
import Derived.Laws.OwnMore
import Derived.OwnWalk
import Derived.Deep.AppendLies
import Derived.Deep.MidRow
import Derived.Below
import Derived.Laws.Rows
import Derived.Deep.Draws
import Derived.Maps.AppendAt
import Derived.Laws.MakeOwn
import Derived.Laws.BitsAllLaws
import Derived.BigRegion
import Derived.Sort.LotA
import Derived.OneCell
import Derived.Deep.RegionHeld
/- THE WALK over the law JoinNeutral. -/
namespace Go.Proofs.YtbjddimafilflaaGreatDoor
open Go.RowKit Go.Sort
theorem Strs.any {w : World} {ok : Nat → Prop} {A : Option Addr} {l : List ByteArray} (h : Strs w ok A l) : Strs w (fun _ => True) A l := SliceR.mono h (fun _ _ _ _ hx => ⟨trivial, hx.2⟩)
end Go.Proofs.YtbjddimafilflaaGreatDoor

/- THE WALK over the law JoinAssociates. -/
namespace Go.Proofs.YtbjddimafilflaaGreatDoor
open Go.RowKit Go.Sort
theorem natR_len2 (a b : Tab) : (natR a b).length ≤ a.rows.length * b.rows.length := by
  rw [← accR_end]
  exact accR_len a b a.rows.length 0
theorem rest_small {a b : List ByteArray} {y : List Val} (hy : y.length = b.length) (hw : wtL y ≤ 300) (hb : b.length ≤ 10) : wtL (restJ a b y) ≤ 3000 :=
  Nat.le_trans (part_wt y _ (fun i hi => by rw [hy]; exact othersK_lt hi)) (Nat.le_trans (Nat.mul_le_mul (Nat.le_trans othersK_len hb) hw) (by decide))
theorem cols_small {a b : List ByteArray} : (colsJ a b).length ≤ a.length + b.length := by
  rw [cols_len]; have := othN_le a b; omega
end Go.Proofs.YtbjddimafilflaaGreatDoor

/- THE WALK over the law's arranged. -/
namespace Go.Proofs.YtbjddimafilflaaGreatDoor
open Go.RowKit Go.Sort
/-- the table that is built: its columns stand, its rows are collected in cell 1 of block o -/
structure ArrW (wZ : World) (o : Nat) (x0 v : Value) (acc : List (List Val)) (W : World) : Prop where
  gr : wZ.grownBy W (some o)
  c0 : W.cell? ⟨o, 0, none⟩ = some x0
  c : W.cell? ⟨o, 1, none⟩ = some v
  f : W.frozen? ⟨o, 1, none⟩ = false
  own : OwnRows W wZ.heap.size (fun b => b ≠ o) v acc
  ho : o < wZ.heap.size
theorem ArrW.ext {wZ W W' : World} {o : Nat} {x0 v : Value} {acc : List (List Val)} (h : ArrW wZ o x0 v acc W) (e : Ext W W') : ArrW wZ o x0 v acc W' :=
  ⟨grown_trans h.gr (e.grownBy _), e.cell h.c0, e.cell h.c, frozen_grown (e.grownBy none) h.c (fun e => by cases e) 1 h.f, h.own.ext e, h.ho⟩
theorem Strs.grown {w w' : World} {g : Nat} {ok : Nat → Prop} {A : Option Addr} {l : List ByteArray} (h : Strs w ok A l) (hg : w.grownBy w' (some g)) (hne : ∀ b, ok b → b ≠ g) : Strs w' ok A l :=
  SliceR.mono h (fun b _ _ _ hx => ⟨hx.1, hg.cell hx.2 (fun e => hne b hx.1 (Option.some.inj e))⟩)
end Go.Proofs.YtbjddimafilflaaGreatDoor
