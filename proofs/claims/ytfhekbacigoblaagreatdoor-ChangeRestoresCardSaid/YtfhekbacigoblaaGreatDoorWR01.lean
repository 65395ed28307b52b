import Derived.Test.YtfhekbacigoblaaGreatDoorV00
import Derived.Test.YtfhekbacigoblaaGreatDoorV01
import Derived.Test.YtfhekbacigoblaaGreatDoorV02
import Derived.Test.YtfhekbacigoblaaGreatDoorV03
import Derived.Test.YtfhekbacigoblaaGreatDoorV04
import Derived.Test.YtfhekbacigoblaaGreatDoorV05
import Derived.Test.YtfhekbacigoblaaGreatDoorV06
import Derived.Test.YtfhekbacigoblaaGreatDoorV07
import Derived.Test.YtfhekbacigoblaaGreatDoorV08
import Derived.Test.YtfhekbacigoblaaGreatDoorV09
import Derived.Test.YtfhekbacigoblaaGreatDoorV10
import Derived.Test.YtfhekbacigoblaaGreatDoorV11
import Derived.Test.YtfhekbacigoblaaGreatDoorV12
import Derived.Test.YtfhekbacigoblaaGreatDoorV13
import Derived.Test.YtfhekbacigoblaaGreatDoorV14
import Derived.Test.YtfhekbacigoblaaGreatDoorV15
import Derived.Test.YtfhekbacigoblaaGreatDoorV16
import Derived.Test.YtfhekbacigoblaaGreatDoorV17
import Derived.Test.YtfhekbacigoblaaGreatDoorV18
import Derived.Test.YtfhekbacigoblaaGreatDoorV19
import Derived.Test.YtfhekbacigoblaaGreatDoorV20
import Derived.Test.YtfhekbacigoblaaGreatDoorV21
import Derived.Test.YtfhekbacigoblaaGreatDoorV22
import Derived.Lib.Overlaps
import Derived.Lib.SliceRun
import Derived.Lib.AppendZerosOnto
import Derived.Deep.RegionHeld
import Derived.Maps.AppendAt
import Derived.Test.YtfhekbacigoblaaGreatDoorWR00
import Derived.Laws.CopyRow
import Derived.Lib.SlFresh
import Derived.Laws.AppendOwn
import Derived.Laws.OwnMore
import Derived.OwnWalk
import Derived.Deep.AppendLies
import Derived.Deep.MidRow
import Derived.Below
import Derived.Laws.Rows
import Derived.Deep.Draws
import Derived.Lib.Hide
import Derived.OrdersHeld
import Derived.Test.YtfhekbacigoblaaGreatDoorProg
import Derived.WalkSpells
import Derived.Deep.Cut
import Derived.Deep.RegionHeld3
import Derived.Deep.CutBlock
import Derived.Deep.DeepCutAuto
import Derived.Lib.BitFns
import Derived.Test.YtfhekbacigoblaaGreatDoorShelf
import Derived.Shelf.Spec.BitsCarry
import Derived.Lib.ItoaNum
import Derived.Lib.AtoiAll
import Derived.Deep.QuietTactic
import Derived.BigQuiet
import Derived.WalkKit
import Derived.WalkLawsBesides
namespace Go.Proofs.YtfhekbacigoblaaGreatDoor
open Go.RowKit
section
variable {w w':World} {base K K2 n n2 n':Nat} {τ τ':Nat→Tg} {T T2:Tg} {e e2:TypeId} {v v' v2:Value} {xs xs' xs2:List Value} {r:Option Nat}
end
instance:Inhabited HP:=⟨⟨default,none,0⟩⟩
section
variable {w w':World} {base D:Nat} {τ τ':Nat→Tg} {V E V' E':Value} {lv pv ev:Int→Value} {hp he:Int→List HP} {g:GraphG} {r:Option Nat}
end
section
variable {α:Type} {K:KindG α} {e:TypeId} {W:World} {base:Nat} {ok0:Nat→Prop} {v:Value} {hs:List α}
end
instance:Inhabited HV:=⟨⟨none,0,default⟩⟩
instance:DecidableEq Val:=fun a b=>decidable_of_iff (ordV a b=0) (ordV_zero a b)
end Go.Proofs.YtfhekbacigoblaaGreatDoor
