import Derived.Test.YtfhekbacigoblaaGreatDoorV00
import Derived.Test.YtfhekbacigoblaaGreatDoorV01
import Derived.Test.YtfhekbacigoblaaGreatDoorV02
import Derived.Test.YtfhekbacigoblaaGreatDoorV03
import Derived.Test.YtfhekbacigoblaaGreatDoorV04
import Derived.Test.YtfhekbacigoblaaGreatDoorV05
import Derived.Test.YtfhekbacigoblaaGreatDoorV06
import Derived.Test.YtfhekbacigoblaaGreatDoorV07
import Derived.Test.YtfhekbacigoblaaGreatDoorV08
import Derived.Test.YtfhekbacigoblaaGreatDoorV09
import Derived.Test.YtfhekbacigoblaaGreatDoorV10
import Derived.Test.YtfhekbacigoblaaGreatDoorV11
import Derived.Test.YtfhekbacigoblaaGreatDoorV12
import Derived.Test.YtfhekbacigoblaaGreatDoorV13
import Derived.Test.YtfhekbacigoblaaGreatDoorV14
import Derived.Test.YtfhekbacigoblaaGreatDoorV15
import Derived.Test.YtfhekbacigoblaaGreatDoorV16
import Derived.Test.YtfhekbacigoblaaGreatDoorV17
import Derived.Test.YtfhekbacigoblaaGreatDoorV18
import Derived.Test.YtfhekbacigoblaaGreatDoorV19
import Derived.Test.YtfhekbacigoblaaGreatDoorV20
import Derived.Test.YtfhekbacigoblaaGreatDoorV21
import Derived.Test.YtfhekbacigoblaaGreatDoorV22
import Derived.Sort.Walk0
import Derived.Lib.Small
import Derived.Lib.ItoaNum
import Derived.Lib.AtoiAll
import Derived.Laws.CopyRow
import Derived.Lib.AppendZerosOnto
import Derived.Lib.SlFresh
import Derived.Laws.AppendOwn
import Derived.Laws.OwnMore
import Derived.OwnWalk
import Derived.Deep.AppendLies
import Derived.Deep.MidRow
import Derived.Below
import Derived.Laws.Rows
import Derived.Deep.Draws
import Derived.Lib.Hide
import Derived.OrdersHeld
import Derived.Test.YtfhekbacigoblaaGreatDoorProg
import Derived.Deep.Cut
import Derived.Deep.QuietTactic
import Derived.BigQuiet
import Derived.WalkKit
import Derived.WalkSpells
import Derived.WalkLawsBesides
namespace Go.Proofs.YtfhekbacigoblaaGreatDoor
instance:Inhabited Val:=⟨.mk 0 0 0 ByteArray.empty []⟩
open Go.RowKit
instance:Inhabited PropG:=⟨⟨ByteArray.empty,default⟩⟩
instance:Inhabited NodeG:=⟨⟨0,[],[]⟩⟩
instance:Inhabited EdgeG:=⟨⟨0,0,0,ByteArray.empty,[]⟩⟩
section
variable (w:World) (ok:Nat→Prop)
end
section
variable {w w':World} {ok ok':Nat→Prop}
end
instance:Inhabited ChG:=⟨⟨0,0,0,0,ByteArray.empty,default⟩⟩
end Go.Proofs.YtfhekbacigoblaaGreatDoor
