import Derived.Test.YtfhekbacigoblaaGreatDoorV22
import Derived.Sort.Walk0
import Derived.Lib.Small
import Derived.Lib.ItoaNum
import Derived.Lib.AtoiAll
import Derived.Laws.CopyRow
import Derived.Lib.AppendZerosOnto
import Derived.Lib.SlFresh
import Derived.Laws.AppendOwn
import Derived.Laws.OwnMore
import Derived.OwnWalk
import Derived.Deep.AppendLies
import Derived.Deep.MidRow
import Derived.Below
import Derived.Laws.Rows
import Derived.Deep.Draws
import Derived.Lib.Hide
import Derived.OrdersHeld
import Derived.Test.YtfhekbacigoblaaGreatDoorProg
import Derived.Deep.Cut
import Derived.Deep.QuietTactic
import Derived.BigQuiet
import Derived.WalkKit
import Derived.WalkSpells
import Derived.WalkLawsBesides
namespace Go.Proofs.YtfhekbacigoblaaGreatDoor
instance:Inhabited Val:=⟨.mk 0 0 0 ByteArray.empty []⟩
open Go.RowKit
instance:Inhabited zaf:=⟨⟨ByteArray.empty,default⟩⟩
instance:Inhabited zb:=⟨⟨0,[],[]⟩⟩
instance:Inhabited zf:=⟨⟨0,0,0,ByteArray.empty,[]⟩⟩
section
variable (w:World) (ok:Nat→Prop)
end
section
variable {w w':World} {ok ok':Nat→Prop}
end
instance:Inhabited ChG:=⟨⟨0,0,0,0,ByteArray.empty,default⟩⟩
end Go.Proofs.YtfhekbacigoblaaGreatDoor
