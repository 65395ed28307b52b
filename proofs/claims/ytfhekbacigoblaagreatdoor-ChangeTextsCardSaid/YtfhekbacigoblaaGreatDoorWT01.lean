import Derived.Test.YtfhekbacigoblaaGreatDoorWT00
import Derived.Lib.Overlaps
import Derived.Lib.SliceRun
import Derived.Deep.RegionHeld
import Derived.Maps.AppendAt
namespace Go.Proofs.YtfhekbacigoblaaGreatDoor
open Go.RowKit
instance:Inhabited zaf:=⟨⟨ByteArray.empty,default⟩⟩
instance:Inhabited zb:=⟨⟨0,[],[]⟩⟩
instance:Inhabited zf:=⟨⟨0,0,0,ByteArray.empty,[]⟩⟩
section
variable (w:World) (ok:Nat→Prop)
end
section
variable {w w':World} {ok ok':Nat→Prop}
end
instance:Inhabited ChG:=⟨⟨0,0,0,0,ByteArray.empty,default⟩⟩
section
variable {w w':World} {base K K2 n n2 n':Nat} {τ τ':Nat→Tg} {T T2:Tg} {e e2:TypeId} {v v' v2:Value} {xs xs' xs2:List Value} {r:Option Nat}
end
instance:Inhabited HP:=⟨⟨default,none,0⟩⟩
section
variable {w w':World} {base D:Nat} {τ τ':Nat→Tg} {V E V' E':Value} {lv pv ev:Int→Value} {hp he:Int→List HP} {g:za} {r:Option Nat}
end
end Go.Proofs.YtfhekbacigoblaaGreatDoor
