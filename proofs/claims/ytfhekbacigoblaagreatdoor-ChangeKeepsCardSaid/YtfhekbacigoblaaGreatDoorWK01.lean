import Derived.Test.YtfhekbacigoblaaGreatDoorWK00
import Derived.Lib.Overlaps
import Derived.Lib.SliceRun
import Derived.Deep.RegionHeld
import Derived.Maps.AppendAt
import Derived.Deep.RegionHeld3
import Derived.Deep.CutBlock
import Derived.Deep.DeepCutAuto
import Derived.Lib.BitFns
import Derived.Test.YtfhekbacigoblaaGreatDoorShelf
import Derived.Shelf.Spec.BitsCarry
namespace Go.Proofs.YtfhekbacigoblaaGreatDoor
open Go.RowKit
section
variable {w w':World} {base K K2 n n2 n':Nat} {τ τ':Nat→Tg} {T T2:Tg} {e e2:TypeId} {v v' v2:Value} {xs xs' xs2:List Value} {r:Option Nat}
end
instance:Inhabited HP:=⟨⟨default,none,0⟩⟩
section
variable {w w':World} {base D:Nat} {τ τ':Nat→Tg} {V E V' E':Value} {lv pv ev:Int→Value} {hp he:Int→List HP} {g:za} {r:Option Nat}
end
section
variable {α:Type} {K:zel α} {e:TypeId} {W:World} {base:Nat} {ok0:Nat→Prop} {v:Value} {hs:List α}
end
instance:Inhabited HV:=⟨⟨none,0,default⟩⟩
instance:DecidableEq Val:=fun a b=>decidable_of_iff (zbw a b=0) (zhe a b)
end Go.Proofs.YtfhekbacigoblaaGreatDoor
