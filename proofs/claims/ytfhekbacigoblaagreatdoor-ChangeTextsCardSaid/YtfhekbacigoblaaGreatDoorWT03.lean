import Derived.Test.YtfhekbacigoblaaGreatDoorWT02
import Derived.Laws.BitsAllLaws
import Derived.Recover
namespace Go.Proofs.YtfhekbacigoblaaGreatDoor
open Go.RowKit
theorem r8_id (n:Int) (w:World):Calls Tryz.prog 37 #[.int .i64 n] w fun e w'=>e= .returned (.bool (idC n))∧w'=w:=by
 by_cases h1:1≤n
 ·have q1:decide (1≤n)=true:=decide_eq_true h1
  have HR:=Lib.hid (show idC n=decide (n≤1000000) by unfold idC;exact decide_eq_decide.2 ⟨fun h=>h.2,fun h=>⟨h1,h⟩⟩)
  generalize idC n=R at *
  go_enter Tryz.func37,Tryz.ntmps37
  go_wp2_with fail
  go_ret
  exact ⟨by rw [HR.out];rfl,rfl⟩
 ·have q1:decide (1≤n)=false:=decide_eq_false h1
  have HR:=Lib.hid (show idC n=false from decide_eq_false (fun h=>h1 h.1))
  generalize idC n=R at *
  go_enter Tryz.func37,Tryz.ntmps37
  go_wp2_with fail
  go_ret
  exact ⟨by rw [HR.out];rfl,rfl⟩
theorem sz_nil:szV zbf:=by
 show ByteArray.empty.size≤140737488355328∧szL []
 exact ⟨by decide,trivial⟩
theorem r8_null (v:Val) (ok:Nat→Prop) (A:Option Addr) (k:Nat) (w:World) (hz:szV v) (hv:zk w ok A v.l) :
  Calls Tryz.prog 40 #[.agg #[.int .i64 v.kind, .int .i64 v.n, .int .i64 v.d, .string v.s, .slice A v.l.length k]] w fun e w'=>e= .returned (.bool (zby v))∧Ext w w':=by
 obtain ⟨g,w1,hg,hw1,hc,hx,-⟩:=zbt w v A k 28
 obtain ⟨p0,p1,p2,p3,p4⟩:=hc
 have HC:Hid (∀ W,Ext w W→Calls Tryz.prog 62 #[.agg #[.int .i64 v.kind, .int .i64 v.n, .int .i64 v.d, .string v.s, .slice A v.l.length k], .agg #[.int .i64 0, .int .i64 0, .int .i64 0, .string ⟨#[]⟩, .slice none 0 0]] W fun e w'=>e= .returned (.int .i64 (zbw v zbf))∧Ext W w'):=Lib.hid (fun W e=>zwy v zbf ok ok A none k 0 W (hv.ext e) (zo.nil _ _ _) hz sz_nil)
 have HR:=Lib.hid (show zby v=(zbw v zbf == 0) by unfold zby;rw [Bool.eq_iff_iff,decide_eq_true_iff,beq_iff_eq])
 have HW1:=Lib.hid hw1
 have HG:=Lib.hid hg
 clear hw1 hg hz hv
 generalize zby v=R at *
 generalize zbw v zbf=z at *
 go_enter Tryz.func40,Tryz.ntmps40
 go_upto_region 1 with (fail)
 rw [←HW1.out,←HG.out]
 go_wp2_with ((go_at_call 62;((with_reducible refine (HC.out _ Qg).mono ?_);rintro e w2 ⟨rfl,hx2⟩)))
 go_ret
 exact ⟨by rw [HR.out];rfl,hx.trans (Ext.trans Qg hx2)⟩
section
variable {α:Type} {K:zel α} {e:TypeId} {W:World} {base:Nat} {ok0:Nat→Prop} {v:Value} {hs:List α}
end
instance:Inhabited HV:=⟨⟨none,0,default⟩⟩
instance:DecidableEq Val:=fun a b=>decidable_of_iff (zbw a b=0) (zhe a b)
end Go.Proofs.YtfhekbacigoblaaGreatDoor
