import Derived.Test.YtfhekbacigoblaaGreatDoorV00
import Derived.Test.YtfhekbacigoblaaGreatDoorV01
import Derived.Test.YtfhekbacigoblaaGreatDoorV02
import Derived.Test.YtfhekbacigoblaaGreatDoorV03
import Derived.Test.YtfhekbacigoblaaGreatDoorV04
import Derived.Test.YtfhekbacigoblaaGreatDoorV05
import Derived.Test.YtfhekbacigoblaaGreatDoorV06
import Derived.Test.YtfhekbacigoblaaGreatDoorV07
import Derived.Test.YtfhekbacigoblaaGreatDoorV08
import Derived.Test.YtfhekbacigoblaaGreatDoorV09
import Derived.Test.YtfhekbacigoblaaGreatDoorV10
import Derived.Test.YtfhekbacigoblaaGreatDoorV11
import Derived.Test.YtfhekbacigoblaaGreatDoorV12
import Derived.Test.YtfhekbacigoblaaGreatDoorV13
import Derived.Test.YtfhekbacigoblaaGreatDoorV14
import Derived.Test.YtfhekbacigoblaaGreatDoorV15
import Derived.Test.YtfhekbacigoblaaGreatDoorV16
import Derived.Test.YtfhekbacigoblaaGreatDoorV17
import Derived.Test.YtfhekbacigoblaaGreatDoorV18
import Derived.Test.YtfhekbacigoblaaGreatDoorV19
import Derived.Test.YtfhekbacigoblaaGreatDoorV20
import Derived.Test.YtfhekbacigoblaaGreatDoorV21
import Derived.Test.YtfhekbacigoblaaGreatDoorV22
import Derived.Lib.AppendIntMem
import Derived.Test.YtfhekbacigoblaaGreatDoorShelf
import Derived.Shelf.Vars
import Derived.Lib.SplitLaws
import Derived.Lib.IndexBytes
import Derived.Test.YtfhekbacigoblaaGreatDoorWR00
import Derived.Lib.AppendZerosOnto
import Derived.Test.YtfhekbacigoblaaGreatDoorWR01
import Derived.Deep.Cut
import Derived.Deep.RegionHeld
import Derived.Below
import Derived.Laws.Rows
import Derived.Laws.OwnMore
import Derived.Deep.Draws
import Derived.Lib.Hide
import Derived.OrdersHeld
import Derived.Test.YtfhekbacigoblaaGreatDoorProg
import Derived.Laws.BitsAllLaws
import Derived.Maps.AppendAt
import Derived.Laws.CopyRow
import Derived.Lib.SlFresh
import Derived.Laws.AppendOwn
import Derived.OwnWalk
import Derived.Deep.AppendLies
import Derived.Deep.MidRow
import Derived.WalkLawsBesides
import Derived.Deep.RegionHeld3
import Derived.Deep.QuietTactic
import Derived.BigQuiet
import Derived.Deep.CutBlock
import Derived.Deep.DeepCutAuto
import Derived.Lib.BitFns
import Derived.Shelf.Spec.BitsCarry
import Derived.Lib.ItoaNum
import Derived.Lib.AtoiAll
import Derived.WalkKit
import Derived.WalkSpells
import Derived.Sort.Walk0
import Derived.Lib.Small
import Derived.Defers
import Derived.Recover
namespace Go.Proofs.YtfhekbacigoblaaGreatDoor
open Go.RowKit
def SmR (g:GraphG) (n most:Nat) (w:World) (e:Ending) (w':World):Prop := ∃ b,e = .returned (.bool b)∧(b=true→LtG g∧n≤most)∧Ext w w'
set_option maxRecDepth 100000 in
theorem l_small (g:GraphG) (l:List ChG) (ok ok':Nat→Prop) (A B C:Option Addr) (c d m:Nat) (w:World) (hg:GraphAt w ok A B g) (hs:SzA g) (hl:Chs w ok' C l) (hc:∀ c ∈ l,SzC c) :
  Calls Tryz.prog 9 #[.agg #[.slice A g.nodes.length c, .slice B g.edges.length d, .int .i64 g.nn, .int .i64 g.ne], .slice C l.length m] w (SmR g l.length 40 w):=by
 obtain ⟨q1,w1,hq1,hw1,HB1,hx⟩:=box_gr w (.slice A g.nodes.length c) (.slice B g.edges.length d) (.int .i64 g.nn) (.int .i64 g.ne) 25
 have a0:w1.cell? ⟨q1,0,none⟩=some (.slice A g.nodes.length c):=(HB1.cell 0).trans rfl
 have a1:w1.cell? ⟨q1,1,none⟩=some (.slice B g.edges.length d):=(HB1.cell 1).trans rfl
 have a2:w1.cell? ⟨q1,2,none⟩=some (.int .i64 g.nn):=(HB1.cell 2).trans rfl
 have a3:w1.cell? ⟨q1,3,none⟩=some (.int .i64 g.ne):=(HB1.cell 3).trans rfl
 have HX:=Lib.hid hx
 have HW:=Lib.hid hw1
 have HQ:=Lib.hid hq1
 have HS:=Lib.hid (fun W (e:Ext w1 W)=>r7_Small g ok A B c d W (hg.ext (hx.trans e)) hs)
 have HF:=Lib.hid (fun W (e:Ext w1 W)=>(show Calls Tryz.prog 23 #[.slice C l.length m, .int .i64 40] W (FewR l.length 40 W) from r8_Few l ok' C m 40 W (hl.ext (hx.trans e)) hc (by decide)))
 clear hx hw1 hq1 HB1 hg hs hl hc
 go_enter Tryz.func9,Tryz.ntmps9
 go_upto_region 1 with (fail)
 rw [←HW.out,←HQ.out]
 clear HW HQ
 go_wp2_with (first|(go_at_call 28;((with_reducible refine (HS.out _ (by solve_by_elim [X0,X1,X2,X3])).mono ?_);rintro e w2 ⟨b,rfl,hb2,hx2⟩;cases b))|(go_at_call 23;((with_reducible refine (HF.out _ (by solve_by_elim [X0,X1,X2,X3])).mono ?_);rintro e w3 ⟨b,rfl,hb3,hx3⟩;cases b)))
 all_goals go_ret
 ·exact ⟨false,rfl,(fun h=>by cases h),HX.out.trans (by solve_by_elim [X0,X1,X2,X3])⟩
 ·exact ⟨false,rfl,(fun h=>by cases h),HX.out.trans (Ext.trans (by solve_by_elim [X0,X1,X2,X3]) hx3)⟩
 ·exact ⟨true,rfl,(fun _=>⟨hb2 (by trivial),hb3 (by trivial)⟩),HX.out.trans (Ext.trans (by solve_by_elim [X0,X1,X2,X3]) hx3)⟩
section
variable {g after:GraphG} {l back:List ChG} {i:Nat} {k:Int}
theorem aa_ok (h:runG g l = .ok after) (ok ok':Nat→Prop) (A B C:Option Addr) (c d m:Nat) (w:World) (hz:ZeroAt w) (hg:GraphAt w ok A B g) (hl:Chs w ok' C l) :
  Calls Tryz.prog 18 #[.agg #[.slice A g.nodes.length c, .slice B g.edges.length d, .int .i64 g.nn, .int .i64 g.ne], .slice C l.length m] w fun e w' => ∃ A' c' B' d',e = .returned (.tuple #[.agg #[.slice A' after.nodes.length c', .slice B' after.edges.length d', .int .i64 after.nn, .int .i64 after.ne], .int .i64 l.length, .int .i64 0])∧GraphAt w' (fun _=>True) A' B' after∧Ext w w':=by
 refine (ch_ApplyAll g l ok ok' A B C c d m w hz hg hl).mono ?_
 rw [h]
 rintro e w' ⟨⟨v,rfl,A',c',B',d',rfl,-,-,h1⟩,h2⟩
 exact ⟨A',c',B',d',rfl,h1.all,h2⟩
theorem aa_err (h:runG g l = .error (i,k)) (ok ok':Nat→Prop) (A B C:Option Addr) (c d m:Nat) (w:World) (hz:ZeroAt w) (hg:GraphAt w ok A B g) (hl:Chs w ok' C l) :
  Calls Tryz.prog 18 #[.agg #[.slice A g.nodes.length c, .slice B g.edges.length d, .int .i64 g.nn, .int .i64 g.ne], .slice C l.length m] w fun e w'=>e = .returned (.tuple #[.agg #[.slice none 0 0, .slice none 0 0, .int .i64 0, .int .i64 0], .int .i64 i, .int .i64 k])∧Ext w w':=by
 refine (ch_ApplyAll g l ok ok' A B C c d m w hz hg hl).mono ?_
 rw [h]
 rintro e w' ⟨rfl,h2⟩
 exact ⟨rfl,h2⟩
theorem iv_ok (h:invAll g l = .ok back) (hll:l.length≤1000) (ok ok':Nat→Prop) (A B C:Option Addr) (c d m:Nat) (w:World) (hz:ZeroAt w) (hg:GraphAt w ok A B g) (hl:Chs w ok' C l) :
  Calls Tryz.prog 19 #[.agg #[.slice A g.nodes.length c, .slice B g.edges.length d, .int .i64 g.nn, .int .i64 g.ne], .slice C l.length m] w fun e w' => ∃ A' c',e = .returned (.tuple #[.slice A' back.length c', .int .i64 l.length, .int .i64 0])∧Chs w' (fun _=>True) A' back∧Ext w w':=by
 refine (ch_Invert g l ok ok' A B C c d m w hz hg hl hll).mono ?_
 rw [h]
 rintro e w' ⟨⟨v,rfl,A',c',rfl,-,h1⟩,h2⟩
 exact ⟨A',c',rfl,h1.to (fun _ _=>trivial),h2⟩
theorem iv_err (h:invAll g l = .error (i,k)) (hll:l.length≤1000) (ok ok':Nat→Prop) (A B C:Option Addr) (c d m:Nat) (w:World) (hz:ZeroAt w) (hg:GraphAt w ok A B g) (hl:Chs w ok' C l) :
  Calls Tryz.prog 19 #[.agg #[.slice A g.nodes.length c, .slice B g.edges.length d, .int .i64 g.nn, .int .i64 g.ne], .slice C l.length m] w fun e w'=>e = .returned (.tuple #[.slice none 0 0, .int .i64 i, .int .i64 k])∧Ext w w':=by
 refine (ch_Invert g l ok ok' A B C c d m w hz hg hl hll).mono ?_
 rw [h]
 rintro e w' ⟨rfl,h2⟩
 exact ⟨rfl,h2⟩
end
set_option maxRecDepth 100000 in
set_option maxHeartbeats 6400000 in
theorem l_ChangeRestores (g:GraphG) (l:List ChG) (ok ok':Nat→Prop) (A B C:Option Addr) (c d m:Nat) (w:World) (hz:ZeroAt w) (hp:PowW w) (hb:BrW w) (hg:GraphAt w ok A B g) (hs:SzA g) (hl:Chs w ok' C l) (hc:∀ c ∈ l,SzC c) :
  Calls Tryz.prog 7 #[.agg #[.slice A g.nodes.length c, .slice B g.edges.length d, .int .i64 g.nn, .int .i64 g.ne], .slice C l.length m] w fun e w'=>e = .returned (.bool true)∧Ext w w':=by
 obtain ⟨q1,w1,hq1,hw1,HB1,hx⟩:=box_gr w (.slice A g.nodes.length c) (.slice B g.edges.length d) (.int .i64 g.nn) (.int .i64 g.ne) 25
 have a0:w1.cell? ⟨q1,0,none⟩=some (.slice A g.nodes.length c):=(HB1.cell 0).trans rfl
 have a1:w1.cell? ⟨q1,1,none⟩=some (.slice B g.edges.length d):=(HB1.cell 1).trans rfl
 have a2:w1.cell? ⟨q1,2,none⟩=some (.int .i64 g.nn):=(HB1.cell 2).trans rfl
 have a3:w1.cell? ⟨q1,3,none⟩=some (.int .i64 g.ne):=(HB1.cell 3).trans rfl
 have HX:=Lib.hid hx
 have HW:=Lib.hid hw1
 have HQ:=Lib.hid hq1
 have HK1:=Lib.hid HB1
 have HZ:=Lib.hid (fun W (e:Ext w1 W)=>hz.ext (hx.trans e))
 have HAL:=Lib.hid (fun W (e:Ext w1 W)=>l_alive W (hz.ext (hx.trans e)) (hp.ext (hx.trans e)) (hb.ext (hx.trans e)))
 have HSM:=Lib.hid (l_small g l ok ok' A B C c d m w1 (hg.ext hx) hs (hl.ext hx) hc)
 have HG:=Lib.hid (fun W (e:Ext w1 W)=>hg.ext (hx.trans e))
 have HL:=Lib.hid (fun W (e:Ext w1 W)=>hl.ext (hx.trans e))
 have HS:=Lib.hid hs
 clear hx hw1 hq1 HB1 hg hs hl hc hz hp hb
 go_enter Tryz.func7,Tryz.ntmps7
 go_upto_region 1 with (fail)
 rw [←HW.out,←HQ.out]
 clear HW HQ
 go_upto_if 23 with ((go_at_call 9;((with_reducible refine (HSM.out).mono ?_);rintro e w2 ⟨b,rfl,hb2,hx2⟩)))
 have hE2:Ext w1 w2:=Ext.trans (by solve_by_elim [X0,X1,X2,X3]) hx2
 clear a0 a1 a2 a3 hx2
 cases b
 case false =>
  go_wp2_with ((go_at_call 10;((with_reducible refine (HAL.out _ hE2).mono ?_);rintro e w3 ⟨rfl,hx3⟩)))
  go_ret
  exact ⟨rfl,HX.out.trans (hE2.trans hx3)⟩
 obtain ⟨-,h40⟩:=hb2 (by trivial)
 have HLE:=Lib.hid h40
 clear h40 hb2 HSM
 have b0:w2.cell? ⟨q1,0,none⟩=some (.slice A g.nodes.length c):=((HK1.out.ext hE2).cell 0).trans rfl
 have b1:w2.cell? ⟨q1,1,none⟩=some (.slice B g.edges.length d):=((HK1.out.ext hE2).cell 1).trans rfl
 have b2:w2.cell? ⟨q1,2,none⟩=some (.int .i64 g.nn):=((HK1.out.ext hE2).cell 2).trans rfl
 have b3:w2.cell? ⟨q1,3,none⟩=some (.int .i64 g.ne):=((HK1.out.ext hE2).cell 3).trans rfl
 cases hR:runG g l with
 | error p =>
  obtain ⟨i,k⟩:=p
  obtain ⟨hI,hk0⟩:=rest_err hR
  have HA:=Lib.hid (fun W (e:Ext w1 W)=>aa_err hR ok ok' A B C c d m W (HZ.out W e) (HG.out W e) (HL.out W e))
  have HI:=Lib.hid (fun W (e:Ext w1 W)=>iv_err hI (by have:=HLE.out;omega) ok ok' A B C c d m W (HZ.out W e) (HG.out W e) (HL.out W e))
  have hkb:(k != 0)=true:=by simpa using hk0
  clear hR hI
  go_upto_region 4 with ((go_at_call 18;((with_reducible refine (HA.out _ (hE2.trans (by solve_by_elim [X0,X1,X2,X3]))).mono ?_);rintro e w3 ⟨rfl,hx3⟩)))
  obtain ⟨q4,w4,hq4,hw4,HB4,hx4⟩:=box_gr w3 (.slice none 0 0) (.slice none 0 0) (.int .i64 0) (.int .i64 0) 25
  rw [←hw4,←hq4]
  have hE4:Ext w1 w4:=(hE2.trans (Ext.trans (by solve_by_elim [X0,X1,X2,X3]) hx3)).trans hx4
  have c0:w4.cell? ⟨q1,0,none⟩=some (.slice A g.nodes.length c):=((HK1.out.ext hE4).cell 0).trans rfl
  have c1:w4.cell? ⟨q1,1,none⟩=some (.slice B g.edges.length d):=((HK1.out.ext hE4).cell 1).trans rfl
  have c2:w4.cell? ⟨q1,2,none⟩=some (.int .i64 g.nn):=((HK1.out.ext hE4).cell 2).trans rfl
  have c3:w4.cell? ⟨q1,3,none⟩=some (.int .i64 g.ne):=((HK1.out.ext hE4).cell 3).trans rfl
  clear hw4 hq4 HB4 hx3 hx4 hE2 b0 b1 b2 b3 HA
  go_wp2_with (first|(go_at_call 19;((with_reducible refine (HI.out _ (hE4.trans (by solve_by_elim [X0,X1,X2,X3]))).mono ?_);rintro e w5 ⟨rfl,hx5⟩;have hE5:Ext w1 w5:=hE4.trans (Ext.trans (by solve_by_elim [X0,X1,X2,X3]) hx5)))|(go_at_call 10;((with_reducible refine (HAL.out _ (hE5.trans (by solve_by_elim [X0,X1,X2,X3]))).mono ?_);rintro e w6 ⟨rfl,hx6⟩)))
  go_ret
  exact ⟨rfl,HX.out.trans (hE5.trans (Ext.trans (by solve_by_elim [X0,X1,X2,X3]) hx6))⟩
 | ok after =>
  obtain ⟨back,x,again,y,hI,hXX,hJ,hY,hsx,hsy,hvg,hvx,hva,hvy,hbl⟩:=rest_ok hR
  obtain ⟨xn,xe,xa,xb⟩:=x
  obtain ⟨yn,ye,ya,yb⟩:=y
  obtain ⟨hx1,hx2⟩:=hsx
  obtain ⟨hy1,hy2⟩:=hsy
  change xn=g.nodes at hx1
  change xe=g.edges at hx2
  change yn=after.nodes at hy1
  change ye=after.edges at hy2
  subst hx1 hx2 hy1 hy2
  have hb1000:back.length≤1000:=by have:=HLE.out;omega
  have HA1:=Lib.hid (fun W (e:Ext w1 W)=>aa_ok hR ok ok' A B C c d m W (HZ.out W e) (HG.out W e) (HL.out W e))
  have HI1:=Lib.hid (fun W (e:Ext w1 W)=>iv_ok hI (by have:=HLE.out;omega) ok ok' A B C c d m W (HZ.out W e) (HG.out W e) (HL.out W e))
  have HA2:=Lib.hid (fun (A' B' C':Option Addr) (c' d' m':Nat) W (e:Ext w1 W) (h1:GraphAt W (fun _=>True) A' B' after) (h2:Chs W (fun _=>True) C' back)=>(show Calls Tryz.prog 18 #[.agg #[.slice A' after.nodes.length c', .slice B' after.edges.length d', .int .i64 after.nn, .int .i64 after.ne], .slice C' back.length m'] W fun e w' => ∃ A' c' B' d',e = .returned (.tuple #[.agg #[.slice A' g.nodes.length c', .slice B' g.edges.length d', .int .i64 xa, .int .i64 xb], .int .i64 back.length, .int .i64 0])∧GraphAt w' (fun _=>True) A' B' ⟨g.nodes,g.edges,xa,xb⟩∧Ext W w' from aa_ok hXX _ _ A' B' C' c' d' m' W (HZ.out W e) h1 h2))
  have HI2:=Lib.hid (fun (A' B' C':Option Addr) (c' d' m':Nat) W (e:Ext w1 W) (h1:GraphAt W (fun _=>True) A' B' after) (h2:Chs W (fun _=>True) C' back)=>iv_ok hJ hb1000 _ _ A' B' C' c' d' m' W (HZ.out W e) h1 h2)
  have HA3:=Lib.hid (fun (A' B' C':Option Addr) (c' d' m':Nat) W (e:Ext w1 W) (h1:GraphAt W (fun _=>True) A' B' ⟨g.nodes,g.edges,xa,xb⟩) (h2:Chs W (fun _=>True) C' again)=>(show Calls Tryz.prog 18 #[.agg #[.slice A' g.nodes.length c', .slice B' g.edges.length d', .int .i64 xa, .int .i64 xb], .slice C' again.length m'] W fun e w' => ∃ A' c' B' d',e = .returned (.tuple #[.agg #[.slice A' after.nodes.length c', .slice B' after.edges.length d', .int .i64 ya, .int .i64 yb], .int .i64 again.length, .int .i64 0])∧GraphAt w' (fun _=>True) A' B' ⟨after.nodes,after.edges,ya,yb⟩∧Ext W w' from aa_ok hY _ _ A' B' C' c' d' m' W (HZ.out W e) h1 h2))
  have HVG:=Lib.hid (vg_szA hvg)
  have HVA:=Lib.hid (vg_szA hva)
  clear hR hI hXX hJ hY hvg hvx hva hvy hbl hb1000
  go_upto_region 4 with ((go_at_call 18;((with_reducible refine (HA1.out _ (hE2.trans (by solve_by_elim [X0,X1,X2,X3]))).mono ?_);rintro e w3 ⟨A3,c3,B3,d3,rfl,hg3,hx3⟩)))
  obtain ⟨q4,w4,hq4,hw4,HB4,hx4⟩:=box_gr w3 (.slice A3 after.nodes.length c3) (.slice B3 after.edges.length d3) (.int .i64 after.nn) (.int .i64 after.ne) 25
  rw [←hw4,←hq4]
  have hE4:Ext w1 w4:=(hE2.trans (Ext.trans (by solve_by_elim [X0,X1,X2,X3]) hx3)).trans hx4
  have HG4:=Lib.hid (fun W (e:Ext w4 W)=>hg3.ext (hx4.trans e))
  have HK4:=Lib.hid HB4
  have u0:w4.cell? ⟨q1,0,none⟩=some (.slice A g.nodes.length c):=((HK1.out.ext hE4).cell 0).trans rfl
  have u1:w4.cell? ⟨q1,1,none⟩=some (.slice B g.edges.length d):=((HK1.out.ext hE4).cell 1).trans rfl
  have u2:w4.cell? ⟨q1,2,none⟩=some (.int .i64 g.nn):=((HK1.out.ext hE4).cell 2).trans rfl
  have u3:w4.cell? ⟨q1,3,none⟩=some (.int .i64 g.ne):=((HK1.out.ext hE4).cell 3).trans rfl
  clear hw4 hq4 HB4 hx3 hx4 hE2 b0 b1 b2 b3 HA1 hg3
  go_upto_region 7 with ((go_at_call 19;((with_reducible refine (HI1.out _ (hE4.trans (by solve_by_elim [X0,X1,X2,X3]))).mono ?_);rintro e w5 ⟨A5,c5,rfl,hch5,hx5⟩)))
  have hF5:Ext w4 w5:=Ext.trans (by solve_by_elim [X0,X1,X2,X3]) hx5
  have hE5:Ext w1 w5:=hE4.trans hF5
  have HC5:=Lib.hid (fun W (e:Ext w5 W)=>hch5.ext e)
  have HG5:=Lib.hid (fun W (e:Ext w5 W)=>HG4.out W (hF5.trans e))
  have HK45:=Lib.hid (HK4.out.ext hF5)
  have f0:w5.cell? ⟨q4,0,none⟩=some (.slice A3 after.nodes.length c3):=(HK45.out.cell 0).trans rfl
  have f1:w5.cell? ⟨q4,1,none⟩=some (.slice B3 after.edges.length d3):=(HK45.out.cell 1).trans rfl
  have f2:w5.cell? ⟨q4,2,none⟩=some (.int .i64 after.nn):=(HK45.out.cell 2).trans rfl
  have f3:w5.cell? ⟨q4,3,none⟩=some (.int .i64 after.ne):=(HK45.out.cell 3).trans rfl
  clear hx5 hE4 u0 u1 u2 u3 HI1 hch5 HG4 HK4 hF5
  go_upto_region 8 with ((go_at_call 18;((with_reducible refine (HA2.out _ _ _ _ _ _ _ (hE5.trans (by solve_by_elim [X0,X1,X2,X3])) (HG5.out _ (by solve_by_elim [X0,X1,X2,X3])) (HC5.out _ (by solve_by_elim [X0,X1,X2,X3]))).mono ?_);rintro e w6 ⟨A6,c6,B6,d6,rfl,hg6,hx6⟩)))
  obtain ⟨q7,w7,hq7,hw7,HB7,hx7⟩:=box_gr w6 (.slice A6 g.nodes.length c6) (.slice B6 g.edges.length d6) (.int .i64 xa) (.int .i64 xb) 25
  rw [←hw7,←hq7]
  have hF7:Ext w5 w7:=(Ext.trans (by solve_by_elim [X0,X1,X2,X3]) hx6).trans hx7
  have hE7:Ext w1 w7:=hE5.trans hF7
  have HG7:=Lib.hid (fun W (e:Ext w7 W)=>hg6.ext (hx7.trans e))
  have HK7:=Lib.hid HB7
  have HK47:=Lib.hid (HK45.out.ext hF7)
  have HC7:=Lib.hid (fun W (e:Ext w7 W)=>HC5.out W (hF7.trans e))
  have HH7:=Lib.hid (fun W (e:Ext w7 W)=>HG5.out W (hF7.trans e))
  have p0:w7.cell? ⟨q4,0,none⟩=some (.slice A3 after.nodes.length c3):=(HK47.out.cell 0).trans rfl
  have p1:w7.cell? ⟨q4,1,none⟩=some (.slice B3 after.edges.length d3):=(HK47.out.cell 1).trans rfl
  have p2:w7.cell? ⟨q4,2,none⟩=some (.int .i64 after.nn):=(HK47.out.cell 2).trans rfl
  have p3:w7.cell? ⟨q4,3,none⟩=some (.int .i64 after.ne):=(HK47.out.cell 3).trans rfl
  clear hw7 hq7 HB7 hx6 hx7 hE5 f0 f1 f2 f3 HA2 hg6 HC5 HG5 HK45 hF7
  go_upto_region 9 with ((go_at_call 19;((with_reducible refine (HI2.out _ _ _ _ _ _ _ (hE7.trans (by solve_by_elim [X0,X1,X2,X3])) (HH7.out _ (by solve_by_elim [X0,X1,X2,X3])) (HC7.out _ (by solve_by_elim [X0,X1,X2,X3]))).mono ?_);rintro e w8 ⟨A8,c8,rfl,hch8,hx8⟩)))
  have hF8:Ext w7 w8:=Ext.trans (by solve_by_elim [X0,X1,X2,X3]) hx8
  have hE8:Ext w1 w8:=hE7.trans hF8
  have HC8:=Lib.hid (fun W (e:Ext w8 W)=>hch8.ext e)
  have HG8:=Lib.hid (fun W (e:Ext w8 W)=>HG7.out W (hF8.trans e))
  have HH8:=Lib.hid (fun W (e:Ext w8 W)=>HH7.out W (hF8.trans e))
  have HK48:=Lib.hid (HK47.out.ext hF8)
  have HK78:=Lib.hid (HK7.out.ext hF8)
  have f0:w8.cell? ⟨q7,0,none⟩=some (.slice A6 g.nodes.length c6):=(HK78.out.cell 0).trans rfl
  have f1:w8.cell? ⟨q7,1,none⟩=some (.slice B6 g.edges.length d6):=(HK78.out.cell 1).trans rfl
  have f2:w8.cell? ⟨q7,2,none⟩=some (.int .i64 xa):=(HK78.out.cell 2).trans rfl
  have f3:w8.cell? ⟨q7,3,none⟩=some (.int .i64 xb):=(HK78.out.cell 3).trans rfl
  clear hx8 hE7 p0 p1 p2 p3 HI2 hch8 HG7 HH7 HK47 HK7 hF8 HC7
  go_upto_region 10 with ((go_at_call 18;((with_reducible refine (HA3.out _ _ _ _ _ _ _ (hE8.trans (by solve_by_elim [X0,X1,X2,X3])) (HG8.out _ (by solve_by_elim [X0,X1,X2,X3])) (HC8.out _ (by solve_by_elim [X0,X1,X2,X3]))).mono ?_);rintro e w9 ⟨A9,c9,B9,d9,rfl,hg9,hx9⟩)))
  obtain ⟨q10,w10,hq10,hw10,HB10,hx10⟩:=box_gr w9 (.slice A9 after.nodes.length c9) (.slice B9 after.edges.length d9) (.int .i64 ya) (.int .i64 yb) 25
  rw [←hw10,←hq10]
  have hF10:Ext w8 w10:=(Ext.trans (by solve_by_elim [X0,X1,X2,X3]) hx9).trans hx10
  have hE10:Ext w1 w10:=hE8.trans hF10
  have HG10:=Lib.hid (fun W (e:Ext w10 W)=>hg9.ext (hx10.trans e))
  have HK10:=Lib.hid HB10
  have HK410:=Lib.hid (HK48.out.ext hF10)
  have HK710:=Lib.hid (HK78.out.ext hF10)
  have HS1:=Lib.hid (fun W (e:Ext w10 W)=>r7_SameParts g.nodes g.edges xa xb g.nn g.ne (fun _=>True) ok A6 B6 A B c6 d6 c d W (HG8.out W (hF10.trans e)) (HG.out W (hE10.trans e)) (fun n hn p hp=>((HVG.out.nodes n hn).2 p hp).1) (fun n hn p hp=>((HVG.out.edges n hn).2 p hp).1))
  have HS2:=Lib.hid (fun W (e:Ext w10 W)=>r7_SameParts after.nodes after.edges ya yb after.nn after.ne (fun _=>True) (fun _=>True) A9 B9 A3 B3 c9 d9 c3 d3 W (HG10.out W e) (HH8.out W (hF10.trans e)) (fun n hn p hp=>((HVA.out.nodes n hn).2 p hp).1) (fun n hn p hp=>((HVA.out.edges n hn).2 p hp).1))
  have u0:w10.cell? ⟨q1,0,none⟩=some (.slice A g.nodes.length c):=((HK1.out.ext hE10).cell 0).trans rfl
  have u1:w10.cell? ⟨q1,1,none⟩=some (.slice B g.edges.length d):=((HK1.out.ext hE10).cell 1).trans rfl
  have u2:w10.cell? ⟨q1,2,none⟩=some (.int .i64 g.nn):=((HK1.out.ext hE10).cell 2).trans rfl
  have u3:w10.cell? ⟨q1,3,none⟩=some (.int .i64 g.ne):=((HK1.out.ext hE10).cell 3).trans rfl
  have p0:w10.cell? ⟨q4,0,none⟩=some (.slice A3 after.nodes.length c3):=(HK410.out.cell 0).trans rfl
  have p1:w10.cell? ⟨q4,1,none⟩=some (.slice B3 after.edges.length d3):=(HK410.out.cell 1).trans rfl
  have p2:w10.cell? ⟨q4,2,none⟩=some (.int .i64 after.nn):=(HK410.out.cell 2).trans rfl
  have p3:w10.cell? ⟨q4,3,none⟩=some (.int .i64 after.ne):=(HK410.out.cell 3).trans rfl
  have x0:w10.cell? ⟨q7,0,none⟩=some (.slice A6 g.nodes.length c6):=(HK710.out.cell 0).trans rfl
  have x1:w10.cell? ⟨q7,1,none⟩=some (.slice B6 g.edges.length d6):=(HK710.out.cell 1).trans rfl
  have x2:w10.cell? ⟨q7,2,none⟩=some (.int .i64 xa):=(HK710.out.cell 2).trans rfl
  have x3:w10.cell? ⟨q7,3,none⟩=some (.int .i64 xb):=(HK710.out.cell 3).trans rfl
  have y0:w10.cell? ⟨q10,0,none⟩=some (.slice A9 after.nodes.length c9):=(HK10.out.cell 0).trans rfl
  have y1:w10.cell? ⟨q10,1,none⟩=some (.slice B9 after.edges.length d9):=(HK10.out.cell 1).trans rfl
  have y2:w10.cell? ⟨q10,2,none⟩=some (.int .i64 ya):=(HK10.out.cell 2).trans rfl
  have y3:w10.cell? ⟨q10,3,none⟩=some (.int .i64 yb):=(HK10.out.cell 3).trans rfl
  clear hw10 hq10 HB10 hx9 hx10 hE8 f0 f1 f2 f3 HA3 hg9 HC8 HG8 HH8 HG10 HK48 HK78 HK10 HK410 HK710 hF10 HVG HVA
  go_wp2_with (first|(go_at_call 22;((with_reducible refine (HS1.out _ (by solve_by_elim [X0,X1,X2,X3])).mono ?_);rintro e w11 ⟨rfl,hx11⟩;have hE11:Ext w10 w11:=Ext.trans (by solve_by_elim [X0,X1,X2,X3]) hx11;replace y0:=hE11.cell y0;replace y1:=hE11.cell y1;replace y2:=hE11.cell y2;replace y3:=hE11.cell y3;replace p0:=hE11.cell p0;replace p1:=hE11.cell p1;replace p2:=hE11.cell p2;replace p3:=hE11.cell p3))|(go_at_call 22;((with_reducible refine (HS2.out _ (hE11.trans (by solve_by_elim [X0,X1,X2,X3]))).mono ?_);rintro e w12 ⟨rfl,hx12⟩;have hE12:Ext w10 w12:=hE11.trans (Ext.trans (by solve_by_elim [X0,X1,X2,X3]) hx12)))|(go_at_call 10;((with_reducible refine (HAL.out _ (hE10.trans (hE12.trans (by solve_by_elim [X0,X1,X2,X3])))).mono ?_);rintro e w13 ⟨rfl,hx13⟩)))
  go_ret
  exact ⟨rfl,HX.out.trans (hE10.trans (hE12.trans (Ext.trans (by solve_by_elim [X0,X1,X2,X3]) hx13)))⟩
end Go.Proofs.YtfhekbacigoblaaGreatDoor
