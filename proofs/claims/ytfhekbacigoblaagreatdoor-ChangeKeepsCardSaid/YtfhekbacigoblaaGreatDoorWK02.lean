import Derived.Test.YtfhekbacigoblaaGreatDoorWK01
import Derived.Lib.AppendIntMem
import Derived.Shelf.Vars
import Derived.Lib.SplitLaws
import Derived.Lib.IndexBytes
import Derived.Laws.BitsAllLaws
import Derived.Defers
import Derived.Recover
namespace Go.Proofs.YtfhekbacigoblaaGreatDoor
set_option maxRecDepth 100000
set_option maxHeartbeats 6400000
open Go.RowKit
theorem one_err {g:za} {c:ChG} {f:Int} (h:zin g c= .error f):f ≠ 0:=by
 unfold zin at h
 split at h
 ·exact zp2 h
 ·rename_i hc;injection h with h;rw [←h];exact hc
theorem one_ok {g x:za} {c:ChG} (h:zin g c= .ok x):VG g∧VG x∧g.nn≤x.nn∧g.ne≤x.ne:=by
 unfold zin at h
 split at h
 ·rename_i hc
  have hv:=(zni g).1 hc
  obtain ⟨h1,h2,h3⟩:=zk6 hv h
  exact ⟨hv,h1,h2,h3⟩
 ·cases h
theorem l_ChangeKeeps (g:za) (ch:ChG) (ok ok':Nat→Prop) (A B C:Option Addr) (c d k:Nat) (w:World) (hz:zq w) (hp:zgc w) (hb:BrW w) (hg:zp w ok A B g) (hs:SzA g) (hl:zk w ok' C ch.v.l) (hk:ch.v.l.length≤k) (hc:SzC ch) :
  Calls Tryz.prog 4 #[.agg #[.slice A g.nodes.length c, .slice B g.edges.length d, .int .i64 g.nn, .int .i64 g.ne], .agg #[.int .i64 ch.op, .int .i64 ch.id, .int .i64 ch.frm, .int .i64 ch.to_, .string ch.name, .int .i64 ch.v.kind, .int .i64 ch.v.n, .int .i64 ch.v.d, .string ch.v.s, .slice C ch.v.l.length k]] w fun e w'=>e= .returned (.bool true)∧Ext w w':=by
 obtain ⟨q1,w1,hq1,hw1,HB1,hx1⟩:=zb9 w (.slice A g.nodes.length c) (.slice B g.edges.length d) (.int .i64 g.nn) (.int .i64 g.ne) 25
 obtain ⟨q2,w2,hq2,hw2,hc10,hx2⟩:=zy w1 ch C k 30
 have hx:Ext w w2:=hx1.trans hx2
 have HWQ:Hid (w2=(w.alloc (.cells #[.slice A g.nodes.length c, .slice B g.edges.length d, .int .i64 g.nn, .int .i64 g.ne] 25)).alloc (.cells #[.int .i64 ch.op, .int .i64 ch.id, .int .i64 ch.frm, .int .i64 ch.to_, .string ch.name, .int .i64 ch.v.kind, .int .i64 ch.v.n, .int .i64 ch.v.d, .string ch.v.s, .slice C ch.v.l.length k] 30)):=Lib.hid (by rw [hw2,hw1])
 have HQ1:=Lib.hid hq1
 have HQ2:Hid (q2=w.heap.size+1):=Lib.hid (by rw [hq2,hw1];simp)
 have HK1:=Lib.hid (HB1.ext hx2)
 have HK2:=Lib.hid hc10
 have HX:=Lib.hid hx
 have HG:=Lib.hid (fun W (e:Ext w2 W)=>hg.ext (hx.trans e))
 have HL:=Lib.hid (fun W (e:Ext w2 W)=>hl.ext (hx.trans e))
 have HKL:=Lib.hid hk
 have HS:=Lib.hid hs
 have HZ:=Lib.hid (fun W (e:Ext w2 W)=>hz.ext (hx.trans e))
 have HAL:=Lib.hid (fun W (e:Ext w2 W)=>z1i W (hz.ext (hx.trans e)) (hp.ext (hx.trans e)) (hb.ext (hx.trans e)))
 have HSM:=Lib.hid (fun W (e:Ext (w2.alloc (.cells #[.int .i64 ch.op, .int .i64 ch.id, .int .i64 ch.frm, .int .i64 ch.to_, .string ch.name, .int .i64 ch.v.kind, .int .i64 ch.v.n, .int .i64 ch.v.d, .string ch.v.s, .slice C ch.v.l.length k] 30)) W)=>(show Calls Tryz.prog 9 #[.agg #[.slice A g.nodes.length c, .slice B g.edges.length d, .int .i64 g.nn, .int .i64 g.ne], .slice (some ⟨w2.heap.size,0,none⟩) 1 1] W (SmR g 1 40 W) from z1f g [ch] ok (fun _=>True) A B (some ⟨w2.heap.size,0,none⟩) c d 1 W ((hg.ext (hx.trans ((Ext.refl _).alloc _))).ext e) hs ((zsk (hl.ext hx) hk _).ext e) (fun x hx=>by rw [List.mem_singleton.1 hx];exact hc)))
 clear hq1 hq2 hw1 hw2 HB1 hc10 hx1 hx2 hx hg hl hk hs hz hp hb hc
 have a0:w2.cell? ⟨q1,0,none⟩=some (.slice A g.nodes.length c):=(HK1.out.cell 0).trans rfl
 have a1:w2.cell? ⟨q1,1,none⟩=some (.slice B g.edges.length d):=(HK1.out.cell 1).trans rfl
 have a2:w2.cell? ⟨q1,2,none⟩=some (.int .i64 g.nn):=(HK1.out.cell 2).trans rfl
 have a3:w2.cell? ⟨q1,3,none⟩=some (.int .i64 g.ne):=(HK1.out.cell 3).trans rfl
 have e0:w2.cell? ⟨q2,0,none⟩=some (.int .i64 ch.op):=by have h:=HK2.out.c0;simpa using h
 have e1:w2.cell? ⟨q2,1,none⟩=some (.int .i64 ch.id):=by have h:=HK2.out.c1;simpa using h
 have e2:w2.cell? ⟨q2,2,none⟩=some (.int .i64 ch.frm):=by have h:=HK2.out.c2;simpa using h
 have e3:w2.cell? ⟨q2,3,none⟩=some (.int .i64 ch.to_):=by have h:=HK2.out.c3;simpa using h
 have e4:w2.cell? ⟨q2,4,none⟩=some (.string ch.name):=by have h:=HK2.out.c4;simpa using h
 have e5:w2.cell? ⟨q2,5,none⟩=some (.int .i64 ch.v.kind):=by have h:=HK2.out.c5;simpa using h
 have e6:w2.cell? ⟨q2,6,none⟩=some (.int .i64 ch.v.n):=by have h:=HK2.out.c6;simpa using h
 have e7:w2.cell? ⟨q2,7,none⟩=some (.int .i64 ch.v.d):=by have h:=HK2.out.c7;simpa using h
 have e8:w2.cell? ⟨q2,8,none⟩=some (.string ch.v.s):=by have h:=HK2.out.c8;simpa using h
 have e9:w2.cell? ⟨q2,9,none⟩=some (.slice C ch.v.l.length k):=by have h:=HK2.out.c9;simpa using h
 go_enter Tryz.func4,Tryz.ntmps4
 go_upto_region 1 with (fail)
 rw [←HWQ.out,←HQ2.out,←HQ1.out]
 clear HWQ HQ1 HQ2
 go_upto_if 12 with ((go_at_call 9;((with_reducible refine (HSM.out _ Qg).mono ?_);rintro e w3 ⟨b,rfl,hb3,hx3⟩)))
 have hE3:Ext w2 w3:=Ext.trans Qg hx3
 clear a0 a1 a2 a3 e0 e1 e2 e3 e4 e5 e6 e7 e8 e9 hx3
 cases b
 case false =>
  go_wp2_with ((go_at_call 10;((with_reducible refine (HAL.out _ hE3).mono ?_);rintro e w4 ⟨rfl,hx4⟩)))
  go_ret
  exact ⟨rfl,HX.out.trans (hE3.trans hx4)⟩
 have HLT:Hid (LtG g):=Lib.hid (hb3 (by trivial)).1
 clear hb3 HSM
 have a0:w3.cell? ⟨q1,0,none⟩=some (.slice A g.nodes.length c):=((HK1.out.ext hE3).cell 0).trans rfl
 have a1:w3.cell? ⟨q1,1,none⟩=some (.slice B g.edges.length d):=((HK1.out.ext hE3).cell 1).trans rfl
 have a2:w3.cell? ⟨q1,2,none⟩=some (.int .i64 g.nn):=((HK1.out.ext hE3).cell 2).trans rfl
 have a3:w3.cell? ⟨q1,3,none⟩=some (.int .i64 g.ne):=((HK1.out.ext hE3).cell 3).trans rfl
 have HCY:=Lib.hid (fun W (e:Ext w2 W)=>z1d g ok A B c d W (HG.out W e) HLT.out)
 go_upto_region 4 with ((go_at_call 16;((with_reducible refine (HCY.out _ (hE3.trans Qg)).mono ?_);rintro e w4 ⟨A4,c4,B4,d4,rfl,hg4,hx4⟩)))
 obtain ⟨q5,w5,hq5,hw5,HB5,hx5⟩:=zb9 w4 (.slice A4 g.nodes.length c4) (.slice B4 g.edges.length d4) (.int .i64 g.nn) (.int .i64 g.ne) 25
 rw [←hw5,←hq5]
 have hE5:Ext w2 w5:=(hE3.trans (Ext.trans Qg hx4)).trans hx5
 have HK5:=Lib.hid HB5
 have HSS:=Lib.hid (fun W (e:Ext w5 W)=>zy7 g ok (fun _=>True) A B A4 B4 c d c4 d4 W (HG.out W (hE5.trans e)) ((hg4.ext (hx5.trans e)).all) HS.out)
 clear a0 a1 a2 a3 hw5 hq5 HB5 hx4 hx5 hE3 hg4 HCY
 have a0:w5.cell? ⟨q1,0,none⟩=some (.slice A g.nodes.length c):=((HK1.out.ext hE5).cell 0).trans rfl
 have a1:w5.cell? ⟨q1,1,none⟩=some (.slice B g.edges.length d):=((HK1.out.ext hE5).cell 1).trans rfl
 have a2:w5.cell? ⟨q1,2,none⟩=some (.int .i64 g.nn):=((HK1.out.ext hE5).cell 2).trans rfl
 have a3:w5.cell? ⟨q1,3,none⟩=some (.int .i64 g.ne):=((HK1.out.ext hE5).cell 3).trans rfl
 have e0:w5.cell? ⟨q2,0,none⟩=some (.int .i64 ch.op):=by have h:=(HK2.out.ext hE5).c0;simpa using h
 have e1:w5.cell? ⟨q2,1,none⟩=some (.int .i64 ch.id):=by have h:=(HK2.out.ext hE5).c1;simpa using h
 have e2:w5.cell? ⟨q2,2,none⟩=some (.int .i64 ch.frm):=by have h:=(HK2.out.ext hE5).c2;simpa using h
 have e3:w5.cell? ⟨q2,3,none⟩=some (.int .i64 ch.to_):=by have h:=(HK2.out.ext hE5).c3;simpa using h
 have e4:w5.cell? ⟨q2,4,none⟩=some (.string ch.name):=by have h:=(HK2.out.ext hE5).c4;simpa using h
 have e5:w5.cell? ⟨q2,5,none⟩=some (.int .i64 ch.v.kind):=by have h:=(HK2.out.ext hE5).c5;simpa using h
 have e6:w5.cell? ⟨q2,6,none⟩=some (.int .i64 ch.v.n):=by have h:=(HK2.out.ext hE5).c6;simpa using h
 have e7:w5.cell? ⟨q2,7,none⟩=some (.int .i64 ch.v.d):=by have h:=(HK2.out.ext hE5).c7;simpa using h
 have e8:w5.cell? ⟨q2,8,none⟩=some (.string ch.v.s):=by have h:=(HK2.out.ext hE5).c8;simpa using h
 have e9:w5.cell? ⟨q2,9,none⟩=some (.slice C ch.v.l.length k):=by have h:=(HK2.out.ext hE5).c9;simpa using h
 cases hR:zin g ch with
 | error f =>
  have hf0:(f != 0)=true:=by have:=one_err hR;simpa using this
  have HAP:=Lib.hid (fun W (e:Ext w5 W)=>z1h hR ok ok' A B C c d k W (HZ.out W (hE5.trans e)) (HG.out W (hE5.trans e)) (HL.out W (hE5.trans e)) HKL.out)
  have HSZ:=Lib.hid (fun W=>z0q W)
  clear hR
  go_upto_region 5 with ((go_at_call 11;((with_reducible refine (HAP.out _ Qg).mono ?_);rintro e w6 ⟨rfl,hx6⟩)))
  obtain ⟨q7,w7,hq7,hw7,HB7,hx7⟩:=zb9 w6 (.slice none 0 0) (.slice none 0 0) (.int .i64 0) (.int .i64 0) 25
  rw [←hw7,←hq7]
  have hE7:Ext w5 w7:=(Ext.trans Qg hx6).trans hx7
  have HK7:=Lib.hid HB7
  clear a0 a1 a2 a3 e0 e1 e2 e3 e4 e5 e6 e7 e8 e9 hw7 hq7 HB7 hx6 hx7 HAP
  have a0:w7.cell? ⟨q1,0,none⟩=some (.slice A g.nodes.length c):=((HK1.out.ext (hE5.trans hE7)).cell 0).trans rfl
  have a1:w7.cell? ⟨q1,1,none⟩=some (.slice B g.edges.length d):=((HK1.out.ext (hE5.trans hE7)).cell 1).trans rfl
  have a2:w7.cell? ⟨q1,2,none⟩=some (.int .i64 g.nn):=((HK1.out.ext (hE5.trans hE7)).cell 2).trans rfl
  have a3:w7.cell? ⟨q1,3,none⟩=some (.int .i64 g.ne):=((HK1.out.ext (hE5.trans hE7)).cell 3).trans rfl
  have m0:w7.cell? ⟨q5,0,none⟩=some (.slice A4 g.nodes.length c4):=((HK5.out.ext hE7).cell 0).trans rfl
  have m1:w7.cell? ⟨q5,1,none⟩=some (.slice B4 g.edges.length d4):=((HK5.out.ext hE7).cell 1).trans rfl
  have m2:w7.cell? ⟨q5,2,none⟩=some (.int .i64 g.nn):=((HK5.out.ext hE7).cell 2).trans rfl
  have m3:w7.cell? ⟨q5,3,none⟩=some (.int .i64 g.ne):=((HK5.out.ext hE7).cell 3).trans rfl
  go_upto_region 7 with ((go_at_call 15;((with_reducible refine (HSS.out _ (hE7.trans Qg)).mono ?_);rintro e w8 ⟨rfl,hx8⟩)))
  have hE8:Ext w7 w8:=Ext.trans Qg hx8
  clear a0 a1 a2 a3 m0 m1 m2 m3 hx8
  have z0:w8.cell? ⟨q7,0,none⟩=some (.slice none 0 0):=((HK7.out.ext hE8).cell 0).trans rfl
  have z1:w8.cell? ⟨q7,1,none⟩=some (.slice none 0 0):=((HK7.out.ext hE8).cell 1).trans rfl
  have z2:w8.cell? ⟨q7,2,none⟩=some (.int .i64 0):=((HK7.out.ext hE8).cell 2).trans rfl
  have z3:w8.cell? ⟨q7,3,none⟩=some (.int .i64 0):=((HK7.out.ext hE8).cell 3).trans rfl
  go_wp2_with (first|(go_at_call 15;((with_reducible refine (HSZ.out _).mono ?_);rintro e w9 ⟨rfl,hx9⟩;have hE9:Ext w8 w9:=Ext.trans Qg hx9))|(go_at_call 10;((with_reducible refine (HAL.out _ (hE5.trans (hE7.trans (hE8.trans (hE9.trans Qg))))).mono ?_);rintro e w10 ⟨rfl,hx10⟩)))
  go_ret
  exact ⟨rfl,HX.out.trans (hE5.trans (hE7.trans (hE8.trans (hE9.trans (Ext.trans Qg hx10)))))⟩
 | ok x =>
  obtain ⟨hvg,hvx,hnn,hne⟩:=one_ok hR
  have HAP:=Lib.hid (fun W (e:Ext w5 W)=>z1n hR ok ok' A B C c d k W (HZ.out W (hE5.trans e)) (HG.out W (hE5.trans e)) (HL.out W (hE5.trans e)) HKL.out)
  have HCG:=Lib.hid (fun W (e:Ext w2 W)=>(by have h:=zqj g ok A B c d W (HG.out W e);rw [(zni g).2 hvg] at h;exact h:Calls Tryz.prog 17 #[.agg #[.slice A g.nodes.length c, .slice B g.edges.length d, .int .i64 g.nn, .int .i64 g.ne]] W fun e w'=>e= .returned (.int .i64 0)∧Ext W w'))
  have hd1:decide (x.nn ≥ g.nn)=true:=decide_eq_true hnn
  have hd2:decide (x.ne ≥ g.ne)=true:=decide_eq_true hne
  have HVX:=Lib.hid hvx
  clear hR hvg hnn hne hvx
  go_upto_region 5 with ((go_at_call 11;((with_reducible refine (HAP.out _ Qg).mono ?_);rintro e w6 ⟨A6,c6,B6,d6,rfl,hg6,hx6⟩)))
  obtain ⟨q7,w7,hq7,hw7,HB7,hx7⟩:=zb9 w6 (.slice A6 x.nodes.length c6) (.slice B6 x.edges.length d6) (.int .i64 x.nn) (.int .i64 x.ne) 25
  rw [←hw7,←hq7]
  have hE7:Ext w5 w7:=(Ext.trans Qg hx6).trans hx7
  have HK7:=Lib.hid HB7
  have HCX:=Lib.hid (fun W (e:Ext w7 W)=>(by have h:=zqj x (fun _=>True) A6 B6 c6 d6 W ((hg6.ext (hx7.trans e)).all);rw [(zni x).2 HVX.out] at h;exact h:Calls Tryz.prog 17 #[.agg #[.slice A6 x.nodes.length c6, .slice B6 x.edges.length d6, .int .i64 x.nn, .int .i64 x.ne]] W fun e w'=>e= .returned (.int .i64 0)∧Ext W w'))
  clear a0 a1 a2 a3 e0 e1 e2 e3 e4 e5 e6 e7 e8 e9 hw7 hq7 HB7 hx6 hx7 HAP hg6
  have a0:w7.cell? ⟨q1,0,none⟩=some (.slice A g.nodes.length c):=((HK1.out.ext (hE5.trans hE7)).cell 0).trans rfl
  have a1:w7.cell? ⟨q1,1,none⟩=some (.slice B g.edges.length d):=((HK1.out.ext (hE5.trans hE7)).cell 1).trans rfl
  have a2:w7.cell? ⟨q1,2,none⟩=some (.int .i64 g.nn):=((HK1.out.ext (hE5.trans hE7)).cell 2).trans rfl
  have a3:w7.cell? ⟨q1,3,none⟩=some (.int .i64 g.ne):=((HK1.out.ext (hE5.trans hE7)).cell 3).trans rfl
  have m0:w7.cell? ⟨q5,0,none⟩=some (.slice A4 g.nodes.length c4):=((HK5.out.ext hE7).cell 0).trans rfl
  have m1:w7.cell? ⟨q5,1,none⟩=some (.slice B4 g.edges.length d4):=((HK5.out.ext hE7).cell 1).trans rfl
  have m2:w7.cell? ⟨q5,2,none⟩=some (.int .i64 g.nn):=((HK5.out.ext hE7).cell 2).trans rfl
  have m3:w7.cell? ⟨q5,3,none⟩=some (.int .i64 g.ne):=((HK5.out.ext hE7).cell 3).trans rfl
  go_upto_region 7 with ((go_at_call 15;((with_reducible refine (HSS.out _ (hE7.trans Qg)).mono ?_);rintro e w8 ⟨rfl,hx8⟩)))
  have hE8:Ext w7 w8:=Ext.trans Qg hx8
  have hX8:Ext w2 w8:=hE5.trans (hE7.trans hE8)
  clear a0 a1 a2 a3 m0 m1 m2 m3 hx8
  have a0:w8.cell? ⟨q1,0,none⟩=some (.slice A g.nodes.length c):=((HK1.out.ext hX8).cell 0).trans rfl
  have a1:w8.cell? ⟨q1,1,none⟩=some (.slice B g.edges.length d):=((HK1.out.ext hX8).cell 1).trans rfl
  have a2:w8.cell? ⟨q1,2,none⟩=some (.int .i64 g.nn):=((HK1.out.ext hX8).cell 2).trans rfl
  have a3:w8.cell? ⟨q1,3,none⟩=some (.int .i64 g.ne):=((HK1.out.ext hX8).cell 3).trans rfl
  have z0:w8.cell? ⟨q7,0,none⟩=some (.slice A6 x.nodes.length c6):=((HK7.out.ext hE8).cell 0).trans rfl
  have z1:w8.cell? ⟨q7,1,none⟩=some (.slice B6 x.edges.length d6):=((HK7.out.ext hE8).cell 1).trans rfl
  have z2:w8.cell? ⟨q7,2,none⟩=some (.int .i64 x.nn):=((HK7.out.ext hE8).cell 2).trans rfl
  have z3:w8.cell? ⟨q7,3,none⟩=some (.int .i64 x.ne):=((HK7.out.ext hE8).cell 3).trans rfl
  go_wp2_with (first|(go_at_call 17;((with_reducible refine (HCG.out _ (hX8.trans Qg)).mono ?_);rintro e w9 ⟨rfl,hx9⟩;have hE9:Ext w8 w9:=Ext.trans Qg hx9;replace a2:=hE9.cell a2;replace a3:=hE9.cell a3;replace z0:=hE9.cell z0;replace z1:=hE9.cell z1;replace z2:=hE9.cell z2;replace z3:=hE9.cell z3))|(go_at_call 17;((with_reducible refine (HCX.out _ (hE8.trans (hE9.trans Qg))).mono ?_);rintro e w10 ⟨rfl,hx10⟩;have hE10:Ext w9 w10:=Ext.trans Qg hx10;replace a2:=hE10.cell a2;replace a3:=hE10.cell a3;replace z2:=hE10.cell z2;replace z3:=hE10.cell z3))|(go_at_call 10;((with_reducible refine (HAL.out _ (hX8.trans (hE9.trans (hE10.trans Qg)))).mono ?_);rintro e w11 ⟨rfl,hx11⟩)))
  go_ret
  exact ⟨rfl,HX.out.trans (hX8.trans (hE9.trans (hE10.trans (Ext.trans Qg hx11))))⟩
end Go.Proofs.YtfhekbacigoblaaGreatDoor
