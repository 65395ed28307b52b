import Derived.Test.YtfhekbacigoblaaGreatDoorV15
import Derived.Defers
namespace Go.Proofs.YtfhekbacigoblaaGreatDoor
set_option maxRecDepth 100000
set_option maxHeartbeats 3200000
open Go.RowKit
theorem zmh (wb w0 w:World) (D:Nat) (g:za) (x f t:Int) (nm:ByteArray) (v:Val) (A:Option Addr) (k:Nat) (h:zt w0 wb.heap.size D g) (hw0:Ext w0 w) (hE:Ext wb w) (hv:VG g) (hhas:zcl g.edges x=true) :
  Calls Tryz.prog 89 #[.pointer (some ⟨D,0,none⟩), .agg #[.int .i64 6, .int .i64 x, .int .i64 f, .int .i64 t, .string nm, .int .i64 v.kind, .int .i64 v.n, .int .i64 v.d, .string v.s, .slice A v.l.length k]] w fun e w'=>e= .panicked [{ v:= .iface 105 (.int .i64 7),recovered:=false }]∧Ext w w':=by
 obtain ⟨τ,V,E,lv,pv,ev,hp,he,h0⟩:=h
 have h:=h0.ext hw0
 have hDs:D < w.heap.size:=(h.self.lt rfl).2
 obtain ⟨q,w1,hq,hw1,hc,hx1⟩:=zy w ⟨6,x,f,t,nm,v⟩ A k 30
 obtain ⟨a0,a1,a2,a3,a4,a5,a6,a7,a8,a9⟩:=hc
 dsimp only at a0 a1 a2 a3 a4 a5 a6 a7 a8 a9 hw1
 have HND:=Lib.hid (zbo (h.ext hx1) hv.es hv.el x)
 rw [hhas] at HND
 have hqs:w.heap.size≤q:=by omega
 have HX0:=Lib.hid hE
 generalize ((zg cI zf.id g.edges x:Nat):Int)=L at *
 have HW1:=Lib.hid hw1
 have HQ:=Lib.hid hq
 clear hw1 hq
 clear h h0 hw0 hE hv hhas hqs hDs
 go_enter Tryz.func89,Tryz.ntmps89
 go_upto_region 1 with (fail)
 rw [←HW1.out,←HQ.out]
 go_upto_region 2 with ((go_at_call 91;((with_reducible refine (HND.out).mono ?_);rintro e w2 ⟨rfl,hx2⟩)))
 have hE2:Ext w w2:=hx1.trans hx2
 have hW2:Ext wb w2:=HX0.out.trans hE2
 have b0:=hx2.cell a0
 have b1:=hx2.cell a1
 go_wp2_with ((go_at_call 124;((with_reducible refine (zba _ _).mono ?_);rintro e w6 ⟨rfl,hw6⟩;obtain rfl:=hw6.symm)))
 exact ⟨rfl,rfl,Qg⟩
theorem zlx (wb w0 w:World) (D:Nat) (g:za) (x f t:Int) (nm:ByteArray) (v:Val) (A:Option Addr) (k:Nat) (h:zt w0 wb.heap.size D g) (hw0:Ext w0 w) (hE:Ext wb w) (hv:VG g) (hhas:zcl g.edges x=false) (hft:(zav g.nodes f && zav g.nodes t)=false) :
  Calls Tryz.prog 89 #[.pointer (some ⟨D,0,none⟩), .agg #[.int .i64 6, .int .i64 x, .int .i64 f, .int .i64 t, .string nm, .int .i64 v.kind, .int .i64 v.n, .int .i64 v.d, .string v.s, .slice A v.l.length k]] w fun e w'=>e= .panicked [{ v:= .iface 105 (.int .i64 10),recovered:=false }]∧Ext w w':=by
 obtain ⟨τ,V,E,lv,pv,ev,hp,he,h0⟩:=h
 have h:=h0.ext hw0
 have hDs:D < w.heap.size:=(h.self.lt rfl).2
 obtain ⟨q,w1,hq,hw1,hc,hx1⟩:=zy w ⟨6,x,f,t,nm,v⟩ A k 30
 obtain ⟨a0,a1,a2,a3,a4,a5,a6,a7,a8,a9⟩:=hc
 dsimp only at a0 a1 a2 a3 a4 a5 a6 a7 a8 a9 hw1
 have HND:=Lib.hid (zbo (h.ext hx1) hv.es hv.el x)
 rw [hhas] at HND
 have hqs:w.heap.size≤q:=by omega
 have HX0:=Lib.hid hE
 have HN1:=Lib.hid (fun W (e:Ext w W)=>zap (h.ext e) hv.ns hv.nl f)
 have HN2:=Lib.hid (fun W (e:Ext w W)=>zap (h.ext e) hv.ns hv.nl t)
 obtain ⟨AE,cE,hEe⟩:=h.edges.form
 subst hEe
 have c1:=hx1.cell h.cells.2.1
 generalize ((zg cI zf.id g.edges x:Nat):Int)=L at *
 generalize ((zg cI zb.id g.nodes f:Nat):Int)=L1 at *
 generalize ((zg cI zb.id g.nodes t:Nat):Int)=L2 at *
 generalize zav g.nodes f=bf at *
 generalize zav g.nodes t=bt at *
 have HW1:=Lib.hid hw1
 have HQ:=Lib.hid hq
 clear hw1 hq
 clear h h0 hw0 hE hv hhas hqs hDs
 cases bf with
 | false =>
  go_enter Tryz.func89,Tryz.ntmps89
  go_upto_region 1 with (fail)
  rw [←HW1.out,←HQ.out]
  go_upto_region 2 with ((go_at_call 91;((with_reducible refine (HND.out).mono ?_);rintro e w2 ⟨rfl,hx2⟩)))
  have hE2:Ext w w2:=hx1.trans hx2
  have hW2:Ext wb w2:=HX0.out.trans hE2
  have b0:=hx2.cell a0
  have b1:=hx2.cell a1
  have b2:=hx2.cell a2
  have b3:=hx2.cell a3
  have b4:=hx2.cell a4
  have k1:=hx2.cell c1
  go_upto_region 7 with ((go_at_call 124;((with_reducible refine (zv _ _).mono ?_);rintro e w6 ⟨rfl,hw6⟩;obtain rfl:=hw6.symm)))
  go_upto_region 8 with ((go_at_call 90;((with_reducible refine (HN1.out _ Qg).mono ?_);rintro e w3 ⟨rfl,hx3⟩)))
  have hE3:Ext w2 w3:=Ext.trans Qg hx3
  have hZ3:Ext w w3:=hE2.trans hE3
  have d1:=hE3.cell b1
  have d2:=hE3.cell b2
  have d3:=hE3.cell b3
  have d4:=hE3.cell b4
  have e1:=hE3.cell k1
  go_upto_region 9 with ((go_at_call 90;((with_reducible refine (HN2.out _ Qg).mono ?_);rintro e w4 ⟨rfl,hx4⟩)))
  have hE4:Ext w2 w4:=hE3.trans (Ext.trans Qg hx4)
  have hZ4:Ext w w4:=hE2.trans hE4
  have hW4:Ext wb w4:=hW2.trans hE4
  have m1:=hE4.cell b1
  have m2:=hE4.cell b2
  have m3:=hE4.cell b3
  have m4:=hE4.cell b4
  have n1:=hE4.cell k1
  clear b0 b1 b2 b3 b4 d1 d2 d3 d4 e1 k1 hx3 hx4 hE3 hE4
  go_wp2_with ((go_at_call 124;((with_reducible refine (zba _ _).mono ?_);rintro e w6 ⟨rfl,hw6⟩;obtain rfl:=hw6.symm)))
  exact ⟨rfl,rfl,Qg⟩
 | true =>
  cases bt with
  | true=>cases hft
  | false =>
   go_enter Tryz.func89,Tryz.ntmps89
   go_upto_region 1 with (fail)
   rw [←HW1.out,←HQ.out]
   go_upto_region 2 with ((go_at_call 91;((with_reducible refine (HND.out).mono ?_);rintro e w2 ⟨rfl,hx2⟩)))
   have hE2:Ext w w2:=hx1.trans hx2
   have hW2:Ext wb w2:=HX0.out.trans hE2
   have b0:=hx2.cell a0
   have b1:=hx2.cell a1
   have b2:=hx2.cell a2
   have b3:=hx2.cell a3
   have b4:=hx2.cell a4
   have k1:=hx2.cell c1
   go_upto_region 7 with ((go_at_call 124;((with_reducible refine (zv _ _).mono ?_);rintro e w6 ⟨rfl,hw6⟩;obtain rfl:=hw6.symm)))
   go_upto_region 8 with ((go_at_call 90;((with_reducible refine (HN1.out _ Qg).mono ?_);rintro e w3 ⟨rfl,hx3⟩)))
   have hE3:Ext w2 w3:=Ext.trans Qg hx3
   have hZ3:Ext w w3:=hE2.trans hE3
   have d1:=hE3.cell b1
   have d2:=hE3.cell b2
   have d3:=hE3.cell b3
   have d4:=hE3.cell b4
   have e1:=hE3.cell k1
   go_upto_region 9 with ((go_at_call 90;((with_reducible refine (HN2.out _ Qg).mono ?_);rintro e w4 ⟨rfl,hx4⟩)))
   have hE4:Ext w2 w4:=hE3.trans (Ext.trans Qg hx4)
   have hZ4:Ext w w4:=hE2.trans hE4
   have hW4:Ext wb w4:=hW2.trans hE4
   have m1:=hE4.cell b1
   have m2:=hE4.cell b2
   have m3:=hE4.cell b3
   have m4:=hE4.cell b4
   have n1:=hE4.cell k1
   clear b0 b1 b2 b3 b4 d1 d2 d3 d4 e1 k1 hx3 hx4 hE3 hE4
   go_wp2_with ((go_at_call 124;((with_reducible refine (zba _ _).mono ?_);rintro e w6 ⟨rfl,hw6⟩;obtain rfl:=hw6.symm)))
   exact ⟨rfl,rfl,Qg⟩
theorem zlz (wb w0 w:World) (D:Nat) (g:za) (x f t:Int) (nm:ByteArray) (v:Val) (A:Option Addr) (k:Nat) (h:zt w0 wb.heap.size D g) (hw0:Ext w0 w) (hE:Ext wb w) (hv:VG g) (hhas:zcl g.edges x=false) (hft:(zav g.nodes f && zav g.nodes t)=true) (hl:4000≤g.edges.length) :
  Calls Tryz.prog 89 #[.pointer (some ⟨D,0,none⟩), .agg #[.int .i64 6, .int .i64 x, .int .i64 f, .int .i64 t, .string nm, .int .i64 v.kind, .int .i64 v.n, .int .i64 v.d, .string v.s, .slice A v.l.length k]] w fun e w'=>e= .panicked [{ v:= .iface 105 (.int .i64 20),recovered:=false }]∧Ext w w':=by
 obtain ⟨τ,V,E,lv,pv,ev,hp,he,h0⟩:=h
 have h:=h0.ext hw0
 have hDs:D < w.heap.size:=(h.self.lt rfl).2
 obtain ⟨q,w1,hq,hw1,hc,hx1⟩:=zy w ⟨6,x,f,t,nm,v⟩ A k 30
 obtain ⟨a0,a1,a2,a3,a4,a5,a6,a7,a8,a9⟩:=hc
 dsimp only at a0 a1 a2 a3 a4 a5 a6 a7 a8 a9 hw1
 have HND:=Lib.hid (zbo (h.ext hx1) hv.es hv.el x)
 rw [hhas] at HND
 have hqs:w.heap.size≤q:=by omega
 have HX0:=Lib.hid hE
 have HN1:=Lib.hid (fun W (e:Ext w W)=>zap (h.ext e) hv.ns hv.nl f)
 have HN2:=Lib.hid (fun W (e:Ext w W)=>zap (h.ext e) hv.ns hv.nl t)
 obtain ⟨AE,cE,hEe⟩:=h.edges.form
 subst hEe
 have c1:=hx1.cell h.cells.2.1
 rw [Bool.and_eq_true] at hft
 rw [hft.1] at HN1
 rw [hft.2] at HN2
 generalize ((zg cI zb.id g.nodes f:Nat):Int)=L1 at *
 generalize ((zg cI zb.id g.nodes t:Nat):Int)=L2 at *
 have q20:decide ((g.edges.length:Int) < 4000)=false:=decide_eq_false Qk
 generalize ((zg cI zf.id g.edges x:Nat):Int)=L at *
 have HW1:=Lib.hid hw1
 have HQ:=Lib.hid hq
 clear hw1 hq
 clear h h0 hw0 hE hv hhas hqs hDs hft hl
 go_enter Tryz.func89,Tryz.ntmps89
 go_upto_region 1 with (fail)
 rw [←HW1.out,←HQ.out]
 go_upto_region 2 with ((go_at_call 91;((with_reducible refine (HND.out).mono ?_);rintro e w2 ⟨rfl,hx2⟩)))
 have hE2:Ext w w2:=hx1.trans hx2
 have hW2:Ext wb w2:=HX0.out.trans hE2
 have b0:=hx2.cell a0
 have b1:=hx2.cell a1
 have b2:=hx2.cell a2
 have b3:=hx2.cell a3
 have b4:=hx2.cell a4
 have k1:=hx2.cell c1
 go_upto_region 7 with ((go_at_call 124;((with_reducible refine (zv _ _).mono ?_);rintro e w6 ⟨rfl,hw6⟩;obtain rfl:=hw6.symm)))
 go_upto_region 8 with ((go_at_call 90;((with_reducible refine (HN1.out _ Qg).mono ?_);rintro e w3 ⟨rfl,hx3⟩)))
 have hE3:Ext w2 w3:=Ext.trans Qg hx3
 have hZ3:Ext w w3:=hE2.trans hE3
 have d1:=hE3.cell b1
 have d2:=hE3.cell b2
 have d3:=hE3.cell b3
 have d4:=hE3.cell b4
 have e1:=hE3.cell k1
 go_upto_region 9 with ((go_at_call 90;((with_reducible refine (HN2.out _ Qg).mono ?_);rintro e w4 ⟨rfl,hx4⟩)))
 have hE4:Ext w2 w4:=hE3.trans (Ext.trans Qg hx4)
 have hZ4:Ext w w4:=hE2.trans hE4
 have hW4:Ext wb w4:=hW2.trans hE4
 have m1:=hE4.cell b1
 have m2:=hE4.cell b2
 have m3:=hE4.cell b3
 have m4:=hE4.cell b4
 have n1:=hE4.cell k1
 clear b0 b1 b2 b3 b4 d1 d2 d3 d4 e1 k1 hx3 hx4 hE3 hE4
 go_upto_region 10 with ((go_at_call 124;((with_reducible refine (zv _ _).mono ?_);rintro e w6 ⟨rfl,hw6⟩;obtain rfl:=hw6.symm)))
 go_wp2_with ((go_at_call 124;((with_reducible refine (zba _ _).mono ?_);rintro e w6 ⟨rfl,hw6⟩;obtain rfl:=hw6.symm)))
 exact ⟨rfl,rfl,Qg⟩
theorem zof (wb w0 w:World) (D:Nat) (g:za) (x f t:Int) (nm:ByteArray) (v:Val) (A:Option Addr) (k:Nat) (h:zt w0 wb.heap.size D g) (hw0:Ext w0 w) (hE:Ext wb w) (hv:VG g) (hhas:zcl g.edges x=false) (hft:(zav g.nodes f && zav g.nodes t)=true) (hl:g.edges.length < 4000) (hx:1≤x∧x≤1000000) :
  Calls Tryz.prog 89 #[.pointer (some ⟨D,0,none⟩), .agg #[.int .i64 6, .int .i64 x, .int .i64 f, .int .i64 t, .string nm, .int .i64 v.kind, .int .i64 v.n, .int .i64 v.d, .string v.s, .slice A v.l.length k]] w fun e w'=>e= .returned (.tuple #[])∧zt w' wb.heap.size D ⟨g.nodes,zc6 cI zf.id g.edges ⟨x,f,t,nm,[]⟩,g.nn,max g.ne (x+1)⟩∧Ext wb w'∧zb3 w0 w w':=by
 obtain ⟨τ,V,E,lv,pv,ev,hp,he,h0⟩:=h
 have h:=h0.ext hw0
 have hDs:D < w.heap.size:=(h.self.lt rfl).2
 obtain ⟨q,w1,hq,hw1,hc,hx1⟩:=zy w ⟨6,x,f,t,nm,v⟩ A k 30
 obtain ⟨a0,a1,a2,a3,a4,a5,a6,a7,a8,a9⟩:=hc
 dsimp only at a0 a1 a2 a3 a4 a5 a6 a7 a8 a9 hw1
 have HND:=Lib.hid (zbo (h.ext hx1) hv.es hv.el x)
 rw [hhas] at HND
 have hqs:w.heap.size≤q:=by omega
 have HX0:=Lib.hid hE
 have HN1:=Lib.hid (fun W (e:Ext w W)=>zap (h.ext e) hv.ns hv.nl f)
 have HN2:=Lib.hid (fun W (e:Ext w W)=>zap (h.ext e) hv.ns hv.nl t)
 obtain ⟨AE,cE,hEe⟩:=h.edges.form
 subst hEe
 have c1:=hx1.cell h.cells.2.1
 rw [Bool.and_eq_true] at hft
 rw [hft.1] at HN1
 rw [hft.2] at HN2
 generalize ((zg cI zb.id g.nodes f:Nat):Int)=L1 at *
 generalize ((zg cI zb.id g.nodes t:Nat):Int)=L2 at *
 have hno:¬ ∃ n ∈ g.edges,n.id=x:=fun hx=>by rw [zei.2 hx] at hhas;cases hhas
 have q20:decide ((g.edges.length:Int) < 4000)=true:=decide_eq_true Qk
 have hlow:=zcm (c:=cI) (k:=zf.id) g.edges x
 have HADD:=Lib.hid (fun W (e:Ext w W) w7 v7=>(h.ext e).addEdge (w':=w7) (v':=v7) x f t nm hno)
 generalize zg cI zf.id g.edges x=L at *
 have hb0:wb.heap.size≤w.heap.size:=hE.le
 have HINS:=Lib.hid (fun W (e:Ext w W)=>zr2 wb.heap.size ((W.alloc (.cells #[.int .i64 x, .int .i64 f, .int .i64 t, .string nm, .slice none 0 0] 59)).drew) (g.edges.flatMap (zb0 ev)) [.int .i64 x, .int .i64 f, .int .i64 t, .string nm, .slice none 0 0] g.edges.length (.slice AE g.edges.length cE) W.heap.size L (zag h.edges.own (e.alloc _).drew) (Nat.le_trans hb0 (e.alloc _).drew.le) (heap_alloc_new W _) (zd0 (zag h.edges.own e) (Nat.le_refl _)) (zk4 ev g.edges) h.oneE rfl (by simp [Value.oneCell']) hlow Qk)
 have HSELF:=Lib.hid (fun W (e:Ext w W) w7 hg=>(h.ext e).selfK (w':=w7) hg (h.ext e).tagE)
 have HNB:=Lib.hid (zd0 h.edges.own hqs)
 have HRB:=Lib.hid (fun b (hb:(Value.slice AE g.edges.length cE).ownBlock=some b)=>h0.edges.edb zgq hw0 hb)
 have HDB:Hid (EdB w0 w D):=Lib.hid (h0.self.edb zgl hw0 rfl)
 have HDQ:Hid (D ≠ q):=Lib.hid Qk
 have hwr:IntKind.i64.wrap (x+1)=x+1:=IntWalk.i64_in _ Qk
 have HW1:=Lib.hid hw1
 have HQ:=Lib.hid hq
 clear hw1 hq
 clear h h0 hw0 hE hv hhas hlow hqs hDs hno hx hb0 hl hft
 go_enter Tryz.func89,Tryz.ntmps89
 go_upto_region 1 with (fail)
 rw [←HW1.out,←HQ.out]
 go_upto_region 2 with ((go_at_call 91;((with_reducible refine (HND.out).mono ?_);rintro e w2 ⟨rfl,hx2⟩)))
 have hE2:Ext w w2:=hx1.trans hx2
 have hW2:Ext wb w2:=HX0.out.trans hE2
 have b0:=hx2.cell a0
 have b1:=hx2.cell a1
 have b2:=hx2.cell a2
 have b3:=hx2.cell a3
 have b4:=hx2.cell a4
 have k1:=hx2.cell c1
 go_upto_region 7 with ((go_at_call 124;((with_reducible refine (zv _ _).mono ?_);rintro e w6 ⟨rfl,hw6⟩;obtain rfl:=hw6.symm)))
 go_upto_region 8 with ((go_at_call 90;((with_reducible refine (HN1.out _ Qg).mono ?_);rintro e w3 ⟨rfl,hx3⟩)))
 have hE3:Ext w2 w3:=Ext.trans Qg hx3
 have hZ3:Ext w w3:=hE2.trans hE3
 have d1:=hE3.cell b1
 have d2:=hE3.cell b2
 have d3:=hE3.cell b3
 have d4:=hE3.cell b4
 have e1:=hE3.cell k1
 go_upto_region 9 with ((go_at_call 90;((with_reducible refine (HN2.out _ Qg).mono ?_);rintro e w4 ⟨rfl,hx4⟩)))
 have hE4:Ext w2 w4:=hE3.trans (Ext.trans Qg hx4)
 have hZ4:Ext w w4:=hE2.trans hE4
 have hW4:Ext wb w4:=hW2.trans hE4
 have m1:=hE4.cell b1
 have m2:=hE4.cell b2
 have m3:=hE4.cell b3
 have m4:=hE4.cell b4
 have n1:=hE4.cell k1
 clear b0 b1 b2 b3 b4 d1 d2 d3 d4 e1 k1 hx3 hx4 hE3 hE4
 clear a0 a1 a2 a3 a4 a5 a6 a7 a8 a9 c1 hx1 hx2
 go_upto_region 10 with ((go_at_call 124;((with_reducible refine (zv _ _).mono ?_);rintro e w6 ⟨rfl,hw6⟩;obtain rfl:=hw6.symm)))
 go_upto_region 11 with ((go_at_call 124;((with_reducible refine (zv _ _).mono ?_);rintro e w6 ⟨rfl,hw6⟩;obtain rfl:=hw6.symm)))
 have MKS:=Lib.hid (fun V (e:Ext w4 V)=>e.cell n1)
 have MKT:=Lib.hid (fun V (e:Ext w4 V)=>(⟨e.cell m1,e.cell m2,e.cell m3,e.cell m4⟩:V.cell? ⟨q,1,none⟩=some (.int .i64 x)∧V.cell? ⟨q,2,none⟩=some (.int .i64 f)∧V.cell? ⟨q,3,none⟩=some (.int .i64 t)∧V.cell? ⟨q,4,none⟩=some (.string nm)))
 have MKW:=Lib.hid (fun W (e:Ext w4 W) w7 (hg:W.grownBy w7 (Value.slice AE g.edges.length cE).ownBlock) u=>(⟨⟨hg.cell (e.cell m1) (fun e=>HNB.out e.symm),hg.cell (e.cell m2) (fun e=>HNB.out e.symm),hg.cell (e.cell m3) (fun e=>HNB.out e.symm),hg.cell (e.cell m4) (fun e=>HNB.out e.symm)⟩,⟨(World.cell?_setCell_other _ _ _ _ (fun e=>HDQ.out (by injection e))).trans (hg.cell (e.cell m1) (fun e=>HNB.out e.symm)),(World.cell?_setCell_other _ _ _ _ (fun e=>HDQ.out (by injection e))).trans (hg.cell (e.cell m2) (fun e=>HNB.out e.symm)),(World.cell?_setCell_other _ _ _ _ (fun e=>HDQ.out (by injection e))).trans (hg.cell (e.cell m3) (fun e=>HNB.out e.symm)),(World.cell?_setCell_other _ _ _ _ (fun e=>HDQ.out (by injection e))).trans (hg.cell (e.cell m4) (fun e=>HNB.out e.symm))⟩⟩:(w7.cell? ⟨q,1,none⟩=some (.int .i64 x)∧w7.cell? ⟨q,2,none⟩=some (.int .i64 f)∧w7.cell? ⟨q,3,none⟩=some (.int .i64 t)∧w7.cell? ⟨q,4,none⟩=some (.string nm))∧((w7.setCell ⟨D,1,none⟩ u).cell? ⟨q,1,none⟩=some (.int .i64 x)∧(w7.setCell ⟨D,1,none⟩ u).cell? ⟨q,2,none⟩=some (.int .i64 f)∧(w7.setCell ⟨D,1,none⟩ u).cell? ⟨q,3,none⟩=some (.int .i64 t)∧(w7.setCell ⟨D,1,none⟩ u).cell? ⟨q,4,none⟩=some (.string nm))))
 refine za1.start (S:=(fun V=>V.cell? ⟨D,1,none⟩=some (.slice AE g.edges.length cE))) (T:=(fun V=>V.cell? ⟨q,1,none⟩=some (.int .i64 x)∧V.cell? ⟨q,2,none⟩=some (.int .i64 f)∧V.cell? ⟨q,3,none⟩=some (.int .i64 t)∧V.cell? ⟨q,4,none⟩=some (.string nm))) (E:=17) (by kernel_rfl) ?hs13001 (fun hHeld=>?go13001)
 case hs13001=>exact ⟨by (exact MKS.out _ Qg),by (first|assumption|exact MKT.out _ Qg)⟩
 refine KU 0 ⟨fun _=>hHeld.1,hHeld.2⟩ ?_;simp only [PU]
 refine KU 1 ⟨fun _=>hHeld.1,hHeld.2⟩ ?_;simp only [PU]
 refine KU 2 ⟨fun _=>hHeld.1,hHeld.2⟩ ?_;simp only [PU]
 refine KU 3 ⟨fun _=>hHeld.1,hHeld.2⟩ ?_;simp only [PU]
 refine KU 4 ⟨fun _=>hHeld.1,hHeld.2⟩ ?_;simp only [PU]
 refine KT 5 hHeld ?_;simp only [PU]
 refine KU 6 ⟨fun _=>hHeld.1,hHeld.2⟩ ?_;simp only [PU]
 refine KU 7 ⟨fun _=>hHeld.1,hHeld.2⟩ ?_;simp only [PU]
 refine KU 8 ⟨fun _=>hHeld.1,hHeld.2⟩ ?_;simp only [PU]
 refine KU 9 ⟨fun _=>hHeld.1,hHeld.2⟩ ?_;simp only [PU]
 refine KU 10 ⟨fun _=>hHeld.1,hHeld.2⟩ ?_;simp only [PU]
 refine KU 11 ⟨fun _=>hHeld.1,hHeld.2⟩ ?_;simp only [PU]
 refine KU 12 ⟨fun _=>hHeld.1,hHeld.2⟩ ?_;simp only [PU]
 refine KU 13 ⟨fun _=>hHeld.1,hHeld.2⟩ ?_;simp only [PU]
 refine KU 14 ⟨fun _=>hHeld.1,hHeld.2⟩ ?_;simp only [PU]
 refine KU 15 ⟨fun _=>hHeld.1,hHeld.2⟩ ?_;simp only [PU]
 refine za1.ready (rs:=[16]) (by kernel_rfl) (by simp) ?_
 refine zci.cons (o:=⟨_,_,_,_,_,_⟩) rfl (fun K hK=>?step13018x0) ?more13018x0
 case more13018x0=>exact zci.nil
 go_simp
 refine hK.out _ _ ?hS13018x0 (fun H13018=>?_)
 case hS13018x0=>exact ⟨fun _=>by (exact MKS.out _ Qg),by (first|assumption|exact MKT.out _ Qg)⟩
 clear hK K
 clear hHeld
 (try simp only [PU])
 refine za1.ready (rs:=[17]) (by kernel_rfl) (by simp) ?_
 refine zci.cons (o:=⟨_,_,_,_,_,_⟩) rfl (fun K hK=>?step13019x0) ?more13019x0
 case more13019x0=>exact zci.nil
 go_simp
 (go_at_call 131;((with_reducible refine (HINS.out _ Qg).mono ?_);rintro e w7 ⟨v7,rfl,hR⟩;obtain ⟨A7,c7,rfl⟩:=zao hR.own;obtain ⟨-,s0,-,-,sf⟩:=HSELF.out _ Qg w7 hR.grown;have sf0:=sf 1;clear sf;obtain ⟨b7,b8⟩:=MKW.out _ Qg w7 hR.grown (.slice A7 (g.edges.length+1) c7)))
 refine hK.out _ _ ?hS13019x0 (fun H13019=>?_)
 case hS13019x0=>exact ⟨fun h=>(by first|exact absurd h Qj|simp at h),by (first|assumption|exact MKT.out _ Qg)⟩
 clear hK K
 clear H13018
 (try simp only [PU])
 refine KU 18 H13019 ?_;simp only [PU]
 refine KU 19 H13019 ?_;simp only [PU]
 refine KU 20 H13019 ?_;simp only [PU]
 refine za1.ready (rs:=[21]) (by kernel_rfl) (by simp) ?_
 refine zci.cons (o:=⟨_,_,_,_,_,_⟩) rfl (fun K hK=>?step13023x0) ?more13023x0
 case more13023x0=>exact zci.nil
 go_simp
 refine hK.out _ _ ?hS13023x0 (fun H13023=>?_)
 case hS13023x0=>exact ⟨fun h=>(by first|exact absurd h Qj|simp at h),by (first|assumption|exact MKT.out _ Qg)⟩
 clear hK K
 clear H13019
 refine za1.done (by kernel_rfl) ?_ _
 clear H13023
 obtain ⟨w8,hw8⟩:∃ W,W=w7.setCell ⟨D,1,none⟩ (.slice A7 (g.edges.length+1) c7):=⟨_,rfl⟩
 obtain ⟨hO,hX⟩:=HADD.out _ Qg w7 _ hR
 have HSY:=Lib.hid (zb3.row (w:=w) Qg hR.grown HRB.out HDB.out 1 (.slice A7 (g.edges.length+1) c7))
 rw [←hw8] at b8 HSY
 rw [←hw8] at hO hX
 have hX8:=hX wb rfl (Ext.trans HX0.out Qg)
 obtain ⟨hO2,hX2,e2,f2⟩:=(hO.ext (Ext.drew (Ext.refl w8))).putNE (max g.ne (x+1))
 have HO2:=Lib.hid hO2
 have HX2:=Lib.hid (hX2 wb rfl (hX8.drew))
 have e2':w8.cell? ⟨D,3,none⟩=some (.int .i64 g.ne):=e2
 have f2':w8.frozen? ⟨D,3,none⟩=false:=f2
 have g1:=b8.1
 clear hO hX hO2 hX2 e2 f2 hR s0 sf0 b7 b8 MKS MKT MKW
 try rw [←hw8]
 clear hw8
 go_upto_region 12 with (fail)
 have MKS:=Lib.hid (fun V (e:Ext w8 V)=>(⟨e.cell e2',e.cell g1⟩:V.cell? ⟨D,3,none⟩=some (.int .i64 g.ne)∧V.cell? ⟨q,1,none⟩=some (.int .i64 x)))
 refine zac.start (S:=(fun V=>V.cell? ⟨D,3,none⟩=some (.int .i64 g.ne)∧V.cell? ⟨q,1,none⟩=some (.int .i64 x))) (E:=13) (by kernel_rfl) ?hs13024 (fun hHeld=>?go13024)
 case hs13024=>(exact MKS.out _ Qg)
 refine KP 0 (fun _=>hHeld) ?_;simp only [PU]
 refine KP 1 (fun _=>hHeld) ?_;simp only [PU]
 refine KP 2 (fun _=>hHeld) ?_;simp only [PU]
 refine KP 3 (fun _=>hHeld) ?_;simp only [PU]
 refine KP 4 (fun _=>hHeld) ?_;simp only [PU]
 refine KE 5 hHeld ?_;simp only [PU]
 refine KP 6 (fun _=>hHeld) ?_;simp only [PU]
 refine KE 7 hHeld ?_;simp only [PU]
 refine KP 8 (fun _=>hHeld) ?_;simp only [PU]
 refine KP 9 (fun _=>hHeld) ?_;simp only [PU]
 refine KP 10 (fun _=>hHeld) ?_;simp only [PU]
 refine KP 11 (fun _=>hHeld) ?_;simp only [PU]
 refine KP 12 (fun _=>hHeld) ?_;simp only [PU]
 refine zac.ready (rs:=[13]) (by kernel_rfl) (by simp) ?_
 refine zal.cons (o:=⟨_,_,_,_,_,_⟩) rfl (fun K hK=>?step13038x0) ?more13038x0
 case more13038x0=>exact zal.nil
 go_simp
 refine hK.out _ _ ?hS13038x0 (fun H13038=>?_)
 case hS13038x0=>first|(intro h;exact absurd h Qj)|(intro h;simp at h)
 clear hK K
 clear hHeld
 refine zac.done (by kernel_rfl) ?_ _
 clear H13038
 go_end0
 exact ⟨rfl,HO2.out,HX2.out,HSY.out.drew.set HDB.out 3 _⟩
theorem zpe (wb w0 w:World) (D:Nat) (g:za) (op x f t:Int) (nm:ByteArray) (v:Val) (A:Option Addr) (k:Nat) (h:zt w0 wb.heap.size D g) (hw0:Ext w0 w) (hE:Ext wb w) (hv:VG g) (hhas:zcl g.edges x=false) (h1:op=7∨op=8) :
  Calls Tryz.prog 89 #[.pointer (some ⟨D,0,none⟩), .agg #[.int .i64 op, .int .i64 x, .int .i64 f, .int .i64 t, .string nm, .int .i64 v.kind, .int .i64 v.n, .int .i64 v.d, .string v.s, .slice A v.l.length k]] w fun e w'=>e= .panicked [{ v:= .iface 105 (.int .i64 11),recovered:=false }]∧Ext w w':=by
 obtain ⟨τ,V,E,lv,pv,ev,hp,he,h0⟩:=h
 have h:=h0.ext hw0
 have hDs:D < w.heap.size:=(h.self.lt rfl).2
 obtain ⟨q,w1,hq,hw1,hc,hx1⟩:=zy w ⟨op,x,f,t,nm,v⟩ A k 30
 obtain ⟨a0,a1,a2,a3,a4,a5,a6,a7,a8,a9⟩:=hc
 dsimp only at a0 a1 a2 a3 a4 a5 a6 a7 a8 a9 hw1
 have HND:=Lib.hid (zbo (h.ext hx1) hv.es hv.el x)
 rw [hhas] at HND
 have hqs:w.heap.size≤q:=by omega
 have HX0:=Lib.hid hE
 generalize ((zg cI zf.id g.edges x:Nat):Int)=L at *
 have HW1:=Lib.hid hw1
 have HQ:=Lib.hid hq
 clear hw1 hq
 clear h h0 hw0 hE hv hhas hqs hDs
 rcases h1 with rfl|rfl
 ·go_enter Tryz.func89,Tryz.ntmps89
  go_upto_region 1 with (fail)
  rw [←HW1.out,←HQ.out]
  go_upto_region 2 with ((go_at_call 91;((with_reducible refine (HND.out).mono ?_);rintro e w2 ⟨rfl,hx2⟩)))
  have hE2:Ext w w2:=hx1.trans hx2
  have hW2:Ext wb w2:=HX0.out.trans hE2
  have b0:=hx2.cell a0
  have b1:=hx2.cell a1
  go_wp2_with ((go_at_call 124;((with_reducible refine (zba _ _).mono ?_);rintro e w6 ⟨rfl,hw6⟩;obtain rfl:=hw6.symm)))
  exact ⟨rfl,rfl,Qg⟩
 ·go_enter Tryz.func89,Tryz.ntmps89
  go_upto_region 1 with (fail)
  rw [←HW1.out,←HQ.out]
  go_upto_region 2 with ((go_at_call 91;((with_reducible refine (HND.out).mono ?_);rintro e w2 ⟨rfl,hx2⟩)))
  have hE2:Ext w w2:=hx1.trans hx2
  have hW2:Ext wb w2:=HX0.out.trans hE2
  have b0:=hx2.cell a0
  have b1:=hx2.cell a1
  go_wp2_with ((go_at_call 124;((with_reducible refine (zba _ _).mono ?_);rintro e w6 ⟨rfl,hw6⟩;obtain rfl:=hw6.symm)))
  exact ⟨rfl,rfl,Qg⟩
theorem zn4 (wb w0 w:World) (D:Nat) (g:za) (x f t:Int) (nm:ByteArray) (v:Val) (A:Option Addr) (k:Nat) (h:zt w0 wb.heap.size D g) (hw0:Ext w0 w) (hE:Ext wb w) (hv:VG g) (hhas:zcl g.edges x=true) :
  Calls Tryz.prog 89 #[.pointer (some ⟨D,0,none⟩), .agg #[.int .i64 7, .int .i64 x, .int .i64 f, .int .i64 t, .string nm, .int .i64 v.kind, .int .i64 v.n, .int .i64 v.d, .string v.s, .slice A v.l.length k]] w fun e w'=>e= .returned (.tuple #[])∧zt w' wb.heap.size D ⟨g.nodes,zcv cI zf.id g.edges x,g.nn,g.ne⟩∧Ext wb w'∧zb3 w0 w w':=by
 obtain ⟨τ,V,E,lv,pv,ev,hp,he,h0⟩:=h
 have h:=h0.ext hw0
 have hDs:D < w.heap.size:=(h.self.lt rfl).2
 obtain ⟨q,w1,hq,hw1,hc,hx1⟩:=zy w ⟨7,x,f,t,nm,v⟩ A k 30
 obtain ⟨a0,a1,a2,a3,a4,a5,a6,a7,a8,a9⟩:=hc
 dsimp only at a0 a1 a2 a3 a4 a5 a6 a7 a8 a9 hw1
 have HND:=Lib.hid (zbo (h.ext hx1) hv.es hv.el x)
 rw [hhas] at HND
 have hqs:w.heap.size≤q:=by omega
 have HX0:=Lib.hid hE
 have hex:∃ n ∈ g.edges,n.id=x:=zei.1 hhas
 obtain ⟨hlt,hkey⟩:=(zu zct hv.es x).1 hex
 obtain ⟨gE,cE,hEe,hgb,hgl,-⟩:=h.edges.addr Qk
 subst hEe
 obtain ⟨L,hL⟩:∃ L,L=zg cI zf.id g.edges x:=⟨_,rfl⟩
 rw [←hL] at HND hlt hkey
 rw [getElem!_pos g.edges L hlt] at hkey
 have hel:=hv.el
 have HDL:=Lib.hid (fun W (e:Ext w W) w7 v7=>(h.ext e).delEdge (w':=w7) (v':=v7) x hex hv.es)
 rw [←hL] at HDL
 have HRB:=Lib.hid (fun b (hb:(Value.slice (some ⟨gE,0,none⟩) g.edges.length cE).ownBlock=some b)=>h0.edges.edb zgq hw0 hb)
 have HDB:Hid (EdB w0 w D):=Lib.hid (h0.self.edb zgl hw0 rfl)
 have HDEL:=Lib.hid (fun W (e:Ext w W)=>zsb wb.heap.size W (g.edges.flatMap (zb0 ev)) g.edges.length (.slice (some ⟨gE,0,none⟩) g.edges.length cE) L (zag h.edges.own e) h.oneE hlt Qk)
 have HSELF:=Lib.hid (fun W (e:Ext w W) w7 hg=>(h.ext e).selfK (w':=w7) hg (h.ext e).tagE)
 have hwr:IntKind.i64.wrap ((L:Int)+1)=(L:Int)+1:=IntWalk.i64_in _ Qk
 have c1:=hx1.cell h.cells.2.1
 have HW1:=Lib.hid hw1
 have HQ:=Lib.hid hq
 clear hw1 hq
 clear h h0 hw0 hE hv hhas hqs hDs hex hL hkey hgb hgl
 go_enter Tryz.func89,Tryz.ntmps89
 go_upto_region 1 with (fail)
 rw [←HW1.out,←HQ.out]
 go_upto_region 2 with ((go_at_call 91;((with_reducible refine (HND.out).mono ?_);rintro e w2 ⟨rfl,hx2⟩)))
 have hE2:Ext w w2:=hx1.trans hx2
 have hW2:Ext wb w2:=HX0.out.trans hE2
 have b0:=hx2.cell a0
 have b1:=hx2.cell a1
 have k1:=hx2.cell c1
 clear a0 a1 a2 a3 a4 a5 a6 a7 a8 a9 c1 hx1 hx2
 go_upto_region 15 with ((go_at_call 124;((with_reducible refine (zv _ _).mono ?_);rintro e w6 ⟨rfl,hw6⟩;obtain rfl:=hw6.symm)))
 go_wp2_with ((go_at_call 132;((with_reducible refine (HDEL.out _ Qg).mono ?_);rintro e w7 ⟨v7,rfl,hR⟩;obtain ⟨A7,c7,rfl⟩:=zao hR.own;obtain ⟨-,s0,-,-,sf⟩:=HSELF.out _ Qg w7 hR.grown;have sf0:=sf 1;clear sf)))
 obtain ⟨hO,hX⟩:=HDL.out _ Qg w7 _ hR
 go_end0
 exact ⟨rfl,hO,hX wb rfl hW2,zb3.row Qg hR.grown HRB.out HDB.out _ _⟩
theorem zmg (wb w0 w:World) (D:Nat) (g:za) (x f t:Int) (nm:ByteArray) (v:Val) (A:Option Addr) (k:Nat) (h:zt w0 wb.heap.size D g) (hw0:Ext w0 w) (hE:Ext wb w) (hv:VG g) (hhas:zcl g.edges x=true) {kk:Int} (hset:zgg (zat g x).props nm v= .error kk) (hv0:v.l=[]) (hz:zq w) :
  Calls Tryz.prog 89 #[.pointer (some ⟨D,0,none⟩), .agg #[.int .i64 8, .int .i64 x, .int .i64 f, .int .i64 t, .string nm, .int .i64 v.kind, .int .i64 v.n, .int .i64 v.d, .string v.s, .slice A 0 k]] w fun e w'=>e= .panicked [{ v:= .iface 105 (.int .i64 kk),recovered:=false }]∧Ext w w':=by
 obtain ⟨τ,V,E,lv,pv,ev,hp,he,h0⟩:=h
 have h:=h0.ext hw0
 have hDs:D < w.heap.size:=(h.self.lt rfl).2
 obtain ⟨q,w1,hq,hw1,hc,hx1⟩:=zy w ⟨8,x,f,t,nm,v⟩ A k 30
 obtain ⟨a0,a1,a2,a3,a4,a5,a6,a7,a8,a9⟩:=hc
 dsimp only at a0 a1 a2 a3 a4 a5 a6 a7 a8 a9 hw1
 rw [show v.l.length=0 by rw [hv0];rfl] at a9 hw1
 have HND:=Lib.hid (zbo (h.ext hx1) hv.es hv.el x)
 rw [hhas] at HND
 have hqs:w.heap.size≤q:=by omega
 have HX0:=Lib.hid hE
 have hex:∃ n ∈ g.edges,n.id=x:=zei.1 hhas
 obtain ⟨hlt,hkey⟩:=(zu zct hv.es x).1 hex
 obtain ⟨gE,cE,hEe,hgb,hgl,-⟩:=h.edges.addr Qk
 subst hEe
 obtain ⟨L,hL⟩:∃ L,L=zg cI zf.id g.edges x:=⟨_,rfl⟩
 rw [←hL] at HND hlt hkey
 rw [getElem!_pos g.edges L hlt] at hkey
 have hel:=hv.el
 have hnd:zat g x=g.edges[L]:=by unfold zat;rw [←hL,getElem!_pos g.edges L hlt]
 (try rw [hnd])
 rw [hnd] at hset
 have hmem:g.edges[L] ∈ g.edges:=List.getElem_mem hlt
 have hpv:=(hv.ev _ hmem).2.2.2
 obtain ⟨hLab,hmap⟩:=h.eprs _ hmem
 have hpl:(he g.edges[L].id).length≤16:=by
  have:=hpv.pl
  rw [←hmap,List.length_map] at this;exact this
 have hps:za0 zn zbr (he g.edges[L].id):=by rw [zhg,hmap];exact hpv.ps
 obtain ⟨AL,cL,hLe⟩:=hLab.form
 have hsk:∀ N:zf,N.id=g.edges[L].id→g.edges.set L N=zcc cI zf.id g.edges N:=fun N hN=>by unfold zcc;rw [hN,hkey,←hL]
 rw [←hmap] at hset
 generalize hH:he g.edges[L].id=H at *
 have HTO:=Lib.hid (fun W (e:Ext w W) w7 v7 H' (R:zaa wb.heap.size 54 6 W (.slice AL H.length cL) w7 v7 H'.length (H'.flatMap HP.enc))=>(h.ext e).toEprs (w':=w7) (v':=v7) hlt (H:=H') (by rw [hLe];exact R) (zds hv.es hlt))
 have HNK:=Lib.hid (fun W (e:Ext w W) w7 (hg:W.grownBy w7 (Value.slice AL H.length cL).ownBlock)=>(h.ext e).edgeK (w':=w7) hg (fun b hb=>by rw [←hLe] at hb;rw [hLab.tag b hb];exact Tg.noConfusion) hlt)
 have HSELF:=Lib.hid (fun W (e:Ext w W) w7 (hg:W.grownBy w7 (Value.slice AL H.length cL).ownBlock)=>(h.ext e).selfK (w':=w7) hg (fun b hb=>by rw [←hLe] at hb;rw [hLab.tag b hb];exact Tg.noConfusion))
 have n0:=(h.edgeK (Ext.refl_gr w) (fun _=>zbu) hlt).2.2.2.2.1
 rw [hLe] at n0 hLab
 have n1:=hx1.cell n0
 have hb0:wb.heap.size≤w.heap.size:=hE.le
 have HRB:=Lib.hid (fun b (hb:(Value.slice AL H.length cL).ownBlock=some b)=>(h0.eprs _ hmem).1.edb zfw hw0 (by rw [hLe];exact hb))
 have HGB:Hid (EdB w0 w gE):=Lib.hid (h0.edges.edb zgq hw0 rfl)
 have HGD:Hid (gE ≠ D):=Lib.hid (fun e=>by
  have h1:=h.edges.tag gE rfl
  have h2:=h.self.tag D rfl
  rw [e,h2] at h1;cases h1)
 have HST:=Lib.hid (fun W (e:Ext w W)=>zl6 (A:=A) (k:=k) (hz.ext e) (zag hLab.own e) hps hpl hv0 hset)
 have q1:(0:Int)≤(L:Int):=by omega
 have q2:(L:Int) < (g.edges.length:Int):=by omega
 have c1:=hx1.cell h.cells.2.1
 have HTO2:=Lib.hid HTO
 clear HTO
 have HW1:=Lib.hid hw1
 have HQ:=Lib.hid hq
 clear hw1 hq
 clear h h0 hw0 hE hv hhas hqs hDs hex hL hkey hgb hgl hmem hpv hLab hLe hnd n0 hb0 hpl hps hsk hset hmap hH hz hv0
 go_enter Tryz.func89,Tryz.ntmps89
 go_upto_region 1 with (fail)
 rw [←HW1.out,←HQ.out]
 go_upto_region 2 with ((go_at_call 91;((with_reducible refine (HND.out).mono ?_);rintro e w2 ⟨rfl,hx2⟩)))
 have hE2:Ext w w2:=hx1.trans hx2
 have hW2:Ext wb w2:=HX0.out.trans hE2
 have b0:=hx2.cell a0
 have b1:=hx2.cell a1
 have b4:=hx2.cell a4
 have b5:=hx2.cell a5
 have b6:=hx2.cell a6
 have b7:=hx2.cell a7
 have b8:=hx2.cell a8
 have b9:=hx2.cell a9
 have n2:=hx2.cell n1
 have k1:=hx2.cell c1
 clear a0 a1 a2 a3 a4 a5 a6 a7 a8 a9 c1 n1 hx1 hx2
 go_upto_region 4 with ((go_at_call 124;((with_reducible refine (zv _ _).mono ?_);rintro e w6 ⟨rfl,hw6⟩;obtain rfl:=hw6.symm)))
 have MKS:=Lib.hid (fun V (e:Ext w2 V)=>(⟨e.cell n2,e.cell b4,e.cell b5,e.cell b6,e.cell b7,e.cell b8,e.cell b9⟩:V.cell? ⟨gE,L*5+4,none⟩=some (.slice AL H.length cL)∧V.cell? ⟨q,4,none⟩=some (.string nm)∧V.cell? ⟨q,5,none⟩=some (.int .i64 v.kind)∧V.cell? ⟨q,6,none⟩=some (.int .i64 v.n)∧V.cell? ⟨q,7,none⟩=some (.int .i64 v.d)∧V.cell? ⟨q,8,none⟩=some (.string v.s)∧V.cell? ⟨q,9,none⟩=some (.slice A 0 k)))
 have MKT:=Lib.hid (fun V (e:Ext w2 V)=>e.cell k1)
 refine za1.start (S:=(fun V=>V.cell? ⟨gE,L*5+4,none⟩=some (.slice AL H.length cL)∧V.cell? ⟨q,4,none⟩=some (.string nm)∧V.cell? ⟨q,5,none⟩=some (.int .i64 v.kind)∧V.cell? ⟨q,6,none⟩=some (.int .i64 v.n)∧V.cell? ⟨q,7,none⟩=some (.int .i64 v.d)∧V.cell? ⟨q,8,none⟩=some (.string v.s)∧V.cell? ⟨q,9,none⟩=some (.slice A 0 k))) (T:=(fun V=>V.cell? ⟨D,1,none⟩=some (.slice (some ⟨gE,0,none⟩) g.edges.length cE))) (E:=19) (by kernel_rfl) ?hs13039 (fun hHeld=>?go13039)
 case hs13039=>exact ⟨by (exact MKS.out _ Qg),by (first|assumption|exact MKT.out _ Qg)⟩
 refine KU 0 ⟨fun _=>hHeld.1,hHeld.2⟩ ?_;simp only [PU]
 refine KU 1 ⟨fun _=>hHeld.1,hHeld.2⟩ ?_;simp only [PU]
 refine KU 2 ⟨fun _=>hHeld.1,hHeld.2⟩ ?_;simp only [PU]
 refine KU 3 ⟨fun _=>hHeld.1,hHeld.2⟩ ?_;simp only [PU]
 refine KU 4 ⟨fun _=>hHeld.1,hHeld.2⟩ ?_;simp only [PU]
 refine KU 5 ⟨fun _=>hHeld.1,hHeld.2⟩ ?_;simp only [PU]
 refine KU 6 ⟨fun _=>hHeld.1,hHeld.2⟩ ?_;simp only [PU]
 refine KU 7 ⟨fun _=>hHeld.1,hHeld.2⟩ ?_;simp only [PU]
 refine KU 8 ⟨fun _=>hHeld.1,hHeld.2⟩ ?_;simp only [PU]
 refine KU 9 ⟨fun _=>hHeld.1,hHeld.2⟩ ?_;simp only [PU]
 refine KU 10 ⟨fun _=>hHeld.1,hHeld.2⟩ ?_;simp only [PU]
 refine KU 11 ⟨fun _=>hHeld.1,hHeld.2⟩ ?_;simp only [PU]
 refine KU 12 ⟨fun _=>hHeld.1,hHeld.2⟩ ?_;simp only [PU]
 refine KU 13 ⟨fun _=>hHeld.1,hHeld.2⟩ ?_;simp only [PU]
 refine KT 14 hHeld ?_;simp only [PU]
 refine KU 15 ⟨fun _=>hHeld.1,hHeld.2⟩ ?_;simp only [PU]
 refine KT 16 hHeld ?_;simp only [PU]
 refine KU 17 ⟨fun _=>hHeld.1,hHeld.2⟩ ?_;simp only [PU]
 refine KT 18 hHeld ?_;simp only [PU]
 refine za1.ready (rs:=[19]) (by kernel_rfl) (by simp) ?_
 refine zci.cons (o:=⟨_,_,_,_,_,_⟩) rfl (fun K hK=>?step13059x0) ?more13059x0
 case more13059x0=>exact zci.nil
 go_simp
 (go_at_call 130;((with_reducible refine (HST.out _ Qg).mono ?_);rintro e w7 ⟨rfl,hx7⟩))
 exact ⟨rfl,rfl,Ext.trans Qg hx7⟩
theorem zn9 (wb w0 w:World) (D:Nat) (g:za) (x f t:Int) (nm:ByteArray) (v:Val) (A:Option Addr) (k:Nat) (h:zt w0 wb.heap.size D g) (hw0:Ext w0 w) (hE:Ext wb w) (hv:VG g) (hhas:zcl g.edges x=true) {l':List zaf} (hset:zgg (zat g x).props nm v= .ok l') (hv0:v.l=[]) (hz:zq w) :
  Calls Tryz.prog 89 #[.pointer (some ⟨D,0,none⟩), .agg #[.int .i64 8, .int .i64 x, .int .i64 f, .int .i64 t, .string nm, .int .i64 v.kind, .int .i64 v.n, .int .i64 v.d, .string v.s, .slice A 0 k]] w fun e w'=>e= .returned (.tuple #[])∧zt w' wb.heap.size D ⟨g.nodes,zcc cI zf.id g.edges ⟨(zat g x).id,(zat g x).frm,(zat g x).to_,(zat g x).typ,l'⟩,g.nn,g.ne⟩∧Ext wb w'∧zb3 w0 w w':=by
 obtain ⟨τ,V,E,lv,pv,ev,hp,he,h0⟩:=h
 have h:=h0.ext hw0
 have hDs:D < w.heap.size:=(h.self.lt rfl).2
 obtain ⟨q,w1,hq,hw1,hc,hx1⟩:=zy w ⟨8,x,f,t,nm,v⟩ A k 30
 obtain ⟨a0,a1,a2,a3,a4,a5,a6,a7,a8,a9⟩:=hc
 dsimp only at a0 a1 a2 a3 a4 a5 a6 a7 a8 a9 hw1
 rw [show v.l.length=0 by rw [hv0];rfl] at a9 hw1
 have HND:=Lib.hid (zbo (h.ext hx1) hv.es hv.el x)
 rw [hhas] at HND
 have hqs:w.heap.size≤q:=by omega
 have HX0:=Lib.hid hE
 have hex:∃ n ∈ g.edges,n.id=x:=zei.1 hhas
 obtain ⟨hlt,hkey⟩:=(zu zct hv.es x).1 hex
 obtain ⟨gE,cE,hEe,hgb,hgl,-⟩:=h.edges.addr Qk
 subst hEe
 obtain ⟨L,hL⟩:∃ L,L=zg cI zf.id g.edges x:=⟨_,rfl⟩
 rw [←hL] at HND hlt hkey
 rw [getElem!_pos g.edges L hlt] at hkey
 have hel:=hv.el
 have hnd:zat g x=g.edges[L]:=by unfold zat;rw [←hL,getElem!_pos g.edges L hlt]
 (try rw [hnd])
 rw [hnd] at hset
 have hmem:g.edges[L] ∈ g.edges:=List.getElem_mem hlt
 have hpv:=(hv.ev _ hmem).2.2.2
 obtain ⟨hLab,hmap⟩:=h.eprs _ hmem
 have hpl:(he g.edges[L].id).length≤16:=by
  have:=hpv.pl
  rw [←hmap,List.length_map] at this;exact this
 have hps:za0 zn zbr (he g.edges[L].id):=by rw [zhg,hmap];exact hpv.ps
 obtain ⟨AL,cL,hLe⟩:=hLab.form
 have hsk:∀ N:zf,N.id=g.edges[L].id→g.edges.set L N=zcc cI zf.id g.edges N:=fun N hN=>by unfold zcc;rw [hN,hkey,←hL]
 rw [←hmap] at hset
 generalize hH:he g.edges[L].id=H at *
 have HTO:=Lib.hid (fun W (e:Ext w W) w7 v7 H' (R:zaa wb.heap.size 54 6 W (.slice AL H.length cL) w7 v7 H'.length (H'.flatMap HP.enc))=>(h.ext e).toEprs (w':=w7) (v':=v7) hlt (H:=H') (by rw [hLe];exact R) (zds hv.es hlt))
 have HNK:=Lib.hid (fun W (e:Ext w W) w7 (hg:W.grownBy w7 (Value.slice AL H.length cL).ownBlock)=>(h.ext e).edgeK (w':=w7) hg (fun b hb=>by rw [←hLe] at hb;rw [hLab.tag b hb];exact Tg.noConfusion) hlt)
 have HSELF:=Lib.hid (fun W (e:Ext w W) w7 (hg:W.grownBy w7 (Value.slice AL H.length cL).ownBlock)=>(h.ext e).selfK (w':=w7) hg (fun b hb=>by rw [←hLe] at hb;rw [hLab.tag b hb];exact Tg.noConfusion))
 have n0:=(h.edgeK (Ext.refl_gr w) (fun _=>zbu) hlt).2.2.2.2.1
 rw [hLe] at n0 hLab
 have n1:=hx1.cell n0
 have hb0:wb.heap.size≤w.heap.size:=hE.le
 have HRB:=Lib.hid (fun b (hb:(Value.slice AL H.length cL).ownBlock=some b)=>(h0.eprs _ hmem).1.edb zfw hw0 (by rw [hLe];exact hb))
 have HGB:Hid (EdB w0 w gE):=Lib.hid (h0.edges.edb zgq hw0 rfl)
 have HGD:Hid (gE ≠ D):=Lib.hid (fun e=>by
  have h1:=h.edges.tag gE rfl
  have h2:=h.self.tag D rfl
  rw [e,h2] at h1;cases h1)
 have HST:=Lib.hid (fun W (e:Ext w W)=>znb (A:=A) (k:=k) (hz.ext e) (zag hLab.own e) (Nat.le_trans hb0 e.le) hps hpl hv0 hset)
 have HSK:=Lib.hid (hsk ⟨g.edges[L].id,g.edges[L].frm,g.edges[L].to_,g.edges[L].typ,l'⟩ rfl)
 have q1:(0:Int)≤(L:Int):=by omega
 have q2:(L:Int) < (g.edges.length:Int):=by omega
 have c1:=hx1.cell h.cells.2.1
 have HTO2:=Lib.hid HTO
 clear HTO
 have HW1:=Lib.hid hw1
 have HQ:=Lib.hid hq
 clear hw1 hq
 clear h h0 hw0 hE hv hhas hqs hDs hex hL hkey hgb hgl hmem hpv hLab hLe hnd n0 hb0 hpl hps hsk hset hmap hH hz hv0
 go_enter Tryz.func89,Tryz.ntmps89
 go_upto_region 1 with (fail)
 rw [←HW1.out,←HQ.out]
 go_upto_region 2 with ((go_at_call 91;((with_reducible refine (HND.out).mono ?_);rintro e w2 ⟨rfl,hx2⟩)))
 have hE2:Ext w w2:=hx1.trans hx2
 have hW2:Ext wb w2:=HX0.out.trans hE2
 have b0:=hx2.cell a0
 have b1:=hx2.cell a1
 have b4:=hx2.cell a4
 have b5:=hx2.cell a5
 have b6:=hx2.cell a6
 have b7:=hx2.cell a7
 have b8:=hx2.cell a8
 have b9:=hx2.cell a9
 have n2:=hx2.cell n1
 have k1:=hx2.cell c1
 clear a0 a1 a2 a3 a4 a5 a6 a7 a8 a9 c1 n1 hx1 hx2
 go_upto_region 4 with ((go_at_call 124;((with_reducible refine (zv _ _).mono ?_);rintro e w6 ⟨rfl,hw6⟩;obtain rfl:=hw6.symm)))
 have MKS:=Lib.hid (fun V (e:Ext w2 V)=>(⟨e.cell n2,e.cell b4,e.cell b5,e.cell b6,e.cell b7,e.cell b8,e.cell b9⟩:V.cell? ⟨gE,L*5+4,none⟩=some (.slice AL H.length cL)∧V.cell? ⟨q,4,none⟩=some (.string nm)∧V.cell? ⟨q,5,none⟩=some (.int .i64 v.kind)∧V.cell? ⟨q,6,none⟩=some (.int .i64 v.n)∧V.cell? ⟨q,7,none⟩=some (.int .i64 v.d)∧V.cell? ⟨q,8,none⟩=some (.string v.s)∧V.cell? ⟨q,9,none⟩=some (.slice A 0 k)))
 have MKT:=Lib.hid (fun V (e:Ext w2 V)=>e.cell k1)
 refine za1.start (S:=(fun V=>V.cell? ⟨gE,L*5+4,none⟩=some (.slice AL H.length cL)∧V.cell? ⟨q,4,none⟩=some (.string nm)∧V.cell? ⟨q,5,none⟩=some (.int .i64 v.kind)∧V.cell? ⟨q,6,none⟩=some (.int .i64 v.n)∧V.cell? ⟨q,7,none⟩=some (.int .i64 v.d)∧V.cell? ⟨q,8,none⟩=some (.string v.s)∧V.cell? ⟨q,9,none⟩=some (.slice A 0 k))) (T:=(fun V=>V.cell? ⟨D,1,none⟩=some (.slice (some ⟨gE,0,none⟩) g.edges.length cE))) (E:=19) (by kernel_rfl) ?hs13063 (fun hHeld=>?go13063)
 case hs13063=>exact ⟨by (exact MKS.out _ Qg),by (first|assumption|exact MKT.out _ Qg)⟩
 refine KU 0 ⟨fun _=>hHeld.1,hHeld.2⟩ ?_;simp only [PU]
 refine KU 1 ⟨fun _=>hHeld.1,hHeld.2⟩ ?_;simp only [PU]
 refine KU 2 ⟨fun _=>hHeld.1,hHeld.2⟩ ?_;simp only [PU]
 refine KU 3 ⟨fun _=>hHeld.1,hHeld.2⟩ ?_;simp only [PU]
 refine KU 4 ⟨fun _=>hHeld.1,hHeld.2⟩ ?_;simp only [PU]
 refine KU 5 ⟨fun _=>hHeld.1,hHeld.2⟩ ?_;simp only [PU]
 refine KU 6 ⟨fun _=>hHeld.1,hHeld.2⟩ ?_;simp only [PU]
 refine KU 7 ⟨fun _=>hHeld.1,hHeld.2⟩ ?_;simp only [PU]
 refine KU 8 ⟨fun _=>hHeld.1,hHeld.2⟩ ?_;simp only [PU]
 refine KU 9 ⟨fun _=>hHeld.1,hHeld.2⟩ ?_;simp only [PU]
 refine KU 10 ⟨fun _=>hHeld.1,hHeld.2⟩ ?_;simp only [PU]
 refine KU 11 ⟨fun _=>hHeld.1,hHeld.2⟩ ?_;simp only [PU]
 refine KU 12 ⟨fun _=>hHeld.1,hHeld.2⟩ ?_;simp only [PU]
 refine KU 13 ⟨fun _=>hHeld.1,hHeld.2⟩ ?_;simp only [PU]
 refine KT 14 hHeld ?_;simp only [PU]
 refine KU 15 ⟨fun _=>hHeld.1,hHeld.2⟩ ?_;simp only [PU]
 refine KT 16 hHeld ?_;simp only [PU]
 refine KU 17 ⟨fun _=>hHeld.1,hHeld.2⟩ ?_;simp only [PU]
 refine KT 18 hHeld ?_;simp only [PU]
 refine za1.ready (rs:=[19]) (by kernel_rfl) (by simp) ?_
 refine zci.cons (o:=⟨_,_,_,_,_,_⟩) rfl (fun K hK=>?step13083x0) ?more13083x0
 case more13083x0=>exact zci.nil
 go_simp
 (go_at_call 130;((with_reducible refine (HST.out _ Qg).mono ?_);rintro e w7 ⟨v7,H7,rfl,hm7,hR⟩;obtain ⟨A7,c7,rfl⟩:=zao hR.own;obtain ⟨-,-,-,-,s0,sf⟩:=HNK.out _ Qg w7 hR.grown;have sf0:=sf (L*5+4);clear sf;obtain ⟨-,s1,-,-,-⟩:=HSELF.out _ Qg w7 hR.grown;have s2:=(World.cell?_setCell_other w7 ⟨gE,L*5+4,none⟩ ⟨D,1,none⟩ (.slice A7 H7.length c7) (fun e=>HGD.out (by injection e))).trans s1))
 refine hK.out _ _ ?hS13083x0 (fun H13083=>?_)
 case hS13083x0=>exact ⟨fun h=>(by first|exact absurd h Qj|simp at h),by (first|assumption|exact MKT.out _ Qg)⟩
 clear hK K
 clear hHeld
 (try simp only [PU])
 refine KU 20 H13083 ?_;simp only [PU]
 refine KU 21 H13083 ?_;simp only [PU]
 refine za1.ready (rs:=[22]) (by kernel_rfl) (by simp) ?_
 refine zci.cons (o:=⟨_,_,_,_,_,_⟩) rfl (fun K hK=>?step13086x0) ?more13086x0
 case more13086x0=>exact zci.nil
 go_simp
 refine hK.out _ _ ?hS13086x0 (fun H13086=>?_)
 case hS13086x0=>exact ⟨fun h=>(by first|exact absurd h Qj|simp at h),by (first|assumption|exact MKT.out _ Qg)⟩
 clear hK K
 clear H13083
 refine za1.done (by kernel_rfl) ?_ _
 clear H13086
 obtain ⟨hO,hX⟩:=HTO2.out _ Qg w7 _ _ hR
 have hX8:=hX wb rfl (Ext.trans HX0.out Qg)
 rw [hm7,HSK.out] at hO
 go_end0
 exact ⟨rfl,hO,hX8,zb3.row Qg hR.grown HRB.out HGB.out _ _⟩
theorem z01 {v:Val} (h:okV v):v.l=[]:=by
 rcases h with rfl|h
 ·rfl
 ·exact (zfc h).2.1
theorem zzx {c:ChG} (h:zcn c=0):c.v.l=[]:=by
 obtain ⟨-,-,-,-,a5,a6⟩:=zgd h
 cases hv:zaq c.op with
 | true=>exact z01 (a5 hv)
 | false=>rw [a6 hv];rfl
theorem zhl {Q:za→Prop} {R:Int→Prop} {g0:za} (hh:Q g0):(∀ g',(Except.ok g0:Except Int za)= .ok g'→Q g')∧(∀ kk,(Except.ok g0:Except Int za)= .error kk→R kk) :=
 ⟨fun g' e=>(by injection e with e;subst e;exact hh),fun kk e=>(by cases e)⟩
theorem zda {Q:za→Prop} {R:Int→Prop} {k0:Int} (hh:R k0):(∀ g',(Except.error k0:Except Int za)= .ok g'→Q g')∧(∀ kk,(Except.error k0:Except Int za)= .error kk→R kk) :=
 ⟨fun g' e=>(by cases e),fun kk e=>(by injection e with e;subst e;exact hh)⟩
abbrev z0t (k:Int):Ending:= .panicked [{ v:= .iface 105 (.int .i64 k),recovered:=false }]
section
variable {wb w0 w:World} {D:Nat} {g:za} {c:ChG} {A:Option Addr} {k:Nat}
theorem zpc (h:zt w0 wb.heap.size D g) (hw0:Ext w0 w) (hE:Ext wb w) (hv:VG g) (hz:zq w) (hc:zcn c=0) (h5:c.op≤5) :
  Calls Tryz.prog 88 #[.pointer (some ⟨D,0,none⟩), .agg #[.int .i64 c.op, .int .i64 c.id, .int .i64 c.frm, .int .i64 c.to_, .string c.name, .int .i64 c.v.kind, .int .i64 c.v.n, .int .i64 c.v.d, .string c.v.s, .slice A c.v.l.length k]] w fun e w' =>
   (∀ g',zbe g c= .ok g'→e= .returned (.tuple #[])∧zt w' wb.heap.size D g'∧Ext wb w'∧zb3 w0 w w')∧(∀ kk,zbe g c= .error kk→e=z0t kk∧Ext w w'):=by
 have hl0:=zzx hc
 obtain ⟨hid,hop,-⟩:=zc3 hc
 obtain ⟨op,x,f,t,nm,v⟩:=c
 dsimp only at hl0 hid hop h5
 by_cases h1:op=1
 ·subst h1
  cases hhas:zav g.nodes x with
  | true =>
   have e0:zbe g ⟨1,x,f,t,nm,v⟩= .error 7:=by unfold zbe;dsimp only;rw [if_pos rfl,if_pos hhas]
   rw [e0]
   refine (zmj wb w0 w D g x f t nm v A k h hw0 hE hv hhas).mono (fun e w' hh=>zda hh)
  | false =>
   by_cases hl:2000≤g.nodes.length
   ·have e0:zbe g ⟨1,x,f,t,nm,v⟩= .error 20:=by unfold zbe;dsimp only;rw [if_pos rfl,if_neg (by rw [hhas];exact Bool.false_ne_true),if_pos hl]
    rw [e0]
    refine (zl8 wb w0 w D g x f t nm v A k h hw0 hE hv hhas hl).mono (fun e w' hh=>zda hh)
   ·have e0:zbe g ⟨1,x,f,t,nm,v⟩= .ok ⟨zc6 cI zb.id g.nodes ⟨x,[],[]⟩,g.edges,max g.nn (x+1),g.ne⟩:=by unfold zbe;dsimp only;rw [if_pos rfl,if_neg (by rw [hhas];exact Bool.false_ne_true),if_neg hl]
    rw [e0]
    refine (zoo wb w0 w D g x f t nm v A k h hw0 hE hv hhas Qk hid).mono (fun e w' hh=>zhl hh)
 ·have s1:zbe g ⟨op,x,f,t,nm,v⟩=if zav g.nodes x=true then zdt g ⟨op,x,f,t,nm,v⟩ (zw g x) else .error 10:=by unfold zbe;dsimp only;rw [if_neg h1,if_pos h5]
  rw [s1]
  cases hhas:zav g.nodes x with
  | false =>
   rw [if_neg Bool.false_ne_true]
   refine (zpi wb w0 w D g op x f t nm v A k h hw0 hE hv hhas h1).mono (fun e w' hh=>zda hh)
  | true =>
   rw [if_pos rfl]
   unfold zdt
   dsimp only
   by_cases h2:op=2
   ·subst h2
    rw [if_pos rfl]
    cases hu:g.edges.any (fun e=>decide (e.frm=x∨e.to_=x)) with
    | true =>
     rw [if_pos rfl]
     refine (zl0 wb w0 w D g x f t nm v A k h hw0 hE hv hhas hu).mono (fun e w' hh=>zda hh)
    | false =>
     rw [if_neg Bool.false_ne_true]
     refine (zoc wb w0 w D g x f t nm v A k h hw0 hE hv hhas hu).mono (fun e w' hh=>zhl hh)
   rw [if_neg h2]
   by_cases h3:op=3
   ·subst h3
    rw [if_pos rfl]
    by_cases hs:∃ s ∈ (zw g x).labels,s=nm
    ·rw [if_pos hs]
     refine (zml wb w0 w D g x f t nm v A k h hw0 hE hv hhas hs).mono (fun e w' hh=>zda hh)
    ·rw [if_neg hs]
     by_cases h8:8≤(zw g x).labels.length
     ·rw [if_pos h8]
      refine (zk9 wb w0 w D g x f t nm v A k h hw0 hE hv hhas hs h8).mono (fun e w' hh=>zda hh)
     ·rw [if_neg h8]
      refine (zn2 wb w0 w D g x f t nm v A k h hw0 hE hv hhas hs Qk).mono (fun e w' hh=>zhl hh)
   rw [if_neg h3]
   by_cases h4:op=4
   ·subst h4
    rw [if_pos rfl]
    by_cases hs:∃ s ∈ (zw g x).labels,s=nm
    ·rw [if_pos hs]
     refine (zon wb w0 w D g x f t nm v A k h hw0 hE hv hhas hs).mono (fun e w' hh=>zhl hh)
    ·rw [if_neg hs]
     refine (zk0 wb w0 w D g x f t nm v A k h hw0 hE hv hhas hs).mono (fun e w' hh=>zda hh)
   rw [if_neg h4]
   have h5':op=5:=by omega
   subst h5'
   rw [show v.l.length=0 by rw [hl0];rfl]
   cases hset:zgg (zw g x).props nm v with
   | ok l =>
    refine (zny wb w0 w D g x f t nm v A k h hw0 hE hv hhas hset hl0 hz).mono (fun e w' hh=>zhl hh)
   | error kk =>
    refine (zmf wb w0 w D g x f t nm v A k h hw0 hE hv hhas hset hl0 hz).mono (fun e w' hh=>zda hh)
theorem zqy (h:zt w0 wb.heap.size D g) (hw0:Ext w0 w) (hE:Ext wb w) (hv:VG g) (hz:zq w) (hc:zcn c=0) (h5:¬c.op≤5) :
  Calls Tryz.prog 89 #[.pointer (some ⟨D,0,none⟩), .agg #[.int .i64 c.op, .int .i64 c.id, .int .i64 c.frm, .int .i64 c.to_, .string c.name, .int .i64 c.v.kind, .int .i64 c.v.n, .int .i64 c.v.d, .string c.v.s, .slice A c.v.l.length k]] w fun e w' =>
   (∀ g',zbe g c= .ok g'→e= .returned (.tuple #[])∧zt w' wb.heap.size D g'∧Ext wb w'∧zb3 w0 w w')∧(∀ kk,zbe g c= .error kk→e=z0t kk∧Ext w w'):=by
 have hl0:=zzx hc
 obtain ⟨hid,hop,-⟩:=zc3 hc
 obtain ⟨op,x,f,t,nm,v⟩:=c
 dsimp only at hl0 hid hop h5
 have h1:¬op=1:=by omega
 by_cases h6:op=6
 ·subst h6
  have s1:zbe g ⟨6,x,f,t,nm,v⟩=if zcl g.edges x=true then .error 7 else if zav g.nodes f=true∧zav g.nodes t=true then (if 4000≤g.edges.length then .error 20 else .ok { g with edges:=zc6 cI zf.id g.edges ⟨x,f,t,nm,[]⟩,ne:=max g.ne (x+1) }) else .error 10:=by unfold zbe;dsimp only;rw [if_neg h1,if_neg h5,if_pos rfl]
  rw [s1]
  cases hhas:zcl g.edges x with
  | true =>
   rw [if_pos rfl]
   refine (zmh wb w0 w D g x f t nm v A k h hw0 hE hv hhas).mono (fun e w' hh=>zda hh)
  | false =>
   rw [if_neg Bool.false_ne_true]
   cases hft:(zav g.nodes f && zav g.nodes t) with
   | false =>
    rw [if_neg (by rw [←Bool.and_eq_true,hft];exact Bool.false_ne_true)]
    refine (zlx wb w0 w D g x f t nm v A k h hw0 hE hv hhas hft).mono (fun e w' hh=>zda hh)
   | true =>
    rw [if_pos (by rw [←Bool.and_eq_true,hft])]
    by_cases hl:4000≤g.edges.length
    ·rw [if_pos hl]
     refine (zlz wb w0 w D g x f t nm v A k h hw0 hE hv hhas hft hl).mono (fun e w' hh=>zda hh)
    ·rw [if_neg hl]
     refine (zof wb w0 w D g x f t nm v A k h hw0 hE hv hhas hft Qk hid).mono (fun e w' hh=>zhl hh)
 ·have s1:zbe g ⟨op,x,f,t,nm,v⟩=if zcl g.edges x=true then (if op=7 then .ok { g with edges:=zcv cI zf.id g.edges x } else match zgg (zat g x).props nm v with | .ok l=> .ok { g with edges:=zcc cI zf.id g.edges { zat g x with props:=l } } | .error e=> .error e) else .error 11:=by unfold zbe;dsimp only;rw [if_neg h1,if_neg h5,if_neg h6];rfl
  rw [s1]
  cases hhas:zcl g.edges x with
  | false =>
   rw [if_neg Bool.false_ne_true]
   refine (zpe wb w0 w D g op x f t nm v A k h hw0 hE hv hhas Qk).mono (fun e w' hh=>zda hh)
  | true =>
   rw [if_pos rfl]
   by_cases h7:op=7
   ·subst h7
    rw [if_pos rfl]
    refine (zn4 wb w0 w D g x f t nm v A k h hw0 hE hv hhas).mono (fun e w' hh=>zhl hh)
   ·rw [if_neg h7]
    have h8:op=8:=by omega
    subst h8
    rw [show v.l.length=0 by rw [hl0];rfl]
    cases hset:zgg (zat g x).props nm v with
    | ok l =>
     refine (zn9 wb w0 w D g x f t nm v A k h hw0 hE hv hhas hset hl0 hz).mono (fun e w' hh=>zhl hh)
    | error kk =>
     refine (zmg wb w0 w D g x f t nm v A k h hw0 hE hv hhas hset hl0 hz).mono (fun e w' hh=>zda hh)
end
theorem zq4 (W:World) (v:Value):(Instr.typeAssert (.iface 105 v) 20 105 true).run Tryz.prog W= .ok (.tuple #[v, .bool true]) W:=by kernel_rfl
theorem zqm (p:Addr) (x kk:Int) (older:List PanicEntry) (w:World) (hc:w.cell? p=some (.int .i64 x)) (hz:w.frozen? p=false) :
  CallsD Tryz.prog 87 #[.pointer (some p)] (.panicking ({ v:= .iface 105 (.int .i64 kk),recovered:=false } :: older)) w fun e u' w' =>
   e= .returned (.tuple #[])∧u'= .panicking ({ v:= .iface 105 (.int .i64 kk),recovered:=true } :: older)∧w'=w.setCell p (.int .i64 kk):=by
 refine callsD_of_wpS Tryz.func87 rfl fun c₀ cs hu=>?_
 apply wpS_seq
 apply wpS_region
 simp [wpOpsS,go_sem,recoverD,hu,Tryz.ntmps87,Exit.thenS]
 change Code.wpS _ _ _ { tmps:=#[.pointer (some p), .iface 105 (.int .i64 kk),undef,undef, .iface 105 (.int .i64 kk),undef,undef,undef,undef,undef,undef,undef,undef,undef,undef],defers:=[] } _ _
 refine wpS_of_wp ?_
 have hta:=zq4
 go_wp2_with fail
 simp [bodyPostS,results,Tryz.results87]
theorem zsl (p:Addr) (w:World) :
  CallsD Tryz.prog 87 #[.pointer (some p)] .returning w fun e u' w'=>e= .returned (.tuple #[])∧u'= .returning∧w'=w:=by
 refine callsD_of_wpS Tryz.func87 rfl fun c₀ cs hu=>?_
 apply wpS_seq
 apply wpS_region
 simp [wpOpsS,go_sem,recoverD,hu,Tryz.ntmps87,Exit.thenS]
 change Code.wpS _ _ _ { tmps:=#[.pointer (some p), .nilIface,undef,undef, .nilIface,undef,undef,undef,undef,undef,undef,undef,undef,undef,undef],defers:=[] } _ _
 refine wpS_of_wp ?_
 go_wp2_with fail
 cases c₀
 simp_all [bodyPostS,results,Tryz.results87]
theorem zii (w:World) (t:TypeId):∃ (q:Nat) (w1:World),q=w.heap.size∧w1=w.alloc (.cells #[.int .i64 0] t)∧w1.cell? ⟨q,0,none⟩=some (.int .i64 0)∧w1.frozen? ⟨q,0,none⟩=false∧Hid (Blk w1 q t [.int .i64 0])∧Ext w w1 :=
 ⟨_,_,rfl,rfl,by go_simp,by go_simp,Lib.hid (heap_alloc_new w _),(Ext.refl _).alloc _⟩
theorem zb3.blk {w0 w w':World} {q t:Nat} {cs:List Value} (s:zb3 w0 w w') (h:Blk w q t cs) (hq:w0.heap.size≤q):Blk w' q t cs:=(s q (.inl hq) h.lt).trans h
theorem za8 (w:World) (q o:Nat) (u:Value):w.grownBy (w.setCell ⟨q,o,none⟩ u) (some q):=⟨rfl,rfl,rfl,by simp,fun k _ hk=>heap_setCell_other w _ k u (fun e=>hk (by simp [e]))⟩
theorem zgp {w:World} {base e K n q T:Nat} {v:Value} {xs cs:List Value} (h:w.ownsRow base e K v n xs) (hB:Blk w q T cs) (hT:e ≠ T):v.ownBlock ≠ some q:=fun e2=>by
 rcases h.2 with ⟨hv,-⟩|⟨g,cap,cur,hv,-,hh,-⟩
 ·rw [hv] at e2;cases e2
 ·rw [hv] at e2
  have e3:g=q:=by injection e2
  subst e3
  unfold Blk at hB
  rw [hh] at hB
  injection hB with hB
  injection hB with _ hB _
  exact hT hB
theorem za5.other {w w':World} {base K n q T2:Nat} {τ:Nat→Tg} {T:Tg} {e:TypeId} {v:Value} {xs cs:List Value} (h:za5 w base τ T e K v n xs) (hB:Blk w q T2 cs) (hT:e ≠ T2) (hg:w.grownBy w' (some q)):za5 w' base τ T e K v n xs:=⟨h.own.kept hg (.inr (zgp h.own hB hT)),h.tag⟩
theorem zt.other {w w':World} {base D q:Nat} {g:za} {cs:List Value} (h:zt w base D g) (hB:Blk w q 34 cs) (hg:w.grownBy w' (some q)):zt w' base D g:=by
 obtain ⟨τ,V,E,lv,pv,ev,hp,he,h⟩:=h
 exact ⟨τ,V,E,lv,pv,ev,hp,he,h.self.other hB Qj hg,h.nodes.other hB Qj hg,h.edges.other hB Qj hg,fun n hn=>(h.labs n hn).other hB Qj hg,fun n hn=>⟨(h.prps n hn).1.other hB Qj hg,(h.prps n hn).2⟩,fun n hn=>⟨(h.eprs n hn).1.other hB Qj hg,(h.eprs n hn).2⟩⟩
theorem Blk.frz {w:World} {q t:Nat} {cs:List Value} (h:Blk w q t cs) (o:Nat):w.frozen? ⟨q,o,none⟩=false:=frozen_of_row w q o _ t h
theorem zpk (wb w:World) (D:Nat) (g:za) (c:ChG) (ok:Nat→Prop) (A:Option Addr) (k:Nat) (h:zt w wb.heap.size D g) (hE:Ext wb w) (hv:VG g) (hz:zq w) (hval:zk w ok A c.v.l) (hc:zcn c=0) (h5:c.op≤5) {g':za} (hs:zbe g c= .ok g') :
  Calls Tryz.prog 47 #[.pointer (some ⟨D,0,none⟩), .agg #[.int .i64 c.op, .int .i64 c.id, .int .i64 c.frm, .int .i64 c.to_, .string c.name, .int .i64 c.v.kind, .int .i64 c.v.n, .int .i64 c.v.d, .string c.v.s, .slice A c.v.l.length k]] w fun e w'=>e= .returned (.int .i64 0)∧zt w' wb.heap.size D g'∧Ext wb w'∧zmi w w':=by
 obtain ⟨q,w1,hq,hw1,hc10,hx1⟩:=zy w c A k 30
 obtain ⟨q2,w2,hq2,hw2,z0,f0,HBK,hx2⟩:=zii w1 34
 have hx:=hx1.trans hx2
 obtain ⟨b0,b1,b2,b3,b4,b5,b6,b7,b8,b9⟩:=hc10.ext hx2
 have HCK:=Lib.hid (zcd c ok A k w2 (hz.ext hx) (hval.ext hx))
 have HWQ:Hid (w2=(w.alloc (.cells #[.int .i64 c.op, .int .i64 c.id, .int .i64 c.frm, .int .i64 c.to_, .string c.name, .int .i64 c.v.kind, .int .i64 c.v.n, .int .i64 c.v.d, .string c.v.s, .slice A c.v.l.length k] 30)).alloc (.cells #[.int .i64 0] 34)):=Lib.hid (by rw [hw2,hw1])
 have HQ:=Lib.hid hq
 have HQ2:Hid (q2=w.heap.size+1):=Lib.hid (by rw [hq2,hw1];simp)
 have hqs:w.heap.size≤q:=by omega
 have hq2s:w.heap.size≤q2:=by rw [HQ2.out];omega
 rw [hc] at HCK
 have HNO:=Lib.hid (fun W (e:Ext w W)=>zpc (w:=W) (A:=A) (k:=k) h e (hE.trans e) hv (hz.ext e) hc h5)
 rw [hs] at HNO
 have g5:decide (c.op≤5)=true:=decide_eq_true h5
 have HE0:=Lib.hid hE
 have HWB:Hid (wb.heap.size≤q2):=Lib.hid (Nat.le_trans hE.le hq2s)
 clear h hE hv hz hval hc h5 hs hw1 hw2 hq hq2 hc10 hx1 hx2
 have hmf:∀ (fn:Fn) (first cap:Array Value) (w:World),(Instr.makeFunc fn first cap).run Tryz.prog w= .ok (.func fn first cap) w:=fun _ _ _ _=>rfl
 go_enter_defers Tryz.func47,Tryz.ntmps47
 go_upto_region 1 with (fail)
 rw [←HWQ.out,←HQ2.out,←HQ.out]
 go_upto_region 2 with ((go_at_call 13;((with_reducible refine (HCK.out).mono ?_);rintro e w3 ⟨rfl,hx3⟩)))
 have hE3:Ext w w3:=hx.trans hx3
 have HB3:=Lib.hid (HBK.out.ext hx3)
 have d0:=hx3.cell b0
 have d1:=hx3.cell b1
 have d2:=hx3.cell b2
 have d3:=hx3.cell b3
 have d4:=hx3.cell b4
 have d5:=hx3.cell b5
 have d6:=hx3.cell b6
 have d7:=hx3.cell b7
 have d8:=hx3.cell b8
 have d9:=hx3.cell b9
 clear b0 b1 b2 b3 b4 b5 b6 b7 b8 b9 hx3 hx z0 f0
 go_upto_region 8 with ((go_at_call 88;((with_reducible refine (HNO.out _ Qg).mono ?_);rintro e w5 ⟨hA,-⟩;obtain ⟨rfl,hO,hX,hS⟩:=hA _ rfl)))
 have HB5:=Lib.hid (hS.blk HB3.out hq2s)
 have z5:w5.cell? ⟨q2,0,none⟩=some (.int .i64 0):=(HB5.out.cell 0).trans rfl
 have f5:=HB5.out.frz 0
 have HK8:=Lib.hid ((hS.kept hE3).set hq2s 0 (.int .i64 0))
 clear hS
 have HO8:=Lib.hid (hO.other HB5.out (za8 w5 q2 0 (.int .i64 0)))
 have HX8:=Lib.hid (hX.setCell (p:=⟨q2,0,none⟩) HWB.out (.int .i64 0))
 have r8:(w5.setCell ⟨q2,0,none⟩ (.int .i64 0)).cell? ⟨q2,0,none⟩=some (.int .i64 0):=World.cell?_setCell_same' _ _ _ (by rw [z5];rfl)
 clear hO hX
 go_wp2_with fail
 refine leaves_cons (f:=87) (args:=#[.pointer (some ⟨q2,0,none⟩)]) (by simp) (by simp [go_sem]) ?_
 refine (zsl ⟨q2,0,none⟩ _).mono ?_
 rintro e u' w'' ⟨rfl,rfl,rfl⟩
 generalize w5.setCell ⟨q2,0,none⟩ (.int .i64 0)=w8 at *
 simp [Leaves,settle,results,Tryz.results47,go_sem,r8]
 exact ⟨HO8.out,HX8.out,HK8.out⟩
theorem zn3 (wb w:World) (D:Nat) (g:za) (c:ChG) (ok:Nat→Prop) (A:Option Addr) (k:Nat) (h:zt w wb.heap.size D g) (hE:Ext wb w) (hv:VG g) (hz:zq w) (hval:zk w ok A c.v.l) (hc:zcn c=0) (h5:c.op≤5) {kk:Int} (hs:zbe g c= .error kk) :
  Calls Tryz.prog 47 #[.pointer (some ⟨D,0,none⟩), .agg #[.int .i64 c.op, .int .i64 c.id, .int .i64 c.frm, .int .i64 c.to_, .string c.name, .int .i64 c.v.kind, .int .i64 c.v.n, .int .i64 c.v.d, .string c.v.s, .slice A c.v.l.length k]] w fun e w'=>e= .returned (.int .i64 kk)∧Ext wb w':=by
 obtain ⟨q,w1,hq,hw1,hc10,hx1⟩:=zy w c A k 30
 obtain ⟨q2,w2,hq2,hw2,z0,f0,HBK,hx2⟩:=zii w1 34
 have hx:=hx1.trans hx2
 obtain ⟨b0,b1,b2,b3,b4,b5,b6,b7,b8,b9⟩:=hc10.ext hx2
 have HCK:=Lib.hid (zcd c ok A k w2 (hz.ext hx) (hval.ext hx))
 have HWQ:Hid (w2=(w.alloc (.cells #[.int .i64 c.op, .int .i64 c.id, .int .i64 c.frm, .int .i64 c.to_, .string c.name, .int .i64 c.v.kind, .int .i64 c.v.n, .int .i64 c.v.d, .string c.v.s, .slice A c.v.l.length k] 30)).alloc (.cells #[.int .i64 0] 34)):=Lib.hid (by rw [hw2,hw1])
 have HQ:=Lib.hid hq
 have HQ2:Hid (q2=w.heap.size+1):=Lib.hid (by rw [hq2,hw1];simp)
 have hqs:w.heap.size≤q:=by omega
 have hq2s:w.heap.size≤q2:=by rw [HQ2.out];omega
 rw [hc] at HCK
 have HNO:=Lib.hid (fun W (e:Ext w W)=>zpc (w:=W) (A:=A) (k:=k) h e (hE.trans e) hv (hz.ext e) hc h5)
 rw [hs] at HNO
 have g5:decide (c.op≤5)=true:=decide_eq_true h5
 have HE0:=Lib.hid hE
 have HWB:Hid (wb.heap.size≤q2):=Lib.hid (Nat.le_trans hE.le hq2s)
 clear h hE hv hz hval hc h5 hs hw1 hw2 hq hq2 hc10 hx1 hx2
 have hmf:∀ (fn:Fn) (first cap:Array Value) (w:World),(Instr.makeFunc fn first cap).run Tryz.prog w= .ok (.func fn first cap) w:=fun _ _ _ _=>rfl
 go_enter_defers Tryz.func47,Tryz.ntmps47
 go_upto_region 1 with (fail)
 rw [←HWQ.out,←HQ2.out,←HQ.out]
 go_upto_region 2 with ((go_at_call 13;((with_reducible refine (HCK.out).mono ?_);rintro e w3 ⟨rfl,hx3⟩)))
 have hE3:Ext w w3:=hx.trans hx3
 have HB3:=Lib.hid (HBK.out.ext hx3)
 have d0:=hx3.cell b0
 have d1:=hx3.cell b1
 have d2:=hx3.cell b2
 have d3:=hx3.cell b3
 have d4:=hx3.cell b4
 have d5:=hx3.cell b5
 have d6:=hx3.cell b6
 have d7:=hx3.cell b7
 have d8:=hx3.cell b8
 have d9:=hx3.cell b9
 clear b0 b1 b2 b3 b4 b5 b6 b7 b8 b9 hx3 hx z0 f0
 go_wp2_with ((go_at_call 88;((with_reducible refine (HNO.out _ Qg).mono ?_);rintro e w5 ⟨-,hB⟩;obtain ⟨rfl,hX⟩:=hB _ rfl)))
 have HB5:=Lib.hid (HB3.out.ext hX)
 have z5:w5.cell? ⟨q2,0,none⟩=some (.int .i64 0):=(HB5.out.cell 0).trans rfl
 have f5:=HB5.out.frz 0
 have HX8:=Lib.hid ((HE0.out.trans (hE3.trans hX)).setCell (p:=⟨q2,0,none⟩) HWB.out (.int .i64 kk))
 have r8:(w5.setCell ⟨q2,0,none⟩ (.int .i64 kk)).cell? ⟨q2,0,none⟩=some (.int .i64 kk):=World.cell?_setCell_same' _ _ _ (by rw [z5];rfl)
 refine leaves_cons (f:=87) (args:=#[.pointer (some ⟨q2,0,none⟩)]) (by simp) (by simp [go_sem]) ?_
 refine (zqm ⟨q2,0,none⟩ 0 kk [] _ z5 f5).mono ?_
 rintro e u' w'' ⟨rfl,rfl,rfl⟩
 generalize w5.setCell ⟨q2,0,none⟩ (.int .i64 kk)=w8 at *
 simp [Leaves,settle,results,Tryz.results47,go_sem,r8]
 exact HX8.out
theorem zpm (wb w:World) (D:Nat) (g:za) (c:ChG) (ok:Nat→Prop) (A:Option Addr) (k:Nat) (h:zt w wb.heap.size D g) (hE:Ext wb w) (hv:VG g) (hz:zq w) (hval:zk w ok A c.v.l) (hc:zcn c=0) (h5:¬c.op≤5) {g':za} (hs:zbe g c= .ok g') :
  Calls Tryz.prog 47 #[.pointer (some ⟨D,0,none⟩), .agg #[.int .i64 c.op, .int .i64 c.id, .int .i64 c.frm, .int .i64 c.to_, .string c.name, .int .i64 c.v.kind, .int .i64 c.v.n, .int .i64 c.v.d, .string c.v.s, .slice A c.v.l.length k]] w fun e w'=>e= .returned (.int .i64 0)∧zt w' wb.heap.size D g'∧Ext wb w'∧zmi w w':=by
 obtain ⟨q,w1,hq,hw1,hc10,hx1⟩:=zy w c A k 30
 obtain ⟨q2,w2,hq2,hw2,z0,f0,HBK,hx2⟩:=zii w1 34
 have hx:=hx1.trans hx2
 obtain ⟨b0,b1,b2,b3,b4,b5,b6,b7,b8,b9⟩:=hc10.ext hx2
 have HCK:=Lib.hid (zcd c ok A k w2 (hz.ext hx) (hval.ext hx))
 have HWQ:Hid (w2=(w.alloc (.cells #[.int .i64 c.op, .int .i64 c.id, .int .i64 c.frm, .int .i64 c.to_, .string c.name, .int .i64 c.v.kind, .int .i64 c.v.n, .int .i64 c.v.d, .string c.v.s, .slice A c.v.l.length k] 30)).alloc (.cells #[.int .i64 0] 34)):=Lib.hid (by rw [hw2,hw1])
 have HQ:=Lib.hid hq
 have HQ2:Hid (q2=w.heap.size+1):=Lib.hid (by rw [hq2,hw1];simp)
 have hqs:w.heap.size≤q:=by omega
 have hq2s:w.heap.size≤q2:=by rw [HQ2.out];omega
 rw [hc] at HCK
 have HNO:=Lib.hid (fun W (e:Ext w W)=>zqy (w:=W) (A:=A) (k:=k) h e (hE.trans e) hv (hz.ext e) hc h5)
 rw [hs] at HNO
 have g5:decide (c.op≤5)=false:=decide_eq_false h5
 have HE0:=Lib.hid hE
 have HWB:Hid (wb.heap.size≤q2):=Lib.hid (Nat.le_trans hE.le hq2s)
 clear h hE hv hz hval hc h5 hs hw1 hw2 hq hq2 hc10 hx1 hx2
 have hmf:∀ (fn:Fn) (first cap:Array Value) (w:World),(Instr.makeFunc fn first cap).run Tryz.prog w= .ok (.func fn first cap) w:=fun _ _ _ _=>rfl
 go_enter_defers Tryz.func47,Tryz.ntmps47
 go_upto_region 1 with (fail)
 rw [←HWQ.out,←HQ2.out,←HQ.out]
 go_upto_region 2 with ((go_at_call 13;((with_reducible refine (HCK.out).mono ?_);rintro e w3 ⟨rfl,hx3⟩)))
 have hE3:Ext w w3:=hx.trans hx3
 have HB3:=Lib.hid (HBK.out.ext hx3)
 have d0:=hx3.cell b0
 have d1:=hx3.cell b1
 have d2:=hx3.cell b2
 have d3:=hx3.cell b3
 have d4:=hx3.cell b4
 have d5:=hx3.cell b5
 have d6:=hx3.cell b6
 have d7:=hx3.cell b7
 have d8:=hx3.cell b8
 have d9:=hx3.cell b9
 clear b0 b1 b2 b3 b4 b5 b6 b7 b8 b9 hx3 hx z0 f0
 go_upto_region 8 with ((go_at_call 89;((with_reducible refine (HNO.out _ Qg).mono ?_);rintro e w5 ⟨hA,-⟩;obtain ⟨rfl,hO,hX,hS⟩:=hA _ rfl)))
 have HB5:=Lib.hid (hS.blk HB3.out hq2s)
 have z5:w5.cell? ⟨q2,0,none⟩=some (.int .i64 0):=(HB5.out.cell 0).trans rfl
 have f5:=HB5.out.frz 0
 have HK8:=Lib.hid ((hS.kept hE3).set hq2s 0 (.int .i64 0))
 clear hS
 have HO8:=Lib.hid (hO.other HB5.out (za8 w5 q2 0 (.int .i64 0)))
 have HX8:=Lib.hid (hX.setCell (p:=⟨q2,0,none⟩) HWB.out (.int .i64 0))
 have r8:(w5.setCell ⟨q2,0,none⟩ (.int .i64 0)).cell? ⟨q2,0,none⟩=some (.int .i64 0):=World.cell?_setCell_same' _ _ _ (by rw [z5];rfl)
 clear hO hX
 go_wp2_with fail
 refine leaves_cons (f:=87) (args:=#[.pointer (some ⟨q2,0,none⟩)]) (by simp) (by simp [go_sem]) ?_
 refine (zsl ⟨q2,0,none⟩ _).mono ?_
 rintro e u' w'' ⟨rfl,rfl,rfl⟩
 generalize w5.setCell ⟨q2,0,none⟩ (.int .i64 0)=w8 at *
 simp [Leaves,settle,results,Tryz.results47,go_sem,r8]
 exact ⟨HO8.out,HX8.out,HK8.out⟩
theorem zoe (wb w:World) (D:Nat) (g:za) (c:ChG) (ok:Nat→Prop) (A:Option Addr) (k:Nat) (h:zt w wb.heap.size D g) (hE:Ext wb w) (hv:VG g) (hz:zq w) (hval:zk w ok A c.v.l) (hc:zcn c=0) (h5:¬c.op≤5) {kk:Int} (hs:zbe g c= .error kk) :
  Calls Tryz.prog 47 #[.pointer (some ⟨D,0,none⟩), .agg #[.int .i64 c.op, .int .i64 c.id, .int .i64 c.frm, .int .i64 c.to_, .string c.name, .int .i64 c.v.kind, .int .i64 c.v.n, .int .i64 c.v.d, .string c.v.s, .slice A c.v.l.length k]] w fun e w'=>e= .returned (.int .i64 kk)∧Ext wb w':=by
 obtain ⟨q,w1,hq,hw1,hc10,hx1⟩:=zy w c A k 30
 obtain ⟨q2,w2,hq2,hw2,z0,f0,HBK,hx2⟩:=zii w1 34
 have hx:=hx1.trans hx2
 obtain ⟨b0,b1,b2,b3,b4,b5,b6,b7,b8,b9⟩:=hc10.ext hx2
 have HCK:=Lib.hid (zcd c ok A k w2 (hz.ext hx) (hval.ext hx))
 have HWQ:Hid (w2=(w.alloc (.cells #[.int .i64 c.op, .int .i64 c.id, .int .i64 c.frm, .int .i64 c.to_, .string c.name, .int .i64 c.v.kind, .int .i64 c.v.n, .int .i64 c.v.d, .string c.v.s, .slice A c.v.l.length k] 30)).alloc (.cells #[.int .i64 0] 34)):=Lib.hid (by rw [hw2,hw1])
 have HQ:=Lib.hid hq
 have HQ2:Hid (q2=w.heap.size+1):=Lib.hid (by rw [hq2,hw1];simp)
 have hqs:w.heap.size≤q:=by omega
 have hq2s:w.heap.size≤q2:=by rw [HQ2.out];omega
 rw [hc] at HCK
 have HNO:=Lib.hid (fun W (e:Ext w W)=>zqy (w:=W) (A:=A) (k:=k) h e (hE.trans e) hv (hz.ext e) hc h5)
 rw [hs] at HNO
 have g5:decide (c.op≤5)=false:=decide_eq_false h5
 have HE0:=Lib.hid hE
 have HWB:Hid (wb.heap.size≤q2):=Lib.hid (Nat.le_trans hE.le hq2s)
 clear h hE hv hz hval hc h5 hs hw1 hw2 hq hq2 hc10 hx1 hx2
 have hmf:∀ (fn:Fn) (first cap:Array Value) (w:World),(Instr.makeFunc fn first cap).run Tryz.prog w= .ok (.func fn first cap) w:=fun _ _ _ _=>rfl
 go_enter_defers Tryz.func47,Tryz.ntmps47
 go_upto_region 1 with (fail)
 rw [←HWQ.out,←HQ2.out,←HQ.out]
 go_upto_region 2 with ((go_at_call 13;((with_reducible refine (HCK.out).mono ?_);rintro e w3 ⟨rfl,hx3⟩)))
 have hE3:Ext w w3:=hx.trans hx3
 have HB3:=Lib.hid (HBK.out.ext hx3)
 have d0:=hx3.cell b0
 have d1:=hx3.cell b1
 have d2:=hx3.cell b2
 have d3:=hx3.cell b3
 have d4:=hx3.cell b4
 have d5:=hx3.cell b5
 have d6:=hx3.cell b6
 have d7:=hx3.cell b7
 have d8:=hx3.cell b8
 have d9:=hx3.cell b9
 clear b0 b1 b2 b3 b4 b5 b6 b7 b8 b9 hx3 hx z0 f0
 go_wp2_with ((go_at_call 89;((with_reducible refine (HNO.out _ Qg).mono ?_);rintro e w5 ⟨-,hB⟩;obtain ⟨rfl,hX⟩:=hB _ rfl)))
 have HB5:=Lib.hid (HB3.out.ext hX)
 have z5:w5.cell? ⟨q2,0,none⟩=some (.int .i64 0):=(HB5.out.cell 0).trans rfl
 have f5:=HB5.out.frz 0
 have HX8:=Lib.hid ((HE0.out.trans (hE3.trans hX)).setCell (p:=⟨q2,0,none⟩) HWB.out (.int .i64 kk))
 have r8:(w5.setCell ⟨q2,0,none⟩ (.int .i64 kk)).cell? ⟨q2,0,none⟩=some (.int .i64 kk):=World.cell?_setCell_same' _ _ _ (by rw [z5];rfl)
 refine leaves_cons (f:=87) (args:=#[.pointer (some ⟨q2,0,none⟩)]) (by simp) (by simp [go_sem]) ?_
 refine (zqm ⟨q2,0,none⟩ 0 kk [] _ z5 f5).mono ?_
 rintro e u' w'' ⟨rfl,rfl,rfl⟩
 generalize w5.setCell ⟨q2,0,none⟩ (.int .i64 kk)=w8 at *
 simp [Leaves,settle,results,Tryz.results47,go_sem,r8]
 exact HX8.out
theorem zqo (wb w:World) (D:Nat) (c:ChG) (ok:Nat→Prop) (A:Option Addr) (k:Nat) (hE:Ext wb w) (hz:zq w) (hval:zk w ok A c.v.l) (hc:zcn c ≠ 0) :
  Calls Tryz.prog 47 #[.pointer (some ⟨D,0,none⟩), .agg #[.int .i64 c.op, .int .i64 c.id, .int .i64 c.frm, .int .i64 c.to_, .string c.name, .int .i64 c.v.kind, .int .i64 c.v.n, .int .i64 c.v.d, .string c.v.s, .slice A c.v.l.length k]] w fun e w'=>e= .returned (.int .i64 (zcn c))∧Ext wb w':=by
 obtain ⟨q,w1,hq,hw1,hc10,hx1⟩:=zy w c A k 30
 obtain ⟨q2,w2,hq2,hw2,z0,f0,HBK,hx2⟩:=zii w1 34
 have hx:=hx1.trans hx2
 obtain ⟨b0,b1,b2,b3,b4,b5,b6,b7,b8,b9⟩:=hc10.ext hx2
 have HCK:=Lib.hid (zcd c ok A k w2 (hz.ext hx) (hval.ext hx))
 have HWQ:Hid (w2=(w.alloc (.cells #[.int .i64 c.op, .int .i64 c.id, .int .i64 c.frm, .int .i64 c.to_, .string c.name, .int .i64 c.v.kind, .int .i64 c.v.n, .int .i64 c.v.d, .string c.v.s, .slice A c.v.l.length k] 30)).alloc (.cells #[.int .i64 0] 34)):=Lib.hid (by rw [hw2,hw1])
 have HQ:=Lib.hid hq
 have HQ2:Hid (q2=w.heap.size+1):=Lib.hid (by rw [hq2,hw1];simp)
 have hqs:w.heap.size≤q:=by omega
 have hq2s:w.heap.size≤q2:=by rw [HQ2.out];omega
 generalize zcn c=kk at *
 have g1:(kk != 0)=true:=bne_iff_ne.2 hc
 have HE0:=Lib.hid hE
 have HWB:Hid (wb.heap.size≤q2):=Lib.hid (Nat.le_trans hE.le hq2s)
 clear hE hz hval hc hw1 hw2 hq hq2 hc10 hx1 hx2
 have hmf:∀ (fn:Fn) (first cap:Array Value) (w:World),(Instr.makeFunc fn first cap).run Tryz.prog w= .ok (.func fn first cap) w:=fun _ _ _ _=>rfl
 go_enter_defers Tryz.func47,Tryz.ntmps47
 go_upto_region 1 with (fail)
 rw [←HWQ.out,←HQ2.out,←HQ.out]
 go_upto_region 2 with ((go_at_call 13;((with_reducible refine (HCK.out).mono ?_);rintro e w3 ⟨rfl,hx3⟩)))
 have hE3:Ext w w3:=hx.trans hx3
 have HB3:=Lib.hid (HBK.out.ext hx3)
 have d0:=hx3.cell b0
 have d1:=hx3.cell b1
 have d2:=hx3.cell b2
 have d3:=hx3.cell b3
 have d4:=hx3.cell b4
 have d5:=hx3.cell b5
 have d6:=hx3.cell b6
 have d7:=hx3.cell b7
 have d8:=hx3.cell b8
 have d9:=hx3.cell b9
 clear b0 b1 b2 b3 b4 b5 b6 b7 b8 b9 hx3 hx z0 f0
 have z3:w3.cell? ⟨q2,0,none⟩=some (.int .i64 0):=(HB3.out.cell 0).trans rfl
 have f3:=HB3.out.frz 0
 have HX8:=Lib.hid ((HE0.out.trans hE3).setCell (p:=⟨q2,0,none⟩) HWB.out (.int .i64 kk))
 have r8:(w3.setCell ⟨q2,0,none⟩ (.int .i64 kk)).cell? ⟨q2,0,none⟩=some (.int .i64 kk):=World.cell?_setCell_same' _ _ _ (by rw [z3];rfl)
 go_wp2_with fail
 generalize w3.setCell ⟨q2,0,none⟩ (.int .i64 kk)=w8 at *
 simp [bodyPostD,Leaves,results,Tryz.results47,go_sem,r8]
 exact HX8.out
theorem zs4 (wb w:World) (D:Nat) (g:za) (c:ChG) (ok:Nat→Prop) (A:Option Addr) (k:Nat) (h:zt w wb.heap.size D g) (hE:Ext wb w) (hv:VG g) (hz:zq w) (hval:zk w ok A c.v.l) :
  Calls Tryz.prog 47 #[.pointer (some ⟨D,0,none⟩), .agg #[.int .i64 c.op, .int .i64 c.id, .int .i64 c.frm, .int .i64 c.to_, .string c.name, .int .i64 c.v.kind, .int .i64 c.v.n, .int .i64 c.v.d, .string c.v.s, .slice A c.v.l.length k]] w fun e w'=>(∀ g',zcg g c= .ok g'→e= .returned (.int .i64 0)∧zt w' wb.heap.size D g'∧Ext wb w'∧zmi w w')∧(∀ kk,zcg g c= .error kk→e= .returned (.int .i64 kk)∧Ext wb w'):=by
 by_cases hc:zcn c=0
 ·have e0:zcg g c=zbe g c:=zkk hc
  rw [e0]
  cases hs:zbe g c with
  | ok g' =>
   by_cases h5:c.op≤5
   ·exact (zpk wb w D g c ok A k h hE hv hz hval hc h5 hs).mono (fun e w' hh=>zhl hh)
   ·exact (zpm wb w D g c ok A k h hE hv hz hval hc h5 hs).mono (fun e w' hh=>zhl hh)
  | error kk =>
   by_cases h5:c.op≤5
   ·exact (zn3 wb w D g c ok A k h hE hv hz hval hc h5 hs).mono (fun e w' hh=>zda hh)
   ·exact (zoe wb w D g c ok A k h hE hv hz hval hc h5 hs).mono (fun e w' hh=>zda hh)
 ·have e0:zcg g c= .error (zcn c):=by unfold zcg;rw [if_neg hc]
  rw [e0]
  exact (zqo wb w D c ok A k hE hz hval hc).mono (fun e w' hh=>zda hh)
end Go.Proofs.YtfhekbacigoblaaGreatDoor
