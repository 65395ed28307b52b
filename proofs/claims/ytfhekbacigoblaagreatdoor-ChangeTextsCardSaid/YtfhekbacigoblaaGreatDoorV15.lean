import Derived.Test.YtfhekbacigoblaaGreatDoorV14
namespace Go.Proofs.YtfhekbacigoblaaGreatDoor
set_option maxRecDepth 100000
set_option maxHeartbeats 3200000
open Go.RowKit
theorem zpi (wb w0 w:World) (D:Nat) (g:za) (op x f t:Int) (nm:ByteArray) (v:Val) (A:Option Addr) (k:Nat) (h:zt w0 wb.heap.size D g) (hw0:Ext w0 w) (hE:Ext wb w) (hv:VG g) (hhas:zav g.nodes x=false) (h1:op ≠ 1) :
  Calls Tryz.prog 88 #[.pointer (some ⟨D,0,none⟩), .agg #[.int .i64 op, .int .i64 x, .int .i64 f, .int .i64 t, .string nm, .int .i64 v.kind, .int .i64 v.n, .int .i64 v.d, .string v.s, .slice A v.l.length k]] w fun e w'=>e= .panicked [{ v:= .iface 105 (.int .i64 10),recovered:=false }]∧Ext w w':=by
 obtain ⟨τ,V,E,lv,pv,ev,hp,he,h0⟩:=h
 have h:=h0.ext hw0
 have hDs:D < w.heap.size:=(h.self.lt rfl).2
 obtain ⟨q,w1,hq,hw1,hc,hx1⟩:=zy w ⟨op,x,f,t,nm,v⟩ A k 30
 obtain ⟨a0,a1,a2,a3,a4,a5,a6,a7,a8,a9⟩:=hc
 dsimp only at a0 a1 a2 a3 a4 a5 a6 a7 a8 a9 hw1
 have HND:=Lib.hid (zap (h.ext hx1) hv.ns hv.nl x)
 rw [hhas] at HND
 have hqs:w.heap.size≤q:=by omega
 have HX0:=Lib.hid hE
 generalize ((zg cI zb.id g.nodes x:Nat):Int)=L at *
 have q1:(op == 1)=false:=beq_eq_false_iff_ne.2 h1
 have HW1:=Lib.hid hw1
 have HQ:=Lib.hid hq
 clear hw1 hq
 clear h h0 hw0 hE hv hhas hqs hDs
 go_enter Tryz.func88,Tryz.ntmps88
 go_upto_region 1 with (fail)
 rw [←HW1.out,←HQ.out]
 go_upto_region 2 with ((go_at_call 90;((with_reducible refine (HND.out).mono ?_);rintro e w2 ⟨rfl,hx2⟩)))
 have hE2:Ext w w2:=hx1.trans hx2
 have hW2:Ext wb w2:=HX0.out.trans hE2
 have b0:=hx2.cell a0
 have b1:=hx2.cell a1
 go_wp2_with ((go_at_call 124;((with_reducible refine (zba _ _).mono ?_);rintro e w6 ⟨rfl,hw6⟩;obtain rfl:=hw6.symm)))
 exact ⟨rfl,rfl,Qg⟩
theorem zl0 (wb w0 w:World) (D:Nat) (g:za) (x f t:Int) (nm:ByteArray) (v:Val) (A:Option Addr) (k:Nat) (h:zt w0 wb.heap.size D g) (hw0:Ext w0 w) (hE:Ext wb w) (hv:VG g) (hhas:zav g.nodes x=true) (hu:g.edges.any (fun e=>decide (e.frm=x∨e.to_=x))=true) :
  Calls Tryz.prog 88 #[.pointer (some ⟨D,0,none⟩), .agg #[.int .i64 2, .int .i64 x, .int .i64 f, .int .i64 t, .string nm, .int .i64 v.kind, .int .i64 v.n, .int .i64 v.d, .string v.s, .slice A v.l.length k]] w fun e w'=>e= .panicked [{ v:= .iface 105 (.int .i64 12),recovered:=false }]∧Ext w w':=by
 obtain ⟨τ,V,E,lv,pv,ev,hp,he,h0⟩:=h
 have h:=h0.ext hw0
 have hDs:D < w.heap.size:=(h.self.lt rfl).2
 obtain ⟨q,w1,hq,hw1,hc,hx1⟩:=zy w ⟨2,x,f,t,nm,v⟩ A k 30
 obtain ⟨a0,a1,a2,a3,a4,a5,a6,a7,a8,a9⟩:=hc
 dsimp only at a0 a1 a2 a3 a4 a5 a6 a7 a8 a9 hw1
 have HND:=Lib.hid (zap (h.ext hx1) hv.ns hv.nl x)
 rw [hhas] at HND
 have hqs:w.heap.size≤q:=by omega
 have HX0:=Lib.hid hE
 have hex:∃ n ∈ g.nodes,n.id=x:=zb2.1 hhas
 obtain ⟨hlt,hkey⟩:=(zu zct hv.ns x).1 hex
 obtain ⟨gN,cN,hVe,hgb,hgl,-⟩:=h.nodes.addr Qk
 subst hVe
 obtain ⟨AE,cE,hEe⟩:=h.edges.form
 subst hEe
 have hel:=hv.el
 have c1:=hx1.cell h.cells.2.1
 have HEA:=Lib.hid (fun (hp:0 < g.edges.length)=>(by
  obtain ⟨gE,cap,e,-⟩:=h.edges.addr hp
  injection e with e1 e2 e3
  exact ⟨gE,e1⟩:∃ gE,AE=some ⟨gE,0,none⟩))
 have HED:=Lib.hid (fun W (e:Ext w W)=>zag h.edges.own e)
 have HFE:=Lib.hid h.formE
 have HUS:=Lib.hid (List.any_eq_true.1 hu)
 obtain ⟨L,hL⟩:∃ L,L=zg cI zb.id g.nodes x:=⟨_,rfl⟩
 rw [←hL] at HND hlt hkey
 rw [getElem!_pos g.nodes L hlt] at hkey
 have c0:=hx1.cell h.cells.1
 have q1:(0:Int)≤(L:Int):=by omega
 have q2:(L:Int) < (g.nodes.length:Int):=by omega
 have HW1:=Lib.hid hw1
 have HQ:=Lib.hid hq
 clear hw1 hq
 clear h h0 hw0 hE hv hhas hqs hDs hu hex hL hkey hgb hgl hlt
 go_enter Tryz.func88,Tryz.ntmps88
 go_upto_region 1 with (fail)
 rw [←HW1.out,←HQ.out]
 go_upto_region 2 with ((go_at_call 90;((with_reducible refine (HND.out).mono ?_);rintro e w2 ⟨rfl,hx2⟩)))
 have hE2:Ext w w2:=hx1.trans hx2
 have hW2:Ext wb w2:=HX0.out.trans hE2
 have b0:=hx2.cell a0
 have b1:=hx2.cell a1
 have d0:=hx2.cell c0
 have d1:=hx2.cell c1
 clear a0 a1 a2 a3 a4 a5 a6 a7 a8 a9 c0 c1 hx1 hx2
 go_upto_region 8 with ((go_at_call 124;((with_reducible refine (zv _ _).mono ?_);rintro e w6 ⟨rfl,hw6⟩;obtain rfl:=hw6.symm)))
 go_upto_region 13 with (fail)
 go_loopw [93] (fun u W => ∃ k:Nat,u= .int .i64 k∧k≤g.edges.length∧Hid (∀ i,i < k→g.edges[i]!.frm ≠ x∧g.edges[i]!.to_ ≠ x)∧Ext w2 W) (fun u _=>g.edges.length - (intOf u).toNat)
 case atStart=>exact ⟨0,rfl,Nat.zero_le _,Lib.hid (fun i hi=>absurd hi Qk),Qg⟩
 case round =>
  obtain ⟨k,rfl,hk,hno,hE3⟩:=hrel
  have hE4:Ext w wr:=hE2.trans hE3
  have hW4:Ext wb wr:=hW2.trans hE3
  have r0:=hE3.cell b0
  have r1:=hE3.cell b1
  have r3:=hE3.cell d0
  have r4:=hE3.cell d1
  by_cases hlt:k < g.edges.length
  ·obtain ⟨gE,rfl⟩:=HEA.out Qk
   obtain ⟨A',c',f1⟩:=HFE.out _ (ze9 hlt)
   have HR:=Lib.hid (zop (HED.out wr hE4) k hlt)
   have y0:wr.cell? ⟨gE,k*5,none⟩=some (.int .i64 g.edges[k]!.id):=HR.out 0 Qj _ rfl
   have y1:wr.cell? ⟨gE,k*5+1,none⟩=some (.int .i64 g.edges[k]!.frm):=HR.out 1 Qj _ rfl
   have y2:wr.cell? ⟨gE,k*5+2,none⟩=some (.int .i64 g.edges[k]!.to_):=HR.out 2 Qj _ rfl
   have y3:wr.cell? ⟨gE,k*5+3,none⟩=some (.string g.edges[k]!.typ):=HR.out 3 Qj _ rfl
   have y4:wr.cell? ⟨gE,k*5+4,none⟩=some (.slice A' g.edges[k]!.props.length c'):=HR.out 4 Qj _ (by rw [←f1];rfl)
   have HNO:=Lib.hid (fun (h1:g.edges[k]!.frm ≠ x∧g.edges[k]!.to_ ≠ x) i (hi:i < k+1)=>(if e:i=k then (by rw [e];exact h1) else hno.out i Qk:g.edges[i]!.frm ≠ x∧g.edges[i]!.to_ ≠ x))
   clear HR f1
   generalize g.edges[k]! = y at *
   obtain ⟨y',w9,hy',hw9,z0,z1,z2,z3,z4,hx9⟩:=zis wr y A' c' 59
   have p1:(0:Int)≤(k:Int):=by omega
   have p2:(k:Int) < (g.edges.length:Int):=by omega
   have r8:=hx9.cell r0
   have r9:=hx9.cell r1
   have hE9:Ext w2 w9:=hE3.trans hx9
   have hZ9:Ext w w9:=hE4.trans hx9
   by_cases hf:y.frm=x
   ·have g1:(y.frm != x)=false:=by rw [hf,bne_self_eq_false]
    clear hf
    go_upto_region 15 with (fail)
    rw [←hw9,←hy']
    clear hw9 hy' y0 y1 y2 y3 y4
    go_wp2_with ((go_at_call 124;((with_reducible refine (zba _ _).mono ?_);rintro e w10 ⟨rfl,hw10⟩;obtain rfl:=hw10.symm)))
    exact ⟨rfl,rfl,Qg⟩
   ·have g1:(y.frm != x)=true:=bne_iff_ne.2 hf
    by_cases ht:y.to_=x
    ·have g2:(y.to_ != x)=false:=by rw [ht,bne_self_eq_false]
     clear ht
     go_upto_region 15 with (fail)
     rw [←hw9,←hy']
     clear hw9 hy' y0 y1 y2 y3 y4
     go_wp2_with ((go_at_call 124;((with_reducible refine (zba _ _).mono ?_);rintro e w10 ⟨rfl,hw10⟩;obtain rfl:=hw10.symm)))
     exact ⟨rfl,rfl,Qg⟩
    ·have g2:(y.to_ != x)=true:=bne_iff_ne.2 ht
     have HN2:=Lib.hid (HNO.out ⟨hf,ht⟩)
     go_upto_region 15 with (fail)
     rw [←hw9,←hy']
     clear hw9 hy' y0 y1 y2 y3 y4
     go_wp2_with ((go_at_call 124;((with_reducible refine (zv _ _).mono ?_);rintro e w10 ⟨rfl,hw10⟩;obtain rfl:=hw10.symm)))
     go_roundw
     case rel=>exact ⟨k+1,by go_num,by omega,HN2,Qg⟩
     case measure=>simp [intOf];omega
  ·exfalso
   obtain ⟨e,he1,he2⟩:=HUS.out
   obtain ⟨i,hi,rfl⟩:=List.getElem_of_mem he1
   have h3:=hno.out i Qk
   rw [getElem!_pos g.edges i hi] at h3
   rcases of_decide_eq_true he2 with e|e
   ·exact h3.1 e
   ·exact h3.2 e
theorem zoc (wb w0 w:World) (D:Nat) (g:za) (x f t:Int) (nm:ByteArray) (v:Val) (A:Option Addr) (k:Nat) (h:zt w0 wb.heap.size D g) (hw0:Ext w0 w) (hE:Ext wb w) (hv:VG g) (hhas:zav g.nodes x=true) (hu:g.edges.any (fun e=>decide (e.frm=x∨e.to_=x))=false) :
  Calls Tryz.prog 88 #[.pointer (some ⟨D,0,none⟩), .agg #[.int .i64 2, .int .i64 x, .int .i64 f, .int .i64 t, .string nm, .int .i64 v.kind, .int .i64 v.n, .int .i64 v.d, .string v.s, .slice A v.l.length k]] w fun e w'=>e= .returned (.tuple #[])∧zt w' wb.heap.size D ⟨zcv cI zb.id g.nodes x,g.edges,g.nn,g.ne⟩∧Ext wb w'∧zb3 w0 w w':=by
 obtain ⟨τ,V,E,lv,pv,ev,hp,he,h0⟩:=h
 have h:=h0.ext hw0
 have hDs:D < w.heap.size:=(h.self.lt rfl).2
 obtain ⟨q,w1,hq,hw1,hc,hx1⟩:=zy w ⟨2,x,f,t,nm,v⟩ A k 30
 obtain ⟨a0,a1,a2,a3,a4,a5,a6,a7,a8,a9⟩:=hc
 dsimp only at a0 a1 a2 a3 a4 a5 a6 a7 a8 a9 hw1
 have HND:=Lib.hid (zap (h.ext hx1) hv.ns hv.nl x)
 rw [hhas] at HND
 have hqs:w.heap.size≤q:=by omega
 have HX0:=Lib.hid hE
 have hex:∃ n ∈ g.nodes,n.id=x:=zb2.1 hhas
 obtain ⟨hlt,hkey⟩:=(zu zct hv.ns x).1 hex
 obtain ⟨gN,cN,hVe,hgb,hgl,-⟩:=h.nodes.addr Qk
 subst hVe
 obtain ⟨AE,cE,hEe⟩:=h.edges.form
 subst hEe
 have hel:=hv.el
 have c1:=hx1.cell h.cells.2.1
 have HEA:=Lib.hid (fun (hp:0 < g.edges.length)=>(by
  obtain ⟨gE,cap,e,-⟩:=h.edges.addr hp
  injection e with e1 e2 e3
  exact ⟨gE,e1⟩:∃ gE,AE=some ⟨gE,0,none⟩))
 have HED:=Lib.hid (fun W (e:Ext w W)=>zag h.edges.own e)
 have HFE:=Lib.hid h.formE
 have HUS:=Lib.hid (fun (i:Nat) (hi:i < g.edges.length)=>(by
  have h1:=List.any_eq_false.1 hu _ (ze9 hi)
  exact ⟨fun e=>h1 (decide_eq_true (.inl e)),fun e=>h1 (decide_eq_true (.inr e))⟩:g.edges[i]!.frm ≠ x∧g.edges[i]!.to_ ≠ x))
 have HDL:=Lib.hid (fun W (e:Ext w W) w7 v7=>(h.ext e).delNode (w':=w7) (v':=v7) x hex hv.ns)
 obtain ⟨L,hL⟩:∃ L,L=zg cI zb.id g.nodes x:=⟨_,rfl⟩
 rw [←hL] at HND hlt hkey HDL
 rw [getElem!_pos g.nodes L hlt] at hkey
 have HRB:=Lib.hid (fun b (hb:(Value.slice (some ⟨gN,0,none⟩) g.nodes.length cN).ownBlock=some b)=>h0.nodes.edb zdc hw0 hb)
 have HDB:Hid (EdB w0 w D):=Lib.hid (h0.self.edb zgl hw0 rfl)
 have HDEL:=Lib.hid (fun W (e:Ext w W)=>zrs wb.heap.size W (g.nodes.flatMap (zbj lv pv)) g.nodes.length (.slice (some ⟨gN,0,none⟩) g.nodes.length cN) L (zag h.nodes.own e) h.oneN hlt (by have:=hv.nl;omega))
 have HSELF:=Lib.hid (fun W (e:Ext w W) w7 hg=>(h.ext e).selfK (w':=w7) hg (h.ext e).tagN)
 have hwr:IntKind.i64.wrap ((L:Int)+1)=(L:Int)+1:=IntWalk.i64_in _ (by have:=hv.nl;omega)
 have c0:=hx1.cell h.cells.1
 have q1:(0:Int)≤(L:Int):=by omega
 have q2:(L:Int) < (g.nodes.length:Int):=by omega
 have HW1:=Lib.hid hw1
 have HQ:=Lib.hid hq
 clear hw1 hq
 clear h h0 hw0 hE hv hhas hqs hDs hu hex hL hkey hgb hgl hlt
 go_enter Tryz.func88,Tryz.ntmps88
 go_upto_region 1 with (fail)
 rw [←HW1.out,←HQ.out]
 go_upto_region 2 with ((go_at_call 90;((with_reducible refine (HND.out).mono ?_);rintro e w2 ⟨rfl,hx2⟩)))
 have hE2:Ext w w2:=hx1.trans hx2
 have hW2:Ext wb w2:=HX0.out.trans hE2
 have b0:=hx2.cell a0
 have b1:=hx2.cell a1
 have d0:=hx2.cell c0
 have d1:=hx2.cell c1
 clear a0 a1 a2 a3 a4 a5 a6 a7 a8 a9 c0 c1 hx1 hx2
 go_upto_region 8 with ((go_at_call 124;((with_reducible refine (zv _ _).mono ?_);rintro e w6 ⟨rfl,hw6⟩;obtain rfl:=hw6.symm)))
 go_upto_region 13 with (fail)
 go_loopw [93] (fun u W => ∃ k:Nat,u= .int .i64 k∧k≤g.edges.length∧Hid (∀ i,i < k→g.edges[i]!.frm ≠ x∧g.edges[i]!.to_ ≠ x)∧Ext w2 W) (fun u _=>g.edges.length - (intOf u).toNat)
 case atStart=>exact ⟨0,rfl,Nat.zero_le _,Lib.hid (fun i hi=>absurd hi Qk),Qg⟩
 case round =>
  obtain ⟨k,rfl,hk,hno,hE3⟩:=hrel
  have hE4:Ext w wr:=hE2.trans hE3
  have hW4:Ext wb wr:=hW2.trans hE3
  have r0:=hE3.cell b0
  have r1:=hE3.cell b1
  have r3:=hE3.cell d0
  have r4:=hE3.cell d1
  by_cases hlt:k < g.edges.length
  ·obtain ⟨gE,rfl⟩:=HEA.out Qk
   obtain ⟨A',c',f1⟩:=HFE.out _ (ze9 hlt)
   have HR:=Lib.hid (zop (HED.out wr hE4) k hlt)
   have y0:wr.cell? ⟨gE,k*5,none⟩=some (.int .i64 g.edges[k]!.id):=HR.out 0 Qj _ rfl
   have y1:wr.cell? ⟨gE,k*5+1,none⟩=some (.int .i64 g.edges[k]!.frm):=HR.out 1 Qj _ rfl
   have y2:wr.cell? ⟨gE,k*5+2,none⟩=some (.int .i64 g.edges[k]!.to_):=HR.out 2 Qj _ rfl
   have y3:wr.cell? ⟨gE,k*5+3,none⟩=some (.string g.edges[k]!.typ):=HR.out 3 Qj _ rfl
   have y4:wr.cell? ⟨gE,k*5+4,none⟩=some (.slice A' g.edges[k]!.props.length c'):=HR.out 4 Qj _ (by rw [←f1];rfl)
   have HNO:=Lib.hid (fun (h1:g.edges[k]!.frm ≠ x∧g.edges[k]!.to_ ≠ x) i (hi:i < k+1)=>(if e:i=k then (by rw [e];exact h1) else hno.out i Qk:g.edges[i]!.frm ≠ x∧g.edges[i]!.to_ ≠ x))
   have HU1:=Lib.hid (HUS.out k hlt)
   clear HR f1
   generalize g.edges[k]! = y at *
   obtain ⟨y',w9,hy',hw9,z0,z1,z2,z3,z4,hx9⟩:=zis wr y A' c' 59
   have p1:(0:Int)≤(k:Int):=by omega
   have p2:(k:Int) < (g.edges.length:Int):=by omega
   have r8:=hx9.cell r0
   have r9:=hx9.cell r1
   have hE9:Ext w2 w9:=hE3.trans hx9
   have hZ9:Ext w w9:=hE4.trans hx9
   by_cases hf:y.frm=x
   ·exact absurd hf HU1.out.1
   ·have g1:(y.frm != x)=true:=bne_iff_ne.2 hf
    have g2:(y.to_ != x)=true:=bne_iff_ne.2 HU1.out.2
    have HN2:=Lib.hid (HNO.out ⟨hf,HU1.out.2⟩)
    go_upto_region 15 with (fail)
    rw [←hw9,←hy']
    clear hw9 hy' y0 y1 y2 y3 y4
    go_wp2_with ((go_at_call 124;((with_reducible refine (zv _ _).mono ?_);rintro e w10 ⟨rfl,hw10⟩;obtain rfl:=hw10.symm)))
    go_roundw
    case rel=>exact ⟨k+1,by go_num,by omega,HN2,Qg⟩
    case measure=>simp [intOf];omega
  ·have p2:¬ (k:Int) < (g.edges.length:Int):=by omega
   go_wp2_with ((go_at_call 126;((with_reducible refine (HDEL.out _ Qg).mono ?_);rintro e w7 ⟨v7,rfl,hR⟩;obtain ⟨A7,c7,rfl⟩:=zao hR.own;obtain ⟨s0,-,-,-,sf⟩:=HSELF.out _ Qg w7 hR.grown;have sf0:=sf 0;clear sf)))
   obtain ⟨hO,hX⟩:=HDL.out _ Qg w7 _ hR
   go_end0
   exact ⟨rfl,hO,hX wb rfl hW4,zb3.row Qg hR.grown HRB.out HDB.out _ _⟩
theorem zml (wb w0 w:World) (D:Nat) (g:za) (x f t:Int) (nm:ByteArray) (v:Val) (A:Option Addr) (k:Nat) (h:zt w0 wb.heap.size D g) (hw0:Ext w0 w) (hE:Ext wb w) (hv:VG g) (hhas:zav g.nodes x=true) (hs:∃ s ∈ (zw g x).labels,s=nm) :
  Calls Tryz.prog 88 #[.pointer (some ⟨D,0,none⟩), .agg #[.int .i64 3, .int .i64 x, .int .i64 f, .int .i64 t, .string nm, .int .i64 v.kind, .int .i64 v.n, .int .i64 v.d, .string v.s, .slice A v.l.length k]] w fun e w'=>e= .panicked [{ v:= .iface 105 (.int .i64 7),recovered:=false }]∧Ext w w':=by
 obtain ⟨τ,V,E,lv,pv,ev,hp,he,h0⟩:=h
 have h:=h0.ext hw0
 have hDs:D < w.heap.size:=(h.self.lt rfl).2
 obtain ⟨q,w1,hq,hw1,hc,hx1⟩:=zy w ⟨3,x,f,t,nm,v⟩ A k 30
 obtain ⟨a0,a1,a2,a3,a4,a5,a6,a7,a8,a9⟩:=hc
 dsimp only at a0 a1 a2 a3 a4 a5 a6 a7 a8 a9 hw1
 have HND:=Lib.hid (zap (h.ext hx1) hv.ns hv.nl x)
 rw [hhas] at HND
 have hqs:w.heap.size≤q:=by omega
 have HX0:=Lib.hid hE
 have hex:∃ n ∈ g.nodes,n.id=x:=zb2.1 hhas
 obtain ⟨hlt,hkey⟩:=(zu zct hv.ns x).1 hex
 obtain ⟨gN,cN,hVe,hgb,hgl,-⟩:=h.nodes.addr Qk
 subst hVe
 obtain ⟨L,hL⟩:∃ L,L=zg cI zb.id g.nodes x:=⟨_,rfl⟩
 rw [←hL] at HND hlt hkey
 rw [getElem!_pos g.nodes L hlt] at hkey
 have hnd:zw g x=g.nodes[L]:=by unfold zw;rw [←hL,getElem!_pos g.nodes L hlt]
 (try rw [hnd] at hs)
 (try rw [hnd] at h8)
 (try rw [hnd])
 have hmem:g.nodes[L] ∈ g.nodes:=List.getElem_mem hlt
 have hpv:=(hv.nv _ hmem).2
 have hLab:=h.labs _ hmem
 obtain ⟨AL,cL,hLe⟩:=hLab.form
 have hsk:∀ N:zb,N.id=g.nodes[L].id→g.nodes.set L N=zcc cI zb.id g.nodes N:=fun N hN=>by unfold zcc;rw [hN,hkey,←hL]
 have HTO:=Lib.hid (fun W (e:Ext w W) w7 v7 L' (R:zaa wb.heap.size 9 1 W (.slice AL g.nodes[L].labels.length cL) w7 v7 L'.length (zdn L'))=>(h.ext e).toLabs (w':=w7) (v':=v7) hlt (L:=L') (by rw [hLe];exact R) (zds hv.ns hlt))
 have HNK:=Lib.hid (fun W (e:Ext w W) w7 (hg:W.grownBy w7 (Value.slice AL g.nodes[L].labels.length cL).ownBlock)=>(h.ext e).nodeK (w':=w7) hg (fun b hb=>by rw [←hLe] at hb;rw [hLab.tag b hb];exact Tg.noConfusion) hlt)
 have n0:=(h.nodeK (Ext.refl_gr w) (fun _=>zbu) hlt).2.1
 rw [hLe] at n0 hLab
 have n1:=hx1.cell n0
 have HBS:=Lib.hid (fun W (e:Ext w W)=>zqx g.nodes[L].labels wb.heap.size (.slice AL g.nodes[L].labels.length cL) nm W (zag hLab.own e) hpv.ls (by have:=hpv.ll;omega))
 have HNB:=Lib.hid (zd0 hLab.own hqs)
 have hb0:wb.heap.size≤w.heap.size:=hE.le
 have hll:=hpv.ll
 have HRB:=Lib.hid (fun b (hb:(Value.slice AL g.nodes[L].labels.length cL).ownBlock=some b)=>(h0.labs _ hmem).edb zg6 hw0 (by rw [hLe];exact hb))
 have HGB:Hid (EdB w0 w gN):=Lib.hid (h0.nodes.edb zdc hw0 rfl)
 have hgq:gN ≠ q:=by omega
 have HGQ:=Lib.hid hgq
 have q1:(0:Int)≤(L:Int):=by omega
 have q2:(L:Int) < (g.nodes.length:Int):=by omega
 have c0:=hx1.cell h.cells.1
 rw [@decide_eq_true _ _ hs] at HBS
 have HTO2:=Lib.hid HTO
 clear HTO
 generalize hLB:g.nodes[L].labels=LB at *
 generalize hLW:zg zn (fun s:ByteArray=>s) LB nm=J at *
 have HW1:=Lib.hid hw1
 have HQ:=Lib.hid hq
 clear hw1 hq
 clear h h0 hw0 hE hv hhas hqs hDs hex hL hkey hgb hgl hmem hpv hLab hLe hnd n0 hb0 hgq hs hsk hll hLB hLW
 go_enter Tryz.func88,Tryz.ntmps88
 go_upto_region 1 with (fail)
 rw [←HW1.out,←HQ.out]
 go_upto_region 2 with ((go_at_call 90;((with_reducible refine (HND.out).mono ?_);rintro e w2 ⟨rfl,hx2⟩)))
 have hE2:Ext w w2:=hx1.trans hx2
 have hW2:Ext wb w2:=HX0.out.trans hE2
 have b0:=hx2.cell a0
 have b1:=hx2.cell a1
 have b4:=hx2.cell a4
 have n2:=hx2.cell n1
 have d0:=hx2.cell c0
 clear a0 a1 a2 a3 a4 a5 a6 a7 a8 a9 c0 n1 hx1 hx2
 go_upto_region 8 with ((go_at_call 124;((with_reducible refine (zv _ _).mono ?_);rintro e w6 ⟨rfl,hw6⟩;obtain rfl:=hw6.symm)))
 go_upto_region 19 with (fail)
 have MKS:=Lib.hid (fun V (e:Ext w2 V)=>(⟨e.cell n2,e.cell b4⟩:V.cell? ⟨gN,L*3+1,none⟩=some (.slice AL LB.length cL)∧V.cell? ⟨q,4,none⟩=some (.string nm)))
 refine zac.start (S:=(fun V=>V.cell? ⟨gN,L*3+1,none⟩=some (.slice AL LB.length cL)∧V.cell? ⟨q,4,none⟩=some (.string nm))) (E:=6) (by kernel_rfl) ?hs9001 (fun hHeld=>?go9001)
 case hs9001=>(exact MKS.out _ Qg)
 refine KP 0 (fun _=>hHeld) ?_;simp only [PU]
 refine KP 1 (fun _=>hHeld) ?_;simp only [PU]
 refine KP 2 (fun _=>hHeld) ?_;simp only [PU]
 refine KE 3 hHeld ?_;simp only [PU]
 refine KP 4 (fun _=>hHeld) ?_;simp only [PU]
 refine KE 5 hHeld ?_;simp only [PU]
 refine zac.ready (rs:=[6]) (by kernel_rfl) (by simp) ?_
 refine zal.cons (o:=⟨_,_,_,_,_,_⟩) rfl (fun K hK=>?step9008x0) ?more9008x0
 case more9008x0=>exact zal.nil
 go_simp
 (go_at_call 127;((with_reducible refine (HBS.out _ Qg).mono ?_);rintro e w3 ⟨rfl,hx3⟩;have hE3:Ext w2 w3:=Ext.trans Qg hx3))
 refine hK.out _ _ ?hS9008x0 (fun H9008=>?_)
 case hS9008x0=>first|(intro h;exact absurd h Qj)|(intro h;simp at h)
 clear hK K
 clear hHeld
 (try simp only [PU])
 refine KV 7 ?_;simp only [PU]
 refine KV 8 ?_;simp only [PU]
 refine KV 9 ?_;simp only [PU]
 refine KV 10 ?_;simp only [PU]
 refine KV 11 ?_;simp only [PU]
 refine zac.done (by kernel_rfl) ?_ _
 clear H9008
 have hW3:Ext wb w3:=hW2.trans hE3
 have hZ3:Ext w w3:=hE2.trans hE3
 have m1:=hE3.cell n2
 have m4:=hE3.cell b4
 clear hx3 MKS
 go_wp2_with ((go_at_call 124;((with_reducible refine (zba _ _).mono ?_);rintro e w6 ⟨rfl,hw6⟩;obtain rfl:=hw6.symm)))
 exact ⟨rfl,rfl,Qg⟩
theorem zk9 (wb w0 w:World) (D:Nat) (g:za) (x f t:Int) (nm:ByteArray) (v:Val) (A:Option Addr) (k:Nat) (h:zt w0 wb.heap.size D g) (hw0:Ext w0 w) (hE:Ext wb w) (hv:VG g) (hhas:zav g.nodes x=true) (hs:¬ ∃ s ∈ (zw g x).labels,s=nm) (h8:8≤(zw g x).labels.length) :
  Calls Tryz.prog 88 #[.pointer (some ⟨D,0,none⟩), .agg #[.int .i64 3, .int .i64 x, .int .i64 f, .int .i64 t, .string nm, .int .i64 v.kind, .int .i64 v.n, .int .i64 v.d, .string v.s, .slice A v.l.length k]] w fun e w'=>e= .panicked [{ v:= .iface 105 (.int .i64 20),recovered:=false }]∧Ext w w':=by
 obtain ⟨τ,V,E,lv,pv,ev,hp,he,h0⟩:=h
 have h:=h0.ext hw0
 have hDs:D < w.heap.size:=(h.self.lt rfl).2
 obtain ⟨q,w1,hq,hw1,hc,hx1⟩:=zy w ⟨3,x,f,t,nm,v⟩ A k 30
 obtain ⟨a0,a1,a2,a3,a4,a5,a6,a7,a8,a9⟩:=hc
 dsimp only at a0 a1 a2 a3 a4 a5 a6 a7 a8 a9 hw1
 have HND:=Lib.hid (zap (h.ext hx1) hv.ns hv.nl x)
 rw [hhas] at HND
 have hqs:w.heap.size≤q:=by omega
 have HX0:=Lib.hid hE
 have hex:∃ n ∈ g.nodes,n.id=x:=zb2.1 hhas
 obtain ⟨hlt,hkey⟩:=(zu zct hv.ns x).1 hex
 obtain ⟨gN,cN,hVe,hgb,hgl,-⟩:=h.nodes.addr Qk
 subst hVe
 obtain ⟨L,hL⟩:∃ L,L=zg cI zb.id g.nodes x:=⟨_,rfl⟩
 rw [←hL] at HND hlt hkey
 rw [getElem!_pos g.nodes L hlt] at hkey
 have hnd:zw g x=g.nodes[L]:=by unfold zw;rw [←hL,getElem!_pos g.nodes L hlt]
 (try rw [hnd] at hs)
 (try rw [hnd] at h8)
 (try rw [hnd])
 have hmem:g.nodes[L] ∈ g.nodes:=List.getElem_mem hlt
 have hpv:=(hv.nv _ hmem).2
 have hLab:=h.labs _ hmem
 obtain ⟨AL,cL,hLe⟩:=hLab.form
 have hsk:∀ N:zb,N.id=g.nodes[L].id→g.nodes.set L N=zcc cI zb.id g.nodes N:=fun N hN=>by unfold zcc;rw [hN,hkey,←hL]
 have HTO:=Lib.hid (fun W (e:Ext w W) w7 v7 L' (R:zaa wb.heap.size 9 1 W (.slice AL g.nodes[L].labels.length cL) w7 v7 L'.length (zdn L'))=>(h.ext e).toLabs (w':=w7) (v':=v7) hlt (L:=L') (by rw [hLe];exact R) (zds hv.ns hlt))
 have HNK:=Lib.hid (fun W (e:Ext w W) w7 (hg:W.grownBy w7 (Value.slice AL g.nodes[L].labels.length cL).ownBlock)=>(h.ext e).nodeK (w':=w7) hg (fun b hb=>by rw [←hLe] at hb;rw [hLab.tag b hb];exact Tg.noConfusion) hlt)
 have n0:=(h.nodeK (Ext.refl_gr w) (fun _=>zbu) hlt).2.1
 rw [hLe] at n0 hLab
 have n1:=hx1.cell n0
 have HBS:=Lib.hid (fun W (e:Ext w W)=>zqx g.nodes[L].labels wb.heap.size (.slice AL g.nodes[L].labels.length cL) nm W (zag hLab.own e) hpv.ls (by have:=hpv.ll;omega))
 have HNB:=Lib.hid (zd0 hLab.own hqs)
 have hb0:wb.heap.size≤w.heap.size:=hE.le
 have hll:=hpv.ll
 have HRB:=Lib.hid (fun b (hb:(Value.slice AL g.nodes[L].labels.length cL).ownBlock=some b)=>(h0.labs _ hmem).edb zg6 hw0 (by rw [hLe];exact hb))
 have HGB:Hid (EdB w0 w gN):=Lib.hid (h0.nodes.edb zdc hw0 rfl)
 have hgq:gN ≠ q:=by omega
 have HGQ:=Lib.hid hgq
 have q1:(0:Int)≤(L:Int):=by omega
 have q2:(L:Int) < (g.nodes.length:Int):=by omega
 have c0:=hx1.cell h.cells.1
 rw [@decide_eq_false _ _ hs] at HBS
 have g8:decide ((g.nodes[L].labels.length:Int) < 8)=false:=decide_eq_false Qk
 have HTO2:=Lib.hid HTO
 clear HTO
 generalize hLB:g.nodes[L].labels=LB at *
 generalize hLW:zg zn (fun s:ByteArray=>s) LB nm=J at *
 have HW1:=Lib.hid hw1
 have HQ:=Lib.hid hq
 clear hw1 hq
 clear h h0 hw0 hE hv hhas hqs hDs hex hL hkey hgb hgl hmem hpv hLab hLe hnd n0 hb0 hgq hs hsk hll hLB hLW h8
 go_enter Tryz.func88,Tryz.ntmps88
 go_upto_region 1 with (fail)
 rw [←HW1.out,←HQ.out]
 go_upto_region 2 with ((go_at_call 90;((with_reducible refine (HND.out).mono ?_);rintro e w2 ⟨rfl,hx2⟩)))
 have hE2:Ext w w2:=hx1.trans hx2
 have hW2:Ext wb w2:=HX0.out.trans hE2
 have b0:=hx2.cell a0
 have b1:=hx2.cell a1
 have b4:=hx2.cell a4
 have n2:=hx2.cell n1
 have d0:=hx2.cell c0
 clear a0 a1 a2 a3 a4 a5 a6 a7 a8 a9 c0 n1 hx1 hx2
 go_upto_region 8 with ((go_at_call 124;((with_reducible refine (zv _ _).mono ?_);rintro e w6 ⟨rfl,hw6⟩;obtain rfl:=hw6.symm)))
 go_upto_region 19 with (fail)
 have MKS:=Lib.hid (fun V (e:Ext w2 V)=>(⟨e.cell n2,e.cell b4⟩:V.cell? ⟨gN,L*3+1,none⟩=some (.slice AL LB.length cL)∧V.cell? ⟨q,4,none⟩=some (.string nm)))
 refine zac.start (S:=(fun V=>V.cell? ⟨gN,L*3+1,none⟩=some (.slice AL LB.length cL)∧V.cell? ⟨q,4,none⟩=some (.string nm))) (E:=6) (by kernel_rfl) ?hs9014 (fun hHeld=>?go9014)
 case hs9014=>(exact MKS.out _ Qg)
 refine KP 0 (fun _=>hHeld) ?_;simp only [PU]
 refine KP 1 (fun _=>hHeld) ?_;simp only [PU]
 refine KP 2 (fun _=>hHeld) ?_;simp only [PU]
 refine KE 3 hHeld ?_;simp only [PU]
 refine KP 4 (fun _=>hHeld) ?_;simp only [PU]
 refine KE 5 hHeld ?_;simp only [PU]
 refine zac.ready (rs:=[6]) (by kernel_rfl) (by simp) ?_
 refine zal.cons (o:=⟨_,_,_,_,_,_⟩) rfl (fun K hK=>?step9021x0) ?more9021x0
 case more9021x0=>exact zal.nil
 go_simp
 (go_at_call 127;((with_reducible refine (HBS.out _ Qg).mono ?_);rintro e w3 ⟨rfl,hx3⟩;have hE3:Ext w2 w3:=Ext.trans Qg hx3))
 refine hK.out _ _ ?hS9021x0 (fun H9021=>?_)
 case hS9021x0=>first|(intro h;exact absurd h Qj)|(intro h;simp at h)
 clear hK K
 clear hHeld
 (try simp only [PU])
 refine KV 7 ?_;simp only [PU]
 refine KV 8 ?_;simp only [PU]
 refine KV 9 ?_;simp only [PU]
 refine KV 10 ?_;simp only [PU]
 refine KV 11 ?_;simp only [PU]
 refine zac.done (by kernel_rfl) ?_ _
 clear H9021
 have hW3:Ext wb w3:=hW2.trans hE3
 have hZ3:Ext w w3:=hE2.trans hE3
 have m1:=hE3.cell n2
 have m4:=hE3.cell b4
 clear hx3 MKS
 go_upto_region 21 with ((go_at_call 124;((with_reducible refine (zv _ _).mono ?_);rintro e w6 ⟨rfl,hw6⟩;obtain rfl:=hw6.symm)))
 go_wp2_with ((go_at_call 124;((with_reducible refine (zba _ _).mono ?_);rintro e w6 ⟨rfl,hw6⟩;obtain rfl:=hw6.symm)))
 exact ⟨rfl,rfl,Qg⟩
theorem zn2 (wb w0 w:World) (D:Nat) (g:za) (x f t:Int) (nm:ByteArray) (v:Val) (A:Option Addr) (k:Nat) (h:zt w0 wb.heap.size D g) (hw0:Ext w0 w) (hE:Ext wb w) (hv:VG g) (hhas:zav g.nodes x=true) (hs:¬ ∃ s ∈ (zw g x).labels,s=nm) (h8:(zw g x).labels.length < 8) :
  Calls Tryz.prog 88 #[.pointer (some ⟨D,0,none⟩), .agg #[.int .i64 3, .int .i64 x, .int .i64 f, .int .i64 t, .string nm, .int .i64 v.kind, .int .i64 v.n, .int .i64 v.d, .string v.s, .slice A v.l.length k]] w fun e w'=>e= .returned (.tuple #[])∧zt w' wb.heap.size D ⟨zcc cI zb.id g.nodes ⟨(zw g x).id,zc6 zn (fun s:ByteArray=>s) (zw g x).labels nm,(zw g x).props⟩,g.edges,g.nn,g.ne⟩∧Ext wb w'∧zb3 w0 w w':=by
 obtain ⟨τ,V,E,lv,pv,ev,hp,he,h0⟩:=h
 have h:=h0.ext hw0
 have hDs:D < w.heap.size:=(h.self.lt rfl).2
 obtain ⟨q,w1,hq,hw1,hc,hx1⟩:=zy w ⟨3,x,f,t,nm,v⟩ A k 30
 obtain ⟨a0,a1,a2,a3,a4,a5,a6,a7,a8,a9⟩:=hc
 dsimp only at a0 a1 a2 a3 a4 a5 a6 a7 a8 a9 hw1
 have HND:=Lib.hid (zap (h.ext hx1) hv.ns hv.nl x)
 rw [hhas] at HND
 have hqs:w.heap.size≤q:=by omega
 have HX0:=Lib.hid hE
 have hex:∃ n ∈ g.nodes,n.id=x:=zb2.1 hhas
 obtain ⟨hlt,hkey⟩:=(zu zct hv.ns x).1 hex
 obtain ⟨gN,cN,hVe,hgb,hgl,-⟩:=h.nodes.addr Qk
 subst hVe
 obtain ⟨L,hL⟩:∃ L,L=zg cI zb.id g.nodes x:=⟨_,rfl⟩
 rw [←hL] at HND hlt hkey
 rw [getElem!_pos g.nodes L hlt] at hkey
 have hnd:zw g x=g.nodes[L]:=by unfold zw;rw [←hL,getElem!_pos g.nodes L hlt]
 (try rw [hnd] at hs)
 (try rw [hnd] at h8)
 (try rw [hnd])
 have hmem:g.nodes[L] ∈ g.nodes:=List.getElem_mem hlt
 have hpv:=(hv.nv _ hmem).2
 have hLab:=h.labs _ hmem
 obtain ⟨AL,cL,hLe⟩:=hLab.form
 have hsk:∀ N:zb,N.id=g.nodes[L].id→g.nodes.set L N=zcc cI zb.id g.nodes N:=fun N hN=>by unfold zcc;rw [hN,hkey,←hL]
 have HTO:=Lib.hid (fun W (e:Ext w W) w7 v7 L' (R:zaa wb.heap.size 9 1 W (.slice AL g.nodes[L].labels.length cL) w7 v7 L'.length (zdn L'))=>(h.ext e).toLabs (w':=w7) (v':=v7) hlt (L:=L') (by rw [hLe];exact R) (zds hv.ns hlt))
 have HNK:=Lib.hid (fun W (e:Ext w W) w7 (hg:W.grownBy w7 (Value.slice AL g.nodes[L].labels.length cL).ownBlock)=>(h.ext e).nodeK (w':=w7) hg (fun b hb=>by rw [←hLe] at hb;rw [hLab.tag b hb];exact Tg.noConfusion) hlt)
 have n0:=(h.nodeK (Ext.refl_gr w) (fun _=>zbu) hlt).2.1
 rw [hLe] at n0 hLab
 have n1:=hx1.cell n0
 have HBS:=Lib.hid (fun W (e:Ext w W)=>zqx g.nodes[L].labels wb.heap.size (.slice AL g.nodes[L].labels.length cL) nm W (zag hLab.own e) hpv.ls (by have:=hpv.ll;omega))
 have HNB:=Lib.hid (zd0 hLab.own hqs)
 have hb0:wb.heap.size≤w.heap.size:=hE.le
 have hll:=hpv.ll
 have HRB:=Lib.hid (fun b (hb:(Value.slice AL g.nodes[L].labels.length cL).ownBlock=some b)=>(h0.labs _ hmem).edb zg6 hw0 (by rw [hLe];exact hb))
 have HGB:Hid (EdB w0 w gN):=Lib.hid (h0.nodes.edb zdc hw0 rfl)
 have hgq:gN ≠ q:=by omega
 have HGQ:=Lib.hid hgq
 have q1:(0:Int)≤(L:Int):=by omega
 have q2:(L:Int) < (g.nodes.length:Int):=by omega
 have c0:=hx1.cell h.cells.1
 rw [@decide_eq_false _ _ hs] at HBS
 have HFL:=Lib.hid (show zdn (zc6 zn (fun s:ByteArray=>s) g.nodes[L].labels nm)=(zdn g.nodes[L].labels).take (zg zn (fun s:ByteArray=>s) g.nodes[L].labels nm*1) ++ [.string nm] ++ (zdn g.nodes[L].labels).drop (zg zn (fun s:ByteArray=>s) g.nodes[L].labels nm*1) by
  rw [zfv,zfv];exact zh6 (fun s=>[Value.string s]) 1 (fun _=>rfl) _ _ _)
 have HLN:=Lib.hid (ze4 (c:=zn) (k:=fun s:ByteArray=>s) g.nodes[L].labels nm)
 have HSK:=Lib.hid (hsk ⟨g.nodes[L].id,zc6 zn (fun s:ByteArray=>s) g.nodes[L].labels nm,g.nodes[L].props⟩ rfl)
 have hlo:=zcm (c:=zn) (k:=fun s:ByteArray=>s) g.nodes[L].labels nm
 have HINS:=Lib.hid (fun W (e:Ext w W)=>zrb wb.heap.size ((W.alloc (.cells #[.string nm] 9)).drew) (zdn g.nodes[L].labels) [.string nm] g.nodes[L].labels.length (.slice AL g.nodes[L].labels.length cL) W.heap.size (zg zn (fun s:ByteArray=>s) g.nodes[L].labels nm) (zag hLab.own (e.alloc _).drew) (Nat.le_trans hb0 (e.alloc _).drew.le) (heap_alloc_new W _) (zd0 (zag hLab.own e) (Nat.le_refl _)) (zqp _) (zld _) rfl (by simp [Value.oneCell']) hlo Qk)
 have g8:decide ((g.nodes[L].labels.length:Int) < 8)=true:=decide_eq_true Qk
 have HTO2:=Lib.hid HTO
 clear HTO
 generalize hLB:g.nodes[L].labels=LB at *
 generalize hLW:zg zn (fun s:ByteArray=>s) LB nm=J at *
 have HW1:=Lib.hid hw1
 have HQ:=Lib.hid hq
 clear hw1 hq
 clear h h0 hw0 hE hv hhas hqs hDs hex hL hkey hgb hgl hmem hpv hLab hLe hnd n0 hb0 hgq hs hsk hll hLB hLW h8 hlo
 go_enter Tryz.func88,Tryz.ntmps88
 go_upto_region 1 with (fail)
 rw [←HW1.out,←HQ.out]
 go_upto_region 2 with ((go_at_call 90;((with_reducible refine (HND.out).mono ?_);rintro e w2 ⟨rfl,hx2⟩)))
 have hE2:Ext w w2:=hx1.trans hx2
 have hW2:Ext wb w2:=HX0.out.trans hE2
 have b0:=hx2.cell a0
 have b1:=hx2.cell a1
 have b4:=hx2.cell a4
 have n2:=hx2.cell n1
 have d0:=hx2.cell c0
 clear a0 a1 a2 a3 a4 a5 a6 a7 a8 a9 c0 n1 hx1 hx2
 go_upto_region 8 with ((go_at_call 124;((with_reducible refine (zv _ _).mono ?_);rintro e w6 ⟨rfl,hw6⟩;obtain rfl:=hw6.symm)))
 go_upto_region 19 with (fail)
 have MKS:=Lib.hid (fun V (e:Ext w2 V)=>(⟨e.cell n2,e.cell b4⟩:V.cell? ⟨gN,L*3+1,none⟩=some (.slice AL LB.length cL)∧V.cell? ⟨q,4,none⟩=some (.string nm)))
 refine zac.start (S:=(fun V=>V.cell? ⟨gN,L*3+1,none⟩=some (.slice AL LB.length cL)∧V.cell? ⟨q,4,none⟩=some (.string nm))) (E:=6) (by kernel_rfl) ?hs9027 (fun hHeld=>?go9027)
 case hs9027=>(exact MKS.out _ Qg)
 refine KP 0 (fun _=>hHeld) ?_;simp only [PU]
 refine KP 1 (fun _=>hHeld) ?_;simp only [PU]
 refine KP 2 (fun _=>hHeld) ?_;simp only [PU]
 refine KE 3 hHeld ?_;simp only [PU]
 refine KP 4 (fun _=>hHeld) ?_;simp only [PU]
 refine KE 5 hHeld ?_;simp only [PU]
 refine zac.ready (rs:=[6]) (by kernel_rfl) (by simp) ?_
 refine zal.cons (o:=⟨_,_,_,_,_,_⟩) rfl (fun K hK=>?step9034x0) ?more9034x0
 case more9034x0=>exact zal.nil
 go_simp
 (go_at_call 127;((with_reducible refine (HBS.out _ Qg).mono ?_);rintro e w3 ⟨rfl,hx3⟩;have hE3:Ext w2 w3:=Ext.trans Qg hx3))
 refine hK.out _ _ ?hS9034x0 (fun H9034=>?_)
 case hS9034x0=>first|(intro h;exact absurd h Qj)|(intro h;simp at h)
 clear hK K
 clear hHeld
 (try simp only [PU])
 refine KV 7 ?_;simp only [PU]
 refine KV 8 ?_;simp only [PU]
 refine KV 9 ?_;simp only [PU]
 refine KV 10 ?_;simp only [PU]
 refine KV 11 ?_;simp only [PU]
 refine zac.done (by kernel_rfl) ?_ _
 clear H9034
 have hW3:Ext wb w3:=hW2.trans hE3
 have hZ3:Ext w w3:=hE2.trans hE3
 have m1:=hE3.cell n2
 have m4:=hE3.cell b4
 clear hx3 MKS
 go_upto_region 21 with ((go_at_call 124;((with_reducible refine (zv _ _).mono ?_);rintro e w6 ⟨rfl,hw6⟩;obtain rfl:=hw6.symm)))
 go_upto_region 22 with ((go_at_call 124;((with_reducible refine (zv _ _).mono ?_);rintro e w6 ⟨rfl,hw6⟩;obtain rfl:=hw6.symm)))
 have MKS:=Lib.hid (fun V (e:Ext w3 V)=>e.cell m1)
 have MKT:=Lib.hid (fun V (e:Ext w3 V)=>e.cell m4)
 have MKW:=Lib.hid (fun W (e:Ext w3 W) w7 (hg:W.grownBy w7 (Value.slice AL LB.length cL).ownBlock) u=>(⟨hg.cell (e.cell m4) (fun e=>HNB.out e.symm),(World.cell?_setCell_other _ _ _ _ (fun e=>HGQ.out (by injection e))).trans (hg.cell (e.cell m4) (fun e=>HNB.out e.symm))⟩:w7.cell? ⟨q,4,none⟩=some (.string nm)∧(w7.setCell ⟨gN,L*3+1,none⟩ u).cell? ⟨q,4,none⟩=some (.string nm)))
 refine za1.start (S:=(fun V=>V.cell? ⟨gN,L*3+1,none⟩=some (.slice AL LB.length cL))) (T:=(fun V=>V.cell? ⟨q,4,none⟩=some (.string nm))) (E:=9) (by kernel_rfl) ?hs9040 (fun hHeld=>?go9040)
 case hs9040=>exact ⟨by (exact MKS.out _ Qg),by (first|assumption|exact MKT.out _ Qg)⟩
 refine KU 0 ⟨fun _=>hHeld.1,hHeld.2⟩ ?_;simp only [PU]
 refine KU 1 ⟨fun _=>hHeld.1,hHeld.2⟩ ?_;simp only [PU]
 refine KU 2 ⟨fun _=>hHeld.1,hHeld.2⟩ ?_;simp only [PU]
 refine KU 3 ⟨fun _=>hHeld.1,hHeld.2⟩ ?_;simp only [PU]
 refine KT 4 hHeld ?_;simp only [PU]
 refine KU 5 ⟨fun _=>hHeld.1,hHeld.2⟩ ?_;simp only [PU]
 refine KU 6 ⟨fun _=>hHeld.1,hHeld.2⟩ ?_;simp only [PU]
 refine KU 7 ⟨fun _=>hHeld.1,hHeld.2⟩ ?_;simp only [PU]
 refine za1.ready (rs:=[8]) (by kernel_rfl) (by simp) ?_
 refine zci.cons (o:=⟨_,_,_,_,_,_⟩) rfl (fun K hK=>?step9049x0) ?more9049x0
 case more9049x0=>exact zci.nil
 go_simp
 refine hK.out _ _ ?hS9049x0 (fun H9049=>?_)
 case hS9049x0=>exact ⟨fun _=>by (exact MKS.out _ Qg),by (first|assumption|exact MKT.out _ Qg)⟩
 clear hK K
 clear hHeld
 (try simp only [PU])
 refine za1.ready (rs:=[9]) (by kernel_rfl) (by simp) ?_
 refine zci.cons (o:=⟨_,_,_,_,_,_⟩) rfl (fun K hK=>?step9050x0) ?more9050x0
 case more9050x0=>exact zci.nil
 go_simp
 (go_at_call 128;((with_reducible refine (HINS.out _ Qg).mono ?_);rintro e w7 ⟨v7,rfl,hR⟩;obtain ⟨A7,c7,rfl⟩:=zao hR.own;obtain ⟨-,s0,-,sf⟩:=HNK.out _ Qg w7 hR.grown;have sf0:=sf (L*3+1);clear sf;obtain ⟨b7,b8⟩:=MKW.out _ Qg w7 hR.grown (.slice A7 (LB.length+1) c7)))
 refine hK.out _ _ ?hS9050x0 (fun H9050=>?_)
 case hS9050x0=>exact ⟨fun h=>(by first|exact absurd h Qj|simp at h),by (first|assumption|exact MKT.out _ Qg)⟩
 clear hK K
 clear H9049
 (try simp only [PU])
 refine KU 10 H9050 ?_;simp only [PU]
 refine KU 11 H9050 ?_;simp only [PU]
 refine za1.ready (rs:=[12]) (by kernel_rfl) (by simp) ?_
 refine zci.cons (o:=⟨_,_,_,_,_,_⟩) rfl (fun K hK=>?step9053x0) ?more9053x0
 case more9053x0=>exact zci.nil
 go_simp
 refine hK.out _ _ ?hS9053x0 (fun H9053=>?_)
 case hS9053x0=>exact ⟨fun h=>(by first|exact absurd h Qj|simp at h),by (first|assumption|exact MKT.out _ Qg)⟩
 clear hK K
 clear H9050
 refine za1.done (by kernel_rfl) ?_ _
 clear H9053
 have hR2:=hR
 rw [←HLN.out,←HFL.out] at hR2
 obtain ⟨hO,hX⟩:=HTO2.out _ Qg w7 _ _ hR2
 rw [HLN.out] at hO hX
 have hX8:=hX wb rfl (Ext.trans HX0.out Qg)
 rw [HSK.out] at hO
 go_end0
 exact ⟨rfl,hO,hX8,zb3.row Qg hR.grown HRB.out HGB.out _ _⟩
theorem zk0 (wb w0 w:World) (D:Nat) (g:za) (x f t:Int) (nm:ByteArray) (v:Val) (A:Option Addr) (k:Nat) (h:zt w0 wb.heap.size D g) (hw0:Ext w0 w) (hE:Ext wb w) (hv:VG g) (hhas:zav g.nodes x=true) (hs:¬ ∃ s ∈ (zw g x).labels,s=nm) :
  Calls Tryz.prog 88 #[.pointer (some ⟨D,0,none⟩), .agg #[.int .i64 4, .int .i64 x, .int .i64 f, .int .i64 t, .string nm, .int .i64 v.kind, .int .i64 v.n, .int .i64 v.d, .string v.s, .slice A v.l.length k]] w fun e w'=>e= .panicked [{ v:= .iface 105 (.int .i64 23),recovered:=false }]∧Ext w w':=by
 obtain ⟨τ,V,E,lv,pv,ev,hp,he,h0⟩:=h
 have h:=h0.ext hw0
 have hDs:D < w.heap.size:=(h.self.lt rfl).2
 obtain ⟨q,w1,hq,hw1,hc,hx1⟩:=zy w ⟨4,x,f,t,nm,v⟩ A k 30
 obtain ⟨a0,a1,a2,a3,a4,a5,a6,a7,a8,a9⟩:=hc
 dsimp only at a0 a1 a2 a3 a4 a5 a6 a7 a8 a9 hw1
 have HND:=Lib.hid (zap (h.ext hx1) hv.ns hv.nl x)
 rw [hhas] at HND
 have hqs:w.heap.size≤q:=by omega
 have HX0:=Lib.hid hE
 have hex:∃ n ∈ g.nodes,n.id=x:=zb2.1 hhas
 obtain ⟨hlt,hkey⟩:=(zu zct hv.ns x).1 hex
 obtain ⟨gN,cN,hVe,hgb,hgl,-⟩:=h.nodes.addr Qk
 subst hVe
 obtain ⟨L,hL⟩:∃ L,L=zg cI zb.id g.nodes x:=⟨_,rfl⟩
 rw [←hL] at HND hlt hkey
 rw [getElem!_pos g.nodes L hlt] at hkey
 have hnd:zw g x=g.nodes[L]:=by unfold zw;rw [←hL,getElem!_pos g.nodes L hlt]
 (try rw [hnd] at hs)
 (try rw [hnd])
 have hmem:g.nodes[L] ∈ g.nodes:=List.getElem_mem hlt
 have hpv:=(hv.nv _ hmem).2
 have hLab:=h.labs _ hmem
 obtain ⟨AL,cL,hLe⟩:=hLab.form
 have hsk:∀ N:zb,N.id=g.nodes[L].id→g.nodes.set L N=zcc cI zb.id g.nodes N:=fun N hN=>by unfold zcc;rw [hN,hkey,←hL]
 have HTO:=Lib.hid (fun W (e:Ext w W) w7 v7 L' (R:zaa wb.heap.size 9 1 W (.slice AL g.nodes[L].labels.length cL) w7 v7 L'.length (zdn L'))=>(h.ext e).toLabs (w':=w7) (v':=v7) hlt (L:=L') (by rw [hLe];exact R) (zds hv.ns hlt))
 have HNK:=Lib.hid (fun W (e:Ext w W) w7 (hg:W.grownBy w7 (Value.slice AL g.nodes[L].labels.length cL).ownBlock)=>(h.ext e).nodeK (w':=w7) hg (fun b hb=>by rw [←hLe] at hb;rw [hLab.tag b hb];exact Tg.noConfusion) hlt)
 have n0:=(h.nodeK (Ext.refl_gr w) (fun _=>zbu) hlt).2.1
 rw [hLe] at n0 hLab
 have n1:=hx1.cell n0
 have HBS:=Lib.hid (fun W (e:Ext w W)=>zqx g.nodes[L].labels wb.heap.size (.slice AL g.nodes[L].labels.length cL) nm W (zag hLab.own e) hpv.ls (by have:=hpv.ll;omega))
 have HNB:=Lib.hid (zd0 hLab.own hqs)
 have hb0:wb.heap.size≤w.heap.size:=hE.le
 have hll:=hpv.ll
 have HRB:=Lib.hid (fun b (hb:(Value.slice AL g.nodes[L].labels.length cL).ownBlock=some b)=>(h0.labs _ hmem).edb zg6 hw0 (by rw [hLe];exact hb))
 have HGB:Hid (EdB w0 w gN):=Lib.hid (h0.nodes.edb zdc hw0 rfl)
 have hgq:gN ≠ q:=by omega
 have HGQ:=Lib.hid hgq
 have q1:(0:Int)≤(L:Int):=by omega
 have q2:(L:Int) < (g.nodes.length:Int):=by omega
 have c0:=hx1.cell h.cells.1
 rw [@decide_eq_false _ _ hs] at HBS
 have HTO2:=Lib.hid HTO
 clear HTO
 generalize hLB:g.nodes[L].labels=LB at *
 generalize hLW:zg zn (fun s:ByteArray=>s) LB nm=J at *
 have HW1:=Lib.hid hw1
 have HQ:=Lib.hid hq
 clear hw1 hq
 clear h h0 hw0 hE hv hhas hqs hDs hex hL hkey hgb hgl hmem hpv hLab hLe hnd n0 hb0 hgq hs hsk hll hLB hLW
 go_enter Tryz.func88,Tryz.ntmps88
 go_upto_region 1 with (fail)
 rw [←HW1.out,←HQ.out]
 go_upto_region 2 with ((go_at_call 90;((with_reducible refine (HND.out).mono ?_);rintro e w2 ⟨rfl,hx2⟩)))
 have hE2:Ext w w2:=hx1.trans hx2
 have hW2:Ext wb w2:=HX0.out.trans hE2
 have b0:=hx2.cell a0
 have b1:=hx2.cell a1
 have b4:=hx2.cell a4
 have n2:=hx2.cell n1
 have d0:=hx2.cell c0
 clear a0 a1 a2 a3 a4 a5 a6 a7 a8 a9 c0 n1 hx1 hx2
 go_upto_region 8 with ((go_at_call 124;((with_reducible refine (zv _ _).mono ?_);rintro e w6 ⟨rfl,hw6⟩;obtain rfl:=hw6.symm)))
 go_upto_region 24 with (fail)
 have MKS:=Lib.hid (fun V (e:Ext w2 V)=>(⟨e.cell n2,e.cell b4⟩:V.cell? ⟨gN,L*3+1,none⟩=some (.slice AL LB.length cL)∧V.cell? ⟨q,4,none⟩=some (.string nm)))
 refine zac.start (S:=(fun V=>V.cell? ⟨gN,L*3+1,none⟩=some (.slice AL LB.length cL)∧V.cell? ⟨q,4,none⟩=some (.string nm))) (E:=6) (by kernel_rfl) ?hs11001 (fun hHeld=>?go11001)
 case hs11001=>(exact MKS.out _ Qg)
 refine KP 0 (fun _=>hHeld) ?_;simp only [PU]
 refine KP 1 (fun _=>hHeld) ?_;simp only [PU]
 refine KP 2 (fun _=>hHeld) ?_;simp only [PU]
 refine KE 3 hHeld ?_;simp only [PU]
 refine KP 4 (fun _=>hHeld) ?_;simp only [PU]
 refine KE 5 hHeld ?_;simp only [PU]
 refine zac.ready (rs:=[6]) (by kernel_rfl) (by simp) ?_
 refine zal.cons (o:=⟨_,_,_,_,_,_⟩) rfl (fun K hK=>?step11008x0) ?more11008x0
 case more11008x0=>exact zal.nil
 go_simp
 (go_at_call 127;((with_reducible refine (HBS.out _ Qg).mono ?_);rintro e w3 ⟨rfl,hx3⟩;have hE3:Ext w2 w3:=Ext.trans Qg hx3))
 refine hK.out _ _ ?hS11008x0 (fun H11008=>?_)
 case hS11008x0=>first|(intro h;exact absurd h Qj)|(intro h;simp at h)
 clear hK K
 clear hHeld
 (try simp only [PU])
 refine KV 7 ?_;simp only [PU]
 refine KV 8 ?_;simp only [PU]
 refine KV 9 ?_;simp only [PU]
 refine KV 10 ?_;simp only [PU]
 refine KV 11 ?_;simp only [PU]
 refine zac.done (by kernel_rfl) ?_ _
 clear H11008
 have hW3:Ext wb w3:=hW2.trans hE3
 have hZ3:Ext w w3:=hE2.trans hE3
 have m1:=hE3.cell n2
 have m4:=hE3.cell b4
 clear hx3 MKS
 go_wp2_with ((go_at_call 124;((with_reducible refine (zba _ _).mono ?_);rintro e w6 ⟨rfl,hw6⟩;obtain rfl:=hw6.symm)))
 exact ⟨rfl,rfl,Qg⟩
theorem zon (wb w0 w:World) (D:Nat) (g:za) (x f t:Int) (nm:ByteArray) (v:Val) (A:Option Addr) (k:Nat) (h:zt w0 wb.heap.size D g) (hw0:Ext w0 w) (hE:Ext wb w) (hv:VG g) (hhas:zav g.nodes x=true) (hs:∃ s ∈ (zw g x).labels,s=nm) :
  Calls Tryz.prog 88 #[.pointer (some ⟨D,0,none⟩), .agg #[.int .i64 4, .int .i64 x, .int .i64 f, .int .i64 t, .string nm, .int .i64 v.kind, .int .i64 v.n, .int .i64 v.d, .string v.s, .slice A v.l.length k]] w fun e w'=>e= .returned (.tuple #[])∧zt w' wb.heap.size D ⟨zcc cI zb.id g.nodes ⟨(zw g x).id,zcv zn (fun s:ByteArray=>s) (zw g x).labels nm,(zw g x).props⟩,g.edges,g.nn,g.ne⟩∧Ext wb w'∧zb3 w0 w w':=by
 obtain ⟨τ,V,E,lv,pv,ev,hp,he,h0⟩:=h
 have h:=h0.ext hw0
 have hDs:D < w.heap.size:=(h.self.lt rfl).2
 obtain ⟨q,w1,hq,hw1,hc,hx1⟩:=zy w ⟨4,x,f,t,nm,v⟩ A k 30
 obtain ⟨a0,a1,a2,a3,a4,a5,a6,a7,a8,a9⟩:=hc
 dsimp only at a0 a1 a2 a3 a4 a5 a6 a7 a8 a9 hw1
 have HND:=Lib.hid (zap (h.ext hx1) hv.ns hv.nl x)
 rw [hhas] at HND
 have hqs:w.heap.size≤q:=by omega
 have HX0:=Lib.hid hE
 have hex:∃ n ∈ g.nodes,n.id=x:=zb2.1 hhas
 obtain ⟨hlt,hkey⟩:=(zu zct hv.ns x).1 hex
 obtain ⟨gN,cN,hVe,hgb,hgl,-⟩:=h.nodes.addr Qk
 subst hVe
 obtain ⟨L,hL⟩:∃ L,L=zg cI zb.id g.nodes x:=⟨_,rfl⟩
 rw [←hL] at HND hlt hkey
 rw [getElem!_pos g.nodes L hlt] at hkey
 have hnd:zw g x=g.nodes[L]:=by unfold zw;rw [←hL,getElem!_pos g.nodes L hlt]
 (try rw [hnd] at hs)
 (try rw [hnd])
 have hmem:g.nodes[L] ∈ g.nodes:=List.getElem_mem hlt
 have hpv:=(hv.nv _ hmem).2
 have hLab:=h.labs _ hmem
 obtain ⟨AL,cL,hLe⟩:=hLab.form
 have hsk:∀ N:zb,N.id=g.nodes[L].id→g.nodes.set L N=zcc cI zb.id g.nodes N:=fun N hN=>by unfold zcc;rw [hN,hkey,←hL]
 have HTO:=Lib.hid (fun W (e:Ext w W) w7 v7 L' (R:zaa wb.heap.size 9 1 W (.slice AL g.nodes[L].labels.length cL) w7 v7 L'.length (zdn L'))=>(h.ext e).toLabs (w':=w7) (v':=v7) hlt (L:=L') (by rw [hLe];exact R) (zds hv.ns hlt))
 have HNK:=Lib.hid (fun W (e:Ext w W) w7 (hg:W.grownBy w7 (Value.slice AL g.nodes[L].labels.length cL).ownBlock)=>(h.ext e).nodeK (w':=w7) hg (fun b hb=>by rw [←hLe] at hb;rw [hLab.tag b hb];exact Tg.noConfusion) hlt)
 have n0:=(h.nodeK (Ext.refl_gr w) (fun _=>zbu) hlt).2.1
 rw [hLe] at n0 hLab
 have n1:=hx1.cell n0
 have HBS:=Lib.hid (fun W (e:Ext w W)=>zqx g.nodes[L].labels wb.heap.size (.slice AL g.nodes[L].labels.length cL) nm W (zag hLab.own e) hpv.ls (by have:=hpv.ll;omega))
 have HNB:=Lib.hid (zd0 hLab.own hqs)
 have hb0:wb.heap.size≤w.heap.size:=hE.le
 have hll:=hpv.ll
 have HRB:=Lib.hid (fun b (hb:(Value.slice AL g.nodes[L].labels.length cL).ownBlock=some b)=>(h0.labs _ hmem).edb zg6 hw0 (by rw [hLe];exact hb))
 have HGB:Hid (EdB w0 w gN):=Lib.hid (h0.nodes.edb zdc hw0 rfl)
 have hgq:gN ≠ q:=by omega
 have HGQ:=Lib.hid hgq
 have q1:(0:Int)≤(L:Int):=by omega
 have q2:(L:Int) < (g.nodes.length:Int):=by omega
 have c0:=hx1.cell h.cells.1
 rw [@decide_eq_true _ _ hs] at HBS
 have hlJ:=((zu (k:=fun s:ByteArray=>s) zae.str hpv.ls nm).1 hs).1
 have HFL:=Lib.hid (show zdn (zcv zn (fun s:ByteArray=>s) g.nodes[L].labels nm)=(zdn g.nodes[L].labels).take (zg zn (fun s:ByteArray=>s) g.nodes[L].labels nm*1) ++ (zdn g.nodes[L].labels).drop ((zg zn (fun s:ByteArray=>s) g.nodes[L].labels nm+1)*1) by
  rw [zfv,zfv];exact zh5 (fun s=>[Value.string s]) 1 (fun _=>rfl) _ _)
 have HLN:=Lib.hid (show (zcv zn (fun s:ByteArray=>s) g.nodes[L].labels nm).length=g.nodes[L].labels.length - 1 by have:=zey hlJ;omega)
 have HSK:=Lib.hid (hsk ⟨g.nodes[L].id,zcv zn (fun s:ByteArray=>s) g.nodes[L].labels nm,g.nodes[L].props⟩ rfl)
 have HDEL:=Lib.hid (fun W (e:Ext w W)=>zrq wb.heap.size W (zdn g.nodes[L].labels) g.nodes[L].labels.length (.slice AL g.nodes[L].labels.length cL) (zg zn (fun s:ByteArray=>s) g.nodes[L].labels nm) (zag hLab.own e) (zld _) hlJ Qk)
 have hwr:IntKind.i64.wrap (((zg zn (fun s:ByteArray=>s) g.nodes[L].labels nm:Nat):Int)+1)=((zg zn (fun s:ByteArray=>s) g.nodes[L].labels nm:Nat):Int)+1:=IntWalk.i64_in _ Qk
 have HTO2:=Lib.hid HTO
 clear HTO
 generalize hLB:g.nodes[L].labels=LB at *
 generalize hLW:zg zn (fun s:ByteArray=>s) LB nm=J at *
 have HW1:=Lib.hid hw1
 have HQ:=Lib.hid hq
 clear hw1 hq
 clear h h0 hw0 hE hv hhas hqs hDs hex hL hkey hgb hgl hmem hpv hLab hLe hnd n0 hb0 hgq hs hsk hll hLB hLW hlJ
 go_enter Tryz.func88,Tryz.ntmps88
 go_upto_region 1 with (fail)
 rw [←HW1.out,←HQ.out]
 go_upto_region 2 with ((go_at_call 90;((with_reducible refine (HND.out).mono ?_);rintro e w2 ⟨rfl,hx2⟩)))
 have hE2:Ext w w2:=hx1.trans hx2
 have hW2:Ext wb w2:=HX0.out.trans hE2
 have b0:=hx2.cell a0
 have b1:=hx2.cell a1
 have b4:=hx2.cell a4
 have n2:=hx2.cell n1
 have d0:=hx2.cell c0
 clear a0 a1 a2 a3 a4 a5 a6 a7 a8 a9 c0 n1 hx1 hx2
 go_upto_region 8 with ((go_at_call 124;((with_reducible refine (zv _ _).mono ?_);rintro e w6 ⟨rfl,hw6⟩;obtain rfl:=hw6.symm)))
 go_upto_region 24 with (fail)
 have MKS:=Lib.hid (fun V (e:Ext w2 V)=>(⟨e.cell n2,e.cell b4⟩:V.cell? ⟨gN,L*3+1,none⟩=some (.slice AL LB.length cL)∧V.cell? ⟨q,4,none⟩=some (.string nm)))
 refine zac.start (S:=(fun V=>V.cell? ⟨gN,L*3+1,none⟩=some (.slice AL LB.length cL)∧V.cell? ⟨q,4,none⟩=some (.string nm))) (E:=6) (by kernel_rfl) ?hs11014 (fun hHeld=>?go11014)
 case hs11014=>(exact MKS.out _ Qg)
 refine KP 0 (fun _=>hHeld) ?_;simp only [PU]
 refine KP 1 (fun _=>hHeld) ?_;simp only [PU]
 refine KP 2 (fun _=>hHeld) ?_;simp only [PU]
 refine KE 3 hHeld ?_;simp only [PU]
 refine KP 4 (fun _=>hHeld) ?_;simp only [PU]
 refine KE 5 hHeld ?_;simp only [PU]
 refine zac.ready (rs:=[6]) (by kernel_rfl) (by simp) ?_
 refine zal.cons (o:=⟨_,_,_,_,_,_⟩) rfl (fun K hK=>?step11021x0) ?more11021x0
 case more11021x0=>exact zal.nil
 go_simp
 (go_at_call 127;((with_reducible refine (HBS.out _ Qg).mono ?_);rintro e w3 ⟨rfl,hx3⟩;have hE3:Ext w2 w3:=Ext.trans Qg hx3))
 refine hK.out _ _ ?hS11021x0 (fun H11021=>?_)
 case hS11021x0=>first|(intro h;exact absurd h Qj)|(intro h;simp at h)
 clear hK K
 clear hHeld
 (try simp only [PU])
 refine KV 7 ?_;simp only [PU]
 refine KV 8 ?_;simp only [PU]
 refine KV 9 ?_;simp only [PU]
 refine KV 10 ?_;simp only [PU]
 refine KV 11 ?_;simp only [PU]
 refine zac.done (by kernel_rfl) ?_ _
 clear H11021
 have hW3:Ext wb w3:=hW2.trans hE3
 have hZ3:Ext w w3:=hE2.trans hE3
 have m1:=hE3.cell n2
 have m4:=hE3.cell b4
 clear hx3 MKS
 go_upto_region 26 with ((go_at_call 124;((with_reducible refine (zv _ _).mono ?_);rintro e w6 ⟨rfl,hw6⟩;obtain rfl:=hw6.symm)))
 go_wp2_with ((go_at_call 129;((with_reducible refine (HDEL.out _ Qg).mono ?_);rintro e w7 ⟨v7,rfl,hR⟩;obtain ⟨A7,c7,rfl⟩:=zao hR.own;obtain ⟨-,s0,-,sf⟩:=HNK.out _ Qg w7 hR.grown;have sf0:=sf (L*3+1);clear sf)))
 have hR2:=hR
 rw [←HLN.out,←HFL.out] at hR2
 obtain ⟨hO,hX⟩:=HTO2.out _ Qg w7 _ _ hR2
 rw [HLN.out] at hO hX
 have hX8:=hX wb rfl (Ext.trans HX0.out Qg)
 rw [HSK.out] at hO
 go_end0
 exact ⟨rfl,hO,hX8,zb3.row Qg hR.grown HRB.out HGB.out _ _⟩
section
variable {H:List HP} {base:Nat} {V:Value} {key:ByteArray} {v:Val} {A:Option Addr} {k:Nat} {w:World}
theorem znb (hz:zq w) (hown:w.ownsRow base 54 6 V H.length (H.flatMap HP.enc)) (hb:base≤w.heap.size) (hs:za0 zn zbr H) (hl:H.length≤16) (hv:v.l=[]) {l':List zaf} (hset:zgg (H.map HP.p) key v= .ok l') :
  Calls Tryz.prog 130 #[V, .string key, .agg #[.int .i64 v.kind, .int .i64 v.n, .int .i64 v.d, .string v.s, .slice A 0 k]] w fun e w' => ∃ (v':Value) (H':List HP),e= .returned v'∧H'.map HP.p=l'∧zaa base 54 6 w V w' v' H'.length (H'.flatMap HP.enc):=by
 unfold zgg at hset
 cases hn:zby v with
 | true =>
  rw [hn,if_pos rfl] at hset
  by_cases hx:∃ p ∈ H.map HP.p,p.key=key
  ·rw [if_pos hx] at hset
   injection hset with hset
   subst hset
   exact zq5 H base V key v A k w hz hown hs Qk hv hn ((ziw key).1 hx)
  ·rw [if_neg hx] at hset
   injection hset with hset
   subst hset
   exact zpg H base V key v A k w hz hown hs Qk hv hn (fun h=>hx ((ziw key).2 h))
 | false =>
  rw [hn,if_neg Bool.false_ne_true] at hset
  by_cases hx:∃ p ∈ H.map HP.p,p.key=key
  ·rw [if_pos hx] at hset
   injection hset with hset
   subst hset
   exact zr3 H base V key v A k w hz hown hs Qk hv hn ((ziw key).1 hx)
  ·rw [if_neg hx,List.length_map] at hset
   split at hset
   ·cases hset
   ·injection hset with hset
    subst hset
    exact zq9 H base V key v A k w hz hown hs Qk hv hn (fun h=>hx ((ziw key).2 h)) hb Qk
theorem zl6 (hz:zq w) (hown:w.ownsRow base 54 6 V H.length (H.flatMap HP.enc)) (hs:za0 zn zbr H) (hl:H.length≤16) (hv:v.l=[]) {kk:Int} (hset:zgg (H.map HP.p) key v= .error kk) :
  Calls Tryz.prog 130 #[V, .string key, .agg #[.int .i64 v.kind, .int .i64 v.n, .int .i64 v.d, .string v.s, .slice A 0 k]] w fun e w'=>e= .panicked [{ v:= .iface 105 (.int .i64 kk),recovered:=false }]∧Ext w w':=by
 unfold zgg at hset
 cases hn:zby v with
 | true =>
  rw [hn,if_pos rfl] at hset
  split at hset <;> cases hset
 | false =>
  rw [hn,if_neg Bool.false_ne_true] at hset
  by_cases hx:∃ p ∈ H.map HP.p,p.key=key
  ·rw [if_pos hx] at hset;cases hset
  ·rw [if_neg hx,List.length_map] at hset
   split at hset
   ·injection hset with hset
    subst hset
    exact zo4 H base V key v A k w hz hown hs Qk hv hn (fun h=>hx ((ziw key).2 h)) Qk
   ·cases hset
end
theorem zmf (wb w0 w:World) (D:Nat) (g:za) (x f t:Int) (nm:ByteArray) (v:Val) (A:Option Addr) (k:Nat) (h:zt w0 wb.heap.size D g) (hw0:Ext w0 w) (hE:Ext wb w) (hv:VG g) (hhas:zav g.nodes x=true) {kk:Int} (hset:zgg (zw g x).props nm v= .error kk) (hv0:v.l=[]) (hz:zq w) :
  Calls Tryz.prog 88 #[.pointer (some ⟨D,0,none⟩), .agg #[.int .i64 5, .int .i64 x, .int .i64 f, .int .i64 t, .string nm, .int .i64 v.kind, .int .i64 v.n, .int .i64 v.d, .string v.s, .slice A 0 k]] w fun e w'=>e= .panicked [{ v:= .iface 105 (.int .i64 kk),recovered:=false }]∧Ext w w':=by
 obtain ⟨τ,V,E,lv,pv,ev,hp,he,h0⟩:=h
 have h:=h0.ext hw0
 have hDs:D < w.heap.size:=(h.self.lt rfl).2
 obtain ⟨q,w1,hq,hw1,hc,hx1⟩:=zy w ⟨5,x,f,t,nm,v⟩ A k 30
 obtain ⟨a0,a1,a2,a3,a4,a5,a6,a7,a8,a9⟩:=hc
 dsimp only at a0 a1 a2 a3 a4 a5 a6 a7 a8 a9 hw1
 rw [show v.l.length=0 by rw [hv0];rfl] at a9 hw1
 have HND:=Lib.hid (zap (h.ext hx1) hv.ns hv.nl x)
 rw [hhas] at HND
 have hqs:w.heap.size≤q:=by omega
 have HX0:=Lib.hid hE
 have hex:∃ n ∈ g.nodes,n.id=x:=zb2.1 hhas
 obtain ⟨hlt,hkey⟩:=(zu zct hv.ns x).1 hex
 obtain ⟨gN,cN,hVe,hgb,hgl,-⟩:=h.nodes.addr Qk
 subst hVe
 obtain ⟨L,hL⟩:∃ L,L=zg cI zb.id g.nodes x:=⟨_,rfl⟩
 rw [←hL] at HND hlt hkey
 rw [getElem!_pos g.nodes L hlt] at hkey
 have hnd:zw g x=g.nodes[L]:=by unfold zw;rw [←hL,getElem!_pos g.nodes L hlt]
 (try rw [hnd])
 rw [hnd] at hset
 have hmem:g.nodes[L] ∈ g.nodes:=List.getElem_mem hlt
 have hpv:=(hv.nv _ hmem).2
 obtain ⟨hLab,hmap⟩:=h.prps _ hmem
 have hpl:(hp g.nodes[L].id).length≤16:=by
  have:=hpv.pl
  rw [←hmap,List.length_map] at this;exact this
 have hps:za0 zn zbr (hp g.nodes[L].id):=by rw [zhg,hmap];exact hpv.ps
 obtain ⟨AL,cL,hLe⟩:=hLab.form
 have hsk:∀ N:zb,N.id=g.nodes[L].id→g.nodes.set L N=zcc cI zb.id g.nodes N:=fun N hN=>by unfold zcc;rw [hN,hkey,←hL]
 rw [←hmap] at hset
 generalize hH:hp g.nodes[L].id=H at *
 have HTO:=Lib.hid (fun W (e:Ext w W) w7 v7 H' (R:zaa wb.heap.size 54 6 W (.slice AL H.length cL) w7 v7 H'.length (H'.flatMap HP.enc))=>(h.ext e).toPrps (w':=w7) (v':=v7) hlt (H:=H') (by rw [hLe];exact R) (zds hv.ns hlt))
 have HNK:=Lib.hid (fun W (e:Ext w W) w7 (hg:W.grownBy w7 (Value.slice AL H.length cL).ownBlock)=>(h.ext e).nodeK (w':=w7) hg (fun b hb=>by rw [←hLe] at hb;rw [hLab.tag b hb];exact Tg.noConfusion) hlt)
 have n0:=(h.nodeK (Ext.refl_gr w) (fun _=>zbu) hlt).2.2.1
 rw [hLe] at n0 hLab
 have n1:=hx1.cell n0
 have hb0:wb.heap.size≤w.heap.size:=hE.le
 have HRB:=Lib.hid (fun b (hb:(Value.slice AL H.length cL).ownBlock=some b)=>(h0.prps _ hmem).1.edb zfw hw0 (by rw [hLe];exact hb))
 have HGB:Hid (EdB w0 w gN):=Lib.hid (h0.nodes.edb zdc hw0 rfl)
 have HST:=Lib.hid (fun W (e:Ext w W)=>zl6 (A:=A) (k:=k) (hz.ext e) (zag hLab.own e) hps hpl hv0 hset)
 have q1:(0:Int)≤(L:Int):=by omega
 have q2:(L:Int) < (g.nodes.length:Int):=by omega
 have c0:=hx1.cell h.cells.1
 have HTO2:=Lib.hid HTO
 clear HTO
 have HW1:=Lib.hid hw1
 have HQ:=Lib.hid hq
 clear hw1 hq
 clear h h0 hw0 hE hv hhas hqs hDs hex hL hkey hgb hgl hmem hpv hLab hLe hnd n0 hb0 hpl hps hsk hset hmap hH hz hv0
 go_enter Tryz.func88,Tryz.ntmps88
 go_upto_region 1 with (fail)
 rw [←HW1.out,←HQ.out]
 go_upto_region 2 with ((go_at_call 90;((with_reducible refine (HND.out).mono ?_);rintro e w2 ⟨rfl,hx2⟩)))
 have hE2:Ext w w2:=hx1.trans hx2
 have hW2:Ext wb w2:=HX0.out.trans hE2
 have b0:=hx2.cell a0
 have b1:=hx2.cell a1
 have b4:=hx2.cell a4
 have b5:=hx2.cell a5
 have b6:=hx2.cell a6
 have b7:=hx2.cell a7
 have b8:=hx2.cell a8
 have b9:=hx2.cell a9
 have n2:=hx2.cell n1
 have d0:=hx2.cell c0
 clear a0 a1 a2 a3 a4 a5 a6 a7 a8 a9 c0 n1 hx1 hx2
 go_upto_region 8 with ((go_at_call 124;((with_reducible refine (zv _ _).mono ?_);rintro e w6 ⟨rfl,hw6⟩;obtain rfl:=hw6.symm)))
 go_upto_region 10 with (fail)
 have MKS:=Lib.hid (fun V (e:Ext w2 V)=>(⟨e.cell n2,e.cell b4,e.cell b5,e.cell b6,e.cell b7,e.cell b8,e.cell b9⟩:V.cell? ⟨gN,L*3+2,none⟩=some (.slice AL H.length cL)∧V.cell? ⟨q,4,none⟩=some (.string nm)∧V.cell? ⟨q,5,none⟩=some (.int .i64 v.kind)∧V.cell? ⟨q,6,none⟩=some (.int .i64 v.n)∧V.cell? ⟨q,7,none⟩=some (.int .i64 v.d)∧V.cell? ⟨q,8,none⟩=some (.string v.s)∧V.cell? ⟨q,9,none⟩=some (.slice A 0 k)))
 refine zac.start (S:=(fun V=>V.cell? ⟨gN,L*3+2,none⟩=some (.slice AL H.length cL)∧V.cell? ⟨q,4,none⟩=some (.string nm)∧V.cell? ⟨q,5,none⟩=some (.int .i64 v.kind)∧V.cell? ⟨q,6,none⟩=some (.int .i64 v.n)∧V.cell? ⟨q,7,none⟩=some (.int .i64 v.d)∧V.cell? ⟨q,8,none⟩=some (.string v.s)∧V.cell? ⟨q,9,none⟩=some (.slice A 0 k))) (E:=9) (by kernel_rfl) ?hs11027 (fun hHeld=>?go11027)
 case hs11027=>(exact MKS.out _ Qg)
 refine KP 0 (fun _=>hHeld) ?_;simp only [PU]
 refine KP 1 (fun _=>hHeld) ?_;simp only [PU]
 refine KP 2 (fun _=>hHeld) ?_;simp only [PU]
 refine KP 3 (fun _=>hHeld) ?_;simp only [PU]
 refine KE 4 hHeld ?_;simp only [PU]
 refine KP 5 (fun _=>hHeld) ?_;simp only [PU]
 refine KE 6 hHeld ?_;simp only [PU]
 refine KP 7 (fun _=>hHeld) ?_;simp only [PU]
 refine KE 8 hHeld ?_;simp only [PU]
 refine zac.ready (rs:=[9]) (by kernel_rfl) (by simp) ?_
 refine zal.cons (o:=⟨_,_,_,_,_,_⟩) rfl (fun K hK=>?step11037x0) ?more11037x0
 case more11037x0=>exact zal.nil
 go_simp
 (go_at_call 130;((with_reducible refine (HST.out _ Qg).mono ?_);rintro e w7 ⟨rfl,hx7⟩))
 exact ⟨rfl,rfl,Ext.trans Qg hx7⟩
theorem zny (wb w0 w:World) (D:Nat) (g:za) (x f t:Int) (nm:ByteArray) (v:Val) (A:Option Addr) (k:Nat) (h:zt w0 wb.heap.size D g) (hw0:Ext w0 w) (hE:Ext wb w) (hv:VG g) (hhas:zav g.nodes x=true) {l':List zaf} (hset:zgg (zw g x).props nm v= .ok l') (hv0:v.l=[]) (hz:zq w) :
  Calls Tryz.prog 88 #[.pointer (some ⟨D,0,none⟩), .agg #[.int .i64 5, .int .i64 x, .int .i64 f, .int .i64 t, .string nm, .int .i64 v.kind, .int .i64 v.n, .int .i64 v.d, .string v.s, .slice A 0 k]] w fun e w'=>e= .returned (.tuple #[])∧zt w' wb.heap.size D ⟨zcc cI zb.id g.nodes ⟨(zw g x).id,(zw g x).labels,l'⟩,g.edges,g.nn,g.ne⟩∧Ext wb w'∧zb3 w0 w w':=by
 obtain ⟨τ,V,E,lv,pv,ev,hp,he,h0⟩:=h
 have h:=h0.ext hw0
 have hDs:D < w.heap.size:=(h.self.lt rfl).2
 obtain ⟨q,w1,hq,hw1,hc,hx1⟩:=zy w ⟨5,x,f,t,nm,v⟩ A k 30
 obtain ⟨a0,a1,a2,a3,a4,a5,a6,a7,a8,a9⟩:=hc
 dsimp only at a0 a1 a2 a3 a4 a5 a6 a7 a8 a9 hw1
 rw [show v.l.length=0 by rw [hv0];rfl] at a9 hw1
 have HND:=Lib.hid (zap (h.ext hx1) hv.ns hv.nl x)
 rw [hhas] at HND
 have hqs:w.heap.size≤q:=by omega
 have HX0:=Lib.hid hE
 have hex:∃ n ∈ g.nodes,n.id=x:=zb2.1 hhas
 obtain ⟨hlt,hkey⟩:=(zu zct hv.ns x).1 hex
 obtain ⟨gN,cN,hVe,hgb,hgl,-⟩:=h.nodes.addr Qk
 subst hVe
 obtain ⟨L,hL⟩:∃ L,L=zg cI zb.id g.nodes x:=⟨_,rfl⟩
 rw [←hL] at HND hlt hkey
 rw [getElem!_pos g.nodes L hlt] at hkey
 have hnd:zw g x=g.nodes[L]:=by unfold zw;rw [←hL,getElem!_pos g.nodes L hlt]
 (try rw [hnd])
 rw [hnd] at hset
 have hmem:g.nodes[L] ∈ g.nodes:=List.getElem_mem hlt
 have hpv:=(hv.nv _ hmem).2
 obtain ⟨hLab,hmap⟩:=h.prps _ hmem
 have hpl:(hp g.nodes[L].id).length≤16:=by
  have:=hpv.pl
  rw [←hmap,List.length_map] at this;exact this
 have hps:za0 zn zbr (hp g.nodes[L].id):=by rw [zhg,hmap];exact hpv.ps
 obtain ⟨AL,cL,hLe⟩:=hLab.form
 have hsk:∀ N:zb,N.id=g.nodes[L].id→g.nodes.set L N=zcc cI zb.id g.nodes N:=fun N hN=>by unfold zcc;rw [hN,hkey,←hL]
 rw [←hmap] at hset
 generalize hH:hp g.nodes[L].id=H at *
 have HTO:=Lib.hid (fun W (e:Ext w W) w7 v7 H' (R:zaa wb.heap.size 54 6 W (.slice AL H.length cL) w7 v7 H'.length (H'.flatMap HP.enc))=>(h.ext e).toPrps (w':=w7) (v':=v7) hlt (H:=H') (by rw [hLe];exact R) (zds hv.ns hlt))
 have HNK:=Lib.hid (fun W (e:Ext w W) w7 (hg:W.grownBy w7 (Value.slice AL H.length cL).ownBlock)=>(h.ext e).nodeK (w':=w7) hg (fun b hb=>by rw [←hLe] at hb;rw [hLab.tag b hb];exact Tg.noConfusion) hlt)
 have n0:=(h.nodeK (Ext.refl_gr w) (fun _=>zbu) hlt).2.2.1
 rw [hLe] at n0 hLab
 have n1:=hx1.cell n0
 have hb0:wb.heap.size≤w.heap.size:=hE.le
 have HRB:=Lib.hid (fun b (hb:(Value.slice AL H.length cL).ownBlock=some b)=>(h0.prps _ hmem).1.edb zfw hw0 (by rw [hLe];exact hb))
 have HGB:Hid (EdB w0 w gN):=Lib.hid (h0.nodes.edb zdc hw0 rfl)
 have HST:=Lib.hid (fun W (e:Ext w W)=>znb (A:=A) (k:=k) (hz.ext e) (zag hLab.own e) (Nat.le_trans hb0 e.le) hps hpl hv0 hset)
 have HSK:=Lib.hid (hsk ⟨g.nodes[L].id,g.nodes[L].labels,l'⟩ rfl)
 have q1:(0:Int)≤(L:Int):=by omega
 have q2:(L:Int) < (g.nodes.length:Int):=by omega
 have c0:=hx1.cell h.cells.1
 have HTO2:=Lib.hid HTO
 clear HTO
 have HW1:=Lib.hid hw1
 have HQ:=Lib.hid hq
 clear hw1 hq
 clear h h0 hw0 hE hv hhas hqs hDs hex hL hkey hgb hgl hmem hpv hLab hLe hnd n0 hb0 hpl hps hsk hset hmap hH hz hv0
 go_enter Tryz.func88,Tryz.ntmps88
 go_upto_region 1 with (fail)
 rw [←HW1.out,←HQ.out]
 go_upto_region 2 with ((go_at_call 90;((with_reducible refine (HND.out).mono ?_);rintro e w2 ⟨rfl,hx2⟩)))
 have hE2:Ext w w2:=hx1.trans hx2
 have hW2:Ext wb w2:=HX0.out.trans hE2
 have b0:=hx2.cell a0
 have b1:=hx2.cell a1
 have b4:=hx2.cell a4
 have b5:=hx2.cell a5
 have b6:=hx2.cell a6
 have b7:=hx2.cell a7
 have b8:=hx2.cell a8
 have b9:=hx2.cell a9
 have n2:=hx2.cell n1
 have d0:=hx2.cell c0
 clear a0 a1 a2 a3 a4 a5 a6 a7 a8 a9 c0 n1 hx1 hx2
 go_upto_region 8 with ((go_at_call 124;((with_reducible refine (zv _ _).mono ?_);rintro e w6 ⟨rfl,hw6⟩;obtain rfl:=hw6.symm)))
 go_upto_region 10 with (fail)
 have MKS:=Lib.hid (fun V (e:Ext w2 V)=>(⟨e.cell n2,e.cell b4,e.cell b5,e.cell b6,e.cell b7,e.cell b8,e.cell b9⟩:V.cell? ⟨gN,L*3+2,none⟩=some (.slice AL H.length cL)∧V.cell? ⟨q,4,none⟩=some (.string nm)∧V.cell? ⟨q,5,none⟩=some (.int .i64 v.kind)∧V.cell? ⟨q,6,none⟩=some (.int .i64 v.n)∧V.cell? ⟨q,7,none⟩=some (.int .i64 v.d)∧V.cell? ⟨q,8,none⟩=some (.string v.s)∧V.cell? ⟨q,9,none⟩=some (.slice A 0 k)))
 refine zac.start (S:=(fun V=>V.cell? ⟨gN,L*3+2,none⟩=some (.slice AL H.length cL)∧V.cell? ⟨q,4,none⟩=some (.string nm)∧V.cell? ⟨q,5,none⟩=some (.int .i64 v.kind)∧V.cell? ⟨q,6,none⟩=some (.int .i64 v.n)∧V.cell? ⟨q,7,none⟩=some (.int .i64 v.d)∧V.cell? ⟨q,8,none⟩=some (.string v.s)∧V.cell? ⟨q,9,none⟩=some (.slice A 0 k))) (E:=9) (by kernel_rfl) ?hs11041 (fun hHeld=>?go11041)
 case hs11041=>(exact MKS.out _ Qg)
 refine KP 0 (fun _=>hHeld) ?_;simp only [PU]
 refine KP 1 (fun _=>hHeld) ?_;simp only [PU]
 refine KP 2 (fun _=>hHeld) ?_;simp only [PU]
 refine KP 3 (fun _=>hHeld) ?_;simp only [PU]
 refine KE 4 hHeld ?_;simp only [PU]
 refine KP 5 (fun _=>hHeld) ?_;simp only [PU]
 refine KE 6 hHeld ?_;simp only [PU]
 refine KP 7 (fun _=>hHeld) ?_;simp only [PU]
 refine KE 8 hHeld ?_;simp only [PU]
 refine zac.ready (rs:=[9]) (by kernel_rfl) (by simp) ?_
 refine zal.cons (o:=⟨_,_,_,_,_,_⟩) rfl (fun K hK=>?step11051x0) ?more11051x0
 case more11051x0=>exact zal.nil
 go_simp
 (go_at_call 130;((with_reducible refine (HST.out _ Qg).mono ?_);rintro e w7 ⟨v7,H7,rfl,hm7,hR⟩;obtain ⟨A7,c7,rfl⟩:=zao hR.own;obtain ⟨-,-,s0,sf⟩:=HNK.out _ Qg w7 hR.grown;have sf0:=sf (L*3+2);clear sf))
 refine hK.out _ _ ?hS11051x0 (fun H11051=>?_)
 case hS11051x0=>first|(intro h;exact absurd h Qj)|(intro h;simp at h)
 clear hK K
 clear hHeld
 (try simp only [PU])
 refine KV 10 ?_;simp only [PU]
 refine KV 11 ?_;simp only [PU]
 refine zac.ready (rs:=[12]) (by kernel_rfl) (by simp) ?_
 refine zal.cons (o:=⟨_,_,_,_,_,_⟩) rfl (fun K hK=>?step11054x0) ?more11054x0
 case more11054x0=>exact zal.nil
 go_simp
 refine hK.out _ _ ?hS11054x0 (fun H11054=>?_)
 case hS11054x0=>first|(intro h;exact absurd h Qj)|(intro h;simp at h)
 clear hK K
 clear H11051
 refine zac.done (by kernel_rfl) ?_ _
 clear H11054
 obtain ⟨hO,hX⟩:=HTO2.out _ Qg w7 _ _ hR
 have hX8:=hX wb rfl (Ext.trans HX0.out Qg)
 rw [hm7,HSK.out] at hO
 go_end0
 exact ⟨rfl,hO,hX8,zb3.row Qg hR.grown HRB.out HGB.out _ _⟩
end Go.Proofs.YtfhekbacigoblaaGreatDoor
