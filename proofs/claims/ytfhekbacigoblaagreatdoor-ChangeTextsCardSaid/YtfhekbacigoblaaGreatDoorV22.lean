import Derived.Test.YtfhekbacigoblaaGreatDoorV21
import Derived.Test.YtfhekbacigoblaaGreatDoorV17
namespace Go.Proofs.YtfhekbacigoblaaGreatDoor
set_option maxRecDepth 100000
set_option maxHeartbeats 6400000
open Go.RowKit
theorem zcx {w:World} {b c o p:Nat} {v:Value} (h:b ≠ c):(w.setCell ⟨c,o,none⟩ v).cell? ⟨b,p,none⟩=w.cell? ⟨b,p,none⟩:=World.cell?_setCell_far w ⟨c,o,none⟩ ⟨b,p,none⟩ v (Ne.symm h)
theorem zqv {w W:World} {b o g:Nat} {v u0 u1 u2:Value} (h:w.cell? ⟨b,o,none⟩=some v) (hg:w.heap.size≤g) (e:Ext w W):(((W.setCell ⟨g,0,none⟩ u0).setCell ⟨g,1,none⟩ u1).setCell ⟨g,2,none⟩ u2).cell? ⟨b,o,none⟩=some v:=by
 have h1:=block_lt_of_cell h
 have hd:b ≠ g:=by simp at h1;omega
 exact ((zcx hd).trans ((zcx hd).trans ((zcx hd).trans (e.cell h))))
theorem zke {w W:World} {b o g:Nat} {v u0 u1 u2 u3 u4:Value} (h:w.cell? ⟨b,o,none⟩=some v) (hg:w.heap.size≤g) (e:Ext w W):(((((W.setCell ⟨g,0,none⟩ u0).setCell ⟨g,1,none⟩ u1).setCell ⟨g,2,none⟩ u2).setCell ⟨g,3,none⟩ u3).setCell ⟨g,4,none⟩ u4).cell? ⟨b,o,none⟩=some v:=by
 have h1:=block_lt_of_cell h
 have hd:b ≠ g:=by simp at h1;omega
 exact ((zcx hd).trans ((zcx hd).trans ((zcx hd).trans ((zcx hd).trans ((zcx hd).trans (e.cell h))))))
theorem znx (N:List zb) (E:List zf) (nn ne nn' ne':Int) (ok ok':Nat→Prop) (A B A' B':Option Addr) (c d c' d':Nat) (w:World) (ha:zp w ok A B ⟨N,E,nn,ne⟩) (hb:zp w ok' A' B' ⟨N,E,nn',ne'⟩) (hsn:∀ n ∈ N,∀ p ∈ n.props,szV p.v) (hse:∀ n ∈ E,∀ p ∈ n.props,szV p.v) :
  Calls Tryz.prog 22 #[.agg #[.slice A N.length c, .slice B E.length d, .int .i64 nn, .int .i64 ne], .agg #[.slice A' N.length c', .slice B' E.length d', .int .i64 nn', .int .i64 ne']] w fun e w'=>e= .returned (.bool true)∧Ext w w':=by
 obtain ⟨q1,w1,hq1,hw1,HB1,hx1⟩:=zb9 w (.slice A N.length c) (.slice B E.length d) (.int .i64 nn) (.int .i64 ne) 25
 obtain ⟨q2,w2,hq2,hw2,HB2,hx2⟩:=zb9 w1 (.slice A' N.length c') (.slice B' E.length d') (.int .i64 nn') (.int .i64 ne') 25
 have hx:Ext w w2:=hx1.trans hx2
 have HWQ:Hid (w2=(w.alloc (.cells #[.slice A N.length c, .slice B E.length d, .int .i64 nn, .int .i64 ne] 25)).alloc (.cells #[.slice A' N.length c', .slice B' E.length d', .int .i64 nn', .int .i64 ne'] 25)):=Lib.hid (by rw [hw2,hw1])
 have HQ1:=Lib.hid hq1
 have HQ2:Hid (q2=w.heap.size+1):=Lib.hid (by rw [hq2,hw1];simp)
 have a0:w2.cell? ⟨q1,0,none⟩=some (.slice A N.length c):=hx2.cell ((HB1.cell 0).trans rfl)
 have a1:w2.cell? ⟨q1,1,none⟩=some (.slice B E.length d):=hx2.cell ((HB1.cell 1).trans rfl)
 have e0:w2.cell? ⟨q2,0,none⟩=some (.slice A' N.length c'):=(HB2.cell 0).trans rfl
 have e1:w2.cell? ⟨q2,1,none⟩=some (.slice B' E.length d'):=(HB2.cell 1).trans rfl
 have HX:=Lib.hid hx
 have HAN:Hid (zf5 w ok A N):=Lib.hid ha.nodes
 have HBN:Hid (zf5 w ok' A' N):=Lib.hid hb.nodes
 have HAE:Hid (zgt w ok B E):=Lib.hid ha.edges
 have HBE:Hid (zgt w ok' B' E):=Lib.hid hb.edges
 have HSN:=Lib.hid hsn
 have HSE:=Lib.hid hse
 have hln:N.length≤140737488355328:=ha.nodes.len
 have hle:E.length≤140737488355328:=ha.edges.len
 have hn1:((N.length:Int) != (N.length:Int))=false:=by simp
 have hn2:((E.length:Int) != (E.length:Int))=false:=by simp
 clear hq1 hq2 hw1 hw2 HB1 HB2 hx1 hx2 hx ha hb hsn hse
 go_enter Tryz.func22,Tryz.ntmps22
 go_upto_region 1 with (fail)
 rw [←HWQ.out,←HQ2.out,←HQ1.out]
 go_wp2_with fail
 clear hn1 hn2
 go_loopw [5] (fun u W => ∃ (k:Nat),u= .int .i64 k∧k≤N.length∧Ext w2 W) (fun u _=>N.length - (intOf u).toNat)
 case atStart=>exact ⟨0,rfl,Nat.zero_le _,Ext.refl _⟩
 case round =>
  obtain ⟨k,rfl,hk,hE⟩:=hrel
  have d0:=hE.cell a0
  have f0:=hE.cell e0
  by_cases hlt:k < N.length
  ·obtain ⟨b,o,rfl,hc⟩:=HAN.out.2 Qk
   obtain ⟨b',o',rfl,hc'⟩:=HBN.out.2 Qk
   obtain ⟨-,x0,L1,m1,L2,m2,x1,-,hL,x2,-,hP⟩:=hc k hlt
   obtain ⟨-,y0,Y1,r1,Y2,r2,y1,-,hL',y2,-,hP'⟩:=hc' k hlt
   have hWr:Ext w wr:=HX.out.trans hE
   have HSS:=Lib.hid (fun W (e:Ext wr W)=>zqz N[k].labels ok ok' L1 Y1 m1 r1 W (hL.ext (hWr.trans e)) (hL'.ext (hWr.trans e)))
   have HSP:=Lib.hid (fun W (e:Ext wr W)=>zh7 N[k].props ok ok' L2 Y2 m2 r2 W (hP.ext (hWr.trans e)) (hP'.ext (hWr.trans e)) (HSN.out _ (List.getElem_mem hlt)))
   replace x0:=hWr.cell x0
   replace y0:=hWr.cell y0
   replace x1:=hWr.cell x1
   replace y1:=hWr.cell y1
   replace x2:=hWr.cell x2
   replace y2:=hWr.cell y2
   clear hc hc' hL hL' hP hP'
   generalize N[k].labels=Lb at *
   generalize N[k].props=Pp at *
   generalize N[k].id=xi at *
   have p1:(0:Int)≤(k:Int):=by omega
   have p2:(k:Int) < (N.length:Int):=by omega
   have MKA:=Lib.hid (fun V (e:Ext wr V)=>(⟨e.cell d0,e.cell f0,e.cell x0,e.cell x1,e.cell x2,e.cell y0,e.cell y1,e.cell y2,e⟩:V.cell? ⟨q1,0,none⟩=some (.slice (some ⟨b,o,none⟩) N.length c)∧V.cell? ⟨q2,0,none⟩=some (.slice (some ⟨b',o',none⟩) N.length c')∧V.cell? ⟨b,o+k*3,none⟩=some (.int .i64 xi)∧V.cell? ⟨b,o+k*3+1,none⟩=some (.slice L1 Lb.length m1)∧V.cell? ⟨b,o+k*3+2,none⟩=some (.slice L2 Pp.length m2)∧V.cell? ⟨b',o'+k*3,none⟩=some (.int .i64 xi)∧V.cell? ⟨b',o'+k*3+1,none⟩=some (.slice Y1 Lb.length r1)∧V.cell? ⟨b',o'+k*3+2,none⟩=some (.slice Y2 Pp.length r2)∧Ext wr V))
   have MKB:=Lib.hid (fun V gg u0 u1 u2 (hgg:wr.heap.size≤gg) (e:Ext wr V)=>(⟨zqv d0 hgg e,zqv f0 hgg e,zqv x0 hgg e,zqv x1 hgg e,zqv x2 hgg e,zqv y0 hgg e,zqv y1 hgg e,zqv y2 hgg e,(Ext.setCell (Ext.setCell (Ext.setCell e hgg _) hgg _) hgg _)⟩:(fun V=>V.cell? ⟨q1,0,none⟩=some (.slice (some ⟨b,o,none⟩) N.length c)∧V.cell? ⟨q2,0,none⟩=some (.slice (some ⟨b',o',none⟩) N.length c')∧V.cell? ⟨b,o+k*3,none⟩=some (.int .i64 xi)∧V.cell? ⟨b,o+k*3+1,none⟩=some (.slice L1 Lb.length m1)∧V.cell? ⟨b,o+k*3+2,none⟩=some (.slice L2 Pp.length m2)∧V.cell? ⟨b',o'+k*3,none⟩=some (.int .i64 xi)∧V.cell? ⟨b',o'+k*3+1,none⟩=some (.slice Y1 Lb.length r1)∧V.cell? ⟨b',o'+k*3+2,none⟩=some (.slice Y2 Pp.length r2)∧Ext wr V) ((((V.setCell ⟨gg,0,none⟩ u0).setCell ⟨gg,1,none⟩ u1).setCell ⟨gg,2,none⟩ u2))))
   go_upto_region 6 with (fail)
   go_cut [6,7] from 34 to 43 (fun va vb wx => ∃ (qa qb:Nat),va= .pointer (some ⟨qa,0,none⟩)∧vb= .pointer (some ⟨qb,0,none⟩)∧wx.cell? ⟨qa,0,none⟩=some (.int .i64 xi)∧wx.cell? ⟨qa,1,none⟩=some (.slice L1 Lb.length m1)∧wx.cell? ⟨qa,2,none⟩=some (.slice L2 Pp.length m2)∧wx.cell? ⟨qb,0,none⟩=some (.int .i64 xi)∧wx.cell? ⟨qb,1,none⟩=some (.slice Y1 Lb.length r1)∧wx.cell? ⟨qb,2,none⟩=some (.slice Y2 Pp.length r2)∧Ext wr wx)
   case first =>
    refine zac.start (S:=(fun V=>V.cell? ⟨q1,0,none⟩=some (.slice (some ⟨b,o,none⟩) N.length c)∧V.cell? ⟨q2,0,none⟩=some (.slice (some ⟨b',o',none⟩) N.length c')∧V.cell? ⟨b,o+k*3,none⟩=some (.int .i64 xi)∧V.cell? ⟨b,o+k*3+1,none⟩=some (.slice L1 Lb.length m1)∧V.cell? ⟨b,o+k*3+2,none⟩=some (.slice L2 Pp.length m2)∧V.cell? ⟨b',o'+k*3,none⟩=some (.int .i64 xi)∧V.cell? ⟨b',o'+k*3+1,none⟩=some (.slice Y1 Lb.length r1)∧V.cell? ⟨b',o'+k*3+2,none⟩=some (.slice Y2 Pp.length r2)∧Ext wr V)) (E:=13) (by kernel_rfl) ?hs21001 (fun hHeld=>?go21001)
    case hs21001=>(first|with_reducible exact MKB.out _ _ _ _ _ Qb Qg|exact MKA.out _ Qg)
    refine KP 0 (fun _=>hHeld) ?_;simp only [PU]
    refine KE 1 hHeld ?_;simp only [PU]
    refine KP 2 (fun _=>hHeld) ?_;simp only [PU]
    refine KP 3 (fun _=>hHeld) ?_;simp only [PU]
    refine KE 4 hHeld ?_;simp only [PU]
    refine KP 5 (fun _=>hHeld) ?_;simp only [PU]
    refine KE 6 hHeld ?_;simp only [PU]
    refine KP 7 (fun _=>hHeld) ?_;simp only [PU]
    refine KP 8 (fun _=>hHeld) ?_;simp only [PU]
    refine KE 9 hHeld ?_;simp only [PU]
    refine zac.ready (rs:=[10,11]) (by kernel_rfl) (by simp) ?_
    refine zal.cons (o:=⟨_,_,_,_,_,_⟩) rfl (fun K hK=>?step21012x0) ?more21012x0
    case more21012x0 =>
     refine zal.cons (o:=⟨_,_,_,_,_,_⟩) rfl (fun K hK=>?step21012x1) ?more21012x1
     case more21012x1=>exact zal.nil
     go_simp
     refine hK.out _ _ ?hS21012x1 (fun H21012=>?_)
     case hS21012x1=>intro _;first|(first|with_reducible exact MKB.out _ _ _ _ _ Qb Qg|exact MKA.out _ Qg)|((try dsimp only);(first|with_reducible exact MKB.out _ _ _ _ _ Qb Qg|exact MKA.out _ Qg))
     clear hK K
     clear hHeld
     (try simp only [PU])
     refine zac.ready (rs:=[10]) (by kernel_rfl) (by simp) ?_
     refine zal.cons (o:=⟨_,_,_,_,_,_⟩) rfl (fun K hK=>?step21013x0) ?more21013x0
     case more21013x0=>exact zal.nil
     go_simp
     refine hK.out _ _ ?hS21013x0 (fun H21013=>?_)
     case hS21013x0=>intro _;first|(first|with_reducible exact MKB.out _ _ _ _ _ Qb Qg|exact MKA.out _ Qg)|((try dsimp only);(first|with_reducible exact MKB.out _ _ _ _ _ Qb Qg|exact MKA.out _ Qg))
     clear hK K
     clear H21012
     (try simp only [PU])
     refine zac.ready (rs:=[12]) (by kernel_rfl) (by simp) ?_
     refine zal.cons (o:=⟨_,_,_,_,_,_⟩) rfl (fun K hK=>?step21014x0) ?more21014x0
     case more21014x0=>exact zal.nil
     go_simp
     refine hK.out _ _ ?hS21014x0 (fun H21014=>?_)
     case hS21014x0=>intro _;first|(first|with_reducible exact MKB.out _ _ _ _ _ Qb Qg|exact MKA.out _ Qg)|((try dsimp only);(first|with_reducible exact MKB.out _ _ _ _ _ Qb Qg|exact MKA.out _ Qg))
     clear hK K
     clear H21013
     refine zac.ready (rs:=[13]) (by kernel_rfl) (by simp) ?_
     refine zal.cons (o:=⟨_,_,_,_,_,_⟩) rfl (fun K hK=>?step21015x0) ?more21015x0
     case more21015x0=>exact zal.nil
     go_simp
     refine hK.out _ _ ?hS21015x0 (fun H21015=>?_)
     case hS21015x0=>first|(intro h;exact absurd h Qj)|(intro h;simp at h)
     clear hK K
     clear H21014
     refine zac.done (by kernel_rfl) ?_ _
     clear H21015
     go_wp2_with fail
     go_meet
     case rel=>exact ⟨_,_,rfl,rfl,by go_simp,by go_simp,by go_simp,by go_simp,by go_simp,by go_simp,Qg⟩
    go_simp
    refine hK.out _ _ ?hS21012x0 (fun H21012=>?_)
    case hS21012x0=>intro _;first|(first|with_reducible exact MKB.out _ _ _ _ _ Qb Qg|exact MKA.out _ Qg)|((try dsimp only);(first|with_reducible exact MKB.out _ _ _ _ _ Qb Qg|exact MKA.out _ Qg))
    clear hK K
    clear hHeld
    (try simp only [PU])
    refine zac.ready (rs:=[11]) (by kernel_rfl) (by simp) ?_
    refine zal.cons (o:=⟨_,_,_,_,_,_⟩) rfl (fun K hK=>?step21016x0) ?more21016x0
    case more21016x0=>exact zal.nil
    go_simp
    refine hK.out _ _ ?hS21016x0 (fun H21016=>?_)
    case hS21016x0=>intro _;first|(first|with_reducible exact MKB.out _ _ _ _ _ Qb Qg|exact MKA.out _ Qg)|((try dsimp only);(first|with_reducible exact MKB.out _ _ _ _ _ Qb Qg|exact MKA.out _ Qg))
    clear hK K
    clear H21012
    (try simp only [PU])
    refine zac.ready (rs:=[12]) (by kernel_rfl) (by simp) ?_
    refine zal.cons (o:=⟨_,_,_,_,_,_⟩) rfl (fun K hK=>?step21017x0) ?more21017x0
    case more21017x0=>exact zal.nil
    go_simp
    refine hK.out _ _ ?hS21017x0 (fun H21017=>?_)
    case hS21017x0=>intro _;first|(first|with_reducible exact MKB.out _ _ _ _ _ Qb Qg|exact MKA.out _ Qg)|((try dsimp only);(first|with_reducible exact MKB.out _ _ _ _ _ Qb Qg|exact MKA.out _ Qg))
    clear hK K
    clear H21016
    refine zac.ready (rs:=[13]) (by kernel_rfl) (by simp) ?_
    refine zal.cons (o:=⟨_,_,_,_,_,_⟩) rfl (fun K hK=>?step21018x0) ?more21018x0
    case more21018x0=>exact zal.nil
    go_simp
    refine hK.out _ _ ?hS21018x0 (fun H21018=>?_)
    case hS21018x0=>first|(intro h;exact absurd h Qj)|(intro h;simp at h)
    clear hK K
    clear H21017
    refine zac.done (by kernel_rfl) ?_ _
    clear H21018
    go_wp2_with fail
    go_meet
    case rel=>exact ⟨_,_,rfl,rfl,by go_simp,by go_simp,by go_simp,by go_simp,by go_simp,by go_simp,Qg⟩
   case rest =>
    clear MKA MKB
    obtain ⟨qa,qb,rfl,rfl,m0',m1',m2',n0',n1',n2',hx6⟩:=hcut
    have hi:(xi != xi)=false:=by simp
    go_wp2_with (first|(go_at_call 53;((with_reducible refine (HSS.out _ Qg).mono ?_);rintro e w7 ⟨rfl,hx7⟩;have hE7:Ext wr w7:=Ext.trans Qg hx7;replace m2':=hx7.cell m2';replace n2':=hx7.cell n2'))|(go_at_call 54;((with_reducible refine (HSP.out _ Qg).mono ?_);rintro e w8 ⟨rfl,hx8⟩;have hE8:Ext wr w8:=Ext.trans Qg hx8)))
    go_roundw
    case rel=>exact ⟨k+1,by go_num,by omega,hE.trans hE8⟩
    case measure=>simp [intOf];omega
  ·have p2:¬ (k:Int) < (N.length:Int):=by omega
   go_wp2_with fail
   clear d0 f0 p2 hlt
   go_loopw [8] (fun u W => ∃ (k:Nat),u= .int .i64 k∧k≤E.length∧Ext w2 W) (fun u _=>E.length - (intOf u).toNat)
   case atStart=>exact ⟨0,rfl,Nat.zero_le _,hE⟩
   case round =>
    obtain ⟨k,rfl,hk,hE⟩:=hrel
    have d1:=hE.cell a1
    have f1:=hE.cell e1
    by_cases hlt:k < E.length
    ·obtain ⟨b,o,rfl,hc⟩:=HAE.out.2 Qk
     obtain ⟨b',o',rfl,hc'⟩:=HBE.out.2 Qk
     obtain ⟨-,x0,x1,x2,x3,L2,m2,x4,-,hP⟩:=hc k hlt
     obtain ⟨-,y0,y1,y2,y3,Y2,r2,y4,-,hP'⟩:=hc' k hlt
     have hWr:Ext w wr:=HX.out.trans hE
     have HSP:=Lib.hid (fun W (e:Ext wr W)=>zh7 E[k].props ok ok' L2 Y2 m2 r2 W (hP.ext (hWr.trans e)) (hP'.ext (hWr.trans e)) (HSE.out _ (List.getElem_mem hlt)))
     replace x0:=hWr.cell x0
     replace y0:=hWr.cell y0
     replace x1:=hWr.cell x1
     replace y1:=hWr.cell y1
     replace x2:=hWr.cell x2
     replace y2:=hWr.cell y2
     replace x3:=hWr.cell x3
     replace y3:=hWr.cell y3
     replace x4:=hWr.cell x4
     replace y4:=hWr.cell y4
     clear hc hc' hP hP'
     generalize E[k].props=Pp at *
     generalize E[k].id=xi at *
     generalize E[k].frm=xf at *
     generalize E[k].to_=xt at *
     generalize E[k].typ=ty at *
     have p1:(0:Int)≤(k:Int):=by omega
     have p2:(k:Int) < (E.length:Int):=by omega
     have MKA:=Lib.hid (fun V (e:Ext wr V)=>(⟨e.cell d1,e.cell f1,e.cell x0,e.cell x1,e.cell x2,e.cell x3,e.cell x4,e.cell y0,e.cell y1,e.cell y2,e.cell y3,e.cell y4,e⟩:V.cell? ⟨q1,1,none⟩=some (.slice (some ⟨b,o,none⟩) E.length d)∧V.cell? ⟨q2,1,none⟩=some (.slice (some ⟨b',o',none⟩) E.length d')∧V.cell? ⟨b,o+k*5,none⟩=some (.int .i64 xi)∧V.cell? ⟨b,o+k*5+1,none⟩=some (.int .i64 xf)∧V.cell? ⟨b,o+k*5+2,none⟩=some (.int .i64 xt)∧V.cell? ⟨b,o+k*5+3,none⟩=some (.string ty)∧V.cell? ⟨b,o+k*5+4,none⟩=some (.slice L2 Pp.length m2)∧V.cell? ⟨b',o'+k*5,none⟩=some (.int .i64 xi)∧V.cell? ⟨b',o'+k*5+1,none⟩=some (.int .i64 xf)∧V.cell? ⟨b',o'+k*5+2,none⟩=some (.int .i64 xt)∧V.cell? ⟨b',o'+k*5+3,none⟩=some (.string ty)∧V.cell? ⟨b',o'+k*5+4,none⟩=some (.slice Y2 Pp.length r2)∧Ext wr V))
     have MKB:=Lib.hid (fun V gg u0 u1 u2 u3 u4 (hgg:wr.heap.size≤gg) (e:Ext wr V)=>(⟨zke d1 hgg e,zke f1 hgg e,zke x0 hgg e,zke x1 hgg e,zke x2 hgg e,zke x3 hgg e,zke x4 hgg e,zke y0 hgg e,zke y1 hgg e,zke y2 hgg e,zke y3 hgg e,zke y4 hgg e,(Ext.setCell (Ext.setCell (Ext.setCell (Ext.setCell (Ext.setCell e hgg _) hgg _) hgg _) hgg _) hgg _)⟩:(fun V=>V.cell? ⟨q1,1,none⟩=some (.slice (some ⟨b,o,none⟩) E.length d)∧V.cell? ⟨q2,1,none⟩=some (.slice (some ⟨b',o',none⟩) E.length d')∧V.cell? ⟨b,o+k*5,none⟩=some (.int .i64 xi)∧V.cell? ⟨b,o+k*5+1,none⟩=some (.int .i64 xf)∧V.cell? ⟨b,o+k*5+2,none⟩=some (.int .i64 xt)∧V.cell? ⟨b,o+k*5+3,none⟩=some (.string ty)∧V.cell? ⟨b,o+k*5+4,none⟩=some (.slice L2 Pp.length m2)∧V.cell? ⟨b',o'+k*5,none⟩=some (.int .i64 xi)∧V.cell? ⟨b',o'+k*5+1,none⟩=some (.int .i64 xf)∧V.cell? ⟨b',o'+k*5+2,none⟩=some (.int .i64 xt)∧V.cell? ⟨b',o'+k*5+3,none⟩=some (.string ty)∧V.cell? ⟨b',o'+k*5+4,none⟩=some (.slice Y2 Pp.length r2)∧Ext wr V) ((((((V.setCell ⟨gg,0,none⟩ u0).setCell ⟨gg,1,none⟩ u1).setCell ⟨gg,2,none⟩ u2).setCell ⟨gg,3,none⟩ u3).setCell ⟨gg,4,none⟩ u4))))
     go_upto_region 12 with (fail)
     go_cut [9,10] from 72 to 81 (fun va vb wx => ∃ (qa qb:Nat),va= .pointer (some ⟨qa,0,none⟩)∧vb= .pointer (some ⟨qb,0,none⟩)∧wx.cell? ⟨qa,0,none⟩=some (.int .i64 xi)∧wx.cell? ⟨qa,1,none⟩=some (.int .i64 xf)∧wx.cell? ⟨qa,2,none⟩=some (.int .i64 xt)∧wx.cell? ⟨qa,3,none⟩=some (.string ty)∧wx.cell? ⟨qa,4,none⟩=some (.slice L2 Pp.length m2)∧wx.cell? ⟨qb,0,none⟩=some (.int .i64 xi)∧wx.cell? ⟨qb,1,none⟩=some (.int .i64 xf)∧wx.cell? ⟨qb,2,none⟩=some (.int .i64 xt)∧wx.cell? ⟨qb,3,none⟩=some (.string ty)∧wx.cell? ⟨qb,4,none⟩=some (.slice Y2 Pp.length r2)∧Ext wr wx)
     case first =>
      refine zac.start (S:=(fun V=>V.cell? ⟨q1,1,none⟩=some (.slice (some ⟨b,o,none⟩) E.length d)∧V.cell? ⟨q2,1,none⟩=some (.slice (some ⟨b',o',none⟩) E.length d')∧V.cell? ⟨b,o+k*5,none⟩=some (.int .i64 xi)∧V.cell? ⟨b,o+k*5+1,none⟩=some (.int .i64 xf)∧V.cell? ⟨b,o+k*5+2,none⟩=some (.int .i64 xt)∧V.cell? ⟨b,o+k*5+3,none⟩=some (.string ty)∧V.cell? ⟨b,o+k*5+4,none⟩=some (.slice L2 Pp.length m2)∧V.cell? ⟨b',o'+k*5,none⟩=some (.int .i64 xi)∧V.cell? ⟨b',o'+k*5+1,none⟩=some (.int .i64 xf)∧V.cell? ⟨b',o'+k*5+2,none⟩=some (.int .i64 xt)∧V.cell? ⟨b',o'+k*5+3,none⟩=some (.string ty)∧V.cell? ⟨b',o'+k*5+4,none⟩=some (.slice Y2 Pp.length r2)∧Ext wr V)) (E:=13) (by kernel_rfl) ?hs21019 (fun hHeld=>?go21019)
      case hs21019=>(first|with_reducible exact MKB.out _ _ _ _ _ _ _ Qb Qg|exact MKA.out _ Qg)
      refine KP 0 (fun _=>hHeld) ?_;simp only [PU]
      refine KE 1 hHeld ?_;simp only [PU]
      refine KP 2 (fun _=>hHeld) ?_;simp only [PU]
      refine KP 3 (fun _=>hHeld) ?_;simp only [PU]
      refine KE 4 hHeld ?_;simp only [PU]
      refine KP 5 (fun _=>hHeld) ?_;simp only [PU]
      refine KE 6 hHeld ?_;simp only [PU]
      refine KP 7 (fun _=>hHeld) ?_;simp only [PU]
      refine KP 8 (fun _=>hHeld) ?_;simp only [PU]
      refine KE 9 hHeld ?_;simp only [PU]
      refine zac.ready (rs:=[10,11]) (by kernel_rfl) (by simp) ?_
      refine zal.cons (o:=⟨_,_,_,_,_,_⟩) rfl (fun K hK=>?step21030x0) ?more21030x0
      case more21030x0 =>
       refine zal.cons (o:=⟨_,_,_,_,_,_⟩) rfl (fun K hK=>?step21030x1) ?more21030x1
       case more21030x1=>exact zal.nil
       go_simp
       refine hK.out _ _ ?hS21030x1 (fun H21030=>?_)
       case hS21030x1=>intro _;first|(first|with_reducible exact MKB.out _ _ _ _ _ _ _ Qb Qg|exact MKA.out _ Qg)|((try dsimp only);(first|with_reducible exact MKB.out _ _ _ _ _ _ _ Qb Qg|exact MKA.out _ Qg))
       clear hK K
       clear hHeld
       (try simp only [PU])
       refine zac.ready (rs:=[10]) (by kernel_rfl) (by simp) ?_
       refine zal.cons (o:=⟨_,_,_,_,_,_⟩) rfl (fun K hK=>?step21031x0) ?more21031x0
       case more21031x0=>exact zal.nil
       go_simp
       refine hK.out _ _ ?hS21031x0 (fun H21031=>?_)
       case hS21031x0=>intro _;first|(first|with_reducible exact MKB.out _ _ _ _ _ _ _ Qb Qg|exact MKA.out _ Qg)|((try dsimp only);(first|with_reducible exact MKB.out _ _ _ _ _ _ _ Qb Qg|exact MKA.out _ Qg))
       clear hK K
       clear H21030
       (try simp only [PU])
       refine zac.ready (rs:=[12]) (by kernel_rfl) (by simp) ?_
       refine zal.cons (o:=⟨_,_,_,_,_,_⟩) rfl (fun K hK=>?step21032x0) ?more21032x0
       case more21032x0=>exact zal.nil
       go_simp
       refine hK.out _ _ ?hS21032x0 (fun H21032=>?_)
       case hS21032x0=>intro _;first|(first|with_reducible exact MKB.out _ _ _ _ _ _ _ Qb Qg|exact MKA.out _ Qg)|((try dsimp only);(first|with_reducible exact MKB.out _ _ _ _ _ _ _ Qb Qg|exact MKA.out _ Qg))
       clear hK K
       clear H21031
       refine zac.ready (rs:=[13]) (by kernel_rfl) (by simp) ?_
       refine zal.cons (o:=⟨_,_,_,_,_,_⟩) rfl (fun K hK=>?step21033x0) ?more21033x0
       case more21033x0=>exact zal.nil
       go_simp
       refine hK.out _ _ ?hS21033x0 (fun H21033=>?_)
       case hS21033x0=>first|(intro h;exact absurd h Qj)|(intro h;simp at h)
       clear hK K
       clear H21032
       refine zac.done (by kernel_rfl) ?_ _
       clear H21033
       go_wp2_with fail
       go_meet
       case rel=>exact ⟨_,_,rfl,rfl,by go_simp,by go_simp,by go_simp,by go_simp,by go_simp,by go_simp,by go_simp,by go_simp,by go_simp,by go_simp,Qg⟩
      go_simp
      refine hK.out _ _ ?hS21030x0 (fun H21030=>?_)
      case hS21030x0=>intro _;first|(first|with_reducible exact MKB.out _ _ _ _ _ _ _ Qb Qg|exact MKA.out _ Qg)|((try dsimp only);(first|with_reducible exact MKB.out _ _ _ _ _ _ _ Qb Qg|exact MKA.out _ Qg))
      clear hK K
      clear hHeld
      (try simp only [PU])
      refine zac.ready (rs:=[11]) (by kernel_rfl) (by simp) ?_
      refine zal.cons (o:=⟨_,_,_,_,_,_⟩) rfl (fun K hK=>?step21034x0) ?more21034x0
      case more21034x0=>exact zal.nil
      go_simp
      refine hK.out _ _ ?hS21034x0 (fun H21034=>?_)
      case hS21034x0=>intro _;first|(first|with_reducible exact MKB.out _ _ _ _ _ _ _ Qb Qg|exact MKA.out _ Qg)|((try dsimp only);(first|with_reducible exact MKB.out _ _ _ _ _ _ _ Qb Qg|exact MKA.out _ Qg))
      clear hK K
      clear H21030
      (try simp only [PU])
      refine zac.ready (rs:=[12]) (by kernel_rfl) (by simp) ?_
      refine zal.cons (o:=⟨_,_,_,_,_,_⟩) rfl (fun K hK=>?step21035x0) ?more21035x0
      case more21035x0=>exact zal.nil
      go_simp
      refine hK.out _ _ ?hS21035x0 (fun H21035=>?_)
      case hS21035x0=>intro _;first|(first|with_reducible exact MKB.out _ _ _ _ _ _ _ Qb Qg|exact MKA.out _ Qg)|((try dsimp only);(first|with_reducible exact MKB.out _ _ _ _ _ _ _ Qb Qg|exact MKA.out _ Qg))
      clear hK K
      clear H21034
      refine zac.ready (rs:=[13]) (by kernel_rfl) (by simp) ?_
      refine zal.cons (o:=⟨_,_,_,_,_,_⟩) rfl (fun K hK=>?step21036x0) ?more21036x0
      case more21036x0=>exact zal.nil
      go_simp
      refine hK.out _ _ ?hS21036x0 (fun H21036=>?_)
      case hS21036x0=>first|(intro h;exact absurd h Qj)|(intro h;simp at h)
      clear hK K
      clear H21035
      refine zac.done (by kernel_rfl) ?_ _
      clear H21036
      go_wp2_with fail
      go_meet
      case rel=>exact ⟨_,_,rfl,rfl,by go_simp,by go_simp,by go_simp,by go_simp,by go_simp,by go_simp,by go_simp,by go_simp,by go_simp,by go_simp,Qg⟩
     case rest =>
      clear MKA MKB
      obtain ⟨qa,qb,rfl,rfl,m0',m1',m2',m3',m4',n0',n1',n2',n3',n4',hx6⟩:=hcut
      have hi:(xi != xi)=false:=by simp
      have hf:(xf != xf)=false:=by simp
      have ht:(xt != xt)=false:=by simp
      go_wp2_with ((go_at_call 54;((with_reducible refine (HSP.out _ Qg).mono ?_);rintro e w8 ⟨rfl,hx8⟩;have hE8:Ext wr w8:=Ext.trans Qg hx8)))
      go_roundw
      case rel=>exact ⟨k+1,by go_num,by omega,hE.trans hE8⟩
      case measure=>simp [intOf];omega
    ·have p2:¬ (k:Int) < (E.length:Int):=by omega
     go_wp2_with fail
     go_ret
     exact ⟨rfl,HX.out.trans hE⟩
theorem zy7 (g:za) (ok ok':Nat→Prop) (A B A' B':Option Addr) (c d c' d':Nat) (w:World) (ha:zp w ok A B g) (hb:zp w ok' A' B' g) (hsz:SzA g) :
  Calls Tryz.prog 15 #[.agg #[.slice A g.nodes.length c, .slice B g.edges.length d, .int .i64 g.nn, .int .i64 g.ne], .agg #[.slice A' g.nodes.length c', .slice B' g.edges.length d', .int .i64 g.nn, .int .i64 g.ne]] w fun e w'=>e= .returned (.bool true)∧Ext w w':=by
 obtain ⟨q1,w1,hq1,hw1,HB1,hx1⟩:=zb9 w (.slice A g.nodes.length c) (.slice B g.edges.length d) (.int .i64 g.nn) (.int .i64 g.ne) 25
 obtain ⟨q2,w2,hq2,hw2,HB2,hx2⟩:=zb9 w1 (.slice A' g.nodes.length c') (.slice B' g.edges.length d') (.int .i64 g.nn) (.int .i64 g.ne) 25
 have hx:Ext w w2:=hx1.trans hx2
 have HWQ:Hid (w2=(w.alloc (.cells #[.slice A g.nodes.length c, .slice B g.edges.length d, .int .i64 g.nn, .int .i64 g.ne] 25)).alloc (.cells #[.slice A' g.nodes.length c', .slice B' g.edges.length d', .int .i64 g.nn, .int .i64 g.ne] 25)):=Lib.hid (by rw [hw2,hw1])
 have HQ1:=Lib.hid hq1
 have HQ2:Hid (q2=w.heap.size+1):=Lib.hid (by rw [hq2,hw1];simp)
 have a0:w2.cell? ⟨q1,0,none⟩=some (.slice A g.nodes.length c):=hx2.cell ((HB1.cell 0).trans rfl)
 have a1:w2.cell? ⟨q1,1,none⟩=some (.slice B g.edges.length d):=hx2.cell ((HB1.cell 1).trans rfl)
 have a2:w2.cell? ⟨q1,2,none⟩=some (.int .i64 g.nn):=hx2.cell ((HB1.cell 2).trans rfl)
 have a3:w2.cell? ⟨q1,3,none⟩=some (.int .i64 g.ne):=hx2.cell ((HB1.cell 3).trans rfl)
 have e0:w2.cell? ⟨q2,0,none⟩=some (.slice A' g.nodes.length c'):=(HB2.cell 0).trans rfl
 have e1:w2.cell? ⟨q2,1,none⟩=some (.slice B' g.edges.length d'):=(HB2.cell 1).trans rfl
 have e2:w2.cell? ⟨q2,2,none⟩=some (.int .i64 g.nn):=(HB2.cell 2).trans rfl
 have e3:w2.cell? ⟨q2,3,none⟩=some (.int .i64 g.ne):=(HB2.cell 3).trans rfl
 have HX:=Lib.hid hx
 have HSP:=Lib.hid (fun W (e:Ext w W)=>znx g.nodes g.edges g.nn g.ne g.nn g.ne ok ok' A B A' B' c d c' d' W (ha.ext e) (hb.ext e) (fun n hn p hp=>((hsz.nodes n hn).2 p hp).1) (fun n hn p hp=>((hsz.edges n hn).2 p hp).1))
 have hn1:(g.nn == g.nn)=true:=by simp
 have hn2:(g.ne == g.ne)=true:=by simp
 clear hq1 hq2 hw1 hw2 HB1 HB2 hx1 hx2 hx ha hb hsz
 go_enter Tryz.func15,Tryz.ntmps15
 go_upto_region 1 with (fail)
 rw [←HWQ.out,←HQ2.out,←HQ1.out]
 go_wp2_with ((go_at_call 22;((with_reducible refine (HSP.out _ (HX.out.trans Qg)).mono ?_);rintro e w5 ⟨rfl,hx5⟩)))
 go_ret
 exact ⟨rfl,HX.out.trans (Ext.trans Qg hx5)⟩
def SmR (g:za) (n most:Nat) (w:World) (e:Ending) (w':World):Prop := ∃ b,e= .returned (.bool b)∧(b=true→LtG g∧n≤most)∧Ext w w'
theorem z1f (g:za) (l:List ChG) (ok ok':Nat→Prop) (A B C:Option Addr) (c d m:Nat) (w:World) (hg:zp w ok A B g) (hs:SzA g) (hl:Chs w ok' C l) (hc:∀ c ∈ l,SzC c) :
  Calls Tryz.prog 9 #[.agg #[.slice A g.nodes.length c, .slice B g.edges.length d, .int .i64 g.nn, .int .i64 g.ne], .slice C l.length m] w (SmR g l.length 40 w):=by
 obtain ⟨q1,w1,hq1,hw1,HB1,hx⟩:=zb9 w (.slice A g.nodes.length c) (.slice B g.edges.length d) (.int .i64 g.nn) (.int .i64 g.ne) 25
 have a0:w1.cell? ⟨q1,0,none⟩=some (.slice A g.nodes.length c):=(HB1.cell 0).trans rfl
 have a1:w1.cell? ⟨q1,1,none⟩=some (.slice B g.edges.length d):=(HB1.cell 1).trans rfl
 have a2:w1.cell? ⟨q1,2,none⟩=some (.int .i64 g.nn):=(HB1.cell 2).trans rfl
 have a3:w1.cell? ⟨q1,3,none⟩=some (.int .i64 g.ne):=(HB1.cell 3).trans rfl
 have HX:=Lib.hid hx
 have HW:=Lib.hid hw1
 have HQ:=Lib.hid hq1
 have HS:=Lib.hid (fun W (e:Ext w1 W)=>zwq g ok A B c d W (hg.ext (hx.trans e)) hs)
 have HF:=Lib.hid (fun W (e:Ext w1 W)=>(show Calls Tryz.prog 23 #[.slice C l.length m, .int .i64 40] W (z09 l.length 40 W) from z0p l ok' C m 40 W (hl.ext (hx.trans e)) hc Qj))
 clear hx hw1 hq1 HB1 hg hs hl hc
 go_enter Tryz.func9,Tryz.ntmps9
 go_upto_region 1 with (fail)
 rw [←HW.out,←HQ.out]
 clear HW HQ
 go_wp2_with (first|(go_at_call 28;((with_reducible refine (HS.out _ Qg).mono ?_);rintro e w2 ⟨b,rfl,hb2,hx2⟩;cases b))|(go_at_call 23;((with_reducible refine (HF.out _ Qg).mono ?_);rintro e w3 ⟨b,rfl,hb3,hx3⟩;cases b)))
 all_goals go_ret
 ·exact ⟨false,rfl,(fun h=>by cases h),HX.out.trans Qg⟩
 ·exact ⟨false,rfl,(fun h=>by cases h),HX.out.trans (Ext.trans Qg hx3)⟩
 ·exact ⟨true,rfl,(fun _=>⟨hb2 (by trivial),hb3 (by trivial)⟩),HX.out.trans (Ext.trans Qg hx3)⟩
section
variable {g after:za} {l back:List ChG} {i:Nat} {k:Int}
end
theorem z1n {g g':za} {c:ChG} (he:zin g c= .ok g') (ok ok':Nat→Prop) (A B C:Option Addr) (cc d k:Nat) (w:World) (hz:zq w) (hg:zp w ok A B g) (hl:zk w ok' C c.v.l) (hk:c.v.l.length≤k) :
  Calls Tryz.prog 11 #[.agg #[.slice A g.nodes.length cc, .slice B g.edges.length d, .int .i64 g.nn, .int .i64 g.ne], .agg #[.int .i64 c.op, .int .i64 c.id, .int .i64 c.frm, .int .i64 c.to_, .string c.name, .int .i64 c.v.kind, .int .i64 c.v.n, .int .i64 c.v.d, .string c.v.s, .slice C c.v.l.length k]] w fun e w' => ∃ A' c' B' d',e= .returned (.tuple #[.agg #[.slice A' g'.nodes.length c', .slice B' g'.edges.length d', .int .i64 g'.nn, .int .i64 g'.ne], .int .i64 0])∧zp w' (fun b=>w.heap.size≤b) A' B' g'∧Ext w w':=by
 refine (zit g c ok ok' A B C cc d k w hz hg hl hk).mono ?_
 rw [he]
 rintro e w' ⟨⟨v,rfl,A',c',B',d',rfl,-,-,h1⟩,h2⟩
 exact ⟨A',c',B',d',rfl,h1,h2⟩
theorem z1h {g:za} {c:ChG} {f:Int} (he:zin g c= .error f) (ok ok':Nat→Prop) (A B C:Option Addr) (cc d k:Nat) (w:World) (hz:zq w) (hg:zp w ok A B g) (hl:zk w ok' C c.v.l) (hk:c.v.l.length≤k) :
  Calls Tryz.prog 11 #[.agg #[.slice A g.nodes.length cc, .slice B g.edges.length d, .int .i64 g.nn, .int .i64 g.ne], .agg #[.int .i64 c.op, .int .i64 c.id, .int .i64 c.frm, .int .i64 c.to_, .string c.name, .int .i64 c.v.kind, .int .i64 c.v.n, .int .i64 c.v.d, .string c.v.s, .slice C c.v.l.length k]] w fun e w'=>e= .returned (.tuple #[.agg #[.slice none 0 0, .slice none 0 0, .int .i64 0, .int .i64 0], .int .i64 f])∧Ext w w':=by
 refine (zit g c ok ok' A B C cc d k w hz hg hl hk).mono ?_
 rw [he]
 rintro e w' ⟨rfl,h2⟩
 exact ⟨rfl,h2⟩
theorem z0q (w:World):Calls Tryz.prog 15 #[.agg #[.slice none 0 0, .slice none 0 0, .int .i64 0, .int .i64 0], .agg #[.slice none 0 0, .slice none 0 0, .int .i64 0, .int .i64 0]] w fun e w'=>e= .returned (.bool true)∧Ext w w' :=
 zy7 ⟨[],[],0,0⟩ (fun _=>True) (fun _=>True) none none none none 0 0 0 0 w (zr8 w _ 0 0) (zr8 w _ 0 0) ⟨fun n hn=>absurd hn (by simp),fun n hn=>absurd hn (by simp)⟩
def z07 (g:za) (l:List ChG) (gx:za) (nx:Nat) (ex:Int):Prop:=(zov g l= .ok gx∧nx=l.length∧ex=0)∨(gx=⟨[],[],0,0⟩∧zov g l= .error (nx,ex))
theorem z07.ok {g gx gi:za} {l:List ChG} {nx:Nat} {ex:Int} (h:z07 g l gx nx ex) (hr:zov g l= .ok gi):gx=gi∧nx=l.length∧ex=0:=by
 rcases h with ⟨h,h1,h2⟩|⟨h1,h2⟩
 ·rw [hr] at h;injection h with h;exact ⟨h.symm,h1,h2⟩
 ·rw [hr] at h2;cases h2
structure HQ where
 p:zaf
 A:Option Addr
 k:Nat
def HQ.enc (h:HQ):List Value:=[.string h.p.key, .int .i64 h.p.v.kind, .int .i64 h.p.v.n, .int .i64 h.p.v.d, .string h.p.v.s, .slice h.A h.p.v.l.length h.k]
theorem HQ.enc_one (h:HQ):∀ u ∈ h.enc,u.oneCell'=true:=by
 intro u hu
 simp only [HQ.enc,List.mem_cons,List.not_mem_nil,or_false] at hu
 rcases hu with rfl|rfl|rfl|rfl|rfl|rfl <;> rfl
def KQ:zel HQ:=⟨HQ.enc,6,fun W ok h=>h.p.v.l.length≤h.k∧zk W ok h.A h.p.v.l,fun _=>rfl,fun h=>h.enc_one,fun _ _ _ _ _ hk hl=>⟨hl.1,zk.keep' hl.2 hk⟩⟩
theorem T_q:ElT Tryz.prog 55 54 KQ.size 80:=⟨Tryz.underlying55,⟨.agg #[.string ByteArray.empty, .int .i64 0, .int .i64 0, .int .i64 0, .string ByteArray.empty, .slice none 0 0],by kernel_rfl,rfl⟩,by decide⟩
abbrev zzn (W:World) (base:Nat) (ok:Nat→Prop) (v:Value) (hs:List HQ):Prop:=zad KQ 54 W base ok v hs
theorem zzn.props {W:World} {base:Nat} {ok ok':Nat→Prop} {v:Value} {hs:List HQ} (h:zzn W base ok v hs) (hm:hs.length≤1000000) (ho:∀ b,base≤b→ok' b) (hk:∀ b,ok b→ok' b):∃ A c,v= .slice A hs.length c∧hs.length≤c∧zay W ok' A (hs.map HQ.p) :=
 zad.slice (R:=zeh W ok') HQ.p h Qk (fun g o x hg hc hl=>⟨hc 0 _ rfl,zx.iff.2 ⟨ho g hg,x.A,x.k,⟨hc 1 _ rfl,hc 2 _ rfl,hc 3 _ rfl,hc 4 _ rfl,hc 5 _ rfl⟩,hl.1,hl.2.to (fun _ hb=>hk _ hb)⟩⟩)
theorem zxf {w:World} {ok:Nat→Prop} {v:Val} {A:Option Addr} {c:Nat} (hv:zk w ok A v.l) (hk:v.l.length≤c) (t:TypeId):zk (w.alloc (.cells #[.int .i64 v.kind, .int .i64 v.n, .int .i64 v.d, .string v.s, .slice A v.l.length c] t)) (fun _=>True) (some ⟨w.heap.size,0,none⟩) [v]:=by
 obtain ⟨q,w1,hq,hw1,hc,hx,-⟩:=zbt w v A c t
 refine ⟨by simp,fun _=>⟨w.heap.size,0,rfl,fun k hk0=>?_⟩⟩
 have h0:k=0:=by simp at hk0;omega
 subst h0
 rw [←hw1,←hq]
 exact zx.iff.2 ⟨trivial,A,c,by simpa using hc,hk,(hv.ext hx).to (fun _ _=>trivial)⟩
theorem zxm (l:List zaf):l.length≤zdx l:=by
 induction l with
 | nil=>simp
 | cons a t ih =>
  have h1:1≤wtV a.v:=by unfold wtV;omega
  unfold zdx at *;rw [List.map_cons,List.sum_cons,List.length_cons];omega
def Cp1 (v:Val) (w:World) (e:Ending) (w':World):Prop := ∃ b o m A2 c2,e= .returned (.slice (some ⟨b,o,none⟩) 1 m)∧(w'.cell? ⟨b,o,none⟩=some (.int .i64 v.kind)∧w'.cell? ⟨b,o+1,none⟩=some (.int .i64 v.n)∧w'.cell? ⟨b,o+2,none⟩=some (.int .i64 v.d)∧w'.cell? ⟨b,o+3,none⟩=some (.string v.s)∧w'.cell? ⟨b,o+4,none⟩=some (.slice A2 v.l.length c2))∧v.l.length≤c2∧zk w' (fun b=>w.heap.size≤b) A2 v.l∧Ext w w'
theorem zxi (v:Val) (ok:Nat→Prop) (A:Option Addr) (c:Nat) (w W:World) (hv:zk w ok A v.l) (hk:v.l.length≤c) (hm:wtV v≤2000) (e:Ext (w.alloc (.cells #[.int .i64 v.kind, .int .i64 v.n, .int .i64 v.d, .string v.s, .slice A v.l.length c] 28)) W) :
  Calls Tryz.prog 76 #[.slice (some ⟨w.heap.size,0,none⟩) 1 1] W (Cp1 v w):=by
 have h:=zym [v] (fun _=>True) (some ⟨w.heap.size,0,none⟩) 1 W (by rw [zfp,wtL];omega) ((zxf hv hk 28).ext e)
 have hsz:w.heap.size≤W.heap.size:=Nat.le_trans (Ext.le ((Ext.refl w).alloc _)) e.le
 refine (show Calls Tryz.prog 76 #[.slice (some ⟨w.heap.size,0,none⟩) 1 1] W _ from h).mono ?_
 rintro f w' ⟨A',c',rfl,h1,h2,h3⟩
 obtain ⟨b,o,rfl,hc⟩:=h2.2 (by simp)
 obtain ⟨-,A2,c2,⟨k0,k1,k2,k3,k4⟩,h4,h5⟩:=zx.iff.1 (hc 0 (by simp))
 simp only [Nat.zero_mul,Nat.add_zero] at k0 k1 k2 k3 k4
 exact ⟨b,o,c',A2,c2,rfl,⟨k0,k1,k2,k3,k4⟩,h4,h5.to (fun b hb=>Nat.le_trans hsz hb),(((Ext.refl w).alloc _).trans e).trans h3⟩
theorem zqg (l:List zaf) (ok:Nat→Prop) (B:Option Addr) (c:Nat) (w:World) (hv:zay w ok B l) (hm:zdx l≤2000) :
  Calls Tryz.prog 43 #[.slice B l.length c] w fun e w' => ∃ A' c',e= .returned (.slice A' l.length c')∧l.length≤c'∧zay w' (fun b=>w.heap.size≤b) A' l∧Ext w w':=by
 have HV:=Lib.hid hv
 have hlen:l.length≤2000:=Nat.le_trans (zxm l) hm
 have HM:=Lib.hid hm
 have HS0:=Lib.hid (zad.nil KQ 54 w w.heap.size (fun b=>w.heap.size≤b))
 clear hv hm
 go_enter Tryz.func43,Tryz.ntmps43
 go_wp2_with fail
 go_loopw [3,4] (fun v u W => ∃ (k:Nat) (hs:List HQ),u= .int .i64 k∧k≤l.length∧Hid (zzn W w.heap.size (fun b=>w.heap.size≤b) v hs)∧Hid (hs.map HQ.p=l.take k)∧Ext w W) (fun _ u _=>l.length - (intOf u).toNat)
 case atStart=>exact ⟨0,[],rfl,Nat.zero_le _,HS0,Lib.hid rfl,Ext.refl _⟩
 case round =>
  clear HS0
  obtain ⟨k,hs,rfl,hk,hO,hm,hE⟩:=hrel
  have hhl:hs.length≤k:=by have:=congrArg List.length hm.out;rw [List.length_map,List.length_take] at this;omega
  obtain ⟨A9,c9,rfl⟩:=zad.form hO.out
  by_cases hlt:k < l.length
  ·obtain ⟨b,o,hb,hc⟩:=HV.out.2 Qk
   subst hb
   obtain ⟨x0,hx5⟩:=hc k hlt
   obtain ⟨-,A',k',⟨x1,x2,x3,x4,x5⟩,hkl,hvals⟩:=zx.iff.1 hx5
   have MKZ:=Lib.hid (fun V (e:Ext w V)=>(⟨e.cell x0,e.cell x1,e.cell x2,e.cell x3,e.cell x4,e.cell x5⟩:V.cell? ⟨b,o+k*6,none⟩=some (.string l[k].key)∧V.cell? ⟨b,o+k*6+1,none⟩=some (.int .i64 l[k].v.kind)∧V.cell? ⟨b,o+k*6+2,none⟩=some (.int .i64 l[k].v.n)∧V.cell? ⟨b,o+k*6+3,none⟩=some (.int .i64 l[k].v.d)∧V.cell? ⟨b,o+k*6+4,none⟩=some (.string l[k].v.s)∧V.cell? ⟨b,o+k*6+5,none⟩=some (.slice A' l[k].v.l.length k')))
   replace x0:=hE.cell x0
   replace x1:=hE.cell x1
   replace x2:=hE.cell x2
   replace x3:=hE.cell x3
   replace x4:=hE.cell x4
   replace x5:=hE.cell x5
   have HMN:=Lib.hid (fun A1 k1=>(by rw [List.map_append,hm.out,List.take_succ_eq_append_getElem hlt];rfl:(hs ++ [(⟨⟨l[k].key,l[k].v⟩,A1,k1⟩:HQ)]).map HQ.p=l.take (k+1)))
   have hwt:wtV l[k].v≤2000:=Nat.le_trans (zxx (List.getElem_mem hlt)) HM.out
   have HCP:=Lib.hid (fun W (e:Ext (wr.alloc (.cells #[.int .i64 l[k].v.kind, .int .i64 l[k].v.n, .int .i64 l[k].v.d, .string l[k].v.s, .slice A' l[k].v.l.length k'] 28)) W)=>zxi l[k].v ok A' k' wr W (hvals.ext hE) hkl hwt e)
   have hown:=fun g (h:(Value.slice A9 hs.length c9).ownBlock=some g)=>(zad.lt hO.out h)
   have HHO:=Lib.hid hown
   have hle:=hE.le
   have hl2:hs.length+1≤8388608:=by omega
   clear hx5 hvals hwt hkl hc hown hhl
   generalize l[k].key=pk at *
   generalize l[k].v=pv at *
   have p1:(0:Int)≤(k:Int):=by omega
   have p2:(k:Int) < (l.length:Int):=by omega
   have MKC:=Lib.hid (fun V (e:Ext wr V)=>(⟨e.cell x0,e.cell x1,e.cell x2,e.cell x3,e.cell x4,e.cell x5⟩:V.cell? ⟨b,o+k*6,none⟩=some (.string pk)∧V.cell? ⟨b,o+k*6+1,none⟩=some (.int .i64 pv.kind)∧V.cell? ⟨b,o+k*6+2,none⟩=some (.int .i64 pv.n)∧V.cell? ⟨b,o+k*6+3,none⟩=some (.int .i64 pv.d)∧V.cell? ⟨b,o+k*6+4,none⟩=some (.string pv.s)∧V.cell? ⟨b,o+k*6+5,none⟩=some (.slice A' pv.l.length k')))
   go_upto_region 5 with (fail)
   refine zac.start (S:=(fun V=>V.cell? ⟨b,o+k*6,none⟩=some (.string pk)∧V.cell? ⟨b,o+k*6+1,none⟩=some (.int .i64 pv.kind)∧V.cell? ⟨b,o+k*6+2,none⟩=some (.int .i64 pv.n)∧V.cell? ⟨b,o+k*6+3,none⟩=some (.int .i64 pv.d)∧V.cell? ⟨b,o+k*6+4,none⟩=some (.string pv.s)∧V.cell? ⟨b,o+k*6+5,none⟩=some (.slice A' pv.l.length k'))) (E:=18) (by kernel_rfl) ?hs1 (fun hHeld=>?go1)
   case hs1=>(first|exact MKZ.out _ (hE8.grown hg6 (fun g2 h2=>(HHO.out g2 h2).1))|exact MKC.out _ (hD8.trans Qg)|exact MKC.out _ Qg)
   refine KP 0 (fun _=>hHeld) ?_;simp only [PU]
   refine KP 1 (fun _=>hHeld) ?_;simp only [PU]
   refine KP 2 (fun _=>hHeld) ?_;simp only [PU]
   refine KP 3 (fun _=>hHeld) ?_;simp only [PU]
   refine KP 4 (fun _=>hHeld) ?_;simp only [PU]
   refine KE 5 hHeld ?_;simp only [PU]
   refine KP 6 (fun _=>hHeld) ?_;simp only [PU]
   refine KP 7 (fun _=>hHeld) ?_;simp only [PU]
   refine KP 8 (fun _=>hHeld) ?_;simp only [PU]
   refine KP 9 (fun _=>hHeld) ?_;simp only [PU]
   refine KE 10 hHeld ?_;simp only [PU]
   refine zac.ready (rs:=[11]) (by kernel_rfl) (by simp) ?_
   refine zal.cons (o:=⟨_,_,_,_,_,_⟩) rfl (fun K hK=>?step13x0) ?more13x0
   case more13x0=>exact zal.nil
   go_simp
   refine hK.out _ _ ?hS13x0 (fun H13=>?_)
   case hS13x0=>intro _;first|(first|exact MKZ.out _ (hE8.grown hg6 (fun g2 h2=>(HHO.out g2 h2).1))|exact MKC.out _ (hD8.trans Qg)|exact MKC.out _ Qg)|((try dsimp only);(first|exact MKZ.out _ (hE8.grown hg6 (fun g2 h2=>(HHO.out g2 h2).1))|exact MKC.out _ (hD8.trans Qg)|exact MKC.out _ Qg))
   clear hK K
   clear hHeld
   (try simp only [PU])
   refine zac.ready (rs:=[12]) (by kernel_rfl) (by simp) ?_
   refine zal.cons (o:=⟨_,_,_,_,_,_⟩) rfl (fun K hK=>?step14x0) ?more14x0
   case more14x0=>exact zal.nil
   go_simp
   (refine (HCP.out _ Qg).mono ?_;rintro e w8 ⟨b8,o8,m8,A8,c8,rfl,⟨d0,d1,d2,d3,d4⟩,hk8,hv8,hx8⟩;have hD8:Ext wr w8:=hx8;have hE8:Ext w w8:=hE.trans hD8)
   refine hK.out _ _ ?hS14x0 (fun H14=>?_)
   case hS14x0=>intro _;first|(first|exact MKZ.out _ (hE8.grown hg6 (fun g2 h2=>(HHO.out g2 h2).1))|exact MKC.out _ (hD8.trans Qg)|exact MKC.out _ Qg)|((try dsimp only);(first|exact MKZ.out _ (hE8.grown hg6 (fun g2 h2=>(HHO.out g2 h2).1))|exact MKC.out _ (hD8.trans Qg)|exact MKC.out _ Qg))
   clear hK K
   clear H13
   (try simp only [PU])
   refine KP 13 (fun _=>(H14 (by kernel_rfl))) ?_;simp only [PU]
   refine zac.ready (rs:=[14]) (by kernel_rfl) (by simp) ?_
   refine zal.cons (o:=⟨_,_,_,_,_,_⟩) rfl (fun K hK=>?step16x0) ?more16x0
   case more16x0=>exact zal.nil
   (go_simp)
   refine hK.out _ _ ?hS16x0 (fun H16=>?_)
   case hS16x0=>intro _;first|(first|exact MKZ.out _ (hE8.grown hg6 (fun g2 h2=>(HHO.out g2 h2).1))|exact MKC.out _ (hD8.trans Qg)|exact MKC.out _ Qg)|((try dsimp only);(first|exact MKZ.out _ (hE8.grown hg6 (fun g2 h2=>(HHO.out g2 h2).1))|exact MKC.out _ (hD8.trans Qg)|exact MKC.out _ Qg))
   clear hK K
   clear H14
   (try simp only [PU])
   refine KP 15 (fun _=>(H16 (by kernel_rfl))) ?_;simp only [PU]
   refine zac.ready (rs:=[16]) (by kernel_rfl) (by simp) ?_
   refine zal.cons (o:=⟨_,_,_,_,_,_⟩) rfl (fun K hK=>?step18x0) ?more18x0
   case more18x0=>exact zal.nil
   go_simp
   refine hK.out _ _ ?hS18x0 (fun H18=>?_)
   case hS18x0=>intro _;first|(first|exact MKZ.out _ (hE8.grown hg6 (fun g2 h2=>(HHO.out g2 h2).1))|exact MKC.out _ (hD8.trans Qg)|exact MKC.out _ Qg)|((try dsimp only);(first|exact MKZ.out _ (hE8.grown hg6 (fun g2 h2=>(HHO.out g2 h2).1))|exact MKC.out _ (hD8.trans Qg)|exact MKC.out _ Qg))
   clear hK K
   clear H16
   (try simp only [PU])
   refine zac.ready (rs:=[17]) (by kernel_rfl) (by simp) ?_
   refine zal.cons (o:=⟨_,_,_,_,_,_⟩) rfl (fun K hK=>?step19x0) ?more19x0
   case more19x0=>exact zal.nil
   (refine zkz (v:= .slice A9 hs.length c9) (hs:=hs) T_q rfl (.tmp 11) (.tmp 27) rfl w8 rfl (zad.ext hO.out hD8) hE8.le ⟨⟨pk,pv⟩,A8,c8⟩ ⟨hk8,hv8.to (fun b2 hb2=>⟨Nat.le_trans hle hb2,fun e2=>by have h4:=(HHO.out b2 e2.symm).2;omega⟩)⟩ rfl _ rfl rfl hl2 Qj ?_;intro v6 w6 hO6 hg6 hd6)
   refine hK.out _ _ ?hS19x0 (fun H19=>?_)
   case hS19x0=>intro _;first|(first|exact MKZ.out _ (hE8.grown hg6 (fun g2 h2=>(HHO.out g2 h2).1))|exact MKC.out _ (hD8.trans Qg)|exact MKC.out _ Qg)|((try dsimp only);(first|exact MKZ.out _ (hE8.grown hg6 (fun g2 h2=>(HHO.out g2 h2).1))|exact MKC.out _ (hD8.trans Qg)|exact MKC.out _ Qg))
   clear hK K
   clear H18
   (try simp only [PU])
   refine zac.ready (rs:=[18]) (by kernel_rfl) (by simp) ?_
   refine zal.cons (o:=⟨_,_,_,_,_,_⟩) rfl (fun K hK=>?step20x0) ?more20x0
   case more20x0=>exact zal.nil
   go_simp
   refine hK.out _ _ ?hS20x0 (fun H20=>?_)
   case hS20x0=>first|(intro h;exact absurd h Qj)|(intro h;simp at h)
   clear hK K
   clear H19
   (try simp only [PU])
   refine zac.done (by kernel_rfl) ?_ _
   clear H20
   have hE6:Ext w w6:=hE8.grown hg6 (fun g2 h2=>(HHO.out g2 h2).1)
   go_wp2_with fail
   go_roundw
   case rel=>exact ⟨k+1,_,by go_num,by omega,Lib.hid hO6,Lib.hid (HMN.out _ _),hE6⟩
   case measure=>simp [intOf];omega
  ·have p2:¬ (k:Int) < (l.length:Int):=by omega
   have HMM:Hid (hs.map HQ.p=l):=Lib.hid (by rw [hm.out,List.take_of_length_le Qk])
   obtain ⟨A,c,h1,h2,h3⟩:=zzn.props hO.out Qk (fun _ h=>h) (fun _ h=>h)
   rw [HMM.out] at h3
   have hll:hs.length=l.length:=by rw [←HMM.out,List.length_map]
   rw [hll] at h1 h2 ⊢
   injection h1 with e1 _ e3
   subst e1 e3
   have HR:=Lib.hid h3
   have HL:=Lib.hid h2
   clear hll h2 h3 HMM hO hm hhl
   go_wp2_with fail
   go_ret
   exact ⟨_,_,rfl,HL.out,HR.out,hE⟩
structure HN where
 n:zb
 A:Option Addr
 c:Nat
 B:Option Addr
 d:Nat
def HN.enc (h:HN):List Value:=[.int .i64 h.n.id, .slice h.A h.n.labels.length h.c, .slice h.B h.n.props.length h.d]
theorem HN.enc_one (h:HN):∀ u ∈ h.enc,u.oneCell'=true:=by
 intro u hu
 simp only [HN.enc,List.mem_cons,List.not_mem_nil,or_false] at hu
 rcases hu with rfl|rfl|rfl <;> rfl
def KN:zel HN:=⟨HN.enc,3,fun W ok h=>h.n.labels.length≤h.c∧zcq W ok h.A h.n.labels∧h.n.props.length≤h.d∧zay W ok h.B h.n.props,fun _=>rfl,fun h=>h.enc_one,fun _ _ _ _ _ hk hl=>⟨hl.1,zcq.keep' hl.2.1 hk,hl.2.2.1,zay.keep' hl.2.2.2 hk⟩⟩
theorem T_n:ElT Tryz.prog 22 57 KN.size 56:=⟨Tryz.underlying22,⟨.agg #[.int .i64 0, .slice none 0 0, .slice none 0 0],by kernel_rfl,rfl⟩,by decide⟩
abbrev zut (W:World) (base:Nat) (ok:Nat→Prop) (v:Value) (hs:List HN):Prop:=zad KN 57 W base ok v hs
theorem zzy {W:World} {ok ok':Nat→Prop} {A:Option Addr} {l:List ByteArray} (h:zcq W ok A l) (ho:∀ b,ok b→ok' b):zcq W ok' A l:=zcq.keep (fun _ _ _ _ hc=>hc) ho h
theorem zng {W:World} {ok ok':Nat→Prop} {A:Option Addr} {l:List zaf} (h:zay W ok A l) (ho:∀ b,ok b→ok' b):zay W ok' A l:=zay.keep (fun _ _ _ _ hc=>hc) ho h
theorem zut.nodes {W:World} {base:Nat} {ok ok':Nat→Prop} {v:Value} {hs:List HN} (h:zut W base ok v hs) (hm:hs.length≤1000000) (ho:∀ b,base≤b→ok' b) (hk:∀ b,ok b→ok' b):∃ A c,v= .slice A hs.length c∧hs.length≤c∧zf5 W ok' A (hs.map HN.n) :=
 zad.slice (R:=zd4 W ok') HN.n h Qk (fun g o x hg hc hl=>⟨ho g hg,hc 0 _ rfl,x.A,x.c,x.B,x.d,hc 1 _ rfl,hl.1,zzy hl.2.1 hk,hc 2 _ rfl,hl.2.2.1,zng hl.2.2.2 hk⟩)
structure HE where
 e:zf
 B:Option Addr
 d:Nat
def HE.enc (h:HE):List Value:=[.int .i64 h.e.id, .int .i64 h.e.frm, .int .i64 h.e.to_, .string h.e.typ, .slice h.B h.e.props.length h.d]
theorem HE.enc_one (h:HE):∀ u ∈ h.enc,u.oneCell'=true:=by
 intro u hu
 simp only [HE.enc,List.mem_cons,List.not_mem_nil,or_false] at hu
 rcases hu with rfl|rfl|rfl|rfl|rfl <;> rfl
def KE5:zel HE:=⟨HE.enc,5,fun W ok h=>h.e.props.length≤h.d∧zay W ok h.B h.e.props,fun _=>rfl,fun h=>h.enc_one,fun _ _ _ _ _ hk hl=>⟨hl.1,zay.keep' hl.2 hk⟩⟩
theorem T_e:ElT Tryz.prog 23 59 KE5.size 64:=⟨Tryz.underlying23,⟨.agg #[.int .i64 0, .int .i64 0, .int .i64 0, .string ByteArray.empty, .slice none 0 0],by kernel_rfl,rfl⟩,by decide⟩
abbrev zy9 (W:World) (base:Nat) (ok:Nat→Prop) (v:Value) (hs:List HE):Prop:=zad KE5 59 W base ok v hs
theorem zy9.edges {W:World} {base:Nat} {ok ok':Nat→Prop} {v:Value} {hs:List HE} (h:zy9 W base ok v hs) (hm:hs.length≤1000000) (ho:∀ b,base≤b→ok' b) (hk:∀ b,ok b→ok' b):∃ A c,v= .slice A hs.length c∧hs.length≤c∧zgt W ok' A (hs.map HE.e) :=
 zad.slice (R:=zd2 W ok') HE.e h Qk (fun g o x hg hc hl=>⟨ho g hg,hc 0 _ rfl,hc 1 _ rfl,hc 2 _ rfl,hc 3 _ rfl,x.B,x.d,hc 4 _ rfl,hl.1,zng hl.2 hk⟩)
def KSt:zel ByteArray:=⟨fun s=>[.string s],1,fun _ _ _=>True,fun _=>rfl,fun _ _ hu=>by rw [List.mem_singleton.1 hu];rfl,fun _ _ _ _ _ _ _=>trivial⟩
theorem T_s:ElT Tryz.prog 52 9 KSt.size 16:=zwt
theorem OwnSt.strs {W:World} {base:Nat} {ok ok':Nat→Prop} {v:Value} {l:List ByteArray} (h:zad KSt 9 W base ok v l) (hm:l.length≤1000000) (ho:∀ b,base≤b→ok' b):∃ A c,v= .slice A l.length c∧l.length≤c∧zcq W ok' A l:=by
 have h1:=zad.slice (R:=zzj W ok') id h Qk (fun g o x hg hc _=>⟨ho g hg,hc 0 _ rfl⟩)
 rwa [List.map_id] at h1
theorem znj:∀ (l:List ByteArray) (j:Nat) (u:Value),(l.flatMap KSt.enc)[j]? = some u→∃ h:j < l.length,u= .string l[j]
 | [],j,u,h=>by simp at h
 | s :: t,0,u,h=>⟨by simp,by have e:some (.string s)=some u:=h;injection e with e;exact e.symm⟩
 | s :: t,j+1,u,h=>by
  obtain ⟨h1,h2⟩:=znj t j u h
  exact ⟨by simpa using h1,by simpa using h2⟩
theorem zwz {W:World} {ok:Nat→Prop} {A:Option Addr} {l:List ByteArray} (h:zcq W ok A l):∀ ad,A=some ad→∀ (j:Nat) u,(l.flatMap KSt.enc)[j]? = some u→W.cell? (ad.add j)=some u:=by
 intro ad hA j u hu
 obtain ⟨hj,rfl⟩:=znj l j u hu
 obtain ⟨b,o,hA2,hc⟩:=zh4 h hj
 rw [hA] at hA2
 injection hA2 with hA2
 subst hA2
 rw [show (⟨b,o,none⟩:Addr).add j=⟨b,o+j,none⟩ by unfold Addr.add;by_cases k:j=0 <;> simp [k]]
 exact hc
theorem ztr {W:World} {ok:Nat→Prop} {A:Option Addr} {l:List ByteArray} (h:zcq W ok A l):A=none→l.length=0:=by
 intro hA
 rcases Nat.eq_zero_or_pos l.length with h0|h0
 ·exact h0
 ·obtain ⟨b,o,h1,-⟩:=h.2 h0
  rw [hA] at h1;cases h1
section
variable {α:Type} {K:zel α} {P:Program} {t e bytes base:Nat} {v:Value} {hs:List α} {ok0:Nat→Prop}
theorem ztl (T:ElT P t e K.size bytes) {ops:Array Oper} {o:Oper} {a:Act} {w:World} {K2:Act→World→Prop} {Q:Exit→Act→World→Prop} {E:Prop} (hg:o.guard=none) (s y:Operand)
  (ho:o.op= .call { callee:= .builtin .append,args:=#[s,y],argTypes:=#[t,t] }) (hs':a.eval s=v) (h:zad K e w base ok0 v hs) (hb:base≤w.heap.size) (A:Option Addr) (m c:Nat) (hs2:List α) (hy:a.eval y= .slice A m c) (hm:m=hs2.length) (hA:A=none→m=0)
  (hc:∀ ad,A=some ad→∀ j u,(hs2.flatMap K.enc)[j]? = some u→w.cell? (ad.add j)=some u) (hl:∀ p ∈ hs2,K.lies w (fun b=>ok0 b∧some b ≠ v.ownBlock) p) (h63:hs.length+m≤8388608) (hbytes:bytes≤1000000)
  (hK:∀ v' w',zad K e w' base ok0 v' (hs ++ hs2)→w.grownBy w' v.ownBlock→(v'.ownBlock=v.ownBlock∨v'.ownBlock=some w.heap.size)→K2 (a.put o.dst v') w'):if Region.wanted o (yielded ops a.tmps)=true then Oper.wp P o a w K2 Q else E:=by
 obtain ⟨v',w',hr,h1,h2,h3⟩:=zx4 T o.type w h hb A m c hs2 hm hA hc hl h63 hbytes
 exact zau hg s y _ _ ho v _ hs' hy hr (hK v' w' h1 h2 h3)
end
theorem zm7 {α:Type} {K:zel α} {e base:Nat} {W:World} {ok0:Nat→Prop} {v:Value} {hs:List α} (h:zad K e W base ok0 v hs):zad K e W base (fun b=>ok0 b∧b < W.heap.size) v hs:=⟨h.own,fun p hp=>K.keep _ _ _ _ _ (fun _ _ _ hb hc=>⟨hc,⟨hb.1,block_lt_of_cell hc⟩,hb.2⟩) (h.lies p hp)⟩
theorem zn5 {w w':World} {q t:Nat} {cs:List Value} {r:Option Nat} (h:Blk w q t cs) (hg:w.grownBy w' r) (hne:r ≠ some q):Blk w' q t cs:=(hg.block q h.lt (fun e=>hne e.symm)).trans h
theorem zyv (w:World) (x f t0:Int) (s:ByteArray) (v4:Value) (t:TypeId):∃ (q:Nat) (w1:World),q=w.heap.size∧w1=w.alloc (.cells #[.int .i64 x, .int .i64 f, .int .i64 t0, .string s,v4] t)∧Blk w1 q t [.int .i64 x, .int .i64 f, .int .i64 t0, .string s,v4]∧Ext w w1 :=
 ⟨_,_,rfl,rfl,heap_alloc_new w _,(Ext.refl _).alloc _⟩
def GrR (g:za) (w:World) (e:Ending) (w':World):Prop := ∃ A' c' B' d',e= .returned (.agg #[.slice A' g.nodes.length c', .slice B' g.edges.length d', .int .i64 g.nn, .int .i64 g.ne])∧zp w' (fun b=>w.heap.size≤b) A' B' g∧Ext w w'
theorem z1d (g:za) (ok:Nat→Prop) (A B:Option Addr) (c d:Nat) (w:World) (hg:zp w ok A B g) (hlg:LtG g) :
  Calls Tryz.prog 16 #[.agg #[.slice A g.nodes.length c, .slice B g.edges.length d, .int .i64 g.nn, .int .i64 g.ne]] w (GrR g w):=by
 obtain ⟨q1,w1,hq1,hw1,HB1,hx1⟩:=zb9 w (.slice A g.nodes.length c) (.slice B g.edges.length d) (.int .i64 g.nn) (.int .i64 g.ne) 25
 obtain ⟨q2,w2,hq2,hw2,HB2,hx2⟩:=zl4 w1 25
 have hx:Ext w w2:=hx1.trans hx2
 have HWQ:Hid (w2=(w.alloc (.cells #[.slice A g.nodes.length c, .slice B g.edges.length d, .int .i64 g.nn, .int .i64 g.ne] 25)).alloc (.cells #[.slice none 0 0, .slice none 0 0, .int .i64 0, .int .i64 0] 25)):=Lib.hid (by rw [hw2,hw1])
 have HQ1:=Lib.hid hq1
 have HQ2:Hid (q2=w.heap.size+1):=Lib.hid (by rw [hq2,hw1];simp)
 have HQS:Hid (w.heap.size≤q2):=Lib.hid (by have:=HQ2.out;omega)
 have HZB:=Lib.hid HB2
 have HX:=Lib.hid hx
 have HNN:=Lib.hid hg.nodes
 have HEE:=Lib.hid hg.edges
 have HLT:=Lib.hid hlg
 have hnl:=hlg.nl
 have hel:=hlg.el
 have a0:w2.cell? ⟨q1,0,none⟩=some (.slice A g.nodes.length c):=hx2.cell ((HB1.cell 0).trans rfl)
 have a1:w2.cell? ⟨q1,1,none⟩=some (.slice B g.edges.length d):=hx2.cell ((HB1.cell 1).trans rfl)
 have a2:w2.cell? ⟨q1,2,none⟩=some (.int .i64 g.nn):=hx2.cell ((HB1.cell 2).trans rfl)
 have a3:w2.cell? ⟨q1,3,none⟩=some (.int .i64 g.ne):=hx2.cell ((HB1.cell 3).trans rfl)
 clear hq1 hq2 hw1 hw2 HB1 HB2 hx1 hx2 hx hg hlg
 go_enter Tryz.func16,Tryz.ntmps16
 go_upto_region 1 with (fail)
 rw [←HWQ.out,←HQ2.out,←HQ1.out]
 go_upto_region 2 with (fail)
 obtain ⟨q3,w3,hq3,hw3,HB3,hx3⟩:=zb9 w2 (.slice none 0 0) (.slice none 0 0) (.int .i64 g.nn) (.int .i64 g.ne) 25
 rw [←hw3,←hq3]
 have HQ3:Hid (w2.heap.size≤q3):=Lib.hid Qk
 have HB30:=Lib.hid HB3
 have HS0:=Lib.hid (zad.nil KN 57 w3 w2.heap.size (fun b=>w2.heap.size≤b∧b ≠ q3))
 clear hw3 hq3 HB3 HWQ HQ1 HQ2
 go_wp2_with fail
 go_loopw [4] (fun u W => ∃ (k:Nat) (vO:Value) (hs:List HN),u= .int .i64 k∧k≤g.nodes.length∧Hid (Blk W q3 25 [vO, .slice none 0 0, .int .i64 g.nn, .int .i64 g.ne])∧Hid (zut W w2.heap.size (fun b=>w2.heap.size≤b∧b ≠ q3) vO hs)∧Hid (hs.map HN.n=g.nodes.take k)∧Ext w2 W) (fun u _=>g.nodes.length - (intOf u).toNat)
 case atStart=>exact ⟨0,_,[],rfl,Nat.zero_le _,HB30,HS0,Lib.hid rfl,hx3⟩
 case round =>
  clear HS0 HB30 hx3
  obtain ⟨k,vO,hs,rfl,hk,hB,hO,hm,hE⟩:=hrel
  have i0:=hE.cell a0
  have i1:=hE.cell a1
  have hhl:hs.length≤k:=by have:=congrArg List.length hm.out;rw [List.length_map,List.length_take] at this;omega
  by_cases hlt:k < g.nodes.length
  ·obtain ⟨A9,c9,rfl⟩:=zad.form hO.out
   obtain ⟨b,o,rfl,hc⟩:=HNN.out.2 Qk
   obtain ⟨-,n0,L1,m1,L2,m2,n1,hle1,hL,n2,hle2,hP⟩:=hc k hlt
   have hWr:Ext w wr:=HX.out.trans hE
   replace n0:=hWr.cell n0
   replace n1:=hWr.cell n1
   replace n2:=hWr.cell n2
   obtain ⟨hll,hwt⟩:=HLT.out.nodes _ (List.getElem_mem hlt)
   obtain ⟨y,w6,hy,hw6,⟨z0,z1,z2⟩,hx6⟩:=zrg wr g.nodes[k].id (.slice L1 g.nodes[k].labels.length m1) (.slice L2 g.nodes[k].props.length m2) 57
   have HMN:=Lib.hid (fun Z1 e1 Z2 e2=>(by rw [List.map_append,hm.out,List.take_succ_eq_append_getElem hlt];rfl:(hs ++ [(⟨⟨g.nodes[k].id,g.nodes[k].labels,g.nodes[k].props⟩,Z1,e1,Z2,e2⟩:HN)]).map HN.n=g.nodes.take (k+1)))
   have HLS:=Lib.hid (fun W (e:Ext w6 W)=>hL.ext ((hWr.trans hx6).trans e))
   have HPR:=Lib.hid (fun W (e:Ext w6 W)=>zqg g.nodes[k].props ok L2 m2 W (hP.ext ((hWr.trans hx6).trans e)) hwt)
   have HB6:=Lib.hid (hB.out.ext hx6)
   have HO6:=Lib.hid (zad.ext hO.out hx6)
   have v0:w6.cell? ⟨q3,0,none⟩=some (.slice A9 hs.length c9):=(HB6.out.cell 0).trans rfl
   have hown:=fun g2 (h:(Value.slice A9 hs.length c9).ownBlock=some g2)=>(zad.lt hO.out h)
   have HOW:=Lib.hid hown
   have HNY:Hid ((Value.slice A9 hs.length c9).ownBlock ≠ some y):=Lib.hid (fun h=>by have:=(hown y h).2;omega)
   have HNQ:Hid ((Value.slice A9 hs.length c9).ownBlock ≠ some q3):=Lib.hid (zgp hO.out.own hB.out Qj)
   have HQ36:Hid (q3 < wr.heap.size):=Lib.hid hB.out.lt
   have HWS:Hid (w2.heap.size≤wr.heap.size∧wr.heap.size≤w6.heap.size):=Lib.hid ⟨hE.le,hx6.le⟩
   have HEW:Hid (Ext w2 w6):=Lib.hid (hE.trans hx6)
   have hl2:hs.length+1≤8388608:=by omega
   have hl3:([]:List ByteArray).length+g.nodes[k].labels.length≤8388608:=by simp;omega
   have hl4:g.nodes[k].labels.length≤1000000:=by omega
   clear hc hL hP hB hO hm hown hwt hll hhl hle1 hle2 hx6
   generalize g.nodes[k].labels=Lb at *
   generalize g.nodes[k].props=Pp at *
   generalize g.nodes[k].id=xi at *
   have p1:(0:Int)≤(k:Int):=by omega
   have p2:(k:Int) < (g.nodes.length:Int):=by omega
   go_upto_region 6 with (fail)
   rw [←hw6,←hy]
   clear hw6 hy n0 n1 n2 i0 i1 p1 p2
   have MKC:=Lib.hid (fun V (e:Ext w6 V)=>(⟨e.cell z0,e.cell z1,e.cell z2,e.cell v0⟩:V.cell? ⟨y,0,none⟩=some (.int .i64 xi)∧V.cell? ⟨y,1,none⟩=some (.slice L1 Lb.length m1)∧V.cell? ⟨y,2,none⟩=some (.slice L2 Pp.length m2)∧V.cell? ⟨q3,0,none⟩=some (.slice A9 hs.length c9)))
   have MKG:=Lib.hid (fun U V (e:Ext w6 U) (hg:U.grownBy V (Value.slice A9 hs.length c9).ownBlock)=>(⟨hg.cell (e.cell z0) (fun h=>HNY.out h.symm),hg.cell (e.cell z1) (fun h=>HNY.out h.symm),hg.cell (e.cell z2) (fun h=>HNY.out h.symm),hg.cell (e.cell v0) (fun h=>HNQ.out h.symm)⟩:V.cell? ⟨y,0,none⟩=some (.int .i64 xi)∧V.cell? ⟨y,1,none⟩=some (.slice L1 Lb.length m1)∧V.cell? ⟨y,2,none⟩=some (.slice L2 Pp.length m2)∧V.cell? ⟨q3,0,none⟩=some (.slice A9 hs.length c9)))
   have HKB:Hid (∀ b2,w6.heap.size≤b2→(w2.heap.size≤b2∧b2 ≠ q3)∧some b2 ≠ (Value.slice A9 hs.length c9).ownBlock):=Lib.hid (fun b2 h2=>⟨⟨by have:=HWS.out;omega,by have:=HQ36.out;have:=HWS.out;omega⟩,fun e2=>by have:=(HOW.out b2 e2.symm).2;have:=HWS.out;omega⟩)
   refine zac.start (S:=(fun V=>V.cell? ⟨y,0,none⟩=some (.int .i64 xi)∧V.cell? ⟨y,1,none⟩=some (.slice L1 Lb.length m1)∧V.cell? ⟨y,2,none⟩=some (.slice L2 Pp.length m2)∧V.cell? ⟨q3,0,none⟩=some (.slice A9 hs.length c9))) (E:=15) (by kernel_rfl) ?hs1 (fun hHeld=>?go1)
   case hs1=>(first|exact MKG.out _ _ hD8 hg9|exact MKC.out _ (hD8.trans Qg)|exact MKC.out _ (hD7.trans Qg)|exact MKC.out _ Qg)
   refine KP 0 (fun _=>hHeld) ?_;simp only [PU]
   refine KE 1 hHeld ?_;simp only [PU]
   refine KP 2 (fun _=>hHeld) ?_;simp only [PU]
   refine KE 3 hHeld ?_;simp only [PU]
   refine KP 5 (fun _=>hHeld) ?_;simp only [PU]
   refine KE 6 hHeld ?_;simp only [PU]
   refine KP 8 (fun _=>hHeld) ?_;simp only [PU]
   refine KE 9 hHeld ?_;simp only [PU]
   refine zac.ready (rs:=[4]) (by kernel_rfl) (by simp) ?_
   refine zal.cons (o:=⟨_,_,_,_,_,_⟩) rfl (fun K hK=>?step10x0) ?more10x0
   case more10x0=>exact zal.nil
   go_simp
   refine hK.out _ _ ?hS10x0 (fun H10=>?_)
   case hS10x0=>intro _;first|(first|exact MKG.out _ _ hD8 hg9|exact MKC.out _ (hD8.trans Qg)|exact MKC.out _ (hD7.trans Qg)|exact MKC.out _ Qg)|((try dsimp only);(first|exact MKG.out _ _ hD8 hg9|exact MKC.out _ (hD8.trans Qg)|exact MKC.out _ (hD7.trans Qg)|exact MKC.out _ Qg))
   clear hK K
   clear hHeld
   (try simp only [PU])
   refine zac.ready (rs:=[7]) (by kernel_rfl) (by simp) ?_
   refine zal.cons (o:=⟨_,_,_,_,_,_⟩) rfl (fun K hK=>?step11x0) ?more11x0
   case more11x0=>exact zal.nil
   (refine ztl (hs:=[]) T_s rfl (.tmp 29) (.tmp 31) rfl rfl (zad.ext (zad.made KSt 9 w6 w6.heap.size (fun _=>True) (Nat.le_refl _)) Qg) (Ext.le Qg) L1 Lb.length m1 Lb rfl rfl (ztr (HLS.out _ (Ext.refl _))) (zwz (HLS.out _ Qg)) (fun _ _=>trivial) hl3 Qj ?_;intro v7 w7 hO7 hg7 hd7;have hD7:Ext w6 w7:=Ext.grown Qg hg7 (fun b2 hb2=>Nat.le_of_eq (Option.some.inj hb2));obtain ⟨A7,c7,hv7,hl7,hS7⟩:=OwnSt.strs (ok':=fun b2=>w6.heap.size≤b2) hO7 hl4 (fun _ h=>h);rw [List.nil_append] at hv7 hl7 hS7;subst hv7)
   refine hK.out _ _ ?hS11x0 (fun H11=>?_)
   case hS11x0=>intro _;first|(first|exact MKG.out _ _ hD8 hg9|exact MKC.out _ (hD8.trans Qg)|exact MKC.out _ (hD7.trans Qg)|exact MKC.out _ Qg)|((try dsimp only);(first|exact MKG.out _ _ hD8 hg9|exact MKC.out _ (hD8.trans Qg)|exact MKC.out _ (hD7.trans Qg)|exact MKC.out _ Qg))
   clear hK K
   clear H10
   (try simp only [PU])
   refine zac.ready (rs:=[10]) (by kernel_rfl) (by simp) ?_
   refine zal.cons (o:=⟨_,_,_,_,_,_⟩) rfl (fun K hK=>?step12x0) ?more12x0
   case more12x0=>exact zal.nil
   go_simp
   (refine (HPR.out _ (hD7.trans Qg)).mono ?_;rintro e w8 ⟨A8,c8,rfl,hl8,hP8,hx8⟩;have hD78:Ext w7 w8:=Ext.trans Qg hx8;have hD8:Ext w6 w8:=hD7.trans hD78;replace hP8:=zng (ok':=fun b=>w6.heap.size≤b) hP8 (fun b2 hb2=>Nat.le_trans (Nat.le_trans hD7.le (Ext.le Qg)) hb2))
   refine hK.out _ _ ?hS12x0 (fun H12=>?_)
   case hS12x0=>intro _;first|(first|exact MKG.out _ _ hD8 hg9|exact MKC.out _ (hD8.trans Qg)|exact MKC.out _ (hD7.trans Qg)|exact MKC.out _ Qg)|((try dsimp only);(first|exact MKG.out _ _ hD8 hg9|exact MKC.out _ (hD8.trans Qg)|exact MKC.out _ (hD7.trans Qg)|exact MKC.out _ Qg))
   clear hK K
   clear H11
   (try simp only [PU])
   refine KP 11 (fun _=>(H12 (by kernel_rfl))) ?_;simp only [PU]
   refine zac.ready (rs:=[12]) (by kernel_rfl) (by simp) ?_
   refine zal.cons (o:=⟨_,_,_,_,_,_⟩) rfl (fun K hK=>?step14x0) ?more14x0
   case more14x0=>exact zal.nil
   go_simp
   refine hK.out _ _ ?hS14x0 (fun H14=>?_)
   case hS14x0=>intro _;first|(first|exact MKG.out _ _ hD8 hg9|exact MKC.out _ (hD8.trans Qg)|exact MKC.out _ (hD7.trans Qg)|exact MKC.out _ Qg)|((try dsimp only);(first|exact MKG.out _ _ hD8 hg9|exact MKC.out _ (hD8.trans Qg)|exact MKC.out _ (hD7.trans Qg)|exact MKC.out _ Qg))
   clear hK K
   clear H12
   (try simp only [PU])
   refine zac.ready (rs:=[13]) (by kernel_rfl) (by simp) ?_
   refine zal.cons (o:=⟨_,_,_,_,_,_⟩) rfl (fun K hK=>?step15x0) ?more15x0
   case more15x0=>exact zal.nil
   (refine zkz (v:= .slice A9 hs.length c9) (hs:=hs) T_n rfl (.tmp 26) (.tmp 37) rfl w8 rfl (zad.ext HO6.out hD8) (by have:=hD8.le;have:=HWS.out;omega) ⟨⟨xi,Lb,Pp⟩,A7,c7,A8,c8⟩ ⟨hl7,zzy (hS7.ext hD78) HKB.out,hl8,zng hP8 HKB.out⟩ rfl _ rfl rfl hl2 Qj ?_;intro v9 w9 hO9 hg9 hd9;obtain ⟨A10,c10,hv10⟩:=zad.form hO9;rw [List.length_append,List.length_singleton] at hv10;subst hv10;have hB9:=zn5 (HB6.out.ext hD8) hg9 HNQ.out;have s0:w9.cell? ⟨q3,0,none⟩=some (.slice A9 hs.length c9):=(hB9.cell 0).trans rfl;have t0:=hB9.frz 0)
   refine hK.out _ _ ?hS15x0 (fun H15=>?_)
   case hS15x0=>intro _;first|(first|exact MKG.out _ _ hD8 hg9|exact MKC.out _ (hD8.trans Qg)|exact MKC.out _ (hD7.trans Qg)|exact MKC.out _ Qg)|((try dsimp only);(first|exact MKG.out _ _ hD8 hg9|exact MKC.out _ (hD8.trans Qg)|exact MKC.out _ (hD7.trans Qg)|exact MKC.out _ Qg))
   clear hK K
   clear H14
   (try simp only [PU])
   refine KP 14 (fun _=>(H15 (by kernel_rfl))) ?_;simp only [PU]
   refine zac.ready (rs:=[15]) (by kernel_rfl) (by simp) ?_
   refine zal.cons (o:=⟨_,_,_,_,_,_⟩) rfl (fun K hK=>?step17x0) ?more17x0
   case more17x0=>exact zal.nil
   go_simp
   refine hK.out _ _ ?hS17x0 (fun H17=>?_)
   case hS17x0=>first|(intro h;exact absurd h Qj)|(intro h;simp at h)
   clear hK K
   clear H15
   refine zac.done (by kernel_rfl) ?_ _
   clear H17
   have hE9:Ext w2 w9:=(HEW.out.trans hD8).grown hg9 (fun g2 h2=>(HOW.out g2 h2).1)
   have hB10:=Lib.hid (hB9.setC 0 (.slice A10 (hs.length+1) c10))
   have hO10:=Lib.hid (zad.grown hO9 (za8 w9 q3 0 (.slice A10 (hs.length+1) c10)) (.inr (zgp hO9.own hB9 Qj)) (fun b2 hb2 h2=>h2.2 (by injection hb2)))
   have hE10:=Lib.hid (Ext.setCell hE9 (p:=⟨q3,0,none⟩) HQ3.out (.slice A10 (hs.length+1) c10))
   go_wp2_with fail
   go_roundw
   case rel=>exact ⟨k+1,_,_,by go_num,by omega,hB10,hO10,Lib.hid (HMN.out _ _ _ _),hE10.out⟩
   case measure=>simp [intOf];omega
  ·have p2:¬ (k:Int) < (g.nodes.length:Int):=by omega
   have hhs:hs.map HN.n=g.nodes:=by rw [hm.out,List.take_of_length_le Qk]
   have HHS:=Lib.hid hhs
   have HHL:Hid (hs.length≤40):=Lib.hid Qk
   have HBL:=hB
   have HOL:Hid (zut wr w2.heap.size (fun b=>(w2.heap.size≤b∧b ≠ q3)∧b < wr.heap.size) vO hs):=Lib.hid (zm7 hO.out)
   obtain ⟨wL,hwL⟩:∃ W,W=wr:=⟨_,rfl⟩
   rw [←hwL] at HOL HBL hE i0 i1 ⊢
   have hLE:=Lib.hid hE
   have HQL:Hid (q3 < wL.heap.size):=Lib.hid HBL.out.lt
   have HOK:=Lib.hid (fun b2 (h:vO.ownBlock=some b2)=>zad.lt HOL.out h)
   have HS0:=Lib.hid (zad.nil KE5 59 wL wL.heap.size (fun b=>wL.heap.size≤b))
   clear hhs hm hhl hlt hB hO hwL
   go_wp2_with fail
   clear i0 i1 p2
   go_loopw [6] (fun u W => ∃ (k:Nat) (vE:Value) (es:List HE),u= .int .i64 k∧k≤g.edges.length∧Hid (Blk W q3 25 [vO,vE, .int .i64 g.nn, .int .i64 g.ne])∧Hid (zut W w2.heap.size (fun b=>(w2.heap.size≤b∧b ≠ q3)∧b < wL.heap.size) vO hs)∧Hid (zy9 W wL.heap.size (fun b=>wL.heap.size≤b) vE es)∧Hid (es.map HE.e=g.edges.take k)∧Ext w2 W∧wL.heap.size≤W.heap.size) (fun u _=>g.edges.length - (intOf u).toNat)
   case atStart=>exact ⟨0,_,[],rfl,Nat.zero_le _,HBL,HOL,HS0,Lib.hid rfl,hE,Nat.le_refl _⟩
   case round =>
    clear HS0 HBL HOL hE
    obtain ⟨k,vE,es,rfl,hk,hB,hN,hO,hm,hE,hLs⟩:=hrel
    have i1:=hE.cell a1
    have hhl:es.length≤k:=by have:=congrArg List.length hm.out;rw [List.length_map,List.length_take] at this;omega
    by_cases hlt:k < g.edges.length
    ·obtain ⟨A9,c9,rfl⟩:=zad.form hO.out
     obtain ⟨b,o,rfl,hc⟩:=HEE.out.2 Qk
     obtain ⟨-,n0,n1,n2,n3,L2,m2,n4,hle2,hP⟩:=hc k hlt
     have hWr:Ext w wr:=HX.out.trans hE
     replace n0:=hWr.cell n0
     replace n1:=hWr.cell n1
     replace n2:=hWr.cell n2
     replace n3:=hWr.cell n3
     replace n4:=hWr.cell n4
     have hwt:=HLT.out.edges _ (List.getElem_mem hlt)
     obtain ⟨y,w6,hy,hw6,hY6,hx6⟩:=zyv wr g.edges[k].id g.edges[k].frm g.edges[k].to_ g.edges[k].typ (.slice L2 g.edges[k].props.length m2) 59
     have z4:w6.cell? ⟨y,4,none⟩=some (.slice L2 g.edges[k].props.length m2):=(hY6.cell 4).trans rfl
     have HMN:=Lib.hid (fun Z2 e2=>(by rw [List.map_append,hm.out,List.take_succ_eq_append_getElem hlt];rfl:(es ++ [(⟨⟨g.edges[k].id,g.edges[k].frm,g.edges[k].to_,g.edges[k].typ,g.edges[k].props⟩,Z2,e2⟩:HE)]).map HE.e=g.edges.take (k+1)))
     have HPR:=Lib.hid (fun W (e:Ext w6 W)=>zqg g.edges[k].props ok L2 m2 W (hP.ext ((hWr.trans hx6).trans e)) hwt)
     have HB6:=Lib.hid (hB.out.ext hx6)
     have HO6:=Lib.hid (zad.ext (zm7 hO.out) hx6)
     have HN6:=Lib.hid (zad.ext hN.out hx6)
     have HY6:=Lib.hid hY6
     have hown:=fun g2 (h:(Value.slice A9 es.length c9).ownBlock=some g2)=>(zad.lt hO.out h)
     have HOW:=Lib.hid hown
     have HNY:Hid ((Value.slice A9 es.length c9).ownBlock ≠ some y):=Lib.hid (fun h=>by have:=(hown y h).2;omega)
     have HYS:Hid (wL.heap.size≤y∧w2.heap.size≤y∧q3 < y∧y < w6.heap.size∧y=wr.heap.size):=Lib.hid ⟨by omega,by have:=hE.le;omega,by have:=hB.out.lt;omega,hY6.lt,hy⟩
     have HWS:Hid (wL.heap.size≤w6.heap.size):=Lib.hid (Nat.le_trans hLs hx6.le)
     have HEW:Hid (Ext w2 w6):=Lib.hid (hE.trans hx6)
     have hl2:es.length+1≤8388608:=by omega
     have HWR:Hid (wr.heap.size≤w6.heap.size):=Lib.hid hx6.le
     clear hc hP hB hO hN hm hown hwt hhl hle2 hx6 hY6
     generalize g.edges[k].props=Pp at *
     generalize g.edges[k].id=xi at *
     generalize g.edges[k].frm=xf at *
     generalize g.edges[k].to_=xt at *
     generalize g.edges[k].typ=ty at *
     have p1:(0:Int)≤(k:Int):=by omega
     have p2:(k:Int) < (g.edges.length:Int):=by omega
     go_upto_region 11 with (fail)
     rw [←hw6,←hy]
     clear hw6 hy n0 n1 n2 n3 n4 i1 p1 p2
     go_upto_region 12 with ((go_at_call 43;((with_reducible refine (HPR.out _ Qg).mono ?_);rintro e w8 ⟨A8,c8,rfl,hl8,hP8,hx8⟩;have hD8:Ext w6 w8:=Ext.trans Qg hx8;have hY8:=HY6.out.ext hD8;have s4:w8.cell? ⟨y,4,none⟩=some (.slice L2 Pp.length m2):=(hY8.cell 4).trans rfl;have t4:=hY8.frz 4)))
     replace hP8:=zng (ok':=fun b=>w6.heap.size≤b) hP8 (fun b2 hb2=>Nat.le_trans (Ext.le Qg) hb2)
     have hG9:=za8 w8 y 4 (.slice A8 Pp.length c8)
     have hY9:=hY8.setC 4 (.slice A8 Pp.length c8)
     obtain ⟨w9,hw9⟩:∃ W,W=w8.setCell ⟨y,4,none⟩ (.slice A8 Pp.length c8):=⟨_,rfl⟩
     rw [←hw9] at hG9 hY9 ⊢
     have hE9:Ext w2 w9:=(HEW.out.trans hD8).grown hG9 (fun b2 hb2=>by injection hb2 with hb2;rw [←hb2];exact HYS.out.2.1)
     have hB9:=zn5 (HB6.out.ext hD8) hG9 (fun h=>by injection h with h;have:=HYS.out;omega)
     have hO9:=zad.to (ok1:=fun b=>wL.heap.size≤b) (zad.grown (zad.ext HO6.out hD8) hG9 (.inr HNY.out) (fun b2 hb2 h2=>by injection hb2 with hb2;have:=h2.2;have:=HYS.out;omega)) (fun _ h=>h.1)
     have hN9:=zad.grown (zad.ext HN6.out hD8) hG9 (.inr (fun h=>by have:=(HOK.out y h).2;have:=HYS.out;omega)) (fun b2 hb2 h2=>by injection hb2 with hb2;have:=h2.2;have:=HYS.out;omega)
     have hP9:zay w9 (fun b=>w6.heap.size≤b) A8 Pp:=zay.keep' hP8 (fun b2 o2 x2 hb2 hc2=>⟨hG9.cell hc2 (fun h=>by have h3:b2=y:=Option.some.inj h;have h4:w6.heap.size≤b2:=hb2;have:=HYS.out;omega),hb2⟩)
     have hW9:wL.heap.size≤w9.heap.size:=Nat.le_trans (Nat.le_trans HWS.out hD8.le) hG9.size
     have HKB:Hid (∀ b2,w6.heap.size≤b2→wL.heap.size≤b2∧some b2 ≠ (Value.slice A9 es.length c9).ownBlock):=Lib.hid (fun b2 h2=>⟨by have:=HWS.out;omega,fun e2=>by have:=(HOW.out b2 e2.symm).2;have:=HYS.out;omega⟩)
     have v1:w9.cell? ⟨q3,1,none⟩=some (.slice A9 es.length c9):=(hB9.cell 1).trans rfl
     have u0:w9.cell? ⟨y,0,none⟩=some (.int .i64 xi):=(hY9.cell 0).trans rfl
     have u1:w9.cell? ⟨y,1,none⟩=some (.int .i64 xf):=(hY9.cell 1).trans rfl
     have u2:w9.cell? ⟨y,2,none⟩=some (.int .i64 xt):=(hY9.cell 2).trans rfl
     have u3:w9.cell? ⟨y,3,none⟩=some (.string ty):=(hY9.cell 3).trans rfl
     have u4:w9.cell? ⟨y,4,none⟩=some (.slice A8 Pp.length c8):=(hY9.cell 4).trans rfl
     have HNO:Hid ((Value.slice A9 es.length c9).ownBlock ≠ some q3):=Lib.hid (zgp hO9.own hB9 Qj)
     have HB9:=Lib.hid hB9
     have HO9:=Lib.hid hO9
     have HN9:=Lib.hid hN9
     have HP9:=Lib.hid hP9
     have HE9:=Lib.hid hE9
     clear hB9 hO9 hN9 hP9 hE9 hw9 hG9 hY9 hY8 hP8 hx8 s4 t4 z4
     go_wp2_with (at_builtin;go_loud (refine zf0 (v:= .slice A9 es.length c9) (hs:=es) T_e rfl (.tmp 57) (.tmp 59) rfl w9 rfl HO9.out hW9 (⟨⟨xi,xf,xt,ty,Pp⟩,A8,c8⟩:HE) ⟨hl8,zng HP9.out HKB.out⟩ rfl _ rfl rfl hl2 Qj ?_);intro vX wX hOX hgX hdX;obtain ⟨A11,c11,hv11⟩:=zad.form hOX;rw [List.length_append,List.length_singleton] at hv11;subst hv11;have hBX:=zn5 HB9.out hgX HNO.out;have s1:wX.cell? ⟨q3,1,none⟩=some (.slice A9 es.length c9):=(hBX.cell 1).trans rfl;have t1:=hBX.frz 1)
     have hNX:=zad.grown HN9.out hgX (by cases hv:vO.ownBlock with|none=>exact .inl rfl|some b2=>exact .inr (fun h=>by have h1:=HOK.out b2 hv;have h2:=HOW.out b2 h.symm;omega)) (fun b2 hb2 h2=>by have:=h2.2;have:=HOW.out b2 hb2.symm;omega)
     have hBZ:=Lib.hid (hBX.setC 1 (.slice A11 (es.length+1) c11))
     have hOZ:=Lib.hid (zad.grown hOX (za8 wX q3 1 (.slice A11 (es.length+1) c11)) (.inr (zgp hOX.own hBX Qj)) (fun b2 hb2 h2=>by injection hb2 with hb2;have:=HQL.out;omega))
     have hNZ:=Lib.hid (zad.grown hNX (za8 wX q3 1 (.slice A11 (es.length+1) c11)) (.inr (zgp hNX.own hBX Qj)) (fun b2 hb2 h2=>by injection hb2 with hb2;exact h2.1.2 hb2))
     have hEZ:=Lib.hid (Ext.setCell (HE9.out.grown hgX (fun g2 h2=>by have:=(HOW.out g2 h2).1;have:=hLE.out.le;omega)) (p:=⟨q3,1,none⟩) HQ3.out (.slice A11 (es.length+1) c11))
     have hLZ:Hid (wL.heap.size≤(wX.setCell ⟨q3,1,none⟩ (.slice A11 (es.length+1) c11)).heap.size):=Lib.hid (Nat.le_trans (Nat.le_trans hW9 hgX.size) (za8 wX q3 1 (.slice A11 (es.length+1) c11)).size)
     clear hNX hBX hOX hgX hdX
     go_roundw
     case rel=>exact ⟨k+1,_,_,by go_num,by omega,hBZ,hNZ,hOZ,Lib.hid (HMN.out _ _),hEZ.out,hLZ.out⟩
     case measure=>simp [intOf];omega
    ·have p2:¬ (k:Int) < (g.edges.length:Int):=by omega
     have hee:es.map HE.e=g.edges:=by rw [hm.out,List.take_of_length_le Qk]
     have he2:es.length=g.edges.length:=by rw [←hee,List.length_map]
     have hn2:hs.length=g.nodes.length:=by rw [←HHS.out,List.length_map]
     obtain ⟨An,cn,hvn,-,hNN⟩:=zut.nodes (ok':=fun b=>w2.heap.size≤b) hN.out Qk (fun _ h=>h) (fun b hb=>hb.1.1)
     obtain ⟨Ae,ce,hve,-,hEN⟩:=zy9.edges (ok':=fun b=>w2.heap.size≤b) hO.out Qk (fun b hb=>Nat.le_trans hLE.out.le hb) (fun b hb=>Nat.le_trans hLE.out.le hb)
     rw [hn2] at hvn
     rw [he2] at hve
     rw [HHS.out] at hNN
     rw [hee] at hEN
     have HGA:Hid (∀ (W:World),wr.grownBy W (some q2)→zp W (fun b=>w.heap.size≤b) An Ae g):=Lib.hid (fun W hg=>zp.keep' (⟨hNN,hEN⟩:zp wr (fun b=>w2.heap.size≤b) An Ae g) (fun b2 o2 x2 hb2 hc2=>⟨hg.cell hc2 (fun h=>by have h3:b2=q2:=Option.some.inj h;have h4:w2.heap.size≤b2:=hb2;have h5:=HZB.out.lt;omega),Nat.le_trans HX.out.le hb2⟩))
     subst hvn hve
     have hBr:=hB.out
     have x0:wr.cell? ⟨q3,0,none⟩=some (.slice An g.nodes.length cn):=(hBr.cell 0).trans rfl
     have x1:wr.cell? ⟨q3,1,none⟩=some (.slice Ae g.edges.length ce):=(hBr.cell 1).trans rfl
     have x2:wr.cell? ⟨q3,2,none⟩=some (.int .i64 g.nn):=(hBr.cell 2).trans rfl
     have x3:wr.cell? ⟨q3,3,none⟩=some (.int .i64 g.ne):=(hBr.cell 3).trans rfl
     have HZr:=HZB.out.ext hE
     have s0:wr.cell? ⟨q2,0,none⟩=some (.slice none 0 0):=(HZr.cell 0).trans rfl
     have s1:wr.cell? ⟨q2,1,none⟩=some (.slice none 0 0):=(HZr.cell 1).trans rfl
     have s2:wr.cell? ⟨q2,2,none⟩=some (.int .i64 0):=(HZr.cell 2).trans rfl
     have s3:wr.cell? ⟨q2,3,none⟩=some (.int .i64 0):=(HZr.cell 3).trans rfl
     have f0:=HZr.frz 0
     have f1:=HZr.frz 1
     have f2:=HZr.frz 2
     have f3:=HZr.frz 3
     obtain ⟨w8,hw8⟩:∃ W,W=(((wr.setCell ⟨q2,0,none⟩ (.slice An g.nodes.length cn)).setCell ⟨q2,1,none⟩ (.slice Ae g.edges.length ce)).setCell ⟨q2,2,none⟩ (.int .i64 g.nn)).setCell ⟨q2,3,none⟩ (.int .i64 g.ne):=⟨_,rfl⟩
     have hB8:=zed HZr (.slice An g.nodes.length cn) (.slice Ae g.edges.length ce) (.int .i64 g.nn) (.int .i64 g.ne)
     have hG8:=zep wr q2 (.slice An g.nodes.length cn) (.slice Ae g.edges.length ce) (.int .i64 g.nn) (.int .i64 g.ne)
     rw [←hw8] at hB8 hG8
     have HX8:=Lib.hid ((HX.out.trans hE).grown hG8 (fun b2 hb2=>by injection hb2 with hb2;rw [←hb2];exact HQS.out))
     have HG8:Hid (zp w8 (fun b=>w.heap.size≤b) An Ae g):=Lib.hid (HGA.out _ hG8)
     have r0:w8.cell? ⟨q2,0,none⟩=some (.slice An g.nodes.length cn):=(hB8.cell 0).trans rfl
     have r1:w8.cell? ⟨q2,1,none⟩=some (.slice Ae g.edges.length ce):=(hB8.cell 1).trans rfl
     have r2:w8.cell? ⟨q2,2,none⟩=some (.int .i64 g.nn):=(hB8.cell 2).trans rfl
     have r3:w8.cell? ⟨q2,3,none⟩=some (.int .i64 g.ne):=(hB8.cell 3).trans rfl
     clear HZr hB8 hG8 hNN hEN hB hN hO hm hE hLs hhl hee he2 hn2 hBr HGA
     go_wp2_with fail
     (try simp only [Exit.inBlock,Exit.then])
     (try rw [←hw8])
     clear hw8 s0 s1 s2 s3 f0 f1 f2 f3
     refine bodyPost_ret (v:= .agg #[.slice An g.nodes.length cn, .slice Ae g.edges.length ce, .int .i64 g.nn, .int .i64 g.ne]) (by simp [results,Tryz.results16,go_sem,r0,r1,r2,r3] <;> rfl) rfl ?_
     exact ⟨_,_,_,_,rfl,HG8.out,HX8.out⟩
end Go.Proofs.YtfhekbacigoblaaGreatDoor
