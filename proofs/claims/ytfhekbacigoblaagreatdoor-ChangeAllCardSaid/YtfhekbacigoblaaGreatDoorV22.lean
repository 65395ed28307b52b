import Derived.Test.YtfhekbacigoblaaGreatDoorV21
namespace Go.Proofs.YtfhekbacigoblaaGreatDoor
open Go.RowKit
theorem cell_other {w:World} {b c o p:Nat} {v:Value} (h:b ≠ c):(w.setCell ⟨c,o,none⟩ v).cell? ⟨b,p,none⟩=w.cell? ⟨b,p,none⟩:=World.cell?_setCell_far w ⟨c,o,none⟩ ⟨b,p,none⟩ v (Ne.symm h)
theorem far3 {w W:World} {b o g:Nat} {v u0 u1 u2:Value} (h:w.cell? ⟨b,o,none⟩=some v) (hg:w.heap.size≤g) (e:Ext w W):(((W.setCell ⟨g,0,none⟩ u0).setCell ⟨g,1,none⟩ u1).setCell ⟨g,2,none⟩ u2).cell? ⟨b,o,none⟩=some v:=by
 have h1:=block_lt_of_cell h
 have hd:b ≠ g:=by simp at h1;omega
 exact ((cell_other hd).trans ((cell_other hd).trans ((cell_other hd).trans (e.cell h))))
theorem far4 {w W:World} {b o g:Nat} {v u0 u1 u2 u3:Value} (h:w.cell? ⟨b,o,none⟩=some v) (hg:w.heap.size≤g) (e:Ext w W):((((W.setCell ⟨g,0,none⟩ u0).setCell ⟨g,1,none⟩ u1).setCell ⟨g,2,none⟩ u2).setCell ⟨g,3,none⟩ u3).cell? ⟨b,o,none⟩=some v:=by
 have h1:=block_lt_of_cell h
 have hd:b ≠ g:=by simp at h1;omega
 exact ((cell_other hd).trans ((cell_other hd).trans ((cell_other hd).trans ((cell_other hd).trans (e.cell h)))))
theorem far5 {w W:World} {b o g:Nat} {v u0 u1 u2 u3 u4:Value} (h:w.cell? ⟨b,o,none⟩=some v) (hg:w.heap.size≤g) (e:Ext w W):(((((W.setCell ⟨g,0,none⟩ u0).setCell ⟨g,1,none⟩ u1).setCell ⟨g,2,none⟩ u2).setCell ⟨g,3,none⟩ u3).setCell ⟨g,4,none⟩ u4).cell? ⟨b,o,none⟩=some v:=by
 have h1:=block_lt_of_cell h
 have hd:b ≠ g:=by simp at h1;omega
 exact ((cell_other hd).trans ((cell_other hd).trans ((cell_other hd).trans ((cell_other hd).trans ((cell_other hd).trans (e.cell h))))))
set_option maxRecDepth 100000 in
set_option maxHeartbeats 6400000 in
theorem r7_SameParts (N:List NodeG) (E:List EdgeG) (nn ne nn' ne':Int) (ok ok':Nat→Prop) (A B A' B':Option Addr) (c d c' d':Nat) (w:World) (ha:GraphAt w ok A B ⟨N,E,nn,ne⟩) (hb:GraphAt w ok' A' B' ⟨N,E,nn',ne'⟩) (hsn:∀ n ∈ N,∀ p ∈ n.props,szV p.v) (hse:∀ n ∈ E,∀ p ∈ n.props,szV p.v) :
  Calls Tryz.prog 22 #[.agg #[.slice A N.length c, .slice B E.length d, .int .i64 nn, .int .i64 ne], .agg #[.slice A' N.length c', .slice B' E.length d', .int .i64 nn', .int .i64 ne']] w fun e w'=>e = .returned (.bool true)∧Ext w w':=by
 obtain ⟨q1,w1,hq1,hw1,HB1,hx1⟩:=box_gr w (.slice A N.length c) (.slice B E.length d) (.int .i64 nn) (.int .i64 ne) 25
 obtain ⟨q2,w2,hq2,hw2,HB2,hx2⟩:=box_gr w1 (.slice A' N.length c') (.slice B' E.length d') (.int .i64 nn') (.int .i64 ne') 25
 have hx:Ext w w2:=hx1.trans hx2
 have HWQ:Hid (w2=(w.alloc (.cells #[.slice A N.length c, .slice B E.length d, .int .i64 nn, .int .i64 ne] 25)).alloc (.cells #[.slice A' N.length c', .slice B' E.length d', .int .i64 nn', .int .i64 ne'] 25)):=Lib.hid (by rw [hw2,hw1])
 have HQ1:=Lib.hid hq1
 have HQ2:Hid (q2=w.heap.size+1):=Lib.hid (by rw [hq2,hw1];simp)
 have a0:w2.cell? ⟨q1,0,none⟩=some (.slice A N.length c):=hx2.cell ((HB1.cell 0).trans rfl)
 have a1:w2.cell? ⟨q1,1,none⟩=some (.slice B E.length d):=hx2.cell ((HB1.cell 1).trans rfl)
 have e0:w2.cell? ⟨q2,0,none⟩=some (.slice A' N.length c'):=(HB2.cell 0).trans rfl
 have e1:w2.cell? ⟨q2,1,none⟩=some (.slice B' E.length d'):=(HB2.cell 1).trans rfl
 have HX:=Lib.hid hx
 have HAN:Hid (Nodes w ok A N):=Lib.hid ha.nodes
 have HBN:Hid (Nodes w ok' A' N):=Lib.hid hb.nodes
 have HAE:Hid (Edges w ok B E):=Lib.hid ha.edges
 have HBE:Hid (Edges w ok' B' E):=Lib.hid hb.edges
 have HSN:=Lib.hid hsn
 have HSE:=Lib.hid hse
 have hln:N.length≤140737488355328:=ha.nodes.len
 have hle:E.length≤140737488355328:=ha.edges.len
 have hn1:((N.length:Int) != (N.length:Int))=false:=by simp
 have hn2:((E.length:Int) != (E.length:Int))=false:=by simp
 clear hq1 hq2 hw1 hw2 HB1 HB2 hx1 hx2 hx ha hb hsn hse
 go_enter Tryz.func22,Tryz.ntmps22
 go_upto_region 1 with (fail)
 rw [←HWQ.out,←HQ2.out,←HQ1.out]
 go_wp2_with fail
 clear hn1 hn2
 go_loopw [5] (fun u W => ∃ (k:Nat),u = .int .i64 k∧k≤N.length∧Ext w2 W) (fun u _=>N.length - (intOf u).toNat)
 case atStart=>exact ⟨0,rfl,Nat.zero_le _,Ext.refl _⟩
 case round =>
  obtain ⟨k,rfl,hk,hE⟩:=hrel
  have d0:=hE.cell a0
  have f0:=hE.cell e0
  by_cases hlt:k < N.length
  ·obtain ⟨b,o,rfl,hc⟩:=HAN.out.2 (by omega)
   obtain ⟨b',o',rfl,hc'⟩:=HBN.out.2 (by omega)
   obtain ⟨-,x0,L1,m1,L2,m2,x1,-,hL,x2,-,hP⟩:=hc k hlt
   obtain ⟨-,y0,Y1,r1,Y2,r2,y1,-,hL',y2,-,hP'⟩:=hc' k hlt
   have hWr:Ext w wr:=HX.out.trans hE
   have HSS:=Lib.hid (fun W (e:Ext wr W)=>r7_SameStrs N[k].labels ok ok' L1 Y1 m1 r1 W (hL.ext (hWr.trans e)) (hL'.ext (hWr.trans e)))
   have HSP:=Lib.hid (fun W (e:Ext wr W)=>r7_SameProps N[k].props ok ok' L2 Y2 m2 r2 W (hP.ext (hWr.trans e)) (hP'.ext (hWr.trans e)) (HSN.out _ (List.getElem_mem hlt)))
   replace x0:=hWr.cell x0
   replace y0:=hWr.cell y0
   replace x1:=hWr.cell x1
   replace y1:=hWr.cell y1
   replace x2:=hWr.cell x2
   replace y2:=hWr.cell y2
   clear hc hc' hL hL' hP hP'
   generalize N[k].labels=Lb at *
   generalize N[k].props=Pp at *
   generalize N[k].id=xi at *
   have p1:(0:Int)≤(k:Int):=by omega
   have p2:(k:Int) < (N.length:Int):=by omega
   have MKA:=Lib.hid (fun V (e:Ext wr V)=>(⟨e.cell d0,e.cell f0,e.cell x0,e.cell x1,e.cell x2,e.cell y0,e.cell y1,e.cell y2,e⟩:V.cell? ⟨q1,0,none⟩=some (.slice (some ⟨b,o,none⟩) N.length c)∧V.cell? ⟨q2,0,none⟩=some (.slice (some ⟨b',o',none⟩) N.length c')∧V.cell? ⟨b,o+k*3,none⟩=some (.int .i64 xi)∧V.cell? ⟨b,o+k*3+1,none⟩=some (.slice L1 Lb.length m1)∧V.cell? ⟨b,o+k*3+2,none⟩=some (.slice L2 Pp.length m2)∧V.cell? ⟨b',o'+k*3,none⟩=some (.int .i64 xi)∧V.cell? ⟨b',o'+k*3+1,none⟩=some (.slice Y1 Lb.length r1)∧V.cell? ⟨b',o'+k*3+2,none⟩=some (.slice Y2 Pp.length r2)∧Ext wr V))
   have MKB:=Lib.hid (fun V gg u0 u1 u2 (hgg:wr.heap.size≤gg) (e:Ext wr V)=>(⟨far3 d0 hgg e,far3 f0 hgg e,far3 x0 hgg e,far3 x1 hgg e,far3 x2 hgg e,far3 y0 hgg e,far3 y1 hgg e,far3 y2 hgg e,(Ext.setCell (Ext.setCell (Ext.setCell e hgg _) hgg _) hgg _)⟩:(fun V=>V.cell? ⟨q1,0,none⟩=some (.slice (some ⟨b,o,none⟩) N.length c)∧V.cell? ⟨q2,0,none⟩=some (.slice (some ⟨b',o',none⟩) N.length c')∧V.cell? ⟨b,o+k*3,none⟩=some (.int .i64 xi)∧V.cell? ⟨b,o+k*3+1,none⟩=some (.slice L1 Lb.length m1)∧V.cell? ⟨b,o+k*3+2,none⟩=some (.slice L2 Pp.length m2)∧V.cell? ⟨b',o'+k*3,none⟩=some (.int .i64 xi)∧V.cell? ⟨b',o'+k*3+1,none⟩=some (.slice Y1 Lb.length r1)∧V.cell? ⟨b',o'+k*3+2,none⟩=some (.slice Y2 Pp.length r2)∧Ext wr V) ((((V.setCell ⟨gg,0,none⟩ u0).setCell ⟨gg,1,none⟩ u1).setCell ⟨gg,2,none⟩ u2))))
   go_upto_region 6 with (fail)
   go_cut [6,7] from 34 to 43 (fun va vb wx => ∃ (qa qb:Nat),va = .pointer (some ⟨qa,0,none⟩)∧vb = .pointer (some ⟨qb,0,none⟩)∧wx.cell? ⟨qa,0,none⟩=some (.int .i64 xi)∧wx.cell? ⟨qa,1,none⟩=some (.slice L1 Lb.length m1)∧wx.cell? ⟨qa,2,none⟩=some (.slice L2 Pp.length m2)∧wx.cell? ⟨qb,0,none⟩=some (.int .i64 xi)∧wx.cell? ⟨qb,1,none⟩=some (.slice Y1 Lb.length r1)∧wx.cell? ⟨qb,2,none⟩=some (.slice Y2 Pp.length r2)∧Ext wr wx)
   case first =>
    refine AnyE.start (S:=(fun V=>V.cell? ⟨q1,0,none⟩=some (.slice (some ⟨b,o,none⟩) N.length c)∧V.cell? ⟨q2,0,none⟩=some (.slice (some ⟨b',o',none⟩) N.length c')∧V.cell? ⟨b,o+k*3,none⟩=some (.int .i64 xi)∧V.cell? ⟨b,o+k*3+1,none⟩=some (.slice L1 Lb.length m1)∧V.cell? ⟨b,o+k*3+2,none⟩=some (.slice L2 Pp.length m2)∧V.cell? ⟨b',o'+k*3,none⟩=some (.int .i64 xi)∧V.cell? ⟨b',o'+k*3+1,none⟩=some (.slice Y1 Lb.length r1)∧V.cell? ⟨b',o'+k*3+2,none⟩=some (.slice Y2 Pp.length r2)∧Ext wr V)) (E:=13) (by kernel_rfl) ?hs21001 (fun hHeld=>?go21001)
    case hs21001=>(first|with_reducible exact MKB.out _ _ _ _ _ (by first|exact Nat.le_refl _|exact Ext.le (by solve_by_elim [X0,X1,X2,X3])) (by solve_by_elim [X0,X1,X2,X3])|exact MKA.out _ (by solve_by_elim [X0,X1,X2,X3]))
    refine KP 0 (fun _=>hHeld) ?_;simp only [PU]
    refine KE 1 hHeld ?_;simp only [PU]
    refine KP 2 (fun _=>hHeld) ?_;simp only [PU]
    refine KP 3 (fun _=>hHeld) ?_;simp only [PU]
    refine KE 4 hHeld ?_;simp only [PU]
    refine KP 5 (fun _=>hHeld) ?_;simp only [PU]
    refine KE 6 hHeld ?_;simp only [PU]
    refine KP 7 (fun _=>hHeld) ?_;simp only [PU]
    refine KP 8 (fun _=>hHeld) ?_;simp only [PU]
    refine KE 9 hHeld ?_;simp only [PU]
    refine AnyE.ready (rs:=[10,11]) (by kernel_rfl) (by simp) ?_
    refine AllE.cons (o:=⟨_,_,_,_,_,_⟩) rfl (fun K hK=>?step21012x0) ?more21012x0
    case more21012x0 =>
     refine AllE.cons (o:=⟨_,_,_,_,_,_⟩) rfl (fun K hK=>?step21012x1) ?more21012x1
     case more21012x1=>exact AllE.nil
     go_simp
     refine hK.out _ _ ?hS21012x1 (fun H21012=>?_)
     case hS21012x1=>intro _;first|(first|with_reducible exact MKB.out _ _ _ _ _ (by first|exact Nat.le_refl _|exact Ext.le (by solve_by_elim [X0,X1,X2,X3])) (by solve_by_elim [X0,X1,X2,X3])|exact MKA.out _ (by solve_by_elim [X0,X1,X2,X3]))|((try dsimp only);(first|with_reducible exact MKB.out _ _ _ _ _ (by first|exact Nat.le_refl _|exact Ext.le (by solve_by_elim [X0,X1,X2,X3])) (by solve_by_elim [X0,X1,X2,X3])|exact MKA.out _ (by solve_by_elim [X0,X1,X2,X3])))
     clear hK K
     clear hHeld
     (try simp only [PU])
     refine AnyE.ready (rs:=[10]) (by kernel_rfl) (by simp) ?_
     refine AllE.cons (o:=⟨_,_,_,_,_,_⟩) rfl (fun K hK=>?step21013x0) ?more21013x0
     case more21013x0=>exact AllE.nil
     go_simp
     refine hK.out _ _ ?hS21013x0 (fun H21013=>?_)
     case hS21013x0=>intro _;first|(first|with_reducible exact MKB.out _ _ _ _ _ (by first|exact Nat.le_refl _|exact Ext.le (by solve_by_elim [X0,X1,X2,X3])) (by solve_by_elim [X0,X1,X2,X3])|exact MKA.out _ (by solve_by_elim [X0,X1,X2,X3]))|((try dsimp only);(first|with_reducible exact MKB.out _ _ _ _ _ (by first|exact Nat.le_refl _|exact Ext.le (by solve_by_elim [X0,X1,X2,X3])) (by solve_by_elim [X0,X1,X2,X3])|exact MKA.out _ (by solve_by_elim [X0,X1,X2,X3])))
     clear hK K
     clear H21012
     (try simp only [PU])
     refine AnyE.ready (rs:=[12]) (by kernel_rfl) (by simp) ?_
     refine AllE.cons (o:=⟨_,_,_,_,_,_⟩) rfl (fun K hK=>?step21014x0) ?more21014x0
     case more21014x0=>exact AllE.nil
     go_simp
     refine hK.out _ _ ?hS21014x0 (fun H21014=>?_)
     case hS21014x0=>intro _;first|(first|with_reducible exact MKB.out _ _ _ _ _ (by first|exact Nat.le_refl _|exact Ext.le (by solve_by_elim [X0,X1,X2,X3])) (by solve_by_elim [X0,X1,X2,X3])|exact MKA.out _ (by solve_by_elim [X0,X1,X2,X3]))|((try dsimp only);(first|with_reducible exact MKB.out _ _ _ _ _ (by first|exact Nat.le_refl _|exact Ext.le (by solve_by_elim [X0,X1,X2,X3])) (by solve_by_elim [X0,X1,X2,X3])|exact MKA.out _ (by solve_by_elim [X0,X1,X2,X3])))
     clear hK K
     clear H21013
     refine AnyE.ready (rs:=[13]) (by kernel_rfl) (by simp) ?_
     refine AllE.cons (o:=⟨_,_,_,_,_,_⟩) rfl (fun K hK=>?step21015x0) ?more21015x0
     case more21015x0=>exact AllE.nil
     go_simp
     refine hK.out _ _ ?hS21015x0 (fun H21015=>?_)
     case hS21015x0=>first|(intro h;exact absurd h (by decide))|(intro h;simp at h)
     clear hK K
     clear H21014
     refine AnyE.done (by kernel_rfl) ?_ _
     clear H21015
     go_wp2_with fail
     go_meet
     case rel=>exact ⟨_,_,rfl,rfl,by go_simp,by go_simp,by go_simp,by go_simp,by go_simp,by go_simp,(by solve_by_elim [X0,X1,X2,X3])⟩
    go_simp
    refine hK.out _ _ ?hS21012x0 (fun H21012=>?_)
    case hS21012x0=>intro _;first|(first|with_reducible exact MKB.out _ _ _ _ _ (by first|exact Nat.le_refl _|exact Ext.le (by solve_by_elim [X0,X1,X2,X3])) (by solve_by_elim [X0,X1,X2,X3])|exact MKA.out _ (by solve_by_elim [X0,X1,X2,X3]))|((try dsimp only);(first|with_reducible exact MKB.out _ _ _ _ _ (by first|exact Nat.le_refl _|exact Ext.le (by solve_by_elim [X0,X1,X2,X3])) (by solve_by_elim [X0,X1,X2,X3])|exact MKA.out _ (by solve_by_elim [X0,X1,X2,X3])))
    clear hK K
    clear hHeld
    (try simp only [PU])
    refine AnyE.ready (rs:=[11]) (by kernel_rfl) (by simp) ?_
    refine AllE.cons (o:=⟨_,_,_,_,_,_⟩) rfl (fun K hK=>?step21016x0) ?more21016x0
    case more21016x0=>exact AllE.nil
    go_simp
    refine hK.out _ _ ?hS21016x0 (fun H21016=>?_)
    case hS21016x0=>intro _;first|(first|with_reducible exact MKB.out _ _ _ _ _ (by first|exact Nat.le_refl _|exact Ext.le (by solve_by_elim [X0,X1,X2,X3])) (by solve_by_elim [X0,X1,X2,X3])|exact MKA.out _ (by solve_by_elim [X0,X1,X2,X3]))|((try dsimp only);(first|with_reducible exact MKB.out _ _ _ _ _ (by first|exact Nat.le_refl _|exact Ext.le (by solve_by_elim [X0,X1,X2,X3])) (by solve_by_elim [X0,X1,X2,X3])|exact MKA.out _ (by solve_by_elim [X0,X1,X2,X3])))
    clear hK K
    clear H21012
    (try simp only [PU])
    refine AnyE.ready (rs:=[12]) (by kernel_rfl) (by simp) ?_
    refine AllE.cons (o:=⟨_,_,_,_,_,_⟩) rfl (fun K hK=>?step21017x0) ?more21017x0
    case more21017x0=>exact AllE.nil
    go_simp
    refine hK.out _ _ ?hS21017x0 (fun H21017=>?_)
    case hS21017x0=>intro _;first|(first|with_reducible exact MKB.out _ _ _ _ _ (by first|exact Nat.le_refl _|exact Ext.le (by solve_by_elim [X0,X1,X2,X3])) (by solve_by_elim [X0,X1,X2,X3])|exact MKA.out _ (by solve_by_elim [X0,X1,X2,X3]))|((try dsimp only);(first|with_reducible exact MKB.out _ _ _ _ _ (by first|exact Nat.le_refl _|exact Ext.le (by solve_by_elim [X0,X1,X2,X3])) (by solve_by_elim [X0,X1,X2,X3])|exact MKA.out _ (by solve_by_elim [X0,X1,X2,X3])))
    clear hK K
    clear H21016
    refine AnyE.ready (rs:=[13]) (by kernel_rfl) (by simp) ?_
    refine AllE.cons (o:=⟨_,_,_,_,_,_⟩) rfl (fun K hK=>?step21018x0) ?more21018x0
    case more21018x0=>exact AllE.nil
    go_simp
    refine hK.out _ _ ?hS21018x0 (fun H21018=>?_)
    case hS21018x0=>first|(intro h;exact absurd h (by decide))|(intro h;simp at h)
    clear hK K
    clear H21017
    refine AnyE.done (by kernel_rfl) ?_ _
    clear H21018
    go_wp2_with fail
    go_meet
    case rel=>exact ⟨_,_,rfl,rfl,by go_simp,by go_simp,by go_simp,by go_simp,by go_simp,by go_simp,(by solve_by_elim [X0,X1,X2,X3])⟩
   case rest =>
    clear MKA MKB
    obtain ⟨qa,qb,rfl,rfl,m0',m1',m2',n0',n1',n2',hx6⟩:=hcut
    have hi:(xi != xi)=false:=by simp
    go_wp2_with (first|(go_at_call 53;((with_reducible refine (HSS.out _ (by solve_by_elim [X0,X1,X2,X3])).mono ?_);rintro e w7 ⟨rfl,hx7⟩;have hE7:Ext wr w7:=Ext.trans (by solve_by_elim [X0,X1,X2,X3]) hx7;replace m2':=hx7.cell m2';replace n2':=hx7.cell n2'))|(go_at_call 54;((with_reducible refine (HSP.out _ (by solve_by_elim [X0,X1,X2,X3])).mono ?_);rintro e w8 ⟨rfl,hx8⟩;have hE8:Ext wr w8:=Ext.trans (by solve_by_elim [X0,X1,X2,X3]) hx8)))
    go_roundw
    case rel=>exact ⟨k+1,by go_num,by omega,hE.trans hE8⟩
    case measure=>simp [intOf];omega
  ·have p2:¬ (k:Int) < (N.length:Int):=by omega
   go_wp2_with fail
   clear d0 f0 p2 hlt
   go_loopw [8] (fun u W => ∃ (k:Nat),u = .int .i64 k∧k≤E.length∧Ext w2 W) (fun u _=>E.length - (intOf u).toNat)
   case atStart=>exact ⟨0,rfl,Nat.zero_le _,hE⟩
   case round =>
    obtain ⟨k,rfl,hk,hE⟩:=hrel
    have d1:=hE.cell a1
    have f1:=hE.cell e1
    by_cases hlt:k < E.length
    ·obtain ⟨b,o,rfl,hc⟩:=HAE.out.2 (by omega)
     obtain ⟨b',o',rfl,hc'⟩:=HBE.out.2 (by omega)
     obtain ⟨-,x0,x1,x2,x3,L2,m2,x4,-,hP⟩:=hc k hlt
     obtain ⟨-,y0,y1,y2,y3,Y2,r2,y4,-,hP'⟩:=hc' k hlt
     have hWr:Ext w wr:=HX.out.trans hE
     have HSP:=Lib.hid (fun W (e:Ext wr W)=>r7_SameProps E[k].props ok ok' L2 Y2 m2 r2 W (hP.ext (hWr.trans e)) (hP'.ext (hWr.trans e)) (HSE.out _ (List.getElem_mem hlt)))
     replace x0:=hWr.cell x0
     replace y0:=hWr.cell y0
     replace x1:=hWr.cell x1
     replace y1:=hWr.cell y1
     replace x2:=hWr.cell x2
     replace y2:=hWr.cell y2
     replace x3:=hWr.cell x3
     replace y3:=hWr.cell y3
     replace x4:=hWr.cell x4
     replace y4:=hWr.cell y4
     clear hc hc' hP hP'
     generalize E[k].props=Pp at *
     generalize E[k].id=xi at *
     generalize E[k].frm=xf at *
     generalize E[k].to_=xt at *
     generalize E[k].typ=ty at *
     have p1:(0:Int)≤(k:Int):=by omega
     have p2:(k:Int) < (E.length:Int):=by omega
     have MKA:=Lib.hid (fun V (e:Ext wr V)=>(⟨e.cell d1,e.cell f1,e.cell x0,e.cell x1,e.cell x2,e.cell x3,e.cell x4,e.cell y0,e.cell y1,e.cell y2,e.cell y3,e.cell y4,e⟩:V.cell? ⟨q1,1,none⟩=some (.slice (some ⟨b,o,none⟩) E.length d)∧V.cell? ⟨q2,1,none⟩=some (.slice (some ⟨b',o',none⟩) E.length d')∧V.cell? ⟨b,o+k*5,none⟩=some (.int .i64 xi)∧V.cell? ⟨b,o+k*5+1,none⟩=some (.int .i64 xf)∧V.cell? ⟨b,o+k*5+2,none⟩=some (.int .i64 xt)∧V.cell? ⟨b,o+k*5+3,none⟩=some (.string ty)∧V.cell? ⟨b,o+k*5+4,none⟩=some (.slice L2 Pp.length m2)∧V.cell? ⟨b',o'+k*5,none⟩=some (.int .i64 xi)∧V.cell? ⟨b',o'+k*5+1,none⟩=some (.int .i64 xf)∧V.cell? ⟨b',o'+k*5+2,none⟩=some (.int .i64 xt)∧V.cell? ⟨b',o'+k*5+3,none⟩=some (.string ty)∧V.cell? ⟨b',o'+k*5+4,none⟩=some (.slice Y2 Pp.length r2)∧Ext wr V))
     have MKB:=Lib.hid (fun V gg u0 u1 u2 u3 u4 (hgg:wr.heap.size≤gg) (e:Ext wr V)=>(⟨far5 d1 hgg e,far5 f1 hgg e,far5 x0 hgg e,far5 x1 hgg e,far5 x2 hgg e,far5 x3 hgg e,far5 x4 hgg e,far5 y0 hgg e,far5 y1 hgg e,far5 y2 hgg e,far5 y3 hgg e,far5 y4 hgg e,(Ext.setCell (Ext.setCell (Ext.setCell (Ext.setCell (Ext.setCell e hgg _) hgg _) hgg _) hgg _) hgg _)⟩:(fun V=>V.cell? ⟨q1,1,none⟩=some (.slice (some ⟨b,o,none⟩) E.length d)∧V.cell? ⟨q2,1,none⟩=some (.slice (some ⟨b',o',none⟩) E.length d')∧V.cell? ⟨b,o+k*5,none⟩=some (.int .i64 xi)∧V.cell? ⟨b,o+k*5+1,none⟩=some (.int .i64 xf)∧V.cell? ⟨b,o+k*5+2,none⟩=some (.int .i64 xt)∧V.cell? ⟨b,o+k*5+3,none⟩=some (.string ty)∧V.cell? ⟨b,o+k*5+4,none⟩=some (.slice L2 Pp.length m2)∧V.cell? ⟨b',o'+k*5,none⟩=some (.int .i64 xi)∧V.cell? ⟨b',o'+k*5+1,none⟩=some (.int .i64 xf)∧V.cell? ⟨b',o'+k*5+2,none⟩=some (.int .i64 xt)∧V.cell? ⟨b',o'+k*5+3,none⟩=some (.string ty)∧V.cell? ⟨b',o'+k*5+4,none⟩=some (.slice Y2 Pp.length r2)∧Ext wr V) ((((((V.setCell ⟨gg,0,none⟩ u0).setCell ⟨gg,1,none⟩ u1).setCell ⟨gg,2,none⟩ u2).setCell ⟨gg,3,none⟩ u3).setCell ⟨gg,4,none⟩ u4))))
     go_upto_region 12 with (fail)
     go_cut [9,10] from 72 to 81 (fun va vb wx => ∃ (qa qb:Nat),va = .pointer (some ⟨qa,0,none⟩)∧vb = .pointer (some ⟨qb,0,none⟩)∧wx.cell? ⟨qa,0,none⟩=some (.int .i64 xi)∧wx.cell? ⟨qa,1,none⟩=some (.int .i64 xf)∧wx.cell? ⟨qa,2,none⟩=some (.int .i64 xt)∧wx.cell? ⟨qa,3,none⟩=some (.string ty)∧wx.cell? ⟨qa,4,none⟩=some (.slice L2 Pp.length m2)∧wx.cell? ⟨qb,0,none⟩=some (.int .i64 xi)∧wx.cell? ⟨qb,1,none⟩=some (.int .i64 xf)∧wx.cell? ⟨qb,2,none⟩=some (.int .i64 xt)∧wx.cell? ⟨qb,3,none⟩=some (.string ty)∧wx.cell? ⟨qb,4,none⟩=some (.slice Y2 Pp.length r2)∧Ext wr wx)
     case first =>
      refine AnyE.start (S:=(fun V=>V.cell? ⟨q1,1,none⟩=some (.slice (some ⟨b,o,none⟩) E.length d)∧V.cell? ⟨q2,1,none⟩=some (.slice (some ⟨b',o',none⟩) E.length d')∧V.cell? ⟨b,o+k*5,none⟩=some (.int .i64 xi)∧V.cell? ⟨b,o+k*5+1,none⟩=some (.int .i64 xf)∧V.cell? ⟨b,o+k*5+2,none⟩=some (.int .i64 xt)∧V.cell? ⟨b,o+k*5+3,none⟩=some (.string ty)∧V.cell? ⟨b,o+k*5+4,none⟩=some (.slice L2 Pp.length m2)∧V.cell? ⟨b',o'+k*5,none⟩=some (.int .i64 xi)∧V.cell? ⟨b',o'+k*5+1,none⟩=some (.int .i64 xf)∧V.cell? ⟨b',o'+k*5+2,none⟩=some (.int .i64 xt)∧V.cell? ⟨b',o'+k*5+3,none⟩=some (.string ty)∧V.cell? ⟨b',o'+k*5+4,none⟩=some (.slice Y2 Pp.length r2)∧Ext wr V)) (E:=13) (by kernel_rfl) ?hs21019 (fun hHeld=>?go21019)
      case hs21019=>(first|with_reducible exact MKB.out _ _ _ _ _ _ _ (by first|exact Nat.le_refl _|exact Ext.le (by solve_by_elim [X0,X1,X2,X3])) (by solve_by_elim [X0,X1,X2,X3])|exact MKA.out _ (by solve_by_elim [X0,X1,X2,X3]))
      refine KP 0 (fun _=>hHeld) ?_;simp only [PU]
      refine KE 1 hHeld ?_;simp only [PU]
      refine KP 2 (fun _=>hHeld) ?_;simp only [PU]
      refine KP 3 (fun _=>hHeld) ?_;simp only [PU]
      refine KE 4 hHeld ?_;simp only [PU]
      refine KP 5 (fun _=>hHeld) ?_;simp only [PU]
      refine KE 6 hHeld ?_;simp only [PU]
      refine KP 7 (fun _=>hHeld) ?_;simp only [PU]
      refine KP 8 (fun _=>hHeld) ?_;simp only [PU]
      refine KE 9 hHeld ?_;simp only [PU]
      refine AnyE.ready (rs:=[10,11]) (by kernel_rfl) (by simp) ?_
      refine AllE.cons (o:=⟨_,_,_,_,_,_⟩) rfl (fun K hK=>?step21030x0) ?more21030x0
      case more21030x0 =>
       refine AllE.cons (o:=⟨_,_,_,_,_,_⟩) rfl (fun K hK=>?step21030x1) ?more21030x1
       case more21030x1=>exact AllE.nil
       go_simp
       refine hK.out _ _ ?hS21030x1 (fun H21030=>?_)
       case hS21030x1=>intro _;first|(first|with_reducible exact MKB.out _ _ _ _ _ _ _ (by first|exact Nat.le_refl _|exact Ext.le (by solve_by_elim [X0,X1,X2,X3])) (by solve_by_elim [X0,X1,X2,X3])|exact MKA.out _ (by solve_by_elim [X0,X1,X2,X3]))|((try dsimp only);(first|with_reducible exact MKB.out _ _ _ _ _ _ _ (by first|exact Nat.le_refl _|exact Ext.le (by solve_by_elim [X0,X1,X2,X3])) (by solve_by_elim [X0,X1,X2,X3])|exact MKA.out _ (by solve_by_elim [X0,X1,X2,X3])))
       clear hK K
       clear hHeld
       (try simp only [PU])
       refine AnyE.ready (rs:=[10]) (by kernel_rfl) (by simp) ?_
       refine AllE.cons (o:=⟨_,_,_,_,_,_⟩) rfl (fun K hK=>?step21031x0) ?more21031x0
       case more21031x0=>exact AllE.nil
       go_simp
       refine hK.out _ _ ?hS21031x0 (fun H21031=>?_)
       case hS21031x0=>intro _;first|(first|with_reducible exact MKB.out _ _ _ _ _ _ _ (by first|exact Nat.le_refl _|exact Ext.le (by solve_by_elim [X0,X1,X2,X3])) (by solve_by_elim [X0,X1,X2,X3])|exact MKA.out _ (by solve_by_elim [X0,X1,X2,X3]))|((try dsimp only);(first|with_reducible exact MKB.out _ _ _ _ _ _ _ (by first|exact Nat.le_refl _|exact Ext.le (by solve_by_elim [X0,X1,X2,X3])) (by solve_by_elim [X0,X1,X2,X3])|exact MKA.out _ (by solve_by_elim [X0,X1,X2,X3])))
       clear hK K
       clear H21030
       (try simp only [PU])
       refine AnyE.ready (rs:=[12]) (by kernel_rfl) (by simp) ?_
       refine AllE.cons (o:=⟨_,_,_,_,_,_⟩) rfl (fun K hK=>?step21032x0) ?more21032x0
       case more21032x0=>exact AllE.nil
       go_simp
       refine hK.out _ _ ?hS21032x0 (fun H21032=>?_)
       case hS21032x0=>intro _;first|(first|with_reducible exact MKB.out _ _ _ _ _ _ _ (by first|exact Nat.le_refl _|exact Ext.le (by solve_by_elim [X0,X1,X2,X3])) (by solve_by_elim [X0,X1,X2,X3])|exact MKA.out _ (by solve_by_elim [X0,X1,X2,X3]))|((try dsimp only);(first|with_reducible exact MKB.out _ _ _ _ _ _ _ (by first|exact Nat.le_refl _|exact Ext.le (by solve_by_elim [X0,X1,X2,X3])) (by solve_by_elim [X0,X1,X2,X3])|exact MKA.out _ (by solve_by_elim [X0,X1,X2,X3])))
       clear hK K
       clear H21031
       refine AnyE.ready (rs:=[13]) (by kernel_rfl) (by simp) ?_
       refine AllE.cons (o:=⟨_,_,_,_,_,_⟩) rfl (fun K hK=>?step21033x0) ?more21033x0
       case more21033x0=>exact AllE.nil
       go_simp
       refine hK.out _ _ ?hS21033x0 (fun H21033=>?_)
       case hS21033x0=>first|(intro h;exact absurd h (by decide))|(intro h;simp at h)
       clear hK K
       clear H21032
       refine AnyE.done (by kernel_rfl) ?_ _
       clear H21033
       go_wp2_with fail
       go_meet
       case rel=>exact ⟨_,_,rfl,rfl,by go_simp,by go_simp,by go_simp,by go_simp,by go_simp,by go_simp,by go_simp,by go_simp,by go_simp,by go_simp,(by solve_by_elim [X0,X1,X2,X3])⟩
      go_simp
      refine hK.out _ _ ?hS21030x0 (fun H21030=>?_)
      case hS21030x0=>intro _;first|(first|with_reducible exact MKB.out _ _ _ _ _ _ _ (by first|exact Nat.le_refl _|exact Ext.le (by solve_by_elim [X0,X1,X2,X3])) (by solve_by_elim [X0,X1,X2,X3])|exact MKA.out _ (by solve_by_elim [X0,X1,X2,X3]))|((try dsimp only);(first|with_reducible exact MKB.out _ _ _ _ _ _ _ (by first|exact Nat.le_refl _|exact Ext.le (by solve_by_elim [X0,X1,X2,X3])) (by solve_by_elim [X0,X1,X2,X3])|exact MKA.out _ (by solve_by_elim [X0,X1,X2,X3])))
      clear hK K
      clear hHeld
      (try simp only [PU])
      refine AnyE.ready (rs:=[11]) (by kernel_rfl) (by simp) ?_
      refine AllE.cons (o:=⟨_,_,_,_,_,_⟩) rfl (fun K hK=>?step21034x0) ?more21034x0
      case more21034x0=>exact AllE.nil
      go_simp
      refine hK.out _ _ ?hS21034x0 (fun H21034=>?_)
      case hS21034x0=>intro _;first|(first|with_reducible exact MKB.out _ _ _ _ _ _ _ (by first|exact Nat.le_refl _|exact Ext.le (by solve_by_elim [X0,X1,X2,X3])) (by solve_by_elim [X0,X1,X2,X3])|exact MKA.out _ (by solve_by_elim [X0,X1,X2,X3]))|((try dsimp only);(first|with_reducible exact MKB.out _ _ _ _ _ _ _ (by first|exact Nat.le_refl _|exact Ext.le (by solve_by_elim [X0,X1,X2,X3])) (by solve_by_elim [X0,X1,X2,X3])|exact MKA.out _ (by solve_by_elim [X0,X1,X2,X3])))
      clear hK K
      clear H21030
      (try simp only [PU])
      refine AnyE.ready (rs:=[12]) (by kernel_rfl) (by simp) ?_
      refine AllE.cons (o:=⟨_,_,_,_,_,_⟩) rfl (fun K hK=>?step21035x0) ?more21035x0
      case more21035x0=>exact AllE.nil
      go_simp
      refine hK.out _ _ ?hS21035x0 (fun H21035=>?_)
      case hS21035x0=>intro _;first|(first|with_reducible exact MKB.out _ _ _ _ _ _ _ (by first|exact Nat.le_refl _|exact Ext.le (by solve_by_elim [X0,X1,X2,X3])) (by solve_by_elim [X0,X1,X2,X3])|exact MKA.out _ (by solve_by_elim [X0,X1,X2,X3]))|((try dsimp only);(first|with_reducible exact MKB.out _ _ _ _ _ _ _ (by first|exact Nat.le_refl _|exact Ext.le (by solve_by_elim [X0,X1,X2,X3])) (by solve_by_elim [X0,X1,X2,X3])|exact MKA.out _ (by solve_by_elim [X0,X1,X2,X3])))
      clear hK K
      clear H21034
      refine AnyE.ready (rs:=[13]) (by kernel_rfl) (by simp) ?_
      refine AllE.cons (o:=⟨_,_,_,_,_,_⟩) rfl (fun K hK=>?step21036x0) ?more21036x0
      case more21036x0=>exact AllE.nil
      go_simp
      refine hK.out _ _ ?hS21036x0 (fun H21036=>?_)
      case hS21036x0=>first|(intro h;exact absurd h (by decide))|(intro h;simp at h)
      clear hK K
      clear H21035
      refine AnyE.done (by kernel_rfl) ?_ _
      clear H21036
      go_wp2_with fail
      go_meet
      case rel=>exact ⟨_,_,rfl,rfl,by go_simp,by go_simp,by go_simp,by go_simp,by go_simp,by go_simp,by go_simp,by go_simp,by go_simp,by go_simp,(by solve_by_elim [X0,X1,X2,X3])⟩
     case rest =>
      clear MKA MKB
      obtain ⟨qa,qb,rfl,rfl,m0',m1',m2',m3',m4',n0',n1',n2',n3',n4',hx6⟩:=hcut
      have hi:(xi != xi)=false:=by simp
      have hf:(xf != xf)=false:=by simp
      have ht:(xt != xt)=false:=by simp
      go_wp2_with ((go_at_call 54;((with_reducible refine (HSP.out _ (by solve_by_elim [X0,X1,X2,X3])).mono ?_);rintro e w8 ⟨rfl,hx8⟩;have hE8:Ext wr w8:=Ext.trans (by solve_by_elim [X0,X1,X2,X3]) hx8)))
      go_roundw
      case rel=>exact ⟨k+1,by go_num,by omega,hE.trans hE8⟩
      case measure=>simp [intOf];omega
    ·have p2:¬ (k:Int) < (E.length:Int):=by omega
     go_wp2_with fail
     go_ret
     exact ⟨rfl,HX.out.trans hE⟩
set_option maxRecDepth 100000 in
theorem r7_Same (g:GraphG) (ok ok':Nat→Prop) (A B A' B':Option Addr) (c d c' d':Nat) (w:World) (ha:GraphAt w ok A B g) (hb:GraphAt w ok' A' B' g) (hsz:SzA g) :
  Calls Tryz.prog 15 #[.agg #[.slice A g.nodes.length c, .slice B g.edges.length d, .int .i64 g.nn, .int .i64 g.ne], .agg #[.slice A' g.nodes.length c', .slice B' g.edges.length d', .int .i64 g.nn, .int .i64 g.ne]] w fun e w'=>e = .returned (.bool true)∧Ext w w':=by
 obtain ⟨q1,w1,hq1,hw1,HB1,hx1⟩:=box_gr w (.slice A g.nodes.length c) (.slice B g.edges.length d) (.int .i64 g.nn) (.int .i64 g.ne) 25
 obtain ⟨q2,w2,hq2,hw2,HB2,hx2⟩:=box_gr w1 (.slice A' g.nodes.length c') (.slice B' g.edges.length d') (.int .i64 g.nn) (.int .i64 g.ne) 25
 have hx:Ext w w2:=hx1.trans hx2
 have HWQ:Hid (w2=(w.alloc (.cells #[.slice A g.nodes.length c, .slice B g.edges.length d, .int .i64 g.nn, .int .i64 g.ne] 25)).alloc (.cells #[.slice A' g.nodes.length c', .slice B' g.edges.length d', .int .i64 g.nn, .int .i64 g.ne] 25)):=Lib.hid (by rw [hw2,hw1])
 have HQ1:=Lib.hid hq1
 have HQ2:Hid (q2=w.heap.size+1):=Lib.hid (by rw [hq2,hw1];simp)
 have a0:w2.cell? ⟨q1,0,none⟩=some (.slice A g.nodes.length c):=hx2.cell ((HB1.cell 0).trans rfl)
 have a1:w2.cell? ⟨q1,1,none⟩=some (.slice B g.edges.length d):=hx2.cell ((HB1.cell 1).trans rfl)
 have a2:w2.cell? ⟨q1,2,none⟩=some (.int .i64 g.nn):=hx2.cell ((HB1.cell 2).trans rfl)
 have a3:w2.cell? ⟨q1,3,none⟩=some (.int .i64 g.ne):=hx2.cell ((HB1.cell 3).trans rfl)
 have e0:w2.cell? ⟨q2,0,none⟩=some (.slice A' g.nodes.length c'):=(HB2.cell 0).trans rfl
 have e1:w2.cell? ⟨q2,1,none⟩=some (.slice B' g.edges.length d'):=(HB2.cell 1).trans rfl
 have e2:w2.cell? ⟨q2,2,none⟩=some (.int .i64 g.nn):=(HB2.cell 2).trans rfl
 have e3:w2.cell? ⟨q2,3,none⟩=some (.int .i64 g.ne):=(HB2.cell 3).trans rfl
 have HX:=Lib.hid hx
 have HSP:=Lib.hid (fun W (e:Ext w W)=>r7_SameParts g.nodes g.edges g.nn g.ne g.nn g.ne ok ok' A B A' B' c d c' d' W (ha.ext e) (hb.ext e) (fun n hn p hp=>((hsz.nodes n hn).2 p hp).1) (fun n hn p hp=>((hsz.edges n hn).2 p hp).1))
 have hn1:(g.nn == g.nn)=true:=by simp
 have hn2:(g.ne == g.ne)=true:=by simp
 clear hq1 hq2 hw1 hw2 HB1 HB2 hx1 hx2 hx ha hb hsz
 go_enter Tryz.func15,Tryz.ntmps15
 go_upto_region 1 with (fail)
 rw [←HWQ.out,←HQ2.out,←HQ1.out]
 go_wp2_with ((go_at_call 22;((with_reducible refine (HSP.out _ (HX.out.trans (by solve_by_elim [X0,X1,X2,X3]))).mono ?_);rintro e w5 ⟨rfl,hx5⟩)))
 go_ret
 exact ⟨rfl,HX.out.trans (Ext.trans (by solve_by_elim [X0,X1,X2,X3]) hx5)⟩
theorem szV_plain {v:Val} (h:plainV v=true):szV v:=szV_iff.2 ⟨by have:=str_size h;omega,by rw [(plain_parts h).2.1,szL];trivial⟩
theorem name_sz {s:ByteArray} (h:nameB s=true):szS s:=by
 obtain ⟨-,h,-⟩:=nameB_iff.1 h
 show s.size≤140737488355328
 omega
theorem szP_parts {l:List ByteArray} {p:List PropG} (h:PartsV l p):(∀ s ∈ l,szS s)∧szP p:=⟨fun s hs=>name_sz (h.ln s hs),fun p hp=>⟨szV_plain (h.pv p hp),name_sz (h.pn p hp)⟩⟩
theorem vg_szA {g:GraphG} (h:VG g):SzA g:=⟨fun n hn=>szP_parts (h.nv n hn).2,fun n hn=>⟨name_sz (h.ev n hn).2.2.1,(szP_parts (h.ev n hn).2.2.2).2⟩⟩
theorem undo_len {g:GraphG}:∀ {l:List ChG} {i:Nat} {acc r:List ChG},VG g→undoG g l i acc = .ok r→r.length≤25*l.length+acc.length:=by
 intro l
 induction l generalizing g with
 | nil=>intro i acc r _ e;injection e with e;subst e;simp
 | cons c l ih =>
  intro i acc r h e
  unfold undoG at e
  split at e
  ·rename_i x hx
   have h1:=ih (step_valid h hx).1 e
   have h2:=inv_len (c:=c) h
   rw [List.length_append] at h1
   rw [List.length_cons]
   omega
  ·cases e
theorem run_chk {g after:GraphG} {l:List ChG} (h:runG g l = .ok after):VG g∧allG g l 0 = .ok after:=by
 unfold runG at h
 split at h
 ·rename_i hc;exact ⟨(valid_iff g).1 hc,h⟩
 ·cases h
theorem run_of {g:GraphG} {l:List ChG} (h:VG g):runG g l=allG g l 0:=by unfold runG;rw [if_pos ((valid_iff g).2 h)]
theorem inv_of {g:GraphG} {l:List ChG} (h:VG g):invAll g l=undoG g l 0 []:=by unfold invAll;rw [if_pos ((valid_iff g).2 h)]
theorem rest_ok {g after:GraphG} {l:List ChG} (h:runG g l = .ok after):∃ back x again y,invAll g l = .ok back∧runG after back = .ok x∧invAll after back = .ok again∧runG x again = .ok y∧SameP x g∧SameP y after∧VG g∧VG x∧VG after∧VG y∧back.length≤25*l.length:=by
 obtain ⟨hv,ha⟩:=run_chk h
 obtain ⟨back,x,again,y,h1,h2,h3,h4,h5,h6,h7,h8,h9⟩:=undo_twice hv ha
 exact ⟨back,x,again,y,by rw [inv_of hv,h1],by rw [run_of h5,h2],by rw [inv_of h5,h6],by rw [run_of h4,h7],h3,h8,hv,h4,h5,h9,by have:=undo_len hv h1;simpa using this⟩
theorem all_err {g:GraphG}:∀ {l:List ChG} {i j:Nat} {k:Int},allG g l i = .error (j,k)→k ≠ 0:=by
 intro l
 induction l generalizing g with
 | nil=>intro i j k e;cases e
 | cons c l ih =>
  intro i j k e
  unfold allG at e
  split at e
  ·exact ih e
  ·rename_i f hf
   injection e with e
   have e2:f=k:=congrArg Prod.snd e
   rw [←e2];exact step_err hf
theorem rest_err {g:GraphG} {l:List ChG} {i:Nat} {k:Int} (h:runG g l = .error (i,k)):invAll g l = .error (i,k)∧k ≠ 0:=by
 unfold runG at h
 unfold invAll
 split at h
 ·rename_i hc
  rw [if_pos hc]
  exact ⟨(undo_all (i,k)).1 h,all_err h⟩
 ·rename_i hc
  rw [if_neg hc]
  injection h with h
  have e2:chkG g=k:=congrArg Prod.snd h
  exact ⟨by rw [h],by rw [←e2];exact hc⟩
end Go.Proofs.YtfhekbacigoblaaGreatDoor
