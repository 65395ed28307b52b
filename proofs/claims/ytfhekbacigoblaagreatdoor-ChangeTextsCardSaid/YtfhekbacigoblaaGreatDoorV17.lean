import Derived.Test.YtfhekbacigoblaaGreatDoorV09
import Derived.Test.YtfhekbacigoblaaGreatDoorV16
import Derived.Test.YtfhekbacigoblaaGreatDoorV11
import Derived.Test.YtfhekbacigoblaaGreatDoorV13
import Derived.Test.YtfhekbacigoblaaGreatDoorV05
import Derived.WalkSpells
import Derived.Deep.Cut
namespace Go.Proofs.YtfhekbacigoblaaGreatDoor
set_option maxRecDepth 100000
set_option maxHeartbeats 6400000
open Go.RowKit
theorem zl4 (w:World) (t:TypeId):∃ (q:Nat) (w1:World),q=w.heap.size∧w1=w.alloc (.cells #[.slice none 0 0, .slice none 0 0, .int .i64 0, .int .i64 0] t)∧Blk w1 q t [.slice none 0 0, .slice none 0 0, .int .i64 0, .int .i64 0]∧Ext w w1 :=
 ⟨_,_,rfl,rfl,heap_alloc_new w _,(Ext.refl _).alloc _⟩
theorem zb9 (w:World) (v0 v1 v2 v3:Value) (t:TypeId):∃ (q:Nat) (w1:World),q=w.heap.size∧w1=w.alloc (.cells #[v0,v1,v2,v3] t)∧Blk w1 q t [v0,v1,v2,v3]∧Ext w w1 :=
 ⟨_,_,rfl,rfl,heap_alloc_new w _,(Ext.refl _).alloc _⟩
theorem Blk.setC {w:World} {q t:Nat} {cs:List Value} (h:Blk w q t cs) (o:Nat) (u:Value):Blk (w.setCell ⟨q,o,none⟩ u) q t (cs.set o u):=by
 unfold Blk at h ⊢
 rw [heap_setCell_same w q o _ t u h]
 simp
theorem Ext.setBoth {a b:World} {q t o:Nat} {cs:List Value} {u:Value} (e:Ext a b) (h:Blk a q t cs):Ext (a.setCell ⟨q,o,none⟩ u) (b.setCell ⟨q,o,none⟩ u) :=
 ⟨e.os,e.tape,e.output,by simpa using e.size,fun k hk=>by
  by_cases hq:k=q
  ·subst hq
   exact ((h.ext e).setC o u).trans (h.setC o u).symm
  ·rw [heap_setCell_other b _ k u hq,heap_setCell_other a _ k u hq]
   exact e.block k (by simpa using hk)⟩
def zec (N:List zb) (k:Nat) (j:Int):Prop := ∃ i,i < k∧N[i]!.id=j
def zgi (N:List zf) (k:Nat) (j:Int):Prop := ∃ i,i < k∧N[i]!.id=j
theorem zbq.mono {w:World} {base:Nat} {τ:Nat→Tg} {V:Value} {lv pv:Int→Value} {hp:Int→List HP} {N:List zb} {L Q L' Q':Int→Prop} (h:zbq w base τ V lv pv hp N L Q) (h1:∀ n ∈ N,L' n.id→L n.id) (h2:∀ n ∈ N,Q' n.id→Q n.id):zbq w base τ V lv pv hp N L' Q' :=
 ⟨h.nodes,fun n hn hl=>h.labs n hn (h1 n hn hl),fun n hn hl=>h.prps n hn (h2 n hn hl)⟩
theorem zc8.mono {w:World} {base:Nat} {τ:Nat→Tg} {E:Value} {ev:Int→Value} {he:Int→List HP} {M:List zf} {R R':Int→Prop} (h:zc8 w base τ E ev he M R) (h1:∀ n ∈ M,R' n.id→R n.id):zc8 w base τ E ev he M R' :=
 ⟨h.edges,fun n hn hl=>h.eprs n hn (h1 n hn hl)⟩
theorem zbq.other {w w':World} {base q T2:Nat} {cs:List Value} {τ:Nat→Tg} {V:Value} {lv pv:Int→Value} {hp:Int→List HP} {N:List zb} {L Q:Int→Prop} (h:zbq w base τ V lv pv hp N L Q) (hB:Blk w q T2 cs) (hT:57 ≠ T2∧9 ≠ T2∧54 ≠ T2) (hg:w.grownBy w' (some q)):zbq w' base τ V lv pv hp N L Q :=
 ⟨h.nodes.other hB hT.1 hg,fun n hn hl=>(h.labs n hn hl).other hB hT.2.1 hg,fun n hn hl=>⟨(h.prps n hn hl).1.other hB hT.2.2 hg,(h.prps n hn hl).2⟩⟩
theorem zc8.other {w w':World} {base q T2:Nat} {cs:List Value} {τ:Nat→Tg} {E:Value} {ev:Int→Value} {he:Int→List HP} {M:List zf} {R:Int→Prop} (h:zc8 w base τ E ev he M R) (hB:Blk w q T2 cs) (hT:59 ≠ T2∧54 ≠ T2) (hg:w.grownBy w' (some q)):zc8 w' base τ E ev he M R :=
 ⟨h.edges.other hB hT.1 hg,fun n hn hl=>⟨(h.eprs n hn hl).1.other hB hT.2 hg,(h.eprs n hn hl).2⟩⟩
theorem zep (w:World) (q:Nat) (u0 u1 u2 u3:Value):w.grownBy ((((w.setCell ⟨q,0,none⟩ u0).setCell ⟨q,1,none⟩ u1).setCell ⟨q,2,none⟩ u2).setCell ⟨q,3,none⟩ u3) (some q):=zj (zj (zj (za8 _ _ _ _) (za8 _ _ _ _)) (za8 _ _ _ _)) (za8 _ _ _ _)
theorem zed {w:World} {q t:Nat} {v0 v1 v2 v3:Value} (h:Blk w q t [v0,v1,v2,v3]) (u0 u1 u2 u3:Value):Blk ((((w.setCell ⟨q,0,none⟩ u0).setCell ⟨q,1,none⟩ u1).setCell ⟨q,2,none⟩ u2).setCell ⟨q,3,none⟩ u3) q t [u0,u1,u2,u3]:=(((h.setC 0 u0).setC 1 u1).setC 2 u2).setC 3 u3
theorem Blk.past {w:World} {q q' t o:Nat} {cs:List Value} (h:Blk w q t cs) (hne:q ≠ q') (u:Value):Blk (w.setCell ⟨q',o,none⟩ u) q t cs:=(heap_setCell_other w _ q u hne).trans h
theorem zbq.at_ {w:World} {base gN m c:Nat} {τ:Nat→Tg} {lv pv:Int→Value} {hp:Int→List HP} {N:List zb} {L Q:Int→Prop} (h:zbq w base τ (.slice (some ⟨gN,0,none⟩) m c) lv pv hp N L Q) {i:Nat} (hi:i < N.length) :
  w.cell? ⟨gN,i*3,none⟩=some (.int .i64 N[i].id)∧w.cell? ⟨gN,i*3+1,none⟩=some (lv N[i].id)∧w.cell? ⟨gN,i*3+2,none⟩=some (pv N[i].id)∧∀ o,w.frozen? ⟨gN,o,none⟩=false:=by
 have h1:(i+1)*3≤N.length*3:=Nat.mul_le_mul_right _ hi
 have hf:=fun j (hj:j < 3)=>zce (zbj lv pv) 3 (fun _=>rfl) N i j hi hj
 exact ⟨(h.nodes.cell (j:=i*3) Qk).trans (hf 0 Qj),(h.nodes.cell (j:=i*3+1) Qk).trans (hf 1 Qj),(h.nodes.cell (j:=i*3+2) Qk).trans (hf 2 Qj),h.nodes.frz⟩
theorem zc8.at_ {w:World} {base gE m c:Nat} {τ:Nat→Tg} {ev:Int→Value} {he:Int→List HP} {M:List zf} {R:Int→Prop} (h:zc8 w base τ (.slice (some ⟨gE,0,none⟩) m c) ev he M R) {i:Nat} (hi:i < M.length) :
  w.cell? ⟨gE,i*5,none⟩=some (.int .i64 M[i].id)∧w.cell? ⟨gE,i*5+1,none⟩=some (.int .i64 M[i].frm)∧w.cell? ⟨gE,i*5+2,none⟩=some (.int .i64 M[i].to_)∧w.cell? ⟨gE,i*5+3,none⟩=some (.string M[i].typ)∧w.cell? ⟨gE,i*5+4,none⟩=some (ev M[i].id)∧∀ o,w.frozen? ⟨gE,o,none⟩=false:=by
 have h1:(i+1)*5≤M.length*5:=Nat.mul_le_mul_right _ hi
 have hf:=fun j (hj:j < 5)=>zce (zb0 ev) 5 (fun _=>rfl) M i j hi hj
 exact ⟨(h.edges.cell (j:=i*5) Qk).trans (hf 0 Qj),(h.edges.cell (j:=i*5+1) Qk).trans (hf 1 Qj),(h.edges.cell (j:=i*5+2) Qk).trans (hf 2 Qj),(h.edges.cell (j:=i*5+3) Qk).trans (hf 3 Qj),(h.edges.cell (j:=i*5+4) Qk).trans (hf 4 Qj),h.edges.frz⟩
theorem zm1 (g:za) (ok:Nat→Prop) (A B:Option Addr) (c d:Nat) (w:World) (hg:zp w ok A B g) (hv:VG g) :
  Calls Tryz.prog 46 #[.agg #[.slice A g.nodes.length c, .slice B g.edges.length d, .int .i64 g.nn, .int .i64 g.ne]] w fun e w' => ∃ τ V E lv pv ev hp he,e= .returned (.agg #[V,E, .int .i64 g.nn, .int .i64 g.ne])∧zbq w' w.heap.size τ V lv pv hp g.nodes (fun _=>True) (fun _=>True)∧zc8 w' w.heap.size τ E ev he g.edges (fun _=>True)∧Ext w w':=by
 obtain ⟨q1,w1,hq1,hw1,HB1,hx1⟩:=zb9 w (.slice A g.nodes.length c) (.slice B g.edges.length d) (.int .i64 g.nn) (.int .i64 g.ne) 25
 obtain ⟨q2,w2,hq2,hw2,HB2,hx2⟩:=zl4 w1 25
 obtain ⟨q3,w3,hq3,hw3,HB3,hx3⟩:=zb9 w2 (.slice A g.nodes.length c) (.slice B g.edges.length d) (.int .i64 g.nn) (.int .i64 g.ne) 25
 have hx:Ext w w3:=(hx1.trans hx2).trans hx3
 have HWQ:Hid (w2=(w.alloc (.cells #[.slice A g.nodes.length c, .slice B g.edges.length d, .int .i64 g.nn, .int .i64 g.ne] 25)).alloc (.cells #[.slice none 0 0, .slice none 0 0, .int .i64 0, .int .i64 0] 25)):=Lib.hid (by rw [hw2,hw1])
 have HQ1:=Lib.hid hq1
 have HQ2:Hid (q2=w.heap.size+1):=Lib.hid (by rw [hq2,hw1];simp)
 have HQ3:=Lib.hid hq3
 have HW3:=Lib.hid hw3
 have h1s:=hx1.le
 have h2s:=hx2.le
 have hq12:q1 < q2:=by rw [hq1,HQ2.out];omega
 have hq13:q2 < q3:=by have:=HB2.lt;omega
 have hq3s:q3 < w3.heap.size:=HB3.lt
 have hnl:=hv.nl
 have hel:=hv.el
 obtain ⟨lv0,pv0,hraw,hfl⟩:=hg.nodes.flat hv.ns
 obtain ⟨ev0,hrawE,hflE⟩:=hg.edges.flat hv.es
 have HRAW:=Lib.hid hraw
 have HRAWE:=Lib.hid hrawE
 have HCN:=Lib.hid (fun W (e:Ext w W)=>zux (g.nodes.flatMap (zbj lv0 pv0)) g.nodes.length A c W (zli lv0 pv0 g.nodes) (fun ad hA j u hu=>e.cell (hfl ad hA j u hu)) (fun hA=>hg.nodes.none_ hA) (zw2 hraw) Qk)
 have HCE:=Lib.hid (fun W (e:Ext w W)=>zu3 (g.edges.flatMap (zb0 ev0)) g.edges.length B d W (zk4 ev0 g.edges) (fun ad hA j u hu=>e.cell (hflE ad hA j u hu)) (fun hA=>hg.edges.none_ hA) (zxj hrawE) Qk)
 have HV:=Lib.hid hv
 have HNI:=Lib.hid (fun (i:Nat) (hi:i < g.nodes.length)=>zds hv.ns hi)
 have HEI:=Lib.hid (fun (i:Nat) (hi:i < g.edges.length)=>zds hv.es hi)
 have g1:w2.cell? ⟨q1,0,none⟩=some (.slice A g.nodes.length c):=hx2.cell ((HB1.cell 0).trans rfl)
 have g2:w2.cell? ⟨q1,1,none⟩=some (.slice B g.edges.length d):=hx2.cell ((HB1.cell 1).trans rfl)
 have g3:w2.cell? ⟨q1,2,none⟩=some (.int .i64 g.nn):=hx2.cell ((HB1.cell 2).trans rfl)
 have g4:w2.cell? ⟨q1,3,none⟩=some (.int .i64 g.ne):=hx2.cell ((HB1.cell 3).trans rfl)
 have HBa:=Lib.hid (HB1.ext (hx2.trans hx3))
 have HBb:=Lib.hid (HB2.ext hx3)
 have HBc:=Lib.hid HB3
 have HX:=Lib.hid hx
 have HX2:=Lib.hid (hx1.trans hx2)
 have HX3:=Lib.hid hx3
 clear hraw hrawE hfl hflE hg hv hq1 hq2 hq3 hw1 hw2 hw3 HB1 HB2 HB3 hx hx1 hx2 hx3 h1s h2s
 go_enter Tryz.func46,Tryz.ntmps46
 go_upto_region 1 with (fail)
 rw [←HWQ.out,←HQ2.out,←HQ1.out]
 go_upto_region 2 with (fail)
 rw [←HQ3.out,←HW3.out]
 have hx:=HX.out
 have c1:w3.cell? ⟨q1,0,none⟩=some (.slice A g.nodes.length c):=HX3.out.cell g1
 have c3:w3.cell? ⟨q3,0,none⟩=some (.slice A g.nodes.length c):=(HBc.out.cell 0).trans rfl
 clear g1 g2 g3 g4
 go_upto_region 3 with ((go_at_call 83;((with_reducible refine (HCN.out _ Qg).mono ?_);rintro e w4 ⟨v4,rfl,own4,hx4⟩;obtain ⟨A4,cV,rfl⟩:=zao own4;have c4:=hx4.cell c3;have f4:=(HBc.out.ext hx4).frz 0)))
 obtain ⟨wS,hwS⟩:∃ W,W=w3.setCell ⟨q3,0,none⟩ (.slice A4 g.nodes.length cV):=⟨_,rfl⟩
 obtain ⟨w5,hw5⟩:∃ W,W=w4.setCell ⟨q3,0,none⟩ (.slice A4 g.nodes.length cV):=⟨_,rfl⟩
 have hS5:Ext wS w5:=by rw [hwS,hw5];exact hx4.setBoth HBc.out
 have hwSx:Ext w wS:=by rw [hwS];exact hx.setCell (by show w.heap.size≤q3;have:=HQ1.out;omega) _
 have HP1:=Lib.hid (show Blk wS q1 25 [.slice A g.nodes.length c, .slice B g.edges.length d, .int .i64 g.nn, .int .i64 g.ne] by rw [hwS];exact HBa.out.past Qk _)
 have HP2:=Lib.hid (show Blk wS q2 25 [.slice none 0 0, .slice none 0 0, .int .i64 0, .int .i64 0] by rw [hwS];exact HBb.out.past Qk _)
 have HP3:=Lib.hid (show Blk wS q3 25 [.slice A4 g.nodes.length cV, .slice B g.edges.length d, .int .i64 g.nn, .int .i64 g.ne] by rw [hwS];exact HBc.out.setC 0 _)
 have hsz:wS.heap.size=w3.heap.size:=by rw [hwS];simp
 have hws3:=hx.le
 have HC0:Hid (∃ τ lv pv hp,zbq w5 w.heap.size τ (.slice A4 g.nodes.length cV) lv pv hp g.nodes (zec g.nodes 0) (zec g.nodes 0)∧∀ j,¬zec g.nodes 0 j→lv j=lv0 j∧pv j=pv0 j):=Lib.hid (by
  have h0:zbq w4 w.heap.size (fun _=> .nodes) (.slice A4 g.nodes.length cV) lv0 pv0 (fun _=>[]) g.nodes (zec g.nodes 0) (zec g.nodes 0):=⟨⟨zgo own4 hws3,fun _ _=>rfl⟩,fun n hn ⟨i,hi,_⟩=>absurd hi Qk,fun n hn ⟨i,hi,_⟩=>absurd hi Qk⟩
  rw [hw5]
  exact ⟨_,_,_,_,h0.other (HBc.out.ext hx4) Qj (za8 _ _ _ _),fun _ _=>⟨rfl,rfl⟩⟩)
 have HGA:=Lib.hid (fun (h:0 < g.nodes.length)=>(by
  obtain ⟨gN,cap,cur,e,hge,-⟩:=zbp own4 h
  injection e with e1 e2 e3
  exact ⟨gN,e1,hge⟩:∃ gN,A4=some ⟨gN,0,none⟩∧w3.heap.size≤gN))
 have HSZ:=Lib.hid hsz
 have c5:w5.cell? ⟨q3,0,none⟩=some (.slice A4 g.nodes.length cV):=hS5.cell ((HP3.out.cell 0).trans rfl)
 (try rw [←hw5])
 clear hwS hw5 own4 c4 f4 hx4 c3 c1 hsz
 go_wp2_with fail
 go_loopw [16] (fun u W => ∃ k:Nat,u= .int .i64 k∧k≤g.nodes.length∧Hid (∃ τ lv pv hp,zbq W w.heap.size τ (.slice A4 g.nodes.length cV) lv pv hp g.nodes (zec g.nodes k) (zec g.nodes k)∧∀ j,¬zec g.nodes k j→lv j=lv0 j∧pv j=pv0 j)∧Ext wS W) (fun u _=>g.nodes.length - (intOf u).toNat)
 case atStart=>exact ⟨0,rfl,Nat.zero_le _,HC0,hS5⟩
 case round =>
  obtain ⟨k,rfl,hk,hC,hE⟩:=hrel
  have hWr:Ext w wr:=hwSx.trans hE
  by_cases hlt:k < g.nodes.length
  ·obtain ⟨gN,rfl,hgN⟩:=HGA.out Qk
   obtain ⟨τ,lv,pv,hp,hCN,hun⟩:=hC.out
   clear hC
   obtain ⟨y0,y1,y2,-⟩:=hCN.at_ hlt
   have hnd:¬zec g.nodes k g.nodes[k].id:=fun ⟨i,hi,e⟩=>by
    have hil:i < g.nodes.length:=by omega
    rw [getElem!_pos g.nodes i hil] at e
    have:=HNI.out k hlt i hil e
    omega
   obtain ⟨e1,e2⟩:=hun _ hnd
   have hmem:g.nodes[k] ∈ g.nodes:=List.getElem_mem hlt
   obtain ⟨A',c',B',d',r1,-,r3,r4,-,r6⟩:=HRAW.out _ hmem
   rw [e1,r1] at y1
   rw [e2,r4] at y2
   have hpv:=(HV.out.nv _ hmem).2
   have hll:=hpv.ll
   have hpl:=hpv.pl
   obtain ⟨H,hH,hHf⟩:=zay.flat r6 (zd8 hpv)
   have hHl:H.length=g.nodes[k].props.length:=by rw [←hH,List.length_map]
   have HCS:=Lib.hid (fun W (e:Ext w W)=>zvn (zdn g.nodes[k].labels) g.nodes[k].labels.length A' c' W (zqp _) (fun ad hA j u hu=>e.cell (zcq.flat r3 ad hA j u hu)) (fun hA=>r3.none_ hA) (zld _) Qk)
   have HCP:=Lib.hid (fun W (e:Ext w W)=>zm0 (H.flatMap HP.enc) g.nodes[k].props.length B' d' W (by rw [zil,hHl]) (fun ad hA j u hu=>e.cell (hHf ad hA j u hu)) (fun hA=>r6.none_ hA) (zid H) Qk)
   have hgl:gN < wr.heap.size:=(hCN.nodes.lt rfl).2
   have hgq:gN ≠ q3:=by omega
   have hgS:wS.heap.size≤gN:=by have:=HSZ.out;omega
   have HK:=Lib.hid hCN
   have HUN:=Lib.hid hun
   have HHH:=Lib.hid hH
   have HHL:=Lib.hid hHl
   have HND:=Lib.hid hnd
   obtain ⟨y,w6,hy,hw6,z0,z1,z2,hx6⟩:=zpb wr g.nodes[k].id A' B' g.nodes[k].labels.length c' g.nodes[k].props.length d' 57
   have hyg:gN ≠ y:=by omega
   have hwb:w.heap.size≤wr.heap.size:=hWr.le
   have p1:(0:Int)≤(k:Int):=by omega
   have p2:(k:Int) < (g.nodes.length:Int):=by omega
   have m0:wr.cell? ⟨q3,0,none⟩=some (.slice (some ⟨gN,0,none⟩) g.nodes.length cV):=hE.cell ((HP3.out.cell 0).trans rfl)
   have m3:=hx6.cell m0
   have hZ6:Ext w w6:=hWr.trans hx6
   clear e1 e2 r1 r3 r4 r6 hpv hll hpl hH hHl hHf hCN hun hnd
   go_upto_region 6 with (fail)
   rw [←hw6,←hy]
   have HY:=Lib.hid hy
   clear hw6 hy y0 y1 y2
   have MKS:=Lib.hid (fun V (e:Ext w6 V)=>e.cell z1)
   have MKT:=Lib.hid (fun V (e:Ext w6 V)=>e.cell m3)
   refine za1.start (S:=(fun V=>V.cell? ⟨y,1,none⟩=some (.slice A' g.nodes[k].labels.length c'))) (T:=(fun V=>V.cell? ⟨q3,0,none⟩=some (.slice (some ⟨gN,0,none⟩) g.nodes.length cV))) (E:=5) (by kernel_rfl) ?hs15001 (fun hHeld=>?go15001)
   case hs15001=>exact ⟨by (exact MKS.out _ Qg),by (first|assumption|exact MKT.out _ Qg)⟩
   refine KU 0 ⟨fun _=>hHeld.1,hHeld.2⟩ ?_;simp only [PU]
   refine KU 1 ⟨fun _=>hHeld.1,hHeld.2⟩ ?_;simp only [PU]
   refine KU 2 ⟨fun _=>hHeld.1,hHeld.2⟩ ?_;simp only [PU]
   refine KU 3 ⟨fun _=>hHeld.1,hHeld.2⟩ ?_;simp only [PU]
   refine KT 4 hHeld ?_;simp only [PU]
   refine za1.ready (rs:=[5]) (by kernel_rfl) (by simp) ?_
   refine zci.cons (o:=⟨_,_,_,_,_,_⟩) rfl (fun K hK=>?step15007x0) ?more15007x0
   case more15007x0=>exact zci.nil
   go_simp
   (go_at_call 84;((with_reducible refine (HCS.out _ Qg).mono ?_);rintro e w7 ⟨v7,rfl,own7,hx7⟩;obtain ⟨A7,c7,rfl⟩:=zao own7;have hE7:Ext w6 w7:=Ext.trans Qg hx7;have n7:=hE7.cell m3;obtain ⟨-,s1,-,sf⟩:=(HK.out.ext (hx6.trans hE7)).at_ hlt;have sf1:=sf (k*3+1);clear sf;have n8:=(World.cell?_setCell_other w7 ⟨gN,k*3+1,none⟩ ⟨q3,0,none⟩ (.slice A7 g.nodes[k].labels.length c7) (fun e=>hgq (by injection e))).trans n7))
   refine hK.out _ _ ?hS15007x0 (fun H15007=>?_)
   case hS15007x0=>exact ⟨fun h=>(by first|exact absurd h Qj|simp at h),by (first|assumption|exact MKT.out _ Qg)⟩
   clear hK K
   clear hHeld
   (try simp only [PU])
   refine KU 6 H15007 ?_;simp only [PU]
   refine KU 7 H15007 ?_;simp only [PU]
   refine za1.ready (rs:=[8]) (by kernel_rfl) (by simp) ?_
   refine zci.cons (o:=⟨_,_,_,_,_,_⟩) rfl (fun K hK=>?step15010x0) ?more15010x0
   case more15010x0=>exact zci.nil
   go_simp
   refine hK.out _ _ ?hS15010x0 (fun H15010=>?_)
   case hS15010x0=>exact ⟨fun h=>(by first|exact absurd h Qj|simp at h),by (first|assumption|exact MKT.out _ Qg)⟩
   clear hK K
   clear H15007
   refine za1.done (by kernel_rfl) ?_ _
   clear H15010
   obtain ⟨w8,hw8⟩:∃ W,W=w7.setCell ⟨gN,k*3+1,none⟩ (.slice A7 g.nodes[k].labels.length c7):=⟨_,rfl⟩
   obtain ⟨τ1,lv1,hC1,hl1⟩:=(HK.out.ext (Ext.trans hx6 Qg)).doLab hlt own7 hx7 (Nat.le_trans hwb (Ext.trans hx6 Qg).le) (HNI.out k hlt)
   have HW8:Hid (w8.heap.size=w7.heap.size):=Lib.hid (by rw [hw8];simp)
   rw [←hw8] at hC1 n8
   have HK1:=Lib.hid hC1
   have HL1:=Lib.hid hl1
   have z8:w8.cell? ⟨y,2,none⟩=some (.slice B' g.nodes[k].props.length d'):=by
    rw [hw8,World.cell?_setCell_other _ _ _ _ (fun e=>hyg (by injection e))]
    exact hE7.cell z2
   have hS8:Ext wS w8:=by
    rw [hw8];exact ((hE.trans hx6).trans hE7).setCell hgS _
   have hZ8:Ext w w8:=hwSx.trans hS8
   clear hC1 hl1 own7 hx7 s1 sf1 n7 MKS MKT
   (try rw [←hw8])
   clear hw8
   go_upto_region 7 with (fail)
   have MKS:=Lib.hid (fun V (e:Ext w8 V)=>e.cell z8)
   have MKT:=Lib.hid (fun V (e:Ext w8 V)=>e.cell n8)
   refine za1.start (S:=(fun V=>V.cell? ⟨y,2,none⟩=some (.slice B' g.nodes[k].props.length d'))) (T:=(fun V=>V.cell? ⟨q3,0,none⟩=some (.slice (some ⟨gN,0,none⟩) g.nodes.length cV))) (E:=5) (by kernel_rfl) ?hs15011 (fun hHeld=>?go15011)
   case hs15011=>exact ⟨by (exact MKS.out _ Qg),by (first|assumption|exact MKT.out _ Qg)⟩
   refine KU 0 ⟨fun _=>hHeld.1,hHeld.2⟩ ?_;simp only [PU]
   refine KU 1 ⟨fun _=>hHeld.1,hHeld.2⟩ ?_;simp only [PU]
   refine KU 2 ⟨fun _=>hHeld.1,hHeld.2⟩ ?_;simp only [PU]
   refine KU 3 ⟨fun _=>hHeld.1,hHeld.2⟩ ?_;simp only [PU]
   refine KT 4 hHeld ?_;simp only [PU]
   refine za1.ready (rs:=[5]) (by kernel_rfl) (by simp) ?_
   refine zci.cons (o:=⟨_,_,_,_,_,_⟩) rfl (fun K hK=>?step15017x0) ?more15017x0
   case more15017x0=>exact zci.nil
   go_simp
   (go_at_call 85;((with_reducible refine (HCP.out _ Qg).mono ?_);rintro e w9 ⟨v9,rfl,own9,hx9⟩;obtain ⟨A9,c9,rfl⟩:=zao own9;have hE9:Ext w8 w9:=Ext.trans Qg hx9;have n9:=hE9.cell n8;obtain ⟨-,-,s2,sf⟩:=(HK1.out.ext hE9).at_ hlt;have sf2:=sf (k*3+2);clear sf;have n10:=(World.cell?_setCell_other w9 ⟨gN,k*3+2,none⟩ ⟨q3,0,none⟩ (.slice A9 g.nodes[k].props.length c9) (fun e=>hgq (by injection e))).trans n9))
   refine hK.out _ _ ?hS15017x0 (fun H15017=>?_)
   case hS15017x0=>exact ⟨fun h=>(by first|exact absurd h Qj|simp at h),by (first|assumption|exact MKT.out _ Qg)⟩
   clear hK K
   clear hHeld
   (try simp only [PU])
   refine KU 6 H15017 ?_;simp only [PU]
   refine KU 7 H15017 ?_;simp only [PU]
   refine za1.ready (rs:=[8]) (by kernel_rfl) (by simp) ?_
   refine zci.cons (o:=⟨_,_,_,_,_,_⟩) rfl (fun K hK=>?step15020x0) ?more15020x0
   case more15020x0=>exact zci.nil
   go_simp
   refine hK.out _ _ ?hS15020x0 (fun H15020=>?_)
   case hS15020x0=>exact ⟨fun h=>(by first|exact absurd h Qj|simp at h),by (first|assumption|exact MKT.out _ Qg)⟩
   clear hK K
   clear H15017
   refine za1.done (by kernel_rfl) ?_ _
   clear H15020
   obtain ⟨τ2,pv2,hp2,hC2,hl2⟩:=(HK1.out.ext (w':=_) Qg).doPrp hlt HHH.out (by rw [HHL.out];exact own9) hx9 (Nat.le_trans hZ8.le (Ext.le (a:=w8) Qg)) (HNI.out k hlt)
   have HR:=Lib.hid (show ∃ τ lv pv hp,zbq (w9.setCell ⟨gN,k*3+2,none⟩ (.slice A9 g.nodes[k].props.length c9)) w.heap.size τ (.slice (some ⟨gN,0,none⟩) g.nodes.length cV) lv pv hp g.nodes (zec g.nodes (k+1)) (zec g.nodes (k+1))∧∀ j,¬zec g.nodes (k+1) j→lv j=lv0 j∧pv j=pv0 j from
    have hD:∀ j,zec g.nodes (k+1) j→zec g.nodes k j∨j=g.nodes[k].id:=fun j ⟨i,hi,e⟩=>by
     by_cases hik:i=k
     ·rw [hik,getElem!_pos g.nodes k hlt] at e;exact .inr e.symm
     ·exact .inl ⟨i,by omega,e⟩
    have hD2:∀ j,¬zec g.nodes (k+1) j→¬zec g.nodes k j∧j ≠ g.nodes[k].id:=fun j hj=>⟨fun ⟨i,hi,e⟩=>hj ⟨i,by omega,e⟩,fun e=>hj ⟨k,by omega,by rw [getElem!_pos g.nodes k hlt];exact e.symm⟩⟩
    ⟨τ2,lv1,pv2,hp2,hC2.mono (fun n _ h=>hD _ h) (fun n _ h=>hD _ h),fun j hj=>⟨(HL1.out j (hD2 j hj).2).trans (HUN.out j (hD2 j hj).1).1,(hl2 j (hD2 j hj).2).trans (HUN.out j (hD2 j hj).1).2⟩⟩)
   have HS10:=Lib.hid (show Ext wS (w9.setCell ⟨gN,k*3+2,none⟩ (.slice A9 g.nodes[k].props.length c9)) from (hS8.trans hE9).setCell hgS _)
   clear hC2 hl2 own9 hx9 s2 sf2 n9 n10 MKS MKT
   go_wp2_with fail
   go_roundw
   case rel=>exact ⟨k+1,by go_num,by omega,HR,HS10.out⟩
   case measure=>simp [intOf];omega
  ·have p2:¬ (k:Int) < (g.nodes.length:Int):=by omega
   obtain ⟨τ,lv,pv,hp,hCN,-⟩:=hC.out
   have hN1:zbq wr w.heap.size τ (.slice A4 g.nodes.length cV) lv pv hp g.nodes (fun _=>True) (fun _=>True):=by
    have h2:∀ n ∈ g.nodes,zec g.nodes k n.id:=fun n hn=>by
     obtain ⟨i,hi,rfl⟩:=List.getElem_of_mem hn
     exact ⟨i,by omega,by rw [getElem!_pos g.nodes i hi]⟩
    exact hCN.mono (fun n hn _=>h2 n hn) (fun n hn _=>h2 n hn)
   have HN1:=Lib.hid hN1
   have b1:wr.cell? ⟨q1,1,none⟩=some (.slice B g.edges.length d):=hE.cell ((HP1.out.cell 1).trans rfl)
   have BQ3:=Lib.hid (HP3.out.ext hE)
   have BQ2:=Lib.hid (HP2.out.ext hE)
   have hwb:w.heap.size≤wr.heap.size:=hWr.le
   have hq3r:q3 < wr.heap.size:=BQ3.out.lt
   clear hC hCN hN1
   go_upto_region 10 with ((go_at_call 86;((with_reducible refine (HCE.out _ Qg).mono ?_);rintro e w12 ⟨v12,rfl,own12,hx12⟩;obtain ⟨A5,cE,rfl⟩:=zao own12;have c12:w12.cell? ⟨q3,1,none⟩=some (.slice B g.edges.length d):=((BQ3.out.ext hx12).cell 1).trans rfl;have f12:=(BQ3.out.ext hx12).frz 1)))
   obtain ⟨wT,hwT⟩:∃ W,W=wr.setCell ⟨q3,1,none⟩ (.slice A5 g.edges.length cE):=⟨_,rfl⟩
   obtain ⟨w13,hw13⟩:∃ W,W=w12.setCell ⟨q3,1,none⟩ (.slice A5 g.edges.length cE):=⟨_,rfl⟩
   have hST:Ext wT w13:=by rw [hwT,hw13];exact hx12.setBoth BQ3.out
   have hwTx:Ext w wT:=by rw [hwT];exact hWr.setCell (by show w.heap.size≤q3;have:=HQ1.out;omega) _
   have HT2:=Lib.hid (show Blk wT q2 25 [.slice none 0 0, .slice none 0 0, .int .i64 0, .int .i64 0] by rw [hwT];exact BQ2.out.past Qk _)
   have HT3:=Lib.hid (show Blk wT q3 25 [.slice A4 g.nodes.length cV, .slice A5 g.edges.length cE, .int .i64 g.nn, .int .i64 g.ne] by rw [hwT];exact BQ3.out.setC 1 _)
   have hszT:wT.heap.size=wr.heap.size:=by rw [hwT];simp
   have HSZT:Hid (q3 < wT.heap.size∧w.heap.size≤wT.heap.size):=Lib.hid ⟨by omega,by omega⟩
   have HC0:Hid (∃ τ ev he,zbq w13 w.heap.size τ (.slice A4 g.nodes.length cV) lv pv hp g.nodes (fun _=>True) (fun _=>True)∧zc8 w13 w.heap.size τ (.slice A5 g.edges.length cE) ev he g.edges (zgi g.edges 0)∧∀ j,¬zgi g.edges 0 j→ev j=ev0 j):=Lib.hid (by
    obtain ⟨τ3,k1,k2⟩:=HN1.out.doEdges (he:=fun _=>[]) own12 hx12 hwb
    rw [hw13]
    exact ⟨τ3,ev0,fun _=>[],k1.other (BQ3.out.ext hx12) Qj (za8 _ _ _ _),(k2.mono (fun n _ ⟨i,hi,_⟩=>absurd hi Qk)).other (BQ3.out.ext hx12) Qj (za8 _ _ _ _),fun _ _=>rfl⟩)
   have HGE:=Lib.hid (fun (h:0 < g.edges.length)=>(by
    obtain ⟨gE,cap,cur,e,hge,-⟩:=zbp own12 h
    injection e with e1 e2 e3
    exact ⟨gE,e1,by omega⟩:∃ gE,A5=some ⟨gE,0,none⟩∧wT.heap.size≤gE))
   have c13:w13.cell? ⟨q3,1,none⟩=some (.slice A5 g.edges.length cE):=hST.cell ((HT3.out.cell 1).trans rfl)
   (try rw [←hw13])
   clear hwT hw13 own12 c12 f12 hx12 b1 hszT HN1 BQ3 BQ2 hwb hq3r hWr hE
   go_wp2_with fail
   go_loopw [45] (fun u W => ∃ k:Nat,u= .int .i64 k∧k≤g.edges.length∧Hid (∃ τ ev he,zbq W w.heap.size τ (.slice A4 g.nodes.length cV) lv pv hp g.nodes (fun _=>True) (fun _=>True)∧zc8 W w.heap.size τ (.slice A5 g.edges.length cE) ev he g.edges (zgi g.edges k)∧∀ j,¬zgi g.edges k j→ev j=ev0 j)∧Ext wT W) (fun u _=>g.edges.length - (intOf u).toNat)
   case atStart=>exact ⟨0,rfl,Nat.zero_le _,HC0,hST⟩
   case round =>
    obtain ⟨k,rfl,hk,hC,hE⟩:=hrel
    have hWr:Ext w wr:=hwTx.trans hE
    by_cases hlt:k < g.edges.length
    ·obtain ⟨gE,rfl,hgN⟩:=HGE.out Qk
     obtain ⟨τ,ev,he,hCN,hCE,hun⟩:=hC.out
     clear hC
     obtain ⟨y0,y1,y2,y3,y4,-⟩:=hCE.at_ hlt
     have hnd:¬zgi g.edges k g.edges[k].id:=fun ⟨i,hi,e⟩=>by
      have hil:i < g.edges.length:=by omega
      rw [getElem!_pos g.edges i hil] at e
      have:=HEI.out k hlt i hil e
      omega
     have e1:=hun _ hnd
     have hmem:g.edges[k] ∈ g.edges:=List.getElem_mem hlt
     obtain ⟨B',d',r4,-,r6⟩:=HRAWE.out _ hmem
     rw [e1,r4] at y4
     have hpv:=(HV.out.ev _ hmem).2.2.2
     have hpl:=hpv.pl
     obtain ⟨H,hH,hHf⟩:=zay.flat r6 (zd8 hpv)
     have hHl:H.length=g.edges[k].props.length:=by rw [←hH,List.length_map]
     have HCP:=Lib.hid (fun W (e:Ext w W)=>zm0 (H.flatMap HP.enc) g.edges[k].props.length B' d' W (by rw [zil,hHl]) (fun ad hA j u hu=>e.cell (hHf ad hA j u hu)) (fun hA=>r6.none_ hA) (zid H) Qk)
     have hgl:gE < wr.heap.size:=(hCE.edges.lt rfl).2
     have hgq:gE ≠ q3:=by have:=HSZT.out;omega
     have hgS:wT.heap.size≤gE:=hgN
     have HK0:=Lib.hid hCN
     have HK:=Lib.hid hCE
     have HUN:=Lib.hid hun
     have HHH:=Lib.hid hH
     have HHL:=Lib.hid hHl
     obtain ⟨y,w6,hy,hw6,z0,z1,z2,z3,z4,hx6⟩:=zis wr g.edges[k] B' d' 59
     have hwb:w.heap.size≤wr.heap.size:=hWr.le
     have p1:(0:Int)≤(k:Int):=by omega
     have p3:(k:Int) < (g.edges.length:Int):=by omega
     have m0:wr.cell? ⟨q3,1,none⟩=some (.slice (some ⟨gE,0,none⟩) g.edges.length cE):=hE.cell ((HT3.out.cell 1).trans rfl)
     have m3:=hx6.cell m0
     have hZ6:Ext w w6:=hWr.trans hx6
     clear e1 r4 r6 hpv hpl hH hHl hHf hCN hCE hun hnd
     go_upto_region 13 with (fail)
     rw [←hw6,←hy]
     clear hw6 hy y0 y1 y2 y3 y4
     have MKS:=Lib.hid (fun V (e:Ext w6 V)=>e.cell z4)
     have MKT:=Lib.hid (fun V (e:Ext w6 V)=>e.cell m3)
     refine za1.start (S:=(fun V=>V.cell? ⟨y,4,none⟩=some (.slice B' g.edges[k].props.length d'))) (T:=(fun V=>V.cell? ⟨q3,1,none⟩=some (.slice (some ⟨gE,0,none⟩) g.edges.length cE))) (E:=5) (by kernel_rfl) ?hs15021 (fun hHeld=>?go15021)
     case hs15021=>exact ⟨by (exact MKS.out _ Qg),by (first|assumption|exact MKT.out _ Qg)⟩
     refine KU 0 ⟨fun _=>hHeld.1,hHeld.2⟩ ?_;simp only [PU]
     refine KU 1 ⟨fun _=>hHeld.1,hHeld.2⟩ ?_;simp only [PU]
     refine KU 2 ⟨fun _=>hHeld.1,hHeld.2⟩ ?_;simp only [PU]
     refine KU 3 ⟨fun _=>hHeld.1,hHeld.2⟩ ?_;simp only [PU]
     refine KT 4 hHeld ?_;simp only [PU]
     refine za1.ready (rs:=[5]) (by kernel_rfl) (by simp) ?_
     refine zci.cons (o:=⟨_,_,_,_,_,_⟩) rfl (fun K hK=>?step15027x0) ?more15027x0
     case more15027x0=>exact zci.nil
     go_simp
     (go_at_call 85;((with_reducible refine (HCP.out _ Qg).mono ?_);rintro e w7 ⟨v7,rfl,own7,hx7⟩;obtain ⟨A7,c7,rfl⟩:=zao own7;have hE7:Ext w6 w7:=Ext.trans Qg hx7;have n7:=hE7.cell m3;obtain ⟨-,-,-,-,s1,sf⟩:=(HK.out.ext (hx6.trans hE7)).at_ hlt;have sf1:=sf (k*5+4);clear sf;have n8:=(World.cell?_setCell_other w7 ⟨gE,k*5+4,none⟩ ⟨q3,1,none⟩ (.slice A7 g.edges[k].props.length c7) (fun e=>hgq (by injection e))).trans n7))
     refine hK.out _ _ ?hS15027x0 (fun H15027=>?_)
     case hS15027x0=>exact ⟨fun h=>(by first|exact absurd h Qj|simp at h),by (first|assumption|exact MKT.out _ Qg)⟩
     clear hK K
     clear hHeld
     (try simp only [PU])
     refine KU 6 H15027 ?_;simp only [PU]
     refine KU 7 H15027 ?_;simp only [PU]
     refine za1.ready (rs:=[8]) (by kernel_rfl) (by simp) ?_
     refine zci.cons (o:=⟨_,_,_,_,_,_⟩) rfl (fun K hK=>?step15030x0) ?more15030x0
     case more15030x0=>exact zci.nil
     go_simp
     refine hK.out _ _ ?hS15030x0 (fun H15030=>?_)
     case hS15030x0=>exact ⟨fun h=>(by first|exact absurd h Qj|simp at h),by (first|assumption|exact MKT.out _ Qg)⟩
     clear hK K
     clear H15027
     refine za1.done (by kernel_rfl) ?_ _
     clear H15030
     obtain ⟨τ2,ev2,he2,hC1,hC2,hl2⟩:=zc8.doEpr (HK0.out.ext (Ext.trans hx6 Qg)) (HK.out.ext (Ext.trans hx6 Qg)) hlt HHH.out (by rw [HHL.out];exact own7) hx7 (Nat.le_trans hwb (Ext.trans hx6 Qg).le) (HEI.out k hlt)
     have HR:=Lib.hid (show ∃ τ ev he,zbq (w7.setCell ⟨gE,k*5+4,none⟩ (.slice A7 g.edges[k].props.length c7)) w.heap.size τ (.slice A4 g.nodes.length cV) lv pv hp g.nodes (fun _=>True) (fun _=>True)∧zc8 (w7.setCell ⟨gE,k*5+4,none⟩ (.slice A7 g.edges[k].props.length c7)) w.heap.size τ (.slice (some ⟨gE,0,none⟩) g.edges.length cE) ev he g.edges (zgi g.edges (k+1))∧∀ j,¬zgi g.edges (k+1) j→ev j=ev0 j from
      have hD:∀ j,zgi g.edges (k+1) j→zgi g.edges k j∨j=g.edges[k].id:=fun j ⟨i,hi,e⟩=>by
       by_cases hik:i=k
       ·rw [hik,getElem!_pos g.edges k hlt] at e;exact .inr e.symm
       ·exact .inl ⟨i,by omega,e⟩
      have hD2:∀ j,¬zgi g.edges (k+1) j→¬zgi g.edges k j∧j ≠ g.edges[k].id:=fun j hj=>⟨fun ⟨i,hi,e⟩=>hj ⟨i,by omega,e⟩,fun e=>hj ⟨k,by omega,by rw [getElem!_pos g.edges k hlt];exact e.symm⟩⟩
      ⟨τ2,ev2,he2,hC1,hC2.mono (fun n _ h=>hD _ h),fun j hj=>(hl2 j (hD2 j hj).2).trans (HUN.out j (hD2 j hj).1)⟩)
     have HS10:=Lib.hid (show Ext wT (w7.setCell ⟨gE,k*5+4,none⟩ (.slice A7 g.edges[k].props.length c7)) from ((hE.trans hx6).trans hE7).setCell hgS _)
     clear hC1 hC2 hl2 own7 hx7 s1 sf1 n7 n8 MKS MKT
     go_wp2_with fail
     go_roundw
     case rel=>exact ⟨k+1,by go_num,by omega,HR,HS10.out⟩
     case measure=>simp [intOf];omega
    ·have p3:¬ (k:Int) < (g.edges.length:Int):=by omega
     obtain ⟨τ,ev,he,hCN,hCE,-⟩:=hC.out
     have hE1:zc8 wr w.heap.size τ (.slice A5 g.edges.length cE) ev he g.edges (fun _=>True):=by
      have h2:∀ n ∈ g.edges,zgi g.edges k n.id:=fun n hn=>by
       obtain ⟨i,hi,rfl⟩:=List.getElem_of_mem hn
       exact ⟨i,by omega,by rw [getElem!_pos g.edges i hi]⟩
      exact hCE.mono (fun n hn _=>h2 n hn)
     have BQ3:=HT3.out.ext hE
     have BQ2:=HT2.out.ext hE
     have t0:wr.cell? ⟨q3,0,none⟩=some (.slice A4 g.nodes.length cV):=(BQ3.cell 0).trans rfl
     have t1:wr.cell? ⟨q3,1,none⟩=some (.slice A5 g.edges.length cE):=(BQ3.cell 1).trans rfl
     have t2:wr.cell? ⟨q3,2,none⟩=some (.int .i64 g.nn):=(BQ3.cell 2).trans rfl
     have t3:wr.cell? ⟨q3,3,none⟩=some (.int .i64 g.ne):=(BQ3.cell 3).trans rfl
     have s0:wr.cell? ⟨q2,0,none⟩=some (.slice none 0 0):=(BQ2.cell 0).trans rfl
     have s1:wr.cell? ⟨q2,1,none⟩=some (.slice none 0 0):=(BQ2.cell 1).trans rfl
     have s2:wr.cell? ⟨q2,2,none⟩=some (.int .i64 0):=(BQ2.cell 2).trans rfl
     have s3:wr.cell? ⟨q2,3,none⟩=some (.int .i64 0):=(BQ2.cell 3).trans rfl
     have f0:=BQ2.frz 0
     have f1:=BQ2.frz 1
     have f2:=BQ2.frz 2
     have f3:=BQ2.frz 3
     obtain ⟨w8,hw8⟩:∃ W,W=(((wr.setCell ⟨q2,0,none⟩ (.slice A4 g.nodes.length cV)).setCell ⟨q2,1,none⟩ (.slice A5 g.edges.length cE)).setCell ⟨q2,2,none⟩ (.int .i64 g.nn)).setCell ⟨q2,3,none⟩ (.int .i64 g.ne):=⟨_,rfl⟩
     have hB8:=zed BQ2 (.slice A4 g.nodes.length cV) (.slice A5 g.edges.length cE) (.int .i64 g.nn) (.int .i64 g.ne)
     have hG8:=zep wr q2 (.slice A4 g.nodes.length cV) (.slice A5 g.edges.length cE) (.int .i64 g.nn) (.int .i64 g.ne)
     rw [←hw8] at hB8 hG8
     have HN8:=Lib.hid (hCN.other BQ2 Qj hG8)
     have HE8:=Lib.hid (hE1.other BQ2 Qj hG8)
     have HX8:=Lib.hid (hWr.grown hG8 (fun k hk=>by injection hk with hk;have:=HQ2.out;omega))
     have r0:w8.cell? ⟨q2,0,none⟩=some (.slice A4 g.nodes.length cV):=(hB8.cell 0).trans rfl
     have r1:w8.cell? ⟨q2,1,none⟩=some (.slice A5 g.edges.length cE):=(hB8.cell 1).trans rfl
     have r2:w8.cell? ⟨q2,2,none⟩=some (.int .i64 g.nn):=(hB8.cell 2).trans rfl
     have r3:w8.cell? ⟨q2,3,none⟩=some (.int .i64 g.ne):=(hB8.cell 3).trans rfl
     clear hC hCN hCE hE1 BQ3 BQ2 hB8 hG8
     go_wp2_with fail
     (try simp only [Exit.inBlock,Exit.then])
     (try rw [←hw8])
     clear hw8 t0 t1 t2 t3 s0 s1 s2 s3 f0 f1 f2 f3
     refine bodyPost_ret (v:= .agg #[.slice A4 g.nodes.length cV, .slice A5 g.edges.length cE, .int .i64 g.nn, .int .i64 g.ne]) (by simp [results,Tryz.results46,go_sem,r0,r1,r2,r3] <;> rfl) rfl ?_
     exact ⟨τ,_,_,rfl,⟨lv,pv,hp,HN8.out⟩,⟨ev,he,HE8.out⟩,HX8.out⟩
section
variable {w w':World} {ok ok':Nat→Prop}
theorem zcq.keep' {A:Option Addr} {l:List ByteArray} (h:zcq w ok A l) (hk:∀ b o x,ok b→w.cell? ⟨b,o,none⟩=some x→w'.cell? ⟨b,o,none⟩=some x∧ok' b):zcq w' ok' A l:=zo.mono h (fun _ _ _ _ hx=>⟨(hk _ _ _ hx.1 hx.2).2,(hk _ _ _ hx.1 hx.2).1⟩)
theorem zeh.keep' {b o:Nat} {p:zaf} (h:zeh w ok b o p) (hk:∀ b o x,ok b→w.cell? ⟨b,o,none⟩=some x→w'.cell? ⟨b,o,none⟩=some x∧ok' b):zeh w' ok' b o p:=⟨(hk _ _ _ (zx.iff.1 h.2).1 h.1).1,zx.keep' hk _ _ _ h.2⟩
theorem zay.keep' {A:Option Addr} {l:List zaf} (h:zay w ok A l) (hk:∀ b o x,ok b→w.cell? ⟨b,o,none⟩=some x→w'.cell? ⟨b,o,none⟩=some x∧ok' b):zay w' ok' A l:=zo.mono h (fun _ _ _ _ hx=>hx.keep' hk)
theorem zd4.keep' {b o:Nat} {n:zb} (h:zd4 w ok b o n) (hk:∀ b o x,ok b→w.cell? ⟨b,o,none⟩=some x→w'.cell? ⟨b,o,none⟩=some x∧ok' b):zd4 w' ok' b o n :=
 let ⟨h0,h1,A,c,B,d,h2,h3,h4,h5,h6,h7⟩:=h
 ⟨(hk _ _ _ h0 h1).2,(hk _ _ _ h0 h1).1,A,c,B,d,(hk _ _ _ h0 h2).1,h3,h4.keep' hk,(hk _ _ _ h0 h5).1,h6,h7.keep' hk⟩
theorem zd2.keep' {b o:Nat} {n:zf} (h:zd2 w ok b o n) (hk:∀ b o x,ok b→w.cell? ⟨b,o,none⟩=some x→w'.cell? ⟨b,o,none⟩=some x∧ok' b):zd2 w' ok' b o n :=
 let ⟨h0,h1,h2,h3,h4,B,d,h5,h6,h7⟩:=h
 ⟨(hk _ _ _ h0 h1).2,(hk _ _ _ h0 h1).1,(hk _ _ _ h0 h2).1,(hk _ _ _ h0 h3).1,(hk _ _ _ h0 h4).1,B,d,(hk _ _ _ h0 h5).1,h6,h7.keep' hk⟩
theorem zp.keep' {A B:Option Addr} {g:za} (h:zp w ok A B g) (hk:∀ b o x,ok b→w.cell? ⟨b,o,none⟩=some x→w'.cell? ⟨b,o,none⟩=some x∧ok' b):zp w' ok' A B g :=
 ⟨zo.mono h.nodes (fun _ _ _ _ hx=>hx.keep' hk),zo.mono h.edges (fun _ _ _ _ hx=>hx.keep' hk)⟩
theorem zp.grown {A B:Option Addr} {g:za} {q:Nat} (h:zp w ok A B g) (hg:w.grownBy w' (some q)) (hq:¬ok q):zp w' ok A B g:=h.keep' (fun b o x hb hc=>⟨hg.cell hc (fun e=>hq (by injection e with e;rw [←e];exact hb)),hb⟩)
def zdr (ok:Nat→Prop) (w:World) (g:za) (v:Value):Prop := ∃ A c B d,v= .agg #[.slice A g.nodes.length c, .slice B g.edges.length d, .int .i64 g.nn, .int .i64 g.ne]∧g.nodes.length≤c∧g.edges.length≤d∧zp w ok A B g
theorem zdr.ext {g:za} {v:Value} (h:zdr ok w g v) (e:Ext w w'):zdr ok w' g v :=
 let ⟨A,c,B,d,h1,h2,h3,h4⟩:=h
 ⟨A,c,B,d,h1,h2,h3,h4.ext e⟩
theorem zdr.to {g:za} {v:Value} (h:zdr ok w g v) (ho:∀ b,ok b→ok' b):zdr ok' w g v :=
 let ⟨A,c,B,d,h1,h2,h3,h4⟩:=h
 ⟨A,c,B,d,h1,h2,h3,h4.to ho⟩
end
noncomputable def zov (g:za) (l:List ChG):Except (Nat × Int) za:=if zdo g=0 then zgn g l 0 else .error (0,zdo g)
abbrev zhy:Value:= .agg #[.slice none 0 0, .slice none 0 0, .int .i64 0, .int .i64 0]
def ze8 (ok:Nat→Prop) (w:World) (r:Except (Nat × Int) za) (n:Nat) (e:Ending):Prop :=
 match r with
 | .ok g => ∃ v,e= .returned (.tuple #[v, .int .i64 n, .int .i64 0])∧zdr ok w g v
 | .error (i,k)=>e= .returned (.tuple #[zhy, .int .i64 i, .int .i64 k])
theorem ze8.mk_err {ok:Nat→Prop} {w:World} {r:Except (Nat × Int) za} {n i:Nat} {k:Int} {e:Ending} (h:r= .error (i,k)) (he:e= .returned (.tuple #[zhy, .int .i64 i, .int .i64 k])):ze8 ok w r n e:=by rw [h];exact he
theorem ze8.mk_ok {ok:Nat→Prop} {w:World} {r:Except (Nat × Int) za} {n:Nat} {g:za} {e:Ending} {v:Value} (h:r= .ok g) (he:e= .returned (.tuple #[v, .int .i64 n, .int .i64 0])) (hv:zdr ok w g v):ze8 ok w r n e:=by rw [h];exact ⟨v,he,hv⟩
theorem zx1 {l:List zaf} {k:ByteArray} {v:Val} {e:Int} (h:zgg l k v= .error e):e=20:=by
 unfold zgg at h
 split at h
 ·split at h <;> cases h
 ·split at h
  ·cases h
  ·split at h
   ·injection h with h;exact h.symm
   ·cases h
theorem zp2 {g:za} {c:ChG} {k:Int} (h:zcg g c= .error k):k ≠ 0:=by
 unfold zcg at h
 split at h
 ·unfold zbe zdt at h
  (repeat' split at h) <;> first
   | (cases h;done)
   | (injection h with h;subst h;decide)
   | (rename_i hs;injection h with h;subst h;rw [zx1 hs];decide)
 ·rename_i hc;injection h with h;subst h;exact hc
theorem zt.four {w:World} {base D:Nat} {g:za} (h:zt w base D g) (hv:VG g):∃ A c B d,w.cell? ⟨D,0,none⟩=some (.slice A g.nodes.length c)∧w.cell? ⟨D,1,none⟩=some (.slice B g.edges.length d)∧w.cell? ⟨D,2,none⟩=some (.int .i64 g.nn)∧w.cell? ⟨D,3,none⟩=some (.int .i64 g.ne)∧g.nodes.length≤c∧g.edges.length≤d∧zp w (fun _=>True) A B g:=by
 obtain ⟨τ,V,E,lv,pv,ev,hp,he,h⟩:=h
 obtain ⟨c0,c1,c2,c3⟩:=h.cells
 obtain ⟨A,c,B,d,rfl,h1,rfl,h2,h3⟩:=h.graph (ok:=fun _=>True) hv (fun _ _=>trivial)
 exact ⟨A,c,B,d,c0,c1,c2,c3,h1,h2,h3⟩
theorem zp.all {w:World} {ok:Nat→Prop} {A B:Option Addr} {g:za} (h:zp w ok A B g):zp w (fun _=>True) A B g:=h.to (fun _ _=>trivial)
theorem zte {α:Type} {l:List α} {k:Nat} (h:k < l.length):l.drop k=l[k] :: l.drop (k+1):=List.drop_eq_getElem_cons h
theorem zo9 (g:za) (l:List ChG) (ok ok':Nat→Prop) (A B C:Option Addr) (c d m:Nat) (w:World) (hz:zq w) (hg:zp w ok A B g) (hl:Chs w ok' C l) :
  Calls Tryz.prog 18 #[.agg #[.slice A g.nodes.length c, .slice B g.edges.length d, .int .i64 g.nn, .int .i64 g.ne], .slice C l.length m] w fun e w'=>ze8 (fun b=>w.heap.size≤b) w' (zov g l) l.length e∧Ext w w':=by
 obtain ⟨q1,w1,hq1,hw1,HB1,hx1⟩:=zb9 w (.slice A g.nodes.length c) (.slice B g.edges.length d) (.int .i64 g.nn) (.int .i64 g.ne) 25
 obtain ⟨q2,w2,hq2,hw2,HB2,hx2⟩:=zl4 w1 25
 have hx:Ext w w2:=hx1.trans hx2
 have HWQ:Hid (w2=(w.alloc (.cells #[.slice A g.nodes.length c, .slice B g.edges.length d, .int .i64 g.nn, .int .i64 g.ne] 25)).alloc (.cells #[.slice none 0 0, .slice none 0 0, .int .i64 0, .int .i64 0] 25)):=Lib.hid (by rw [hw2,hw1])
 have HQ1:=Lib.hid hq1
 have HQ2:Hid (q2=w.heap.size+1):=Lib.hid (by rw [hq2,hw1];simp)
 have HCK:=Lib.hid (zqj g ok A B c d w2 (hg.ext hx))
 have HCO:=Lib.hid (fun (hv:VG g) W (e:Ext w2 W)=>zm1 g ok A B c d W (hg.ext (hx.trans e)) hv)
 have HZ:=Lib.hid (fun W (e:Ext w W)=>hz.ext e)
 have hlen:=hl.len
 have HL:=Lib.hid hl
 have HVI:=Lib.hid (zni g)
 have g0:w2.cell? ⟨q1,0,none⟩=some (.slice A g.nodes.length c):=hx2.cell ((HB1.cell 0).trans rfl)
 have g1:w2.cell? ⟨q1,1,none⟩=some (.slice B g.edges.length d):=hx2.cell ((HB1.cell 1).trans rfl)
 have g2:w2.cell? ⟨q1,2,none⟩=some (.int .i64 g.nn):=hx2.cell ((HB1.cell 2).trans rfl)
 have g3:w2.cell? ⟨q1,3,none⟩=some (.int .i64 g.ne):=hx2.cell ((HB1.cell 3).trans rfl)
 have HBZ:=Lib.hid HB2
 have HXW:=Lib.hid hx
 have hqs:w.heap.size≤q2:=by have:=HQ2.out;omega
 have HQS:=Lib.hid hqs
 have HR:Hid (zov g l=if zdo g=0 then zgn g l 0 else .error (0,zdo g)):=Lib.hid rfl
 generalize zov g l=R at *
 generalize zdo g=ck at *
 clear hq1 hq2 hw1 hw2 HB1 HB2 hx1 hx2 hz hg hl hqs hx
 go_enter Tryz.func18,Tryz.ntmps18
 go_upto_region 1 with (fail)
 rw [←HWQ.out,←HQ2.out,←HQ1.out]
 go_upto_region 2 with ((go_at_call 17;((with_reducible refine (HCK.out).mono ?_);rintro e w3 ⟨rfl,hx3⟩)))
 have hW3:Ext w w3:=HXW.out.trans hx3
 have d0:=hx3.cell g0
 have d1:=hx3.cell g1
 have d2:=hx3.cell g2
 have d3:=hx3.cell g3
 have BZ:=HBZ.out.ext hx3
 clear g0 g1 g2 g3
 by_cases hck:ck=0
 ·subst hck
  have HR1:Hid (R=zgn g l 0):=Lib.hid (by rw [HR.out,if_pos rfl])
  have hv:VG g:=HVI.out.1 rfl
  have HV:=Lib.hid hv
  clear HR HVI hv
  go_upto_region 4 with (fail)
  go_upto_region 5 with ((go_at_call 46;((with_reducible refine (HCO.out HV.out _ Qg).mono ?_);rintro e w4 ⟨τ,V,E,lv,pv,ev,hp,he,rfl,hN,hE,hx4⟩;obtain ⟨AV,cV,rfl⟩:=hN.nodes.form;obtain ⟨AE,cE,rfl⟩:=hE.edges.form)))
  obtain ⟨D,w5,hD,hw5,hBD,hx5⟩:=zb9 w4 (.slice AV g.nodes.length cV) (.slice AE g.edges.length cE) (.int .i64 g.nn) (.int .i64 g.ne) 71
  have HO5:=Lib.hid (zpf hN hE hx5 hBD Qk hx4.le)
  rw [←hw5,←hD]
  have hX5:Ext w3 w5:=hx4.trans hx5
  clear hw5 hD hN hE hBD hx4 hx5
  go_wp2_with fail
  go_loopw [23] (fun u W => ∃ (k:Nat) (g':za),u= .int .i64 k∧k≤l.length∧Hid (zt W w3.heap.size D g'∧VG g'∧zgn g l 0=zgn g' (l.drop k) k)∧Ext w3 W) (fun u _=>l.length - (intOf u).toNat)
  case atStart=>exact ⟨0,g,rfl,Nat.zero_le _,Lib.hid ⟨HO5.out,HV.out,rfl⟩,hX5⟩
  case round =>
   obtain ⟨k,g',rfl,hk,hC,hE⟩:=hrel
   have hWr:Ext w wr:=hW3.trans hE
   have BZr:=BZ.ext hE
   by_cases hlt:k < l.length
   ·obtain ⟨b,off,rfl,hc⟩:=HL.out.2 Qk
    obtain ⟨-,A',k',hcc,hkl,hvals⟩:=hc k hlt
    obtain ⟨y0,y1,y2,y3,y4,y5,y6,y7,y8,y9⟩:=hcc.ext hWr
    obtain ⟨y,w6,hy,hw6,hc10,hx6⟩:=zy wr l[k] A' k' 30
    obtain ⟨z0,z1,z2,z3,z4,z5,z6,z7,z8,z9⟩:=hc10
    obtain ⟨hO,hvg,hall⟩:=hC.out
    have HST:=Lib.hid (fun W (e:Ext wr W)=>zs4 w3 W D g' l[k] ok' A' k' (hO.ext e) (hE.trans e) hvg (HZ.out W (hWr.trans e)) (hvals.ext (hWr.trans e)))
    have HDR:=Lib.hid (zte hlt)
    have HALL:=Lib.hid hall
    have HVG:=Lib.hid hvg
    clear hC hO hvg hall hc hcc hkl hvals
    have p1:(0:Int)≤(k:Int):=by omega
    have p2:(k:Int) < (l.length:Int):=by omega
    generalize l[k]=ch at *
    go_upto_region 8 with (fail)
    rw [←hw6,←hy]
    clear hw6 hy y0 y1 y2 y3 y4 y5 y6 y7 y8 y9
    cases hs:zcg g' ch with
    | ok g2 =>
     rw [hs] at HST
     have HN:=Lib.hid (show zgn g l 0=zgn g2 (l.drop (k+1)) (k+1) by
      rw [HALL.out,HDR.out]
      show (match zcg g' ch with | .ok x=>zgn x (l.drop (k+1)) (k+1) | .error e=> .error (k,e))=_
      rw [hs])
     have HV2:=Lib.hid (zk6 HVG.out hs).1
     clear hs
     go_wp2_with ((go_at_call 47;((with_reducible refine (HST.out _ Qg).mono ?_);rintro e w9 ⟨hA,-⟩;obtain ⟨rfl,hO9,hX9,-⟩:=hA _ rfl)))
     have HREL:=Lib.hid (show zt w9 w3.heap.size D g2∧VG g2∧zgn g l 0=zgn g2 (l.drop (k+1)) (k+1) from ⟨hO9,HV2.out,HN.out⟩)
     clear hO9
     go_roundw
     case rel=>exact ⟨k+1,g2,by go_num,by omega,HREL,hX9⟩
     case measure=>simp [intOf];omega
    | error kk =>
     rw [hs] at HST
     have HN:=Lib.hid (show R= .error (k,kk) by
      rw [HR1.out,HALL.out,HDR.out]
      show (match zcg g' ch with | .ok x=>zgn x (l.drop (k+1)) (k+1) | .error e=> .error (k,e))=_
      rw [hs])
     have hne:=zp2 hs
     have h1:(kk != 0)=true:=bne_iff_ne.2 hne
     have h2:(kk == 0)=false:=beq_eq_false_iff_ne.2 hne
     clear hs hne
     go_upto_region 9 with ((go_at_call 47;((with_reducible refine (HST.out _ Qg).mono ?_);rintro e w9 ⟨-,hB⟩;obtain ⟨rfl,hX9⟩:=hB _ rfl)))
     have hW9:Ext w w9:=hW3.trans hX9
     have BZ9:=BZ.ext hX9
     have s0:w9.cell? ⟨q2,0,none⟩=some (.slice none 0 0):=(BZ9.cell 0).trans rfl
     have s1:w9.cell? ⟨q2,1,none⟩=some (.slice none 0 0):=(BZ9.cell 1).trans rfl
     have s2:w9.cell? ⟨q2,2,none⟩=some (.int .i64 0):=(BZ9.cell 2).trans rfl
     have s3:w9.cell? ⟨q2,3,none⟩=some (.int .i64 0):=(BZ9.cell 3).trans rfl
     have f0:=BZ9.frz 0
     have f1:=BZ9.frz 1
     have f2:=BZ9.frz 2
     have f3:=BZ9.frz 3
     obtain ⟨w8,hw8⟩:∃ W,W=(((w9.setCell ⟨q2,0,none⟩ (.slice none 0 0)).setCell ⟨q2,1,none⟩ (.slice none 0 0)).setCell ⟨q2,2,none⟩ (.int .i64 0)).setCell ⟨q2,3,none⟩ (.int .i64 0):=⟨_,rfl⟩
     have hB8:=zed BZ9 (.slice none 0 0) (.slice none 0 0) (.int .i64 0) (.int .i64 0)
     have hG8:=zep w9 q2 (.slice none 0 0) (.slice none 0 0) (.int .i64 0) (.int .i64 0)
     rw [←hw8] at hB8 hG8
     have HX8:=Lib.hid (hW9.grown hG8 (fun k hk=>by injection hk with hk;have:=HQS.out;omega))
     have r0:w8.cell? ⟨q2,0,none⟩=some (.slice none 0 0):=(hB8.cell 0).trans rfl
     have r1:w8.cell? ⟨q2,1,none⟩=some (.slice none 0 0):=(hB8.cell 1).trans rfl
     have r2:w8.cell? ⟨q2,2,none⟩=some (.int .i64 0):=(hB8.cell 2).trans rfl
     have r3:w8.cell? ⟨q2,3,none⟩=some (.int .i64 0):=(hB8.cell 3).trans rfl
     clear hB8 hG8 BZ9
     go_wp2_with fail
     (try simp only [Exit.inBlock,Exit.then])
     (try rw [←hw8])
     clear hw8 s0 s1 s2 s3 f0 f1 f2 f3
     refine bodyPost_ret (v:= .tuple #[zhy, .int .i64 k, .int .i64 kk]) (by simp [results,Tryz.results18,go_sem,r0,r1,r2,r3] <;> rfl) rfl ?_
     exact ⟨ze8.mk_err HN.out rfl,HX8.out⟩
   ·have p2:¬ (k:Int) < (l.length:Int):=by omega
    obtain ⟨hO,hvg,hall⟩:=hC.out
    have HN:=Lib.hid (show R= .ok g' by
     rw [HR1.out,hall,List.drop_of_length_le Qk];rfl)
    obtain ⟨A1,c1,B1,e1,t0,t1,t2,t3,-,-,-⟩:=hO.four hvg
    have s0:wr.cell? ⟨q2,0,none⟩=some (.slice none 0 0):=(BZr.cell 0).trans rfl
    have s1:wr.cell? ⟨q2,1,none⟩=some (.slice none 0 0):=(BZr.cell 1).trans rfl
    have s2:wr.cell? ⟨q2,2,none⟩=some (.int .i64 0):=(BZr.cell 2).trans rfl
    have s3:wr.cell? ⟨q2,3,none⟩=some (.int .i64 0):=(BZr.cell 3).trans rfl
    have f0:=BZr.frz 0
    have f1:=BZr.frz 1
    have f2:=BZr.frz 2
    have f3:=BZr.frz 3
    obtain ⟨w8,hw8⟩:∃ W,W=(((wr.setCell ⟨q2,0,none⟩ (.slice A1 g'.nodes.length c1)).setCell ⟨q2,1,none⟩ (.slice B1 g'.edges.length e1)).setCell ⟨q2,2,none⟩ (.int .i64 g'.nn)).setCell ⟨q2,3,none⟩ (.int .i64 g'.ne):=⟨_,rfl⟩
    have hB8:=zed BZr (.slice A1 g'.nodes.length c1) (.slice B1 g'.edges.length e1) (.int .i64 g'.nn) (.int .i64 g'.ne)
    have hG8:=zep wr q2 (.slice A1 g'.nodes.length c1) (.slice B1 g'.edges.length e1) (.int .i64 g'.nn) (.int .i64 g'.ne)
    rw [←hw8] at hB8 hG8
    have HX8:=Lib.hid (hWr.grown hG8 (fun k hk=>by injection hk with hk;have:=HQS.out;omega))
    have HGV:=Lib.hid (show zdr (fun b=>w.heap.size≤b) w8 g' (.agg #[.slice A1 g'.nodes.length c1, .slice B1 g'.edges.length e1, .int .i64 g'.nn, .int .i64 g'.ne]) by
     obtain ⟨τ,V,E,lv,pv,ev,hp,he,h⟩:=hO
     obtain ⟨e0,e1',-,-⟩:=h.cells
     rw [t0] at e0;rw [t1] at e1'
     injection e0 with e0;injection e1' with e1'
     subst e0;subst e1'
     have h8:zah w8 w3.heap.size D τ _ _ lv pv ev hp he g':=⟨h.self.other BZr Qj hG8,h.nodes.other BZr Qj hG8,h.edges.other BZr Qj hG8,fun n hn=>(h.labs n hn).other BZr Qj hG8,fun n hn=>⟨(h.prps n hn).1.other BZr Qj hG8,(h.prps n hn).2⟩,fun n hn=>⟨(h.eprs n hn).1.other BZr Qj hG8,(h.eprs n hn).2⟩⟩
     obtain ⟨A2,c2,B2,d2,f1,f2,f3,f4,f5⟩:=h8.graph (ok:=fun b=>w.heap.size≤b) hvg (fun b hb=>Nat.le_trans hW3.le hb)
     injection f1 with f1a f1b f1c
     injection f3 with f3a f3b f3c
     subst f1a;subst f1c;subst f3a;subst f3c
     exact ⟨_,_,_,_,rfl,f2,f4,f5⟩)
    have r0:w8.cell? ⟨q2,0,none⟩=some (.slice A1 g'.nodes.length c1):=(hB8.cell 0).trans rfl
    have r1:w8.cell? ⟨q2,1,none⟩=some (.slice B1 g'.edges.length e1):=(hB8.cell 1).trans rfl
    have r2:w8.cell? ⟨q2,2,none⟩=some (.int .i64 g'.nn):=(hB8.cell 2).trans rfl
    have r3:w8.cell? ⟨q2,3,none⟩=some (.int .i64 g'.ne):=(hB8.cell 3).trans rfl
    clear hB8 hG8 BZr hC hO hvg hall
    go_wp2_with fail
    (try simp only [Exit.inBlock,Exit.then])
    (try rw [←hw8])
    clear hw8 s0 s1 s2 s3 f0 f1 f2 f3 t0 t1 t2 t3
    refine bodyPost_ret (v:= .tuple #[.agg #[.slice A1 g'.nodes.length c1, .slice B1 g'.edges.length e1, .int .i64 g'.nn, .int .i64 g'.ne], .int .i64 l.length, .int .i64 0]) (by simp [results,Tryz.results18,go_sem,r0,r1,r2,r3] <;> rfl) rfl ?_
    exact ⟨ze8.mk_ok HN.out rfl HGV.out,HX8.out⟩
 ·have HN:=Lib.hid (show R= .error (0,ck) by rw [HR.out,if_neg hck])
  have h1:(ck != 0)=true:=bne_iff_ne.2 hck
  have h2:(ck == 0)=false:=beq_eq_false_iff_ne.2 hck
  clear HR hck
  have s0:w3.cell? ⟨q2,0,none⟩=some (.slice none 0 0):=(BZ.cell 0).trans rfl
  have s1:w3.cell? ⟨q2,1,none⟩=some (.slice none 0 0):=(BZ.cell 1).trans rfl
  have s2:w3.cell? ⟨q2,2,none⟩=some (.int .i64 0):=(BZ.cell 2).trans rfl
  have s3:w3.cell? ⟨q2,3,none⟩=some (.int .i64 0):=(BZ.cell 3).trans rfl
  have f0:=BZ.frz 0
  have f1:=BZ.frz 1
  have f2:=BZ.frz 2
  have f3:=BZ.frz 3
  obtain ⟨w8,hw8⟩:∃ W,W=(((w3.setCell ⟨q2,0,none⟩ (.slice none 0 0)).setCell ⟨q2,1,none⟩ (.slice none 0 0)).setCell ⟨q2,2,none⟩ (.int .i64 0)).setCell ⟨q2,3,none⟩ (.int .i64 0):=⟨_,rfl⟩
  have hB8:=zed BZ (.slice none 0 0) (.slice none 0 0) (.int .i64 0) (.int .i64 0)
  have hG8:=zep w3 q2 (.slice none 0 0) (.slice none 0 0) (.int .i64 0) (.int .i64 0)
  rw [←hw8] at hB8 hG8
  have HX8:=Lib.hid (hW3.grown hG8 (fun k hk=>by injection hk with hk;have:=HQS.out;omega))
  have r0:w8.cell? ⟨q2,0,none⟩=some (.slice none 0 0):=(hB8.cell 0).trans rfl
  have r1:w8.cell? ⟨q2,1,none⟩=some (.slice none 0 0):=(hB8.cell 1).trans rfl
  have r2:w8.cell? ⟨q2,2,none⟩=some (.int .i64 0):=(hB8.cell 2).trans rfl
  have r3:w8.cell? ⟨q2,3,none⟩=some (.int .i64 0):=(hB8.cell 3).trans rfl
  clear hB8 hG8 BZ
  go_wp2_with fail
  (try simp only [Exit.inBlock,Exit.then])
  (try rw [←hw8])
  clear hw8 s0 s1 s2 s3 f0 f1 f2 f3
  refine bodyPost_ret (v:= .tuple #[zhy, .int .i64 (0:Nat), .int .i64 ck]) (by simp [results,Tryz.results18,go_sem,r0,r1,r2,r3] <;> rfl) rfl ?_
  exact ⟨ze8.mk_err HN.out rfl,HX8.out⟩
noncomputable def zin (g:za) (c:ChG):Except Int za:=if zdo g=0 then zcg g c else .error (zdo g)
theorem zys (g:za) (c:ChG):zov g [c]=match zin g c with | .ok x=> .ok x | .error e=> .error (0,e):=by
 unfold zov zin
 split
 ·show (match zcg g c with | .ok x=>zgn x [] 1 | .error e=> .error (0,e))=_
  cases zcg g c <;> rfl
 ·rfl
def z0j (ok:Nat→Prop) (w:World) (r:Except Int za) (e:Ending):Prop :=
 match r with
 | .ok g => ∃ v,e= .returned (.tuple #[v, .int .i64 0])∧zdr ok w g v
 | .error k=>e= .returned (.tuple #[zhy, .int .i64 k])
theorem zsk {w:World} {ok:Nat→Prop} {A:Option Addr} {k:Nat} {c:ChG} (hv:zk w ok A c.v.l) (hk:c.v.l.length≤k) (t:TypeId):Chs (w.alloc (.cells #[.int .i64 c.op, .int .i64 c.id, .int .i64 c.frm, .int .i64 c.to_, .string c.name, .int .i64 c.v.kind, .int .i64 c.v.n, .int .i64 c.v.d, .string c.v.s, .slice A c.v.l.length k] t)) (fun _=>True) (some ⟨w.heap.size,0,none⟩) [c]:=by
 obtain ⟨q,w1,hq,hw1,hc,hx⟩:=zy w c A k t
 refine ⟨by simp,fun _=>⟨_,_,rfl,fun i hi=>?_⟩⟩
 have h0:i=0:=by simpa using hi
 subst h0
 rw [←hw1,←hq]
 exact ⟨trivial,A,k,by simpa using hc,hk,(hv.ext hx).to (fun _ _=>trivial)⟩
theorem zit (g:za) (ch:ChG) (ok ok':Nat→Prop) (A B C:Option Addr) (c d k:Nat) (w:World) (hz:zq w) (hg:zp w ok A B g) (hl:zk w ok' C ch.v.l) (hk:ch.v.l.length≤k) :
  Calls Tryz.prog 11 #[.agg #[.slice A g.nodes.length c, .slice B g.edges.length d, .int .i64 g.nn, .int .i64 g.ne], .agg #[.int .i64 ch.op, .int .i64 ch.id, .int .i64 ch.frm, .int .i64 ch.to_, .string ch.name, .int .i64 ch.v.kind, .int .i64 ch.v.n, .int .i64 ch.v.d, .string ch.v.s, .slice C ch.v.l.length k]] w fun e w'=>z0j (fun b=>w.heap.size≤b) w' (zin g ch) e∧Ext w w':=by
 obtain ⟨q1,w1,hq1,hw1,HB1,hx1⟩:=zb9 w (.slice A g.nodes.length c) (.slice B g.edges.length d) (.int .i64 g.nn) (.int .i64 g.ne) 25
 obtain ⟨q3,w2,hq3,hw2,hc10,hx2⟩:=zy w1 ch C k 30
 obtain ⟨q2,w3,hq2,hw3,HB2,hx3⟩:=zl4 w2 25
 have hx:Ext w w3:=(hx1.trans hx2).trans hx3
 have HWQ:Hid (w3=((w.alloc (.cells #[.slice A g.nodes.length c, .slice B g.edges.length d, .int .i64 g.nn, .int .i64 g.ne] 25)).alloc (.cells #[.int .i64 ch.op, .int .i64 ch.id, .int .i64 ch.frm, .int .i64 ch.to_, .string ch.name, .int .i64 ch.v.kind, .int .i64 ch.v.n, .int .i64 ch.v.d, .string ch.v.s, .slice C ch.v.l.length k] 30)).alloc (.cells #[.slice none 0 0, .slice none 0 0, .int .i64 0, .int .i64 0] 25)):=Lib.hid (by rw [hw3,hw2,hw1])
 have HQ1:=Lib.hid hq1
 have HQ3:Hid (q3=w.heap.size+1):=Lib.hid (by rw [hq3,hw1];simp)
 have HQ2:Hid (q2=w.heap.size+1+1):=Lib.hid (by rw [hq2,hw2,hw1];simp)
 have HAA:=Lib.hid (fun W (e:Ext w W)=>show Calls Tryz.prog 18 #[.agg #[.slice A g.nodes.length c, .slice B g.edges.length d, .int .i64 g.nn, .int .i64 g.ne], .slice (some ⟨W.heap.size,0,none⟩) 1 1] (W.alloc (.cells #[.int .i64 ch.op, .int .i64 ch.id, .int .i64 ch.frm, .int .i64 ch.to_, .string ch.name, .int .i64 ch.v.kind, .int .i64 ch.v.n, .int .i64 ch.v.d, .string ch.v.s, .slice C ch.v.l.length k] 30)) fun e w'=>ze8 (fun b=>(W.alloc (.cells #[.int .i64 ch.op, .int .i64 ch.id, .int .i64 ch.frm, .int .i64 ch.to_, .string ch.name, .int .i64 ch.v.kind, .int .i64 ch.v.n, .int .i64 ch.v.d, .string ch.v.s, .slice C ch.v.l.length k] 30)).heap.size≤b) w' (zov g [ch]) 1 e∧Ext (W.alloc (.cells #[.int .i64 ch.op, .int .i64 ch.id, .int .i64 ch.frm, .int .i64 ch.to_, .string ch.name, .int .i64 ch.v.kind, .int .i64 ch.v.n, .int .i64 ch.v.d, .string ch.v.s, .slice C ch.v.l.length k] 30)) w' from zo9 g [ch] ok (fun _=>True) A B (some ⟨W.heap.size,0,none⟩) c d 1 (W.alloc (.cells #[.int .i64 ch.op, .int .i64 ch.id, .int .i64 ch.frm, .int .i64 ch.to_, .string ch.name, .int .i64 ch.v.kind, .int .i64 ch.v.n, .int .i64 ch.v.d, .string ch.v.s, .slice C ch.v.l.length k] 30)) (hz.ext (e.alloc _)) (hg.ext (e.alloc _)) (zsk (hl.ext e) hk _))
 rw [zys] at HAA
 have g0:w3.cell? ⟨q1,0,none⟩=some (.slice A g.nodes.length c):=(hx2.trans hx3).cell ((HB1.cell 0).trans rfl)
 have g1:w3.cell? ⟨q1,1,none⟩=some (.slice B g.edges.length d):=(hx2.trans hx3).cell ((HB1.cell 1).trans rfl)
 have g2:w3.cell? ⟨q1,2,none⟩=some (.int .i64 g.nn):=(hx2.trans hx3).cell ((HB1.cell 2).trans rfl)
 have g3:w3.cell? ⟨q1,3,none⟩=some (.int .i64 g.ne):=(hx2.trans hx3).cell ((HB1.cell 3).trans rfl)
 obtain ⟨b0,b1,b2,b3,b4,b5,b6,b7,b8,b9⟩:=hc10.ext hx3
 have HBZ:=Lib.hid HB2
 have hqs:w.heap.size≤q2:=by have:=HQ2.out;omega
 have HQS:=Lib.hid hqs
 have HQL:Hid (q2 < w3.heap.size):=Lib.hid HB2.lt
 clear hq1 hq2 hq3 hw1 hw2 hw3 HB1 HB2 hx1 hx2 hx3 hz hg hl hqs hk
 go_enter Tryz.func11,Tryz.ntmps11
 go_upto_region 1 with (fail)
 rw [←HWQ.out,←HQ2.out,←HQ3.out,←HQ1.out]
 cases hr:zin g ch with
 | ok x =>
  rw [hr] at HAA
  unfold ze8 at HAA
  dsimp only at HAA
  have HRR:=Lib.hid hr
  clear hr
  go_upto_region 2 with ((go_at_call 18;((with_reducible refine (HAA.out _ Qg).mono ?_);rintro e w4 ⟨⟨v,rfl,hgv⟩,hx4⟩;obtain ⟨A1,c1,B1,e1,rfl,hl1,hl2,hga⟩:=hgv)))
  obtain ⟨q5,w5,hq5,hw5,HB5,hx5⟩:=zb9 w4 (.slice A1 x.nodes.length c1) (.slice B1 x.edges.length e1) (.int .i64 x.nn) (.int .i64 x.ne) 25
  rw [←hw5,←hq5]
  clear hw5 hq5
  have hX5:Ext w3 w5:=(Ext.trans Qg hx4).trans hx5
  have hW5:Ext w w5:=hx.trans hX5
  have t0:w5.cell? ⟨q5,0,none⟩=some (.slice A1 x.nodes.length c1):=(HB5.cell 0).trans rfl
  have t1:w5.cell? ⟨q5,1,none⟩=some (.slice B1 x.edges.length e1):=(HB5.cell 1).trans rfl
  have t2:w5.cell? ⟨q5,2,none⟩=some (.int .i64 x.nn):=(HB5.cell 2).trans rfl
  have t3:w5.cell? ⟨q5,3,none⟩=some (.int .i64 x.ne):=(HB5.cell 3).trans rfl
  have BZr:=HBZ.out.ext hX5
  have s0:w5.cell? ⟨q2,0,none⟩=some (.slice none 0 0):=(BZr.cell 0).trans rfl
  have s1:w5.cell? ⟨q2,1,none⟩=some (.slice none 0 0):=(BZr.cell 1).trans rfl
  have s2:w5.cell? ⟨q2,2,none⟩=some (.int .i64 0):=(BZr.cell 2).trans rfl
  have s3:w5.cell? ⟨q2,3,none⟩=some (.int .i64 0):=(BZr.cell 3).trans rfl
  have f0:=BZr.frz 0
  have f1:=BZr.frz 1
  have f2:=BZr.frz 2
  have f3:=BZr.frz 3
  obtain ⟨w8,hw8⟩:∃ W,W=(((w5.setCell ⟨q2,0,none⟩ (.slice A1 x.nodes.length c1)).setCell ⟨q2,1,none⟩ (.slice B1 x.edges.length e1)).setCell ⟨q2,2,none⟩ (.int .i64 x.nn)).setCell ⟨q2,3,none⟩ (.int .i64 x.ne):=⟨_,rfl⟩
  have hB8:=zed BZr (.slice A1 x.nodes.length c1) (.slice B1 x.edges.length e1) (.int .i64 x.nn) (.int .i64 x.ne)
  have hG8:=zep w5 q2 (.slice A1 x.nodes.length c1) (.slice B1 x.edges.length e1) (.int .i64 x.nn) (.int .i64 x.ne)
  rw [←hw8] at hB8 hG8
  have HX8:=Lib.hid (hW5.grown hG8 (fun k hk=>by injection hk with hk;have:=HQS.out;omega))
  have HGV:=Lib.hid (show zdr (fun b=>w.heap.size≤b) w8 x (.agg #[.slice A1 x.nodes.length c1, .slice B1 x.edges.length e1, .int .i64 x.nn, .int .i64 x.ne]) from
   ⟨_,_,_,_,rfl,hl1,hl2,((hga.ext hx5).grown hG8 (by have:=HQL.out;simp;omega)).to (fun b hb=>Nat.le_trans (by have:=hx.le;simp at hb ⊢;omega) hb)⟩)
  have r0:w8.cell? ⟨q2,0,none⟩=some (.slice A1 x.nodes.length c1):=(hB8.cell 0).trans rfl
  have r1:w8.cell? ⟨q2,1,none⟩=some (.slice B1 x.edges.length e1):=(hB8.cell 1).trans rfl
  have r2:w8.cell? ⟨q2,2,none⟩=some (.int .i64 x.nn):=(hB8.cell 2).trans rfl
  have r3:w8.cell? ⟨q2,3,none⟩=some (.int .i64 x.ne):=(hB8.cell 3).trans rfl
  clear hB8 hG8 BZr
  go_wp2_with fail
  (try rw [←hw8])
  clear hw8 s0 s1 s2 s3 f0 f1 f2 f3 t0 t1 t2 t3
  refine bodyPost_ret (v:= .tuple #[.agg #[.slice A1 x.nodes.length c1, .slice B1 x.edges.length e1, .int .i64 x.nn, .int .i64 x.ne], .int .i64 0]) (by simp [results,Tryz.results11,go_sem,r0,r1,r2,r3] <;> rfl) rfl ?_
  refine ⟨?_,HX8.out⟩
  rw [HRR.out]
  exact ⟨_,rfl,HGV.out⟩
 | error kk =>
  rw [hr] at HAA
  unfold ze8 at HAA
  dsimp only at HAA
  have HRR:=Lib.hid hr
  clear hr
  go_upto_region 2 with ((go_at_call 18;((with_reducible refine (HAA.out _ Qg).mono ?_);rintro e w4 ⟨rfl,hx4⟩)))
  obtain ⟨q5,w5,hq5,hw5,HB5,hx5⟩:=zb9 w4 (.slice none 0 0) (.slice none 0 0) (.int .i64 0) (.int .i64 0) 25
  rw [←hw5,←hq5]
  clear hw5 hq5
  have hX5:Ext w3 w5:=(Ext.trans Qg hx4).trans hx5
  have hW5:Ext w w5:=hx.trans hX5
  have t0:w5.cell? ⟨q5,0,none⟩=some (.slice none 0 0):=(HB5.cell 0).trans rfl
  have t1:w5.cell? ⟨q5,1,none⟩=some (.slice none 0 0):=(HB5.cell 1).trans rfl
  have t2:w5.cell? ⟨q5,2,none⟩=some (.int .i64 0):=(HB5.cell 2).trans rfl
  have t3:w5.cell? ⟨q5,3,none⟩=some (.int .i64 0):=(HB5.cell 3).trans rfl
  have BZr:=HBZ.out.ext hX5
  have s0:w5.cell? ⟨q2,0,none⟩=some (.slice none 0 0):=(BZr.cell 0).trans rfl
  have s1:w5.cell? ⟨q2,1,none⟩=some (.slice none 0 0):=(BZr.cell 1).trans rfl
  have s2:w5.cell? ⟨q2,2,none⟩=some (.int .i64 0):=(BZr.cell 2).trans rfl
  have s3:w5.cell? ⟨q2,3,none⟩=some (.int .i64 0):=(BZr.cell 3).trans rfl
  have f0:=BZr.frz 0
  have f1:=BZr.frz 1
  have f2:=BZr.frz 2
  have f3:=BZr.frz 3
  obtain ⟨w8,hw8⟩:∃ W,W=(((w5.setCell ⟨q2,0,none⟩ (.slice none 0 0)).setCell ⟨q2,1,none⟩ (.slice none 0 0)).setCell ⟨q2,2,none⟩ (.int .i64 0)).setCell ⟨q2,3,none⟩ (.int .i64 0):=⟨_,rfl⟩
  have hB8:=zed BZr (.slice none 0 0) (.slice none 0 0) (.int .i64 0) (.int .i64 0)
  have hG8:=zep w5 q2 (.slice none 0 0) (.slice none 0 0) (.int .i64 0) (.int .i64 0)
  rw [←hw8] at hB8 hG8
  have HX8:=Lib.hid (hW5.grown hG8 (fun k hk=>by injection hk with hk;have:=HQS.out;omega))
  have r0:w8.cell? ⟨q2,0,none⟩=some (.slice none 0 0):=(hB8.cell 0).trans rfl
  have r1:w8.cell? ⟨q2,1,none⟩=some (.slice none 0 0):=(hB8.cell 1).trans rfl
  have r2:w8.cell? ⟨q2,2,none⟩=some (.int .i64 0):=(hB8.cell 2).trans rfl
  have r3:w8.cell? ⟨q2,3,none⟩=some (.int .i64 0):=(hB8.cell 3).trans rfl
  clear hB8 hG8 BZr
  go_wp2_with fail
  (try rw [←hw8])
  clear hw8 s0 s1 s2 s3 f0 f1 f2 f3 t0 t1 t2 t3
  refine bodyPost_ret (v:= .tuple #[.agg #[.slice none 0 0, .slice none 0 0, .int .i64 0, .int .i64 0], .int .i64 kk]) (by simp [results,Tryz.results11,go_sem,r0,r1,r2,r3] <;> rfl) rfl ?_
  refine ⟨?_,HX8.out⟩
  rw [HRR.out]
  rfl
theorem zzs:ElT Tryz.prog 26 28 5 64 :=
 ⟨Tryz.underlying26,⟨.agg #[.int .i64 0, .int .i64 0, .int .i64 0, .string ⟨#[]⟩, .slice none 0 0],by kernel_rfl,rfl⟩,by decide⟩
def za6 (w:World) (ok:Nat→Prop) (l:List Val) (cs:List (List Value)):Prop :=
 ∀ i (h:i < cs.length),∃ (h':i < l.length) (A:Option Addr) (c:Nat),cs[i]=(l[i]).cells A c∧(l[i]).l.length≤c∧zk w ok A (l[i]).l
theorem za6.nil (w:World) (ok:Nat→Prop) (l:List Val):za6 w ok l []:=fun i h=>absurd h (by simp)
theorem za6.keep {w w':World} {ok ok':Nat→Prop} {l:List Val} {cs:List (List Value)} (h:za6 w ok l cs) (hk:∀ b o x,ok b→w.cell? ⟨b,o,none⟩=some x→w'.cell? ⟨b,o,none⟩=some x) (ho:∀ b,ok b→ok' b):za6 w' ok' l cs:=fun i hi=>by
 obtain ⟨h',A,c,h1,h2,h3⟩:=h i hi
 exact ⟨h',A,c,h1,h2,h3.keep hk ho⟩
theorem za6.keep' {w w':World} {ok ok':Nat→Prop} {l:List Val} {cs:List (List Value)} (h:za6 w ok l cs) (hk:∀ b o x,ok b→w.cell? ⟨b,o,none⟩=some x→w'.cell? ⟨b,o,none⟩=some x∧ok' b):za6 w' ok' l cs:=fun i hi=>by
 obtain ⟨h',A,c,h1,h2,h3⟩:=h i hi
 exact ⟨h',A,c,h1,h2,h3.keep' hk⟩
def okB (base:Nat) (v:Value) (b:Nat):Prop:=base≤b∧some b ≠ v.ownBlock
theorem za6.ext {a w:World} {ok:Nat→Prop} {l:List Val} {cs:List (List Value)} (h:za6 a ok l cs) (e:Ext a w):za6 w ok l cs:=h.keep (fun _ _ _ _ hc=>e.cell hc) (fun _ h=>h)
theorem za6.push {w:World} {ok:Nat→Prop} {l:List Val} {cs:List (List Value)} (h:za6 w ok l cs) (hl:cs.length < l.length) {A:Option Addr} {c:Nat} (hc:(l[cs.length]).l.length≤c) (hv:zk w ok A (l[cs.length]).l):za6 w ok l (cs ++ [(l[cs.length]).cells A c]):=fun i hi=>by
 rcases Nat.lt_or_ge i cs.length with h1|h1
 ·obtain ⟨h',A',c',e1,e2,e3⟩:=h i h1
  exact ⟨h',A',c',by rw [List.getElem_append_left h1];exact e1,e2,e3⟩
 ·have hi':i=cs.length:=by simp at hi;omega
  subst hi'
  exact ⟨hl,A,c,by simp,hc,hv⟩
theorem za6.size {w:World} {ok:Nat→Prop} {l:List Val} {cs:List (List Value)} (h:za6 w ok l cs):∀ x ∈ cs,x.length=5:=fun x hx=>by
 obtain ⟨i,hi,rfl⟩:=List.getElem_of_mem hx
 obtain ⟨_,A,c,e,_⟩:=h i hi
 rw [e];rfl
theorem za6.done {w:World} {ok:Nat→Prop} {base:Nat} {v:Value} {l:List Val} {cs:List (List Value)} (h:za6 w ok l cs) (hown:w.ownsRow base 28 5 v l.length cs.flatten) (hl:cs.length=l.length) (hm:l.length≤140737488355328) (hok:∀ b,ok b→base≤b) :
  ∃ A c,v= .slice A l.length c∧l.length≤c∧zk w (fun b=>base≤b) A l:=by
 refine zcz hown rfl hl h.size hm (fun g hg _ k hk hk' hcell=>?_)
 obtain ⟨h',A,c,e,h2,h3⟩:=h k hk'
 rw [e] at hcell
 refine zx.iff.2 ⟨hg,A,c,⟨?_,?_,?_,?_,?_⟩,h2,h3.to hok⟩
 ·exact hcell 0 _ rfl
 ·exact hcell 1 _ rfl
 ·exact hcell 2 _ rfl
 ·exact hcell 3 _ rfl
 ·exact hcell 4 _ rfl
theorem zjv (l:List Val) (ok:Nat→Prop) (A:Option Addr) (c:Nat) (w:World) (hv:zk w ok A l) (hl:l.length≤8000000)
  (ih:∀ x ∈ l,∀ (Ax:Option Addr) (cx:Nat) (W:World),zk W ok Ax x.l→Calls Tryz.prog 76 #[.slice Ax x.l.length cx] W fun e W' => ∃ A' c',e= .returned (.slice A' x.l.length c')∧x.l.length≤c'∧zk W' (fun b=>W.heap.size≤b) A' x.l∧Ext W W') :
  Calls Tryz.prog 76 #[.slice A l.length c] w fun e w' => ∃ A' c',e= .returned (.slice A' l.length c')∧l.length≤c'∧zk w' (fun b=>w.heap.size≤b) A' l∧Ext w w':=by
 have hm:=hv.len
 have HV:=Lib.hid hv
 have HI:=Lib.hid ih
 clear hv ih
 go_enter Tryz.func76,Tryz.ntmps76
 go_wp2
 go_loopw [3,4] (fun v u W => ∃ (k:Nat) (cs:List (List Value)),u= .int .i64 k∧k≤l.length∧W.ownsRow w.heap.size 28 5 v k cs.flatten∧Hid (cs.length=k)∧Hid (za6 W (okB w.heap.size v) l cs)∧Ext w W) (fun _ u _=>l.length - (intOf u).toNat)
 case atStart=>exact ⟨0,[],rfl,Nat.zero_le _,World.ownsRow_nil _ _ _ _,Lib.hid rfl,Lib.hid (za6.nil _ _ _),Ext.refl _⟩
 case round =>
  obtain ⟨k,cs,rfl,hk,hown,hcl,hct,hE⟩:=hrel
  by_cases hlt:k < l.length
  ·obtain ⟨b,o,rfl,hc⟩:=HV.out.2 Qk
   obtain ⟨-,A',c',h5,-,hv'⟩:=zx.iff.1 (hc k hlt)
   obtain ⟨d0,d1,d2,d3,d4⟩:=h5.ext hE
   obtain ⟨g,w1,hg,hw1,h6,hx,-⟩:=zbt wr l[k] A' c' 28
   have HB:=Lib.hid (show w1.heap[g]? = some (.cells #[.int .i64 (l[k]).kind, .int .i64 (l[k]).n, .int .i64 (l[k]).d, .string (l[k]).s, .slice A' (l[k]).l.length c'] 28) by rw [hw1,hg];exact heap_alloc_new _ _)
   have HC:=Lib.hid (HI.out l[k] (List.getElem_mem hlt) A' c' w1 (hv'.ext (hE.trans hx)))
   have HP:=Lib.hid (fun (W:World) (h:za6 W (okB w.heap.size u3) l cs) A2 c2 (h1:(l[k]).l.length≤c2) (h2:zk W (okB w.heap.size u3) A2 (l[k]).l)=>(by
    have hk':=hcl.out
    subst hk'
    exact h.push hlt h1 h2:za6 W (okB w.heap.size u3) l (cs ++ [(l[k]).cells A2 c2])))
   have hle:=hE.le
   have hgw:wr.heap.size≤g:=by omega
   have HG0:=Lib.hid (show g < w1.heap.size from block_lt_of_cell h6.1)
   have HW1:=Lib.hid hw1
   have HG:=Lib.hid hg
   obtain ⟨p0,p1,p2,p3,p4⟩:=h6
   clear hc h5 hv' hw1 hg
   generalize l[k]=x at *
   go_upto_region 6 with (fail)
   rw [←HW1.out,←HG.out]
   clear HW1 HG d0 d1 d2 d3 d4
   go_wp2_with fail
   refine (HC.out).mono ?_
   rintro e w6 ⟨A2,c2,rfl,hle2,hV2,h6⟩
   have hblk:=h6.heap HB.out
   have hfr:w6.frozen? ⟨g,4,none⟩=false:=by simp [World.frozen?,hblk]
   replace p0:=h6.cell p0
   replace p1:=h6.cell p1
   replace p2:=h6.cell p2
   replace p3:=h6.cell p3
   replace p4:=h6.cell p4
   obtain ⟨wS,hwS⟩:∃ wS,wS=w6.setCell ⟨g,4,none⟩ (.slice A2 x.l.length c2):=⟨_,rfl⟩
   have s0:wS.cell? ⟨g,0,none⟩=some (.int .i64 x.kind):=by rw [hwS];go_simp
   have s1:wS.cell? ⟨g,1,none⟩=some (.int .i64 x.n):=by rw [hwS];go_simp
   have s2:wS.cell? ⟨g,2,none⟩=some (.int .i64 x.d):=by rw [hwS];go_simp
   have s3:wS.cell? ⟨g,3,none⟩=some (.string x.s):=by rw [hwS];go_simp
   have s4:wS.cell? ⟨g,4,none⟩=some (.slice A2 x.l.length c2):=by rw [hwS];exact World.cell?_setCell_same' _ _ _ (by rw [p4];rfl)
   have hES:Ext wr wS:=by rw [hwS];exact (hx.trans h6).setCell hgw _
   have HVS:=Lib.hid (show zk wS (okB w.heap.size u3) A2 x.l by
    rw [hwS]
    refine hV2.keep (fun b o y hb hc=>?_) (fun b hb=>?_)
    ·have hne:b ≠ g:=by have:=HG0.out;omega
     rw [World.cell?_setCell_other _ _ _ _ (fun e=>hne (by injection e with e1;exact e1.symm))];exact hc
    ·refine ⟨by have:=hx.le;omega,fun e=>?_⟩
     have h1:=(World.ownsRow.lt hown _ e.symm).2
     have h2:=hx.le
     omega)
   have HWS:=Lib.hid hwS
   clear hwS hV2 h6 hblk HC HB
   go_upto_region 7 with (fail)
   rw [←HWS.out]
   clear HWS p0 p1 p2 p3 p4 hfr
   have hownS:=zag hown hES
   have hkb:k+1≤8388608:=by omega
   go_wp2_with (at_builtin;refine zmy zzs rfl (.tmp 20) (.tmp 22) rfl w wS _ k _ (x.cells A2 c2) rfl hownS (hE.trans hES) rfl rfl rfl (Val.cells_one _ _ _) hkb Qj ?_;intro v2 w9 hown2 hE9 hF9)
   have HN:=Lib.hid ((HP.out wS (hct.out.ext hES) A2 c2 hle2 HVS.out).keep' (w':=w9) (ok':=okB w.heap.size v2) (fun b o y hb hc=>⟨hF9.cell b o y hb.2 hc,hb.1,hF9.own b (block_lt_of_cell hc) hb.2⟩))
   clear hF9 HP HVS
   go_roundw
   case rel=>exact ⟨k+1,cs ++ [x.cells A2 c2],by go_num,by omega,by (rw [List.flatten_append];simpa using hown2),Lib.hid (by rw [List.length_append,hcl.out];rfl),HN,hE9⟩
   case measure=>simp [intOf];omega
  ·have hk':k=l.length:=by omega
   have HD:=Lib.hid (hct.out.done (by rw [←hk'];exact hown) (hcl.out.trans hk') hm (fun b hb=>hb.1))
   go_wp2
   obtain ⟨A9,c9,e9,h9,hV9⟩:=HD.out
   subst e9
   go_ret
   exact ⟨A9,c9,rfl,h9,hV9,hE⟩
theorem zql:∀ (N:Nat) (l:List Val) (ok:Nat→Prop) (A:Option Addr) (c:Nat) (w:World),wtL l≤N→wtL l≤8000000→zk w ok A l →
  Calls Tryz.prog 76 #[.slice A l.length c] w fun e w' => ∃ A' c',e= .returned (.slice A' l.length c')∧l.length≤c'∧zk w' (fun b=>w.heap.size≤b) A' l∧Ext w w'
 | 0,l,ok,A,c,w,hN,hm,hv=>zjv l ok A c w hv (Nat.le_trans (zso l) hm) (fun x hx=>by have:=zp8 hx;omega)
 | N+1,l,ok,A,c,w,hN,hm,hv=>zjv l ok A c w hv (Nat.le_trans (zso l) hm) (fun x hx Ax cx W hx'=>by
  have:=zp8 hx
  exact zql N x.l ok Ax cx W Qk Qk hx')
theorem zym (l:List Val) (ok:Nat→Prop) (A:Option Addr) (c:Nat) (w:World) (hm:wtL l≤8000000) (hv:zk w ok A l) :
  Calls Tryz.prog 76 #[.slice A l.length c] w fun e w' => ∃ A' c',e= .returned (.slice A' l.length c')∧l.length≤c'∧zk w' (fun b=>w.heap.size≤b) A' l∧Ext w w' :=
 zql (wtL l) l ok A c w (Nat.le_refl _) hm hv
theorem za6.cons {w:World} {ok:Nat→Prop} {l:List Val} {cs:List (List Value)} (h:za6 w ok l cs) (v:Val) {A:Option Addr} {c:Nat} (hc:v.l.length≤c) (hv:zk w ok A v.l):za6 w ok (v :: l) (v.cells A c :: cs):=fun i hi=>by
 cases i with
 | zero=>exact ⟨by simp,A,c,rfl,hc,hv⟩
 | succ i =>
  obtain ⟨h',A',c',e1,e2,e3⟩:=h i (by simpa using hi)
  exact ⟨by simpa using h',A',c',e1,e2,e3⟩
theorem zbg.flat {w:World} {ok:Nat→Prop}:∀ {l:List Val} {b o:Nat},zbg w ok b o l→∃ cs,cs.length=l.length∧za6 w ok l cs∧∀ j u,cs.flatten[j]? = some u→w.cell? ⟨b,o+j,none⟩=some u
 | [],b,o,_=>⟨[],rfl,za6.nil _ _ _,fun j u h=>by simp at h⟩
 | v :: vs,b,o,h=>by
  rw [zbg] at h
  obtain ⟨cs,h1,h2,h3⟩:=zbg.flat h.2
  obtain ⟨-,A,c,⟨c0,c1,c2,c3,c4⟩,hle,hv⟩:=zx.iff.1 h.1
  refine ⟨v.cells A c :: cs,by simp [h1],h2.cons v hle hv,fun j u hu=>?_⟩
  rw [List.flatten_cons] at hu
  by_cases hj:j < 5
  ·rw [List.getElem?_append_left (by simpa [Val.cells] using hj)] at hu
   have hj':j=0∨j=1∨j=2∨j=3∨j=4:=by omega
   rcases hj' with rfl|rfl|rfl|rfl|rfl <;> (simp [Val.cells] at hu;subst hu;assumption)
  ·rw [List.getElem?_append_right (by simp [Val.cells];omega)] at hu
   have:=h3 _ u hu
   rw [show o+5+(j - (v.cells A c).length)=o+j by simp [Val.cells];omega] at this
   exact this
theorem zk.flat {w:World} {ok:Nat→Prop} {A:Option Addr} {l:List Val} (h:zk w ok A l):∃ cs,cs.length=l.length∧za6 w ok l cs∧∀ ad,A=some ad→∀ j u,cs.flatten[j]? = some u→w.cell? (ad.add j)=some u:=by
 rcases Nat.eq_zero_or_pos l.length with h0|h0
 ·have:l=[]:=List.eq_nil_of_length_eq_zero h0
  subst this
  exact ⟨[],rfl,za6.nil _ _ _,fun _ _ j u hu=>by simp at hu⟩
 ·obtain ⟨b,o,rfl,hc⟩:=h.2 h0
  obtain ⟨cs,h1,h2,h3⟩:=zbg.flat (zbg.iff.2 hc)
  refine ⟨cs,h1,h2,fun ad e j u hu=>?_⟩
  injection e with e
  subst e
  rw [Addr.add_mid];exact h3 j u hu
theorem za6.one {w:World} {ok:Nat→Prop} {l:List Val} {cs:List (List Value)} (h:za6 w ok l cs):∀ u ∈ cs.flatten,u.oneCell'=true:=fun u hu=>by
 obtain ⟨x,hx,hu⟩:=List.mem_flatten.1 hu
 obtain ⟨i,hi,rfl⟩:=List.getElem_of_mem hx
 obtain ⟨_,A,c,e,_⟩:=h i hi
 rw [e] at hu
 exact Val.cells_one _ _ _ u hu
end Go.Proofs.YtfhekbacigoblaaGreatDoor
