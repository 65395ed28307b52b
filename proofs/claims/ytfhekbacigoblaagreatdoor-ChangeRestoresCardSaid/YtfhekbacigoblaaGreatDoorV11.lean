import Derived.Test.YtfhekbacigoblaaGreatDoorV10
import Derived.Test.YtfhekbacigoblaaGreatDoorV01
import Derived.Test.YtfhekbacigoblaaGreatDoorV04
namespace Go.Proofs.YtfhekbacigoblaaGreatDoor
open Go.RowKit
theorem Nodes.at_ {w:World} {ok:Nat→Prop} {A:Option Addr} {l:List NodeG} (h:Nodes w ok A l) {i:Nat} (hi:i < l.length):∃ b o,A=some ⟨b,o,none⟩∧∀ k,k < l.length→NodeC w ok b (o+k*3) l[k]! := by
 obtain ⟨b,o,hA,hc⟩:=h.2 (by omega)
 exact ⟨b,o,hA,fun k hk=>by rw [getElem!_pos l k hk];exact hc k hk⟩
theorem Edges.at_ {w:World} {ok:Nat→Prop} {A:Option Addr} {l:List EdgeG} (h:Edges w ok A l) {i:Nat} (hi:i < l.length):∃ b o,A=some ⟨b,o,none⟩∧∀ k,k < l.length→EdgeC w ok b (o+k*5) l[k]! := by
 obtain ⟨b,o,hA,hc⟩:=h.2 (by omega)
 exact ⟨b,o,hA,fun k hk=>by rw [getElem!_pos l k hk];exact hc k hk⟩
theorem box_node (w:World) (n:Int) (A B:Option Addr) (na c nb d:Nat) (t:TypeId):∃ (q:Nat) (w1:World),q=w.heap.size∧w1=w.alloc (.cells #[.int .i64 n, .slice A na c, .slice B nb d] t)∧w1.cell? ⟨q,0,none⟩=some (.int .i64 n)∧w1.cell? ⟨q,1,none⟩=some (.slice A na c)∧w1.cell? ⟨q,2,none⟩=some (.slice B nb d)∧Ext w w1 :=
 ⟨_,_,rfl,rfl,by go_simp,by go_simp,by go_simp,(Ext.refl _).alloc _⟩
theorem box_edge (w:World) (e:EdgeG) (B:Option Addr) (d:Nat) (t:TypeId):∃ (q:Nat) (w1:World),q=w.heap.size∧w1=w.alloc (.cells #[.int .i64 e.id, .int .i64 e.frm, .int .i64 e.to_, .string e.typ, .slice B e.props.length d] t)∧w1.cell? ⟨q,0,none⟩=some (.int .i64 e.id)∧w1.cell? ⟨q,1,none⟩=some (.int .i64 e.frm)∧w1.cell? ⟨q,2,none⟩=some (.int .i64 e.to_)∧w1.cell? ⟨q,3,none⟩=some (.string e.typ)∧w1.cell? ⟨q,4,none⟩=some (.slice B e.props.length d)∧Ext w w1 :=
 ⟨_,_,rfl,rfl,by go_simp,by go_simp,by go_simp,by go_simp,by go_simp,(Ext.refl _).alloc _⟩
theorem nodeE_26 {g:GraphG} {i:Nat} (h:0 < i) (h2:g.nodes[i]!.id≤g.nodes[i - 1]!.id):nodeE g i=26:=by unfold nodeE;rw [if_pos ⟨h,h2⟩]
theorem nodeE_1 {g:GraphG} {i:Nat} (h:0 < i→g.nodes[i - 1]!.id < g.nodes[i]!.id) (h2:g.nodes[i]!.id < 1∨g.nn≤g.nodes[i]!.id):nodeE g i=1:=by
 unfold nodeE;rw [if_neg (fun hh=>by have:=h hh.1;omega),if_pos h2]
theorem nodeE_p {g:GraphG} {i:Nat} (h:0 < i→g.nodes[i - 1]!.id < g.nodes[i]!.id) (h2:1≤g.nodes[i]!.id) (h3:g.nodes[i]!.id < g.nn):nodeE g i=partsE g.nodes[i]!.labels g.nodes[i]!.props:=by
 unfold nodeE;rw [if_neg (fun hh=>by have:=h hh.1;omega),if_neg (by omega)]
theorem edgeE_26 {g:GraphG} {i:Nat} (h:0 < i) (h2:g.edges[i]!.id≤g.edges[i - 1]!.id):edgeE g i=26:=by unfold edgeE;rw [if_pos ⟨h,h2⟩]
theorem edgeE_1 {g:GraphG} {i:Nat} (h:0 < i→g.edges[i - 1]!.id < g.edges[i]!.id) (h2:g.edges[i]!.id < 1∨g.ne≤g.edges[i]!.id):edgeE g i=1:=by
 unfold edgeE;rw [if_neg (fun hh=>by have:=h hh.1;omega),if_pos h2]
theorem edgeE_p {g:GraphG} {i:Nat} (h:0 < i→g.edges[i - 1]!.id < g.edges[i]!.id) (h2:1≤g.edges[i]!.id) (h3:g.edges[i]!.id < g.ne):edgeE g i=if hasN g.nodes g.edges[i]!.frm && hasN g.nodes g.edges[i]!.to_ then (if nameB g.edges[i]!.typ then partsE [] g.edges[i]!.props else 6) else 10:=by
 unfold edgeE;rw [if_neg (fun hh=>by have:=h hh.1;omega),if_neg (by omega)]
theorem chkG_head {g:GraphG} (h:headE g ≠ 0):chkG g=headE g:=by unfold chkG;rw [if_neg h]
theorem chkG_nodes {g:GraphG} (h:headE g=0) {z:Int} (hz:nodesE g=z) (h2:z ≠ 0):chkG g=z:=by unfold chkG;rw [if_pos h,if_neg (by rw [hz];exact h2),hz]
theorem chkG_edges {g:GraphG} (h:headE g=0) (h2:nodesE g=0) {z:Int} (hz:edgesE g=z):chkG g=z:=by unfold chkG;rw [if_pos h,if_pos h2,hz]
theorem gr_parts0 (P:List PropG) (ok:Nat→Prop) (B:Option Addr) (d:Nat) (w:World) (hp:Props w ok B P) :
  Calls Tryz.prog 44 #[.slice none 0 0, .slice B P.length d] w fun e w'=>e = .returned (.int .i64 (partsE [] P))∧Ext w w' :=
 gr_parts [] P ok ok none B 0 d w (SliceR.nil _ _ _) hp
set_option maxRecDepth 100000 in
set_option maxHeartbeats 6400000 in
theorem gr_Check (g:GraphG) (ok:Nat→Prop) (A B:Option Addr) (c d:Nat) (w:World) (hg:GraphAt w ok A B g) :
  Calls Tryz.prog 17 #[.agg #[.slice A g.nodes.length c, .slice B g.edges.length d, .int .i64 g.nn, .int .i64 g.ne]] w fun e w'=>e = .returned (.int .i64 (chkG g))∧Ext w w':=by
 have hm:=hg.nodes.len
 have hm2:=hg.edges.len
 obtain ⟨q,w1,hq,hw1,g0,g1,g2,g3,hx1⟩:=box_graph w A B c d g 25
 have HW1:=Lib.hid hw1
 have HG:=Lib.hid hq
 have HGA:=Lib.hid (hg.ext hx1)
 clear hw1 hq hg
 by_cases h1:2000 < g.nodes.length∨4000 < g.edges.length
 ·have HR:=Lib.hid (show chkG g=4 by have:headE g=4:=(by unfold headE;rw [if_pos h1]);rw [chkG_head (by omega),this])
  rcases h1 with h1|h1
  all_goals
   go_enter Tryz.func17,Tryz.ntmps17
   go_upto_region 1 with (fail)
   rw [←HW1.out,←HG.out]
   clear HW1 HG
   go_wp2_with fail
   all_goals
    go_ret
    exact ⟨ret_int HR.out.symm,hx1.trans (by solve_by_elim [X0,X1,X2,X3])⟩
 ·have a1:g.nodes.length≤2000:=by omega
  have a2:g.edges.length≤4000:=by omega
  by_cases h2:g.nn < 1∨1000001 < g.nn∨g.ne < 1∨1000001 < g.ne
  ·have HR:=Lib.hid (show chkG g=1 by have:headE g=1:=(by unfold headE;rw [if_neg h1,if_pos h2]);rw [chkG_head (by omega),this])
   clear h1
   rcases h2 with h2|h2|h2|h2
   all_goals
    go_enter Tryz.func17,Tryz.ntmps17
    go_upto_region 1 with (fail)
    rw [←HW1.out,←HG.out]
    clear HW1 HG
    go_wp2_with fail
    all_goals
     go_ret
     exact ⟨ret_int HR.out.symm,hx1.trans (by solve_by_elim [X0,X1,X2,X3])⟩
  ·have HH:=Lib.hid (show headE g=0 by unfold headE;rw [if_neg h1,if_neg h2])
   have b1:1≤g.nn:=by omega
   have b2:g.nn≤1000001:=by omega
   have b3:1≤g.ne:=by omega
   have b4:g.ne≤1000001:=by omega
   clear h1 h2
   go_enter Tryz.func17,Tryz.ntmps17
   go_upto_region 1 with (fail)
   rw [←HW1.out,←HG.out]
   clear HW1 HG
   go_wp2_with fail
   go_loopw [40] (fun u W => ∃ k:Nat,u = .int .i64 k∧k≤g.nodes.length∧Hid (∀ t,t < k→nodeE g t=0)∧Ext w1 W) (fun u _=>g.nodes.length - (intOf u).toNat)
   case atStart=>exact ⟨0,rfl,Nat.zero_le _,Lib.hid (fun t ht=>absurd ht (by omega)),(by solve_by_elim [X0,X1,X2,X3])⟩
   case round =>
    obtain ⟨k,rfl,hk,hgd,hEr⟩:=hrel
    have g0':=hEr.cell g0
    have g1':=hEr.cell g1
    have g2':=hEr.cell g2
    have g3':=hEr.cell g3
    by_cases hlt:k < g.nodes.length
    ·obtain ⟨b,o,rfl,hc⟩:=HGA.out.nodes.at_ hlt
     obtain ⟨-,d0,A',c',B',d',d1,-,hS,d2,-,hP⟩:=hc k hlt
     replace d0:=hEr.cell d0
     replace d1:=hEr.cell d1
     replace d2:=hEr.cell d2
     obtain ⟨q2,w2,hq2,hw2,n0,n1,n2,hx2⟩:=box_node wr g.nodes[k]!.id A' B' g.nodes[k]!.labels.length c' g.nodes[k]!.props.length d' 57
     have HP:=Lib.hid (fun W (e:Ext w2 W)=>gr_parts g.nodes[k]!.labels g.nodes[k]!.props ok ok A' B' c' d' W (hS.ext ((hEr.trans hx2).trans e)) (hP.ext ((hEr.trans hx2).trans e)))
     have hpv:0 < k→w2.cell? ⟨b,o+(k - 1)*3,none⟩=some (.int .i64 g.nodes[k - 1]!.id):=fun h=>by
      obtain ⟨-,e0,-⟩:=hc (k - 1) (by omega)
      exact hx2.cell (hEr.cell e0)
     have G0:=hx2.cell g0'
     have G1:=hx2.cell g1'
     have G2:=hx2.cell g2'
     have G3:=hx2.cell g3'
     have HS:=Lib.hid (fun (h:nodeE g k=0) t (ht:t < k+1)=>(if e:t=k then (by rw [e];exact h) else hgd.out t (by omega):nodeE g t=0))
     have HX:=Lib.hid (fun (h:nodeE g k ≠ 0)=>chkG_nodes HH.out (firstE_at hgd.out h hlt) h)
     obtain ⟨E,hE⟩:∃ E,E=nodeE g k:=⟨_,rfl⟩
     rw [←hE] at HS HX
     have HW2:=Lib.hid hw2
     have HQ2:=Lib.hid hq2
     clear hc hgd hw2 hq2 hP hS
     rcases Nat.eq_zero_or_pos k with hz|hz
     ·subst hz
      clear hpv
      rw [Nat.zero_mul,Nat.add_zero] at d0 d1 d2
      have HE1:=Lib.hid (fun h=>nodeE_1 (g:=g) (i:=0) (fun h=>absurd h (Nat.lt_irrefl _)) h)
      have HEP:=Lib.hid (fun h1 h2=>nodeE_p (g:=g) (i:=0) (fun h=>absurd h (Nat.lt_irrefl _)) h1 h2)
      rw [←hE] at HE1 HEP
      clear hE
      generalize g.nodes[0]! = x at *
      generalize partsE x.labels x.props=z at *
      go_upto_region 8 with (fail)
      rw [←HW2.out,←HQ2.out]
      clear HW2 HQ2 g0' g1' g2' g3'
      have MKR1:=Lib.hid (fun V (e:Ext w2 V)=>(e:Ext w2 V))
      refine wp_region_held_drew (S:=(fun V=>Ext w2 V)) (by kernel_rfl) ?hs1 (fun hHeld=>?go1)
      case hs1=>(exact MKR1.out _ (by solve_by_elim [X0,X1,X2,X3]))
      refine KA 0 hHeld ?_;simp only [PU]
      refine KA 1 hHeld ?_;simp only [PU]
      refine KA 2 hHeld ?_;simp only [PU]
      refine TN 3 hHeld ?_
      (try simp only [PU])
      refine TN 4 hHeld ?_
      (try simp only [PU])
      refine TN 5 hHeld ?_
      (try simp only [PU])
      refine TN 6 hHeld ?_
      (try simp only [PU])
      refine TN 7 hHeld ?_
      (try simp only [PU])
      refine TN 8 hHeld ?_
      (try simp only [PU])
      refine TN 9 hHeld ?_
      (try simp only [PU])
      refine TN 10 hHeld ?_
      (try simp only [PU])
      refine TN 11 hHeld ?_
      (try simp only [PU])
      refine TN 12 hHeld ?_
      (try simp only [PU])
      refine KA 13 hHeld ?_;simp only [PU]
      refine wpAnyH_done (by kernel_rfl) ?_ _
      clear hHeld
      clear MKR1
      have gE:Ext w2 w2.drew:=(Ext.refl _).drew
      have j0:=gE.cell n0
      have j1:=gE.cell n1
      have j2:=gE.cell n2
      have k0:=gE.cell G0
      have k1:=gE.cell G1
      have k2:=gE.cell G2
      have k3:=gE.cell G3
      by_cases h1:x.id < 1
      ·have HT:=Lib.hid (HX.out (by rw [HE1.out (.inl h1)];decide))
       rw [HE1.out (.inl h1)] at HT
       go_wp2_with fail
       go_ret
       exact ⟨ret_int HT.out.symm,(hx1.trans (hEr.trans (hx2.trans (by solve_by_elim [X0,X1,X2,X3]))))⟩
      ·by_cases h2:g.nn≤x.id
       ·have HT:=Lib.hid (HX.out (by rw [HE1.out (.inr h2)];decide))
        rw [HE1.out (.inr h2)] at HT
        go_wp2_with fail
        go_ret
        exact ⟨ret_int HT.out.symm,(hx1.trans (hEr.trans (hx2.trans (by solve_by_elim [X0,X1,X2,X3]))))⟩
       ·have HZ:=Lib.hid (HEP.out (by omega) (by omega))
        clear HE1 HEP
        rw [HZ.out] at HS HX
        by_cases he:z=0
        ·have HT:=Lib.hid (HS.out he)
         have he2:(z != 0)=false:=by rw [he];rfl
         clear HS HX HZ he
         go_wp2_with (go_at_call 44;((with_reducible refine (HP.out _ (by solve_by_elim [X0,X1,X2,X3])).mono ?_);rintro e w8 ⟨rfl,hx8⟩;replace hx8:Ext w2 w8:=Ext.trans (by solve_by_elim [X0,X1,X2,X3]) hx8))
         go_roundw
         case rel=>exact ⟨0+1,rfl,by omega,HT,hEr.trans (hx2.trans hx8)⟩
         case measure=>simp [intOf];omega
        ·have HT:=Lib.hid (HX.out he)
         have he2:(z != 0)=true:=bne_iff_ne.2 he
         clear HS HX he
         go_wp2_with (go_at_call 44;((with_reducible refine (HP.out _ (by solve_by_elim [X0,X1,X2,X3])).mono ?_);rintro e w8 ⟨rfl,hx8⟩;replace hx8:Ext w2 w8:=Ext.trans (by solve_by_elim [X0,X1,X2,X3]) hx8))
         go_ret
         exact ⟨ret_int HT.out.symm,hx1.trans (hEr.trans (hx2.trans hx8))⟩
     ·replace hpv:=hpv hz
      by_cases hlo:g.nodes[k - 1]!.id < g.nodes[k]!.id
      ·have HE1:=Lib.hid (fun h=>nodeE_1 (g:=g) (i:=k) (fun _=>hlo) h)
       have HEP:=Lib.hid (fun h1 h2=>nodeE_p (g:=g) (i:=k) (fun _=>hlo) h1 h2)
       rw [←hE] at HE1 HEP
       clear hE
       generalize g.nodes[k]! = x at *
       generalize g.nodes[k - 1]! = y at *
       generalize partsE x.labels x.props=z at *
       have ho:¬x.id≤y.id:=by omega
       clear hlo
       go_upto_region 8 with (fail)
       rw [←HW2.out,←HQ2.out]
       clear HW2 HQ2 g0' g1' g2' g3'
       have p0:0 < k:=by omega
       have p1:(1:Int)≤(k:Int):=by omega
       have p2:((k:Int) - 1).toNat=k - 1:=by omega
       have p5:IntKind.i64.wrap ((k:Int) - 1)=(k:Int) - 1:=IntWalk.i64_in _ (by omega)
       have p6:((k:Int) - 1) < (g.nodes.length:Int):=by omega
       have MKR2:=Lib.hid (fun V (e:Ext w2 V)=>(⟨e.cell G0,e.cell n0,e.cell hpv,e⟩:V.cell? ⟨q,0,none⟩=some (.slice (some ⟨b,o,none⟩) g.nodes.length c)∧V.cell? ⟨q2,0,none⟩=some (.int .i64 x.id)∧V.cell? ⟨b,o+(k - 1)*3,none⟩=some (.int .i64 y.id)∧Ext w2 V))
       refine wp_region_held_drew (S:=(fun V=>V.cell? ⟨q,0,none⟩=some (.slice (some ⟨b,o,none⟩) g.nodes.length c)∧V.cell? ⟨q2,0,none⟩=some (.int .i64 x.id)∧V.cell? ⟨b,o+(k - 1)*3,none⟩=some (.int .i64 y.id)∧Ext w2 V)) (by kernel_rfl) ?hs16 (fun hHeld=>?go16)
       case hs16=>(exact MKR2.out _ (by solve_by_elim [X0,X1,X2,X3]))
       refine KA 0 hHeld ?_;simp only [PU]
       refine KA 1 hHeld ?_;simp only [PU]
       refine KA 2 hHeld ?_;simp only [PU]
       refine KA 3 hHeld ?_;simp only [PU]
       refine KA 4 hHeld ?_;simp only [PU]
       refine KA 5 hHeld ?_;simp only [PU]
       refine KA 6 hHeld ?_;simp only [PU]
       refine KA 7 hHeld ?_;simp only [PU]
       refine KA 8 hHeld ?_;simp only [PU]
       refine KA 9 hHeld ?_;simp only [PU]
       refine KA 10 hHeld ?_;simp only [PU]
       refine KA 11 hHeld ?_;simp only [PU]
       refine KA 12 hHeld ?_;simp only [PU]
       refine KA 13 hHeld ?_;simp only [PU]
       refine wpAnyH_done (by kernel_rfl) ?_ _
       clear hHeld
       clear MKR2
       clear p0 p1 p2 p5 p6 ho hpv
       have gE:Ext w2 w2.drew:=(Ext.refl _).drew
       have j0:=gE.cell n0
       have j1:=gE.cell n1
       have j2:=gE.cell n2
       have k0:=gE.cell G0
       have k1:=gE.cell G1
       have k2:=gE.cell G2
       have k3:=gE.cell G3
       by_cases h1:x.id < 1
       ·have HT:=Lib.hid (HX.out (by rw [HE1.out (.inl h1)];decide))
        rw [HE1.out (.inl h1)] at HT
        go_wp2_with fail
        go_ret
        exact ⟨ret_int HT.out.symm,(hx1.trans (hEr.trans (hx2.trans (by solve_by_elim [X0,X1,X2,X3]))))⟩
       ·by_cases h2:g.nn≤x.id
        ·have HT:=Lib.hid (HX.out (by rw [HE1.out (.inr h2)];decide))
         rw [HE1.out (.inr h2)] at HT
         go_wp2_with fail
         go_ret
         exact ⟨ret_int HT.out.symm,(hx1.trans (hEr.trans (hx2.trans (by solve_by_elim [X0,X1,X2,X3]))))⟩
        ·have HZ:=Lib.hid (HEP.out (by omega) (by omega))
         clear HE1 HEP
         rw [HZ.out] at HS HX
         by_cases he:z=0
         ·have HT:=Lib.hid (HS.out he)
          have he2:(z != 0)=false:=by rw [he];rfl
          clear HS HX HZ he
          go_wp2_with (go_at_call 44;((with_reducible refine (HP.out _ (by solve_by_elim [X0,X1,X2,X3])).mono ?_);rintro e w8 ⟨rfl,hx8⟩;replace hx8:Ext w2 w8:=Ext.trans (by solve_by_elim [X0,X1,X2,X3]) hx8))
          go_roundw
          case rel=>exact ⟨k+1,by go_num,by omega,HT,hEr.trans (hx2.trans hx8)⟩
          case measure=>simp [intOf];omega
         ·have HT:=Lib.hid (HX.out he)
          have he2:(z != 0)=true:=bne_iff_ne.2 he
          clear HS HX he
          go_wp2_with (go_at_call 44;((with_reducible refine (HP.out _ (by solve_by_elim [X0,X1,X2,X3])).mono ?_);rintro e w8 ⟨rfl,hx8⟩;replace hx8:Ext w2 w8:=Ext.trans (by solve_by_elim [X0,X1,X2,X3]) hx8))
          go_ret
          exact ⟨ret_int HT.out.symm,hx1.trans (hEr.trans (hx2.trans hx8))⟩
      ·have HT:=Lib.hid (HX.out (by rw [hE,nodeE_26 hz (by omega)];decide))
       rw [hE,nodeE_26 hz (by omega)] at HT
       clear hE HS HX HP
       generalize g.nodes[k]! = x at *
       generalize g.nodes[k - 1]! = y at *
       have ho:x.id≤y.id:=by omega
       clear hlo
       go_upto_region 8 with (fail)
       rw [←HW2.out,←HQ2.out]
       clear HW2 HQ2 g0' g1' g2' g3'
       have p0:0 < k:=by omega
       have p1:(1:Int)≤(k:Int):=by omega
       have p2:((k:Int) - 1).toNat=k - 1:=by omega
       have p5:IntKind.i64.wrap ((k:Int) - 1)=(k:Int) - 1:=IntWalk.i64_in _ (by omega)
       have p6:((k:Int) - 1) < (g.nodes.length:Int):=by omega
       have MKR3:=Lib.hid (fun V (e:Ext w2 V)=>(⟨e.cell G0,e.cell n0,e.cell hpv,e⟩:V.cell? ⟨q,0,none⟩=some (.slice (some ⟨b,o,none⟩) g.nodes.length c)∧V.cell? ⟨q2,0,none⟩=some (.int .i64 x.id)∧V.cell? ⟨b,o+(k - 1)*3,none⟩=some (.int .i64 y.id)∧Ext w2 V))
       refine wp_region_held_drew (S:=(fun V=>V.cell? ⟨q,0,none⟩=some (.slice (some ⟨b,o,none⟩) g.nodes.length c)∧V.cell? ⟨q2,0,none⟩=some (.int .i64 x.id)∧V.cell? ⟨b,o+(k - 1)*3,none⟩=some (.int .i64 y.id)∧Ext w2 V)) (by kernel_rfl) ?hs31 (fun hHeld=>?go31)
       case hs31=>(exact MKR3.out _ (by solve_by_elim [X0,X1,X2,X3]))
       refine KA 0 hHeld ?_;simp only [PU]
       refine KA 1 hHeld ?_;simp only [PU]
       refine KA 2 hHeld ?_;simp only [PU]
       refine KA 3 hHeld ?_;simp only [PU]
       refine KA 4 hHeld ?_;simp only [PU]
       refine KA 5 hHeld ?_;simp only [PU]
       refine KA 6 hHeld ?_;simp only [PU]
       refine KA 7 hHeld ?_;simp only [PU]
       refine KA 8 hHeld ?_;simp only [PU]
       refine KA 9 hHeld ?_;simp only [PU]
       refine KA 10 hHeld ?_;simp only [PU]
       refine KA 11 hHeld ?_;simp only [PU]
       refine KA 12 hHeld ?_;simp only [PU]
       refine KA 13 hHeld ?_;simp only [PU]
       refine wpAnyH_done (by kernel_rfl) ?_ _
       clear hHeld
       clear MKR3
       go_wp2_with fail
       go_ret
       exact ⟨ret_int HT.out.symm,(hx1.trans (hEr.trans (hx2.trans (by solve_by_elim [X0,X1,X2,X3]))))⟩
    ·have HNZ:=Lib.hid (show nodesE g=0 from firstE_zero (fun t ht=>hgd.out t (by omega)))
     have HST:=Lib.hid (fun (i j:Nat) (hij:i < j) (hj:j < g.nodes.length)=>nodes_lt HNZ.out hij hj)
     have hE0:=hEr
     clear hgd hEr
     go_wp2_with fail
     clear g0' g1' g2' g3'
     go_loopw [81] (fun u W => ∃ k:Nat,u = .int .i64 k∧k≤g.edges.length∧Hid (∀ t,t < k→edgeE g t=0)∧Ext w1 W) (fun u _=>g.edges.length - (intOf u).toNat)
     case atStart=>exact ⟨0,rfl,Nat.zero_le _,Lib.hid (fun t ht=>absurd ht (by omega)),hE0⟩
     case round =>
      clear hE0
      obtain ⟨k,rfl,hk,hgd,hEr⟩:=hrel
      have g0':=hEr.cell g0
      have g1':=hEr.cell g1
      have g2':=hEr.cell g2
      have g3':=hEr.cell g3
      by_cases hlt:k < g.edges.length
      ·obtain ⟨b,o,rfl,hc⟩:=HGA.out.edges.at_ hlt
       obtain ⟨-,d0,d1,d2,d3,B',d',d4,-,hP⟩:=hc k hlt
       replace d0:=hEr.cell d0
       replace d1:=hEr.cell d1
       replace d2:=hEr.cell d2
       replace d3:=hEr.cell d3
       replace d4:=hEr.cell d4
       obtain ⟨q2,w2,hq2,hw2,n0,n1,n2,n3,n4,hx2⟩:=box_edge wr g.edges[k]! B' d' 59
       have HP:=Lib.hid (fun W (e:Ext w2 W)=>gr_parts0 g.edges[k]!.props ok B' d' W (hP.ext ((hEr.trans hx2).trans e)))
       have HN1:=Lib.hid (fun W (e:Ext w2 W)=>gr_has g.nodes ok A c g.edges[k]!.frm W (HGA.out.nodes.ext ((hEr.trans hx2).trans e)) HST.out)
       have HN2:=Lib.hid (fun W (e:Ext w2 W)=>gr_has g.nodes ok A c g.edges[k]!.to_ W (HGA.out.nodes.ext ((hEr.trans hx2).trans e)) HST.out)
       have HNM:=Lib.hid (fun W=>g_Name g.edges[k]!.typ W)
       have hpv:0 < k→w2.cell? ⟨b,o+(k - 1)*5,none⟩=some (.int .i64 g.edges[k - 1]!.id):=fun h=>by
        obtain ⟨-,e0,-⟩:=hc (k - 1) (by omega)
        exact hx2.cell (hEr.cell e0)
       have G0:=hx2.cell g0'
       have G1:=hx2.cell g1'
       have G2:=hx2.cell g2'
       have G3:=hx2.cell g3'
       have HS:=Lib.hid (fun (h:edgeE g k=0) t (ht:t < k+1)=>(if e:t=k then (by rw [e];exact h) else hgd.out t (by omega):edgeE g t=0))
       have HX:=Lib.hid (fun (h:edgeE g k ≠ 0)=>chkG_edges HH.out HNZ.out (firstE_at hgd.out h hlt))
       obtain ⟨E,hE⟩:∃ E,E=edgeE g k:=⟨_,rfl⟩
       rw [←hE] at HS HX
       have HW2:=Lib.hid hw2
       have HQ2:=Lib.hid hq2
       clear hc hgd hw2 hq2 hP
       rcases Nat.eq_zero_or_pos k with hz|hz
       ·subst hz
        clear hpv
        rw [Nat.zero_mul,Nat.add_zero] at d0 d1 d2 d3 d4
        have HE1:=Lib.hid (fun h=>edgeE_1 (g:=g) (i:=0) (fun h=>absurd h (Nat.lt_irrefl _)) h)
        have HEP:=Lib.hid (fun h1 h2=>edgeE_p (g:=g) (i:=0) (fun h=>absurd h (Nat.lt_irrefl _)) h1 h2)
        rw [←hE] at HE1 HEP
        clear hE
        generalize g.edges[0]! = x at *
        generalize partsE [] x.props=z at *
        generalize hasN g.nodes x.frm=b1 at *
        generalize hasN g.nodes x.to_=b2 at *
        generalize nameB x.typ=b3 at *
        go_upto_region 19 with (fail)
        rw [←HW2.out,←HQ2.out]
        clear HW2 HQ2 g0' g1' g2' g3'
        have MKR4:=Lib.hid (fun V (e:Ext w2 V)=>(e:Ext w2 V))
        refine wp_region_held_drew (S:=(fun V=>Ext w2 V)) (by kernel_rfl) ?hs46 (fun hHeld=>?go46)
        case hs46=>(exact MKR4.out _ (by solve_by_elim [X0,X1,X2,X3]))
        refine KA 0 hHeld ?_;simp only [PU]
        refine KA 1 hHeld ?_;simp only [PU]
        refine KA 2 hHeld ?_;simp only [PU]
        refine TN 3 hHeld ?_
        (try simp only [PU])
        refine TN 4 hHeld ?_
        (try simp only [PU])
        refine TN 5 hHeld ?_
        (try simp only [PU])
        refine TN 6 hHeld ?_
        (try simp only [PU])
        refine TN 7 hHeld ?_
        (try simp only [PU])
        refine TN 8 hHeld ?_
        (try simp only [PU])
        refine TN 9 hHeld ?_
        (try simp only [PU])
        refine TN 10 hHeld ?_
        (try simp only [PU])
        refine TN 11 hHeld ?_
        (try simp only [PU])
        refine TN 12 hHeld ?_
        (try simp only [PU])
        refine KA 13 hHeld ?_;simp only [PU]
        refine wpAnyH_done (by kernel_rfl) ?_ _
        clear hHeld
        clear MKR4
        have gE:Ext w2 w2.drew:=(Ext.refl _).drew
        have j0:=gE.cell n0
        have j1:=gE.cell n1
        have j2:=gE.cell n2
        have j3:=gE.cell n3
        have j4:=gE.cell n4
        have k0:=gE.cell G0
        have k1:=gE.cell G1
        have k2:=gE.cell G2
        have k3:=gE.cell G3
        by_cases h1:x.id < 1
        ·have HT:=Lib.hid (HX.out (by rw [HE1.out (.inl h1)];decide))
         rw [HE1.out (.inl h1)] at HT
         go_wp2_with fail
         go_ret
         exact ⟨ret_int HT.out.symm,(hx1.trans (hEr.trans (hx2.trans (by solve_by_elim [X0,X1,X2,X3]))))⟩
        ·by_cases h2:g.ne≤x.id
         ·have HT:=Lib.hid (HX.out (by rw [HE1.out (.inr h2)];decide))
          rw [HE1.out (.inr h2)] at HT
          go_wp2_with fail
          go_ret
          exact ⟨ret_int HT.out.symm,(hx1.trans (hEr.trans (hx2.trans (by solve_by_elim [X0,X1,X2,X3]))))⟩
         ·have HZ:=Lib.hid (HEP.out (by omega) (by omega))
          clear HE1 HEP
          cases b1
          ·have HT:=Lib.hid (HX.out (by rw [HZ.out];simp))
           rw [HZ.out] at HT
           go_wp2_with (go_at_call 45;((with_reducible refine (HN1.out _ (by solve_by_elim [X0,X1,X2,X3])).mono ?_);rintro e v1 ⟨rfl,gx1⟩;replace gx1:Ext w2 v1:=Ext.trans (by solve_by_elim [X0,X1,X2,X3]) gx1;have m0:=gx1.cell G0;have r0:=gx1.cell n0;have r1:=gx1.cell n1;have r2:=gx1.cell n2;have r3:=gx1.cell n3;have r4:=gx1.cell n4))
           go_ret
           exact ⟨ret_int HT.out.symm,hx1.trans (hEr.trans (hx2.trans gx1))⟩
          ·cases b2
           ·have HT:=Lib.hid (HX.out (by rw [HZ.out];simp))
            rw [HZ.out] at HT
            go_wp2_with (first|(go_at_call 45;((with_reducible refine (HN1.out _ (by solve_by_elim [X0,X1,X2,X3])).mono ?_);rintro e v1 ⟨rfl,gx1⟩;replace gx1:Ext w2 v1:=Ext.trans (by solve_by_elim [X0,X1,X2,X3]) gx1;have m0:=gx1.cell G0;have r0:=gx1.cell n0;have r1:=gx1.cell n1;have r2:=gx1.cell n2;have r3:=gx1.cell n3;have r4:=gx1.cell n4))|(go_at_call 45;((with_reducible refine (HN2.out _ gx1).mono ?_);rintro e v2 ⟨rfl,gx2⟩;replace gx2:Ext w2 v2:=gx1.trans gx2;have l3:=gx2.cell n3;have l4:=gx2.cell n4)))
            go_ret
            exact ⟨ret_int HT.out.symm,hx1.trans (hEr.trans (hx2.trans gx2))⟩
           ·cases b3
            ·have HT:=Lib.hid (HX.out (by rw [HZ.out];simp))
             rw [HZ.out] at HT
             go_wp2_with (first|(go_at_call 45;((with_reducible refine (HN1.out _ (by solve_by_elim [X0,X1,X2,X3])).mono ?_);rintro e v1 ⟨rfl,gx1⟩;replace gx1:Ext w2 v1:=Ext.trans (by solve_by_elim [X0,X1,X2,X3]) gx1;have m0:=gx1.cell G0;have r0:=gx1.cell n0;have r1:=gx1.cell n1;have r2:=gx1.cell n2;have r3:=gx1.cell n3;have r4:=gx1.cell n4))|(go_at_call 45;((with_reducible refine (HN2.out _ gx1).mono ?_);rintro e v2 ⟨rfl,gx2⟩;replace gx2:Ext w2 v2:=gx1.trans gx2;have l3:=gx2.cell n3;have l4:=gx2.cell n4))|(go_at_call 35;((with_reducible refine (HNM.out _).mono ?_);rintro e v3 ⟨rfl,rfl⟩)))
             go_ret
             exact ⟨ret_int HT.out.symm,hx1.trans (hEr.trans (hx2.trans gx2))⟩
            ·rw [show E=z from HZ.out] at HS HX
             by_cases he:z=0
             ·have HT:=Lib.hid (HS.out he)
              have he2:(z != 0)=false:=by rw [he];rfl
              clear HS HX HZ he
              go_wp2_with (first|(go_at_call 45;((with_reducible refine (HN1.out _ (by solve_by_elim [X0,X1,X2,X3])).mono ?_);rintro e v1 ⟨rfl,gx1⟩;replace gx1:Ext w2 v1:=Ext.trans (by solve_by_elim [X0,X1,X2,X3]) gx1;have m0:=gx1.cell G0;have r0:=gx1.cell n0;have r1:=gx1.cell n1;have r2:=gx1.cell n2;have r3:=gx1.cell n3;have r4:=gx1.cell n4))|(go_at_call 45;((with_reducible refine (HN2.out _ gx1).mono ?_);rintro e v2 ⟨rfl,gx2⟩;replace gx2:Ext w2 v2:=gx1.trans gx2;have l3:=gx2.cell n3;have l4:=gx2.cell n4))|(go_at_call 35;((with_reducible refine (HNM.out _).mono ?_);rintro e v3 ⟨rfl,rfl⟩))|(go_at_call 44;((with_reducible refine (HP.out _ (by solve_by_elim [X0,X1,X2,X3])).mono ?_);rintro e w8 ⟨rfl,hx8⟩;replace hx8:Ext w2 w8:=Ext.trans (by solve_by_elim [X0,X1,X2,X3]) hx8)))
              go_roundw
              case rel=>exact ⟨0+1,rfl,by omega,HT,hEr.trans (hx2.trans hx8)⟩
              case measure=>simp [intOf];omega
             ·have HT:=Lib.hid (HX.out he)
              have he2:(z != 0)=true:=bne_iff_ne.2 he
              clear HS HX he
              go_wp2_with (first|(go_at_call 45;((with_reducible refine (HN1.out _ (by solve_by_elim [X0,X1,X2,X3])).mono ?_);rintro e v1 ⟨rfl,gx1⟩;replace gx1:Ext w2 v1:=Ext.trans (by solve_by_elim [X0,X1,X2,X3]) gx1;have m0:=gx1.cell G0;have r0:=gx1.cell n0;have r1:=gx1.cell n1;have r2:=gx1.cell n2;have r3:=gx1.cell n3;have r4:=gx1.cell n4))|(go_at_call 45;((with_reducible refine (HN2.out _ gx1).mono ?_);rintro e v2 ⟨rfl,gx2⟩;replace gx2:Ext w2 v2:=gx1.trans gx2;have l3:=gx2.cell n3;have l4:=gx2.cell n4))|(go_at_call 35;((with_reducible refine (HNM.out _).mono ?_);rintro e v3 ⟨rfl,rfl⟩))|(go_at_call 44;((with_reducible refine (HP.out _ (by solve_by_elim [X0,X1,X2,X3])).mono ?_);rintro e w8 ⟨rfl,hx8⟩;replace hx8:Ext w2 w8:=Ext.trans (by solve_by_elim [X0,X1,X2,X3]) hx8)))
              go_ret
              exact ⟨ret_int HT.out.symm,hx1.trans (hEr.trans (hx2.trans hx8))⟩
       ·replace hpv:=hpv hz
        by_cases hlo:g.edges[k - 1]!.id < g.edges[k]!.id
        ·have HE1:=Lib.hid (fun h=>edgeE_1 (g:=g) (i:=k) (fun _=>hlo) h)
         have HEP:=Lib.hid (fun h1 h2=>edgeE_p (g:=g) (i:=k) (fun _=>hlo) h1 h2)
         rw [←hE] at HE1 HEP
         clear hE
         generalize g.edges[k]! = x at *
         generalize g.edges[k - 1]! = y at *
         generalize partsE [] x.props=z at *
         generalize hasN g.nodes x.frm=b1 at *
         generalize hasN g.nodes x.to_=b2 at *
         generalize nameB x.typ=b3 at *
         have ho:¬x.id≤y.id:=by omega
         clear hlo
         go_upto_region 19 with (fail)
         rw [←HW2.out,←HQ2.out]
         clear HW2 HQ2 g0' g1' g2' g3'
         have p0:0 < k:=by omega
         have p1:(1:Int)≤(k:Int):=by omega
         have p2:((k:Int) - 1).toNat=k - 1:=by omega
         have p5:IntKind.i64.wrap ((k:Int) - 1)=(k:Int) - 1:=IntWalk.i64_in _ (by omega)
         have p6:((k:Int) - 1) < (g.edges.length:Int):=by omega
         have MKR5:=Lib.hid (fun V (e:Ext w2 V)=>(⟨e.cell G1,e.cell n0,e.cell hpv,e⟩:V.cell? ⟨q,1,none⟩=some (.slice (some ⟨b,o,none⟩) g.edges.length d)∧V.cell? ⟨q2,0,none⟩=some (.int .i64 x.id)∧V.cell? ⟨b,o+(k - 1)*5,none⟩=some (.int .i64 y.id)∧Ext w2 V))
         refine wp_region_held_drew (S:=(fun V=>V.cell? ⟨q,1,none⟩=some (.slice (some ⟨b,o,none⟩) g.edges.length d)∧V.cell? ⟨q2,0,none⟩=some (.int .i64 x.id)∧V.cell? ⟨b,o+(k - 1)*5,none⟩=some (.int .i64 y.id)∧Ext w2 V)) (by kernel_rfl) ?hs61 (fun hHeld=>?go61)
         case hs61=>(exact MKR5.out _ (by solve_by_elim [X0,X1,X2,X3]))
         refine KA 0 hHeld ?_;simp only [PU]
         refine KA 1 hHeld ?_;simp only [PU]
         refine KA 2 hHeld ?_;simp only [PU]
         refine KA 3 hHeld ?_;simp only [PU]
         refine KA 4 hHeld ?_;simp only [PU]
         refine KA 5 hHeld ?_;simp only [PU]
         refine KA 6 hHeld ?_;simp only [PU]
         refine KA 7 hHeld ?_;simp only [PU]
         refine KA 8 hHeld ?_;simp only [PU]
         refine KA 9 hHeld ?_;simp only [PU]
         refine KA 10 hHeld ?_;simp only [PU]
         refine KA 11 hHeld ?_;simp only [PU]
         refine KA 12 hHeld ?_;simp only [PU]
         refine KA 13 hHeld ?_;simp only [PU]
         refine wpAnyH_done (by kernel_rfl) ?_ _
         clear hHeld
         clear MKR5
         clear p0 p1 p2 p5 p6 ho hpv
         have gE:Ext w2 w2.drew:=(Ext.refl _).drew
         have j0:=gE.cell n0
         have j1:=gE.cell n1
         have j2:=gE.cell n2
         have j3:=gE.cell n3
         have j4:=gE.cell n4
         have k0:=gE.cell G0
         have k1:=gE.cell G1
         have k2:=gE.cell G2
         have k3:=gE.cell G3
         by_cases h1:x.id < 1
         ·have HT:=Lib.hid (HX.out (by rw [HE1.out (.inl h1)];decide))
          rw [HE1.out (.inl h1)] at HT
          go_wp2_with fail
          go_ret
          exact ⟨ret_int HT.out.symm,(hx1.trans (hEr.trans (hx2.trans (by solve_by_elim [X0,X1,X2,X3]))))⟩
         ·by_cases h2:g.ne≤x.id
          ·have HT:=Lib.hid (HX.out (by rw [HE1.out (.inr h2)];decide))
           rw [HE1.out (.inr h2)] at HT
           go_wp2_with fail
           go_ret
           exact ⟨ret_int HT.out.symm,(hx1.trans (hEr.trans (hx2.trans (by solve_by_elim [X0,X1,X2,X3]))))⟩
          ·have HZ:=Lib.hid (HEP.out (by omega) (by omega))
           clear HE1 HEP
           cases b1
           ·have HT:=Lib.hid (HX.out (by rw [HZ.out];simp))
            rw [HZ.out] at HT
            go_wp2_with (go_at_call 45;((with_reducible refine (HN1.out _ (by solve_by_elim [X0,X1,X2,X3])).mono ?_);rintro e v1 ⟨rfl,gx1⟩;replace gx1:Ext w2 v1:=Ext.trans (by solve_by_elim [X0,X1,X2,X3]) gx1;have m0:=gx1.cell G0;have r0:=gx1.cell n0;have r1:=gx1.cell n1;have r2:=gx1.cell n2;have r3:=gx1.cell n3;have r4:=gx1.cell n4))
            go_ret
            exact ⟨ret_int HT.out.symm,hx1.trans (hEr.trans (hx2.trans gx1))⟩
           ·cases b2
            ·have HT:=Lib.hid (HX.out (by rw [HZ.out];simp))
             rw [HZ.out] at HT
             go_wp2_with (first|(go_at_call 45;((with_reducible refine (HN1.out _ (by solve_by_elim [X0,X1,X2,X3])).mono ?_);rintro e v1 ⟨rfl,gx1⟩;replace gx1:Ext w2 v1:=Ext.trans (by solve_by_elim [X0,X1,X2,X3]) gx1;have m0:=gx1.cell G0;have r0:=gx1.cell n0;have r1:=gx1.cell n1;have r2:=gx1.cell n2;have r3:=gx1.cell n3;have r4:=gx1.cell n4))|(go_at_call 45;((with_reducible refine (HN2.out _ gx1).mono ?_);rintro e v2 ⟨rfl,gx2⟩;replace gx2:Ext w2 v2:=gx1.trans gx2;have l3:=gx2.cell n3;have l4:=gx2.cell n4)))
             go_ret
             exact ⟨ret_int HT.out.symm,hx1.trans (hEr.trans (hx2.trans gx2))⟩
            ·cases b3
             ·have HT:=Lib.hid (HX.out (by rw [HZ.out];simp))
              rw [HZ.out] at HT
              go_wp2_with (first|(go_at_call 45;((with_reducible refine (HN1.out _ (by solve_by_elim [X0,X1,X2,X3])).mono ?_);rintro e v1 ⟨rfl,gx1⟩;replace gx1:Ext w2 v1:=Ext.trans (by solve_by_elim [X0,X1,X2,X3]) gx1;have m0:=gx1.cell G0;have r0:=gx1.cell n0;have r1:=gx1.cell n1;have r2:=gx1.cell n2;have r3:=gx1.cell n3;have r4:=gx1.cell n4))|(go_at_call 45;((with_reducible refine (HN2.out _ gx1).mono ?_);rintro e v2 ⟨rfl,gx2⟩;replace gx2:Ext w2 v2:=gx1.trans gx2;have l3:=gx2.cell n3;have l4:=gx2.cell n4))|(go_at_call 35;((with_reducible refine (HNM.out _).mono ?_);rintro e v3 ⟨rfl,rfl⟩)))
              go_ret
              exact ⟨ret_int HT.out.symm,hx1.trans (hEr.trans (hx2.trans gx2))⟩
             ·rw [show E=z from HZ.out] at HS HX
              by_cases he:z=0
              ·have HT:=Lib.hid (HS.out he)
               have he2:(z != 0)=false:=by rw [he];rfl
               clear HS HX HZ he
               go_wp2_with (first|(go_at_call 45;((with_reducible refine (HN1.out _ (by solve_by_elim [X0,X1,X2,X3])).mono ?_);rintro e v1 ⟨rfl,gx1⟩;replace gx1:Ext w2 v1:=Ext.trans (by solve_by_elim [X0,X1,X2,X3]) gx1;have m0:=gx1.cell G0;have r0:=gx1.cell n0;have r1:=gx1.cell n1;have r2:=gx1.cell n2;have r3:=gx1.cell n3;have r4:=gx1.cell n4))|(go_at_call 45;((with_reducible refine (HN2.out _ gx1).mono ?_);rintro e v2 ⟨rfl,gx2⟩;replace gx2:Ext w2 v2:=gx1.trans gx2;have l3:=gx2.cell n3;have l4:=gx2.cell n4))|(go_at_call 35;((with_reducible refine (HNM.out _).mono ?_);rintro e v3 ⟨rfl,rfl⟩))|(go_at_call 44;((with_reducible refine (HP.out _ (by solve_by_elim [X0,X1,X2,X3])).mono ?_);rintro e w8 ⟨rfl,hx8⟩;replace hx8:Ext w2 w8:=Ext.trans (by solve_by_elim [X0,X1,X2,X3]) hx8)))
               go_roundw
               case rel=>exact ⟨k+1,by go_num,by omega,HT,hEr.trans (hx2.trans hx8)⟩
               case measure=>simp [intOf];omega
              ·have HT:=Lib.hid (HX.out he)
               have he2:(z != 0)=true:=bne_iff_ne.2 he
               clear HS HX he
               go_wp2_with (first|(go_at_call 45;((with_reducible refine (HN1.out _ (by solve_by_elim [X0,X1,X2,X3])).mono ?_);rintro e v1 ⟨rfl,gx1⟩;replace gx1:Ext w2 v1:=Ext.trans (by solve_by_elim [X0,X1,X2,X3]) gx1;have m0:=gx1.cell G0;have r0:=gx1.cell n0;have r1:=gx1.cell n1;have r2:=gx1.cell n2;have r3:=gx1.cell n3;have r4:=gx1.cell n4))|(go_at_call 45;((with_reducible refine (HN2.out _ gx1).mono ?_);rintro e v2 ⟨rfl,gx2⟩;replace gx2:Ext w2 v2:=gx1.trans gx2;have l3:=gx2.cell n3;have l4:=gx2.cell n4))|(go_at_call 35;((with_reducible refine (HNM.out _).mono ?_);rintro e v3 ⟨rfl,rfl⟩))|(go_at_call 44;((with_reducible refine (HP.out _ (by solve_by_elim [X0,X1,X2,X3])).mono ?_);rintro e w8 ⟨rfl,hx8⟩;replace hx8:Ext w2 w8:=Ext.trans (by solve_by_elim [X0,X1,X2,X3]) hx8)))
               go_ret
               exact ⟨ret_int HT.out.symm,hx1.trans (hEr.trans (hx2.trans hx8))⟩
        ·have HT:=Lib.hid (HX.out (by rw [hE,edgeE_26 hz (by omega)];decide))
         rw [hE,edgeE_26 hz (by omega)] at HT
         clear hE HS HX HP
         generalize g.edges[k]! = x at *
         generalize g.edges[k - 1]! = y at *
         have ho:x.id≤y.id:=by omega
         clear hlo
         go_upto_region 19 with (fail)
         rw [←HW2.out,←HQ2.out]
         clear HW2 HQ2 g0' g1' g2' g3'
         have p0:0 < k:=by omega
         have p1:(1:Int)≤(k:Int):=by omega
         have p2:((k:Int) - 1).toNat=k - 1:=by omega
         have p5:IntKind.i64.wrap ((k:Int) - 1)=(k:Int) - 1:=IntWalk.i64_in _ (by omega)
         have p6:((k:Int) - 1) < (g.edges.length:Int):=by omega
         have MKR6:=Lib.hid (fun V (e:Ext w2 V)=>(⟨e.cell G1,e.cell n0,e.cell hpv,e⟩:V.cell? ⟨q,1,none⟩=some (.slice (some ⟨b,o,none⟩) g.edges.length d)∧V.cell? ⟨q2,0,none⟩=some (.int .i64 x.id)∧V.cell? ⟨b,o+(k - 1)*5,none⟩=some (.int .i64 y.id)∧Ext w2 V))
         refine wp_region_held_drew (S:=(fun V=>V.cell? ⟨q,1,none⟩=some (.slice (some ⟨b,o,none⟩) g.edges.length d)∧V.cell? ⟨q2,0,none⟩=some (.int .i64 x.id)∧V.cell? ⟨b,o+(k - 1)*5,none⟩=some (.int .i64 y.id)∧Ext w2 V)) (by kernel_rfl) ?hs76 (fun hHeld=>?go76)
         case hs76=>(exact MKR6.out _ (by solve_by_elim [X0,X1,X2,X3]))
         refine KA 0 hHeld ?_;simp only [PU]
         refine KA 1 hHeld ?_;simp only [PU]
         refine KA 2 hHeld ?_;simp only [PU]
         refine KA 3 hHeld ?_;simp only [PU]
         refine KA 4 hHeld ?_;simp only [PU]
         refine KA 5 hHeld ?_;simp only [PU]
         refine KA 6 hHeld ?_;simp only [PU]
         refine KA 7 hHeld ?_;simp only [PU]
         refine KA 8 hHeld ?_;simp only [PU]
         refine KA 9 hHeld ?_;simp only [PU]
         refine KA 10 hHeld ?_;simp only [PU]
         refine KA 11 hHeld ?_;simp only [PU]
         refine KA 12 hHeld ?_;simp only [PU]
         refine KA 13 hHeld ?_;simp only [PU]
         refine wpAnyH_done (by kernel_rfl) ?_ _
         clear hHeld
         clear MKR6
         go_wp2_with fail
         go_ret
         exact ⟨ret_int HT.out.symm,(hx1.trans (hEr.trans (hx2.trans (by solve_by_elim [X0,X1,X2,X3]))))⟩
      ·have HT:=Lib.hid (chkG_edges HH.out HNZ.out (firstE_zero (fun t ht=>hgd.out t (by omega)):edgesE g=0))
       go_wp2_with fail
       go_ret
       exact ⟨ret_int HT.out.symm,hx1.trans hEr⟩
def valN:Nat→(Nat→Nat)→Nat
 | 0,_=>0
 | n+1,f=>valN n f+f n*1000 ^ n
theorem valW_exists (f:Nat→Nat):∃ v,∀ n,n=14→v=valN n f:=⟨valN 14 f,fun n h=>by rw [h]⟩
noncomputable def valW (f:Nat→Nat):Nat:=Classical.choose (valW_exists f)
theorem valW_def (f:Nat→Nat) {n:Nat} (h:n=14):valW f=valN n f:=Classical.choose_spec (valW_exists f) n h
def SmallW (f:Nat→Nat):Prop := ∀ i,f i < 1000
def updW (f:Nat→Nat) (k v:Nat):Nat→Nat:=fun i=>if i=k then v else f i
theorem updW_at (f:Nat→Nat) (k v:Nat):updW f k v k=v:=if_pos rfl
theorem updW_ne (f:Nat→Nat) {k i:Nat} (v:Nat) (h:i ≠ k):updW f k v i=f i:=if_neg h
theorem smallW_upd {f:Nat→Nat} {k v:Nat} (h:SmallW f) (hv:v < 1000):SmallW (updW f k v):=by
 intro i;unfold updW;split
 ·exact hv
 ·exact h i
theorem valN_upd_ge (f:Nat→Nat) (k v:Nat):∀ n,n≤k→valN n (updW f k v)=valN n f
 | 0,_=>rfl
 | n+1,h=>by
  unfold valN
  rw [valN_upd_ge f k v n (by omega),updW_ne f v (by omega)]
theorem valN_upd (f:Nat→Nat) (k v:Nat):∀ n,k < n→valN n (updW f k v)+f k*1000 ^ k=valN n f+v*1000 ^ k
 | 0,h=>absurd h (by omega)
 | n+1,h=>by
  unfold valN
  by_cases e:k=n
  ·subst e
   rw [valN_upd_ge f k v k (Nat.le_refl _),updW_at];omega
  ·rw [updW_ne f v (show n ≠ k from fun q=>e q.symm)]
   have:=valN_upd f k v n (by omega)
   omega
theorem valW_upd (f:Nat→Nat) (k v:Nat) (h:k < 14):valW (updW f k v)+f k*1000 ^ k=valW f+v*1000 ^ k:=by
 obtain ⟨n,hn⟩:∃ n:Nat,n=14:=⟨_,rfl⟩
 rw [valW_def _ hn,valW_def _ hn];exact valN_upd f k v n (by omega)
theorem valN_zero:∀ n,valN n (fun _=>0)=0
 | 0=>rfl
 | n+1=>by unfold valN;rw [valN_zero n];simp
theorem valN_lt {f:Nat→Nat} (h:SmallW f):∀ n,valN n f < 1000 ^ n
 | 0=>by simp [valN]
 | n+1=>by
  unfold valN
  have h1:=valN_lt h n
  have h2:=h n
  have h3:f n*1000 ^ n≤999*1000 ^ n:=Nat.mul_le_mul_right _ (by omega)
  rw [Nat.pow_succ];omega
theorem pow_big {k:Nat} (h:14≤k):1000000000000000000000000000000000000000000≤1000 ^ k :=
 Nat.le_trans (by decide) (Nat.pow_le_pow_right (show 0 < 1000 by omega) h)
structure InnerI (f:Nat→Nat) (i k c y d b T:Nat):Prop where
 small:SmallW f
 sum:valW f+1000 ^ k*(y+d*c)=T
 left:c*1000 ^ k≤b*1000 ^ i
 carry:y≤1000
theorem InnerI.room {f:Nat→Nat} {i k c y d b T:Nat} (h:InnerI f i k c y d b T) (hb:b≤1000000000000000) (hi:i≤5) (hT:T≤1000000000000000000000000000000) (hg:0 < c∨0 < y):k < 14:=by
 rcases Nat.lt_or_ge k 14 with k1|k1
 ·exact k1
 ·exfalso
  have hp:=pow_big k1
  rcases hg with hc|hy
  ·have h1:b*1000 ^ i≤1000000000000000*1000 ^ 5:=Nat.mul_le_mul hb (Nat.pow_le_pow_right (by omega) hi)
   have h2:1000 ^ k≤c*1000 ^ k:=Nat.le_mul_of_pos_left _ hc
   have h3:=h.left
   have h4:1000000000000000*1000 ^ 5=1000000000000000000000000000000:=by decide
   omega
  ·have h1:=h.sum
   have h2:1000 ^ k*1≤1000 ^ k*(y+d*c):=Nat.mul_le_mul_left _ (by omega)
   omega
theorem InnerI.step {f:Nat→Nat} {i k c y d b T:Nat} (h:InnerI f i k c y d b T) (hd:d < 1000) (hk:k < 14) :
  InnerI (updW f k ((y+f k+d*(c % 1000)) % 1000)) i (k+1) (c / 1000) ((y+f k+d*(c % 1000)) / 1000) d b T:=by
 have hs:=h.small k
 have hy:=h.carry
 have hm:d*(c % 1000)≤999*999:=Nat.mul_le_mul (by omega) (by omega)
 have hc:d*c=d*(c % 1000)+1000*(d*(c / 1000)):=by
  have:=Nat.div_add_mod c 1000
  calc d*c=d*(1000*(c / 1000)+c % 1000):=by rw [this]
   _=_:=by rw [Nat.mul_add,Nat.mul_left_comm];omega
 refine ⟨smallW_upd h.small (Nat.mod_lt _ (by omega)),?_,?_,by omega⟩
 ·have e:=h.sum
  have u:=valW_upd f k ((y+f k+d*(c % 1000)) % 1000) hk
  rw [hc] at e
  rw [Nat.pow_succ]
  generalize d*(c % 1000)=m at *
  generalize d*(c / 1000)=n at *
  generalize f k=z at *
  generalize 1000 ^ k=p at *
  have q:=Nat.div_add_mod (y+z+m) 1000
  generalize (y+z+m) / 1000=t at *
  generalize (y+z+m) % 1000=r at *
  generalize valW f=v at *
  generalize valW (updW f k r)=v' at *
  have e1:p*1000*(t+n)=p*(1000*t)+p*(1000*n):=by grind
  have e2:p*(y+(m+1000*n))=p*y+p*m+p*(1000*n):=by grind
  have e3:p*(1000*t)+p*r=p*y+p*z+p*m:=by
   have:p*(1000*t+r)=p*(y+z+m):=by rw [q]
   grind
  rw [Nat.mul_comm z p,Nat.mul_comm r p] at u
  omega
 ·have l:=h.left
  rw [Nat.pow_succ]
  have:c / 1000*(1000 ^ k*1000)≤c*1000 ^ k:=by
   rw [Nat.mul_comm (1000 ^ k),←Nat.mul_assoc]
   exact Nat.mul_le_mul_right _ (Nat.div_mul_le_self c 1000)
  omega
structure OuterI (f:Nat→Nat) (i a b a0:Nat):Prop where
 small:SmallW f
 sum:valW f+1000 ^ i*(a*b)=a0*b
 left:a*1000 ^ i≤a0
theorem OuterI.room {f:Nat→Nat} {i a b a0:Nat} (h:OuterI f i a b a0) (ha:a0≤1000000000000000) (hg:0 < a):i≤5:=by
 rcases Nat.lt_or_ge i 6 with k|k
 ·omega
 ·exfalso
  have h1:1000 ^ 6≤1000 ^ i:=Nat.pow_le_pow_right (by omega) k
  have h2:1000 ^ i≤a*1000 ^ i:=Nat.le_mul_of_pos_left _ hg
  have:=h.left
  have h4:1000 ^ 6=1000000000000000000:=by decide
  omega
theorem OuterI.start (a0 b:Nat):OuterI (fun _=>0) 0 a0 b a0:=by
 refine ⟨fun _=>by omega,?_,by simp⟩
 obtain ⟨n,hn⟩:∃ n:Nat,n=14:=⟨_,rfl⟩
 rw [valW_def _ hn,valN_zero];simp
theorem OuterI.enter {f:Nat→Nat} {i a b a0:Nat} (h:OuterI f i a b a0):InnerI f i i b 0 (a % 1000) b (valW f+1000 ^ i*(a % 1000*b)):=by
 refine ⟨h.small,by simp,Nat.le_refl _,by omega⟩
theorem OuterI.total {f:Nat→Nat} {i a b a0:Nat} (h:OuterI f i a b a0):valW f+1000 ^ i*(a % 1000*b)≤a0*b:=by
 have:=h.sum
 have h1:a % 1000*b≤a*b:=Nat.mul_le_mul_right _ (Nat.mod_le _ _)
 have h2:1000 ^ i*(a % 1000*b)≤1000 ^ i*(a*b):=Nat.mul_le_mul_left _ h1
 omega
theorem OuterI.leave {f g:Nat→Nat} {i k a b a0:Nat} (h:OuterI f i a b a0) (hI:InnerI g i k 0 0 (a % 1000) b (valW f+1000 ^ i*(a % 1000*b))):OuterI g (i+1) (a / 1000) b a0:=by
 refine ⟨hI.small,?_,?_⟩
 ·have e:=h.sum
  have e2:=hI.sum
  simp only [Nat.mul_zero,Nat.add_zero] at e2
  rw [e2,Nat.pow_succ]
  have q:=Nat.div_add_mod a 1000
  have e3:1000 ^ i*(a*b)=1000 ^ i*(a % 1000*b)+1000 ^ i*1000*(a / 1000*b):=by
   calc 1000 ^ i*(a*b)=1000 ^ i*((1000*(a / 1000)+a % 1000)*b):=by rw [q]
    _=_:=by grind
  omega
 ·have l:=h.left
  rw [Nat.pow_succ]
  have:a / 1000*(1000 ^ i*1000)≤a*1000 ^ i:=by
   rw [Nat.mul_comm (1000 ^ i),←Nat.mul_assoc]
   exact Nat.mul_le_mul_right _ (Nat.div_mul_le_self a 1000)
  omega
theorem OuterI.done {f:Nat→Nat} {i b a0:Nat} (h:OuterI f i 0 b a0):valW f=a0*b:=by
 have:=h.sum;simpa using this
structure PlusI (x y f:Nat→Nat) (k c:Nat):Prop where
 small:SmallW f
 sum:valN k f+1000 ^ k*c=valN k x+valN k y
 carry:c≤1
theorem PlusI.start (x y:Nat→Nat):PlusI x y (fun _=>0) 0 0:=⟨fun _=>by omega,rfl,by omega⟩
theorem PlusI.step {x y f:Nat→Nat} {k c:Nat} (h:PlusI x y f k c) (hx:SmallW x) (hy:SmallW y):PlusI x y (updW f k ((c+x k+y k) % 1000)) (k+1) ((c+x k+y k) / 1000):=by
 have h1:=hx k
 have h2:=hy k
 have h3:=h.carry
 refine ⟨smallW_upd h.small (Nat.mod_lt _ (by omega)),?_,by omega⟩
 unfold valN
 rw [valN_upd_ge f k _ k (Nat.le_refl _),updW_at,Nat.pow_succ]
 have e:=h.sum
 have q:=Nat.div_add_mod (c+x k+y k) 1000
 generalize (c+x k+y k) / 1000=t at *
 generalize (c+x k+y k) % 1000=r at *
 generalize 1000 ^ k=p at *
 have e3:r*p+p*1000*t=p*c+x k*p+y k*p:=by
  have:p*(1000*t+r)=p*(c+x k+y k):=by rw [q]
  grind
 omega
theorem PlusI.done {x y f:Nat→Nat} {n c:Nat} (hn:n=14) (h:PlusI x y f n c) (hs:valW x+valW y < 1000000000000000000000000000000000000000000):valW f=valW x+valW y:=by
 have e:=h.sum
 have hc:=h.carry
 have hp:=pow_big (show 14≤n by omega)
 rw [valW_def _ hn,valW_def _ hn] at hs
 rw [valW_def _ hn,valW_def _ hn,valW_def _ hn]
 rcases Nat.eq_zero_or_pos c with k|k
 ·subst k;omega
 ·obtain rfl:c=1:=by omega
  omega
structure MinusI (x y f:Nat→Nat) (k:Nat) (c:Int):Prop where
 small:SmallW f
 sum:(valN k f:Int)+1000 ^ k*c=valN k x - valN k y
 carry : -1≤c∧c≤0
theorem MinusI.start (x y:Nat→Nat):MinusI x y (fun _=>0) 0 0:=⟨fun _=>by omega,rfl,by omega⟩
theorem MinusI.low {x y f:Nat→Nat} {k:Nat} {c:Int} (h:MinusI x y f k c) (hx:SmallW x) (hy:SmallW y) (hn:c+x k - y k < 0):MinusI x y (updW f k (c+x k - y k+1000).toNat) (k+1) (-1):=by
 have h1:=hx k
 have h2:=hy k
 have h3:=h.carry
 refine ⟨smallW_upd h.small (by omega),?_,by omega⟩
 unfold valN
 rw [valN_upd_ge f k _ k (Nat.le_refl _),updW_at,Int.pow_succ]
 have e:=h.sum
 have q:(((c+x k - y k+1000).toNat:Nat):Int)=c+x k - y k+1000:=by omega
 simp only [Int.natCast_add,Int.natCast_mul,Int.natCast_pow,q]
 generalize ((1000:Nat):Int) ^ k=p at *
 grind
theorem MinusI.high {x y f:Nat→Nat} {k:Nat} {c:Int} (h:MinusI x y f k c) (hx:SmallW x) (hy:SmallW y) (hn:¬c+x k - y k < 0):MinusI x y (updW f k (c+x k - y k).toNat) (k+1) 0:=by
 have h1:=hx k
 have h2:=hy k
 have h3:=h.carry
 refine ⟨smallW_upd h.small (by omega),?_,by omega⟩
 unfold valN
 rw [valN_upd_ge f k _ k (Nat.le_refl _),updW_at,Int.pow_succ]
 have e:=h.sum
 have q:(((c+x k - y k).toNat:Nat):Int)=c+x k - y k:=by omega
 simp only [Int.natCast_add,Int.natCast_mul,Int.natCast_pow,q]
 generalize ((1000:Nat):Int) ^ k=p at *
 grind
theorem MinusI.done {x y f:Nat→Nat} {n:Nat} {c:Int} (hn:n=14) (h:MinusI x y f n c) (hs:valW y≤valW x):valW f=valW x - valW y:=by
 have e:=h.sum
 have hc:=h.carry
 have hl:=valN_lt h.small n
 rw [valW_def _ hn,valW_def _ hn] at hs
 rw [valW_def _ hn,valW_def _ hn,valW_def _ hn]
 rcases (show c=0∨c = -1 by omega) with k|k
 ·subst k;omega
 ·subst k
  have:((1000:Int) ^ n)=((1000 ^ n:Nat):Int):=by simp
  rw [this] at e
  omega
def hiW (f:Nat→Nat) (k:Nat):Nat:=if h:k < 14 then f k+1000*hiW f (k+1) else 0
termination_by 14 - k
theorem hiW_end (f:Nat→Nat):hiW f 14=0:=by rw [hiW,dif_neg (by omega)]
theorem hiW_stop (f:Nat→Nat) {k:Nat} (h:14≤k):hiW f k=0:=by rw [hiW,dif_neg (by omega)]
theorem hiW_step (f:Nat→Nat) {k:Nat} (h:k < 14):hiW f k=f k+1000*hiW f (k+1):=by rw [hiW,dif_pos h]
theorem val_hi (f:Nat→Nat):∀ n k,n+k=14→valN k f+1000 ^ k*hiW f k=valW f
 | 0,k,h=>by rw [valW_def f (show k=14 by omega),hiW_stop f (by omega)];simp
 | n+1,k,h=>by
  have ih:=val_hi f n (k+1) (by omega)
  rw [hiW_step f (by omega)]
  unfold valN at ih
  rw [Nat.pow_succ] at ih
  rw [←ih];grind
theorem hiW_zero (f:Nat→Nat):hiW f 0=valW f:=by
 have:=val_hi f 14 0 rfl
 unfold valN at this
 simpa using this
theorem hiW_upd (f:Nat→Nat) (k v:Nat):∀ n j,n+j=14→k < j→hiW (updW f k v) j=hiW f j
 | 0,j,h,_=>by rw [hiW_stop _ (by omega),hiW_stop _ (by omega)]
 | n+1,j,h,hk=>by
  rw [hiW_step _ (show j < 14 by omega),hiW_step _ (show j < 14 by omega),hiW_upd f k v n (j+1) (by omega) (by omega),updW_ne f v (by omega)]
structure PartI (x f:Nat→Nat) (d k r:Nat):Prop where
 small:SmallW f
 sum:hiW x k=d*hiW f k+r
 rest:r < d
theorem PartI.start (x:Nat→Nat) {d:Nat} (h:0 < d):PartI x (fun _=>0) d 14 0:=⟨fun _=>by omega,by rw [hiW_end,hiW_end];simp,h⟩
theorem PartI.step {x f:Nat→Nat} {d k r:Nat} (h:PartI x f d (k+1) r) (hx:SmallW x) (hk:k < 14):PartI x (updW f k ((r*1000+x k) / d)) d k ((r*1000+x k) % d):=by
 have hd:0 < d:=by have:=h.rest;omega
 have h1:=hx k
 have h2:=h.rest
 refine ⟨smallW_upd h.small ?_,?_,Nat.mod_lt _ hd⟩
 ·rw [Nat.div_lt_iff_lt_mul hd]
  have:r*1000+1000≤d*1000:=by omega
  omega
 ·rw [hiW_step x hk,hiW_step _ hk,updW_at,hiW_upd f k _ (14 - (k+1)) (k+1) (by omega) (by omega),h.sum]
  have q:=Nat.div_add_mod (r*1000+x k) d
  generalize (r*1000+x k) / d=t at *
  generalize (r*1000+x k) % d=s at *
  grind
theorem PartI.done {x f:Nat→Nat} {d r:Nat} (h:PartI x f d 0 r):valW f=valW x / d∧r=valW x % d:=by
 have e:=h.sum
 rw [hiW_zero,hiW_zero] at e
 have hr:=h.rest
 constructor
 ·rw [e,Nat.mul_comm,Nat.add_comm,Nat.add_mul_div_right _ _ (by omega),Nat.div_eq_of_lt hr];omega
 ·rw [e,Nat.mul_comm,Nat.add_comm,Nat.add_mul_mod_self_right,Nat.mod_eq_of_lt hr]
def SameFrom (x y:Nat→Nat) (k:Nat):Prop:=hiW x k=hiW y k
theorem order_lt {x y:Nat→Nat} {k:Nat} (hx:SmallW x) (hk:k < 14) (h:SameFrom x y (k+1)) (hl:x k < y k):valW x < valW y:=by
 have e1:=val_hi x (14 - (k+1)) (k+1) (by omega)
 have e2:=val_hi y (14 - (k+1)) (k+1) (by omega)
 unfold SameFrom at h
 rw [h] at e1
 have b:=valN_lt hx k
 unfold valN at e1 e2
 have:x k*1000 ^ k+1000 ^ k≤y k*1000 ^ k:=by
  have:=Nat.mul_le_mul_right (1000 ^ k) (show x k+1≤y k by omega)
  rw [Nat.add_mul,Nat.one_mul] at this;exact this
 omega
theorem SameFrom.step {x y:Nat→Nat} {k:Nat} (hk:k < 14) (h:SameFrom x y (k+1)) (he:x k=y k):SameFrom x y k:=by
 unfold SameFrom at *;rw [hiW_step x hk,hiW_step y hk,h,he]
theorem SameFrom.symm {x y:Nat→Nat} {k:Nat} (h:SameFrom x y k):SameFrom y x k:=Eq.symm h
theorem SameFrom.start (x y:Nat→Nat):SameFrom x y 14:=by unfold SameFrom;rw [hiW_end,hiW_end]
theorem SameFrom.done {x y:Nat→Nat} (h:SameFrom x y 0):valW x=valW y:=by unfold SameFrom at h;rw [hiW_zero,hiW_zero] at h;exact h
def RowW (V:World) (g:Nat) (f:Nat→Nat):Prop:=g < V.heap.size∧∀ i,i < 14→V.cell? ⟨g,i,none⟩=some (.int .i64 ((f i:Nat):Int))∧V.frozen? ⟨g,i,none⟩=false
theorem RowW.step {V V':World} {g:Nat} {f:Nat→Nat} (h:RowW V g f) (hb:Below V.heap.size V V'):RowW V' g f:=by
 obtain ⟨h0,h1⟩:=h
 obtain ⟨hc,hf⟩:=bcell hb
 have hs:=hb.size
 exact ⟨by omega,fun i hi=>⟨(hc _ _ h0).trans (h1 i hi).1,(hf _ _ h0).trans (h1 i hi).2⟩⟩
theorem RowW.set {V:World} {g:Nat} {f:Nat→Nat} (h:RowW V g f) {k:Nat} (hk:k < 14) (v:Nat):RowW (V.setCell ⟨g,k,none⟩ (.int .i64 (v:Int))) g (updW f k v):=by
 obtain ⟨h0,h1⟩:=h
 refine ⟨by simpa using h0,fun i hi=>?_⟩
 obtain ⟨a,b⟩:=h1 i hi
 obtain ⟨a',b'⟩:=h1 k hk
 by_cases e:i=k
 ·subst e
  rw [updW_at]
  exact ⟨by go_simp,by go_simp⟩
 ·rw [updW_ne f v e]
  have e2:¬k=i:=fun q=>e q.symm
  exact ⟨by go_simp,by go_simp⟩
set_option maxRecDepth 100000 in
theorem run_make14 (w:World):(Instr.makeSlice 156 (.int .i64 14) (.int .i64 14)).run Tryz.prog w = .ok (.slice (some ⟨w.heap.size,0,none⟩) 14 14) (w.alloc (.cells #[.int .i64 0, .int .i64 0, .int .i64 0, .int .i64 0, .int .i64 0, .int .i64 0, .int .i64 0, .int .i64 0, .int .i64 0, .int .i64 0, .int .i64 0, .int .i64 0, .int .i64 0, .int .i64 0] 3)):=by kernel_rfl
theorem RowW.new (w:World) (t:TypeId):RowW (w.alloc (.cells #[.int .i64 0, .int .i64 0, .int .i64 0, .int .i64 0, .int .i64 0, .int .i64 0, .int .i64 0, .int .i64 0, .int .i64 0, .int .i64 0, .int .i64 0, .int .i64 0, .int .i64 0, .int .i64 0] t)) w.heap.size (fun _=>0):=by
 refine ⟨by simp,fun i hi=>?_⟩
 match i,hi with
 | 0,_|1,_|2,_|3,_|4,_|5,_|6,_|7,_|8,_|9,_|10,_|11,_|12,_|13,_=>exact ⟨by go_simp,by go_simp⟩
set_option maxRecDepth 100000 in
set_option maxHeartbeats 1600000 in
theorem r3_times (a b:Nat) (w:World) (ha:a≤1000000000000000) (hb:b≤1000000000000000) :
  Calls Tryz.prog 152 #[.int .i64 a, .int .i64 b] w fun e w' => ∃ (g:Nat) (f:Nat→Nat),e = .returned (.slice (some ⟨g,0,none⟩) 14 14)∧w.heap.size≤g∧RowW w' g f∧SmallW f∧valW f=a*b∧Below w.heap.size w w':=by
 go_enter Tryz.func152,Tryz.ntmps152
 have hmk:=run_make14
 have hab:a*b≤1000000000000000000000000000000:=Nat.le_trans (Nat.mul_le_mul ha hb) (by decide)
 have HAB:=Lib.hid hab
 have HA:=Lib.hid ha
 have HB:=Lib.hid hb
 go_wp2_with fail
 have hrow:=RowW.new w 3
 have hbe:=(Below.refl w.heap.size w).alloc (Nat.le_refl _) (.cells #[.int .i64 0, .int .i64 0, .int .i64 0, .int .i64 0, .int .i64 0, .int .i64 0, .int .i64 0, .int .i64 0, .int .i64 0, .int .i64 0, .int .i64 0, .int .i64 0, .int .i64 0, .int .i64 0] 3)
 refine forget_world (fun W=>RowW W w.heap.size (fun _=>0)∧Below w.heap.size w W) ⟨hrow,hbe⟩ ?_
 clear hrow hbe hmk hab ha hb
 rintro W ⟨hrow,hbe⟩
 go_loopw [0,6] (fun u v wr => ∃ (a' i:Nat) (f:Nat→Nat),u = .int .i64 a'∧v = .int .i64 i∧Hid (OuterI f i a' b a)∧a'≤1000000000000000∧i≤14∧RowW wr w.heap.size f∧Below w.heap.size w wr) (fun u _ _=>(intOf u).toNat)
 case atStart=>exact ⟨a,0,_,rfl,rfl,Lib.hid (OuterI.start a b),HA.out,by omega,hrow,hbe⟩
 case round =>
  obtain ⟨a',i,f,rfl,rfl,hO,ha',hi14,hrow',hbe'⟩:=hrel
  clear hrow hbe
  by_cases h0:0 < a'
  ·have hi:i≤5:=hO.out.room HA.out h0
   have h0':decide (0 < (a':Int))=true:=decide_eq_true (by omega)
   have hE:=Lib.hid hO.out.enter
   have hTT:Hid (valW f+1000 ^ i*(a' % 1000*b)≤1000000000000000000000000000000):=Lib.hid (Nat.le_trans hO.out.total HAB.out)
   have HOO:Hid (∀ (g:Nat→Nat) (k:Nat),InnerI g i k 0 0 (a' % 1000) b (valW f+1000 ^ i*(a' % 1000*b))→OuterI g (i+1) (a' / 1000) b a):=fun g k hI=>hO.out.leave hI
   generalize valW f+1000 ^ i*(a' % 1000*b)=T at *
   clear hO
   go_wp2_with fail
   obtain ⟨wo,rfl⟩:∃ wo:World,wo=wr:=⟨_,rfl⟩
   have HR0:=Lib.hid hrow'
   have HBE0:=Lib.hid hbe'
   clear hrow' hbe'
   go_loopw [8,9,10] (fun u v x wx => ∃ (c y k:Nat) (g:Nat→Nat),u = .int .i64 c∧v = .int .i64 y∧x = .int .i64 k∧Hid (InnerI g i k c y (a' % 1000) b T)∧c≤1000000000000000∧y≤1000∧k≤14∧RowW wx w.heap.size g∧Below w.heap.size w wx) (fun _ _ x _=>14 - (intOf x).toNat)
   case atStart=>exact ⟨b,0,i,f,rfl,rfl,rfl,hE,HB.out,by omega,by omega,HR0.out,HBE0.out⟩
   case round =>
    obtain ⟨c,y,k,g,rfl,rfl,rfl,hI,hc,hy,hk14,hrg,hbg⟩:=hrel
    by_cases hgo:0 < c∨0 < y
    ·have hk:k < 14:=hI.out.room HB.out hi hTT.out hgo
     obtain ⟨z,hz⟩:∃ z,Hid (g k=z):=⟨_,rfl⟩
     have hz1:z≤999:=by have h1:=hI.out.small k;have h2:=hz.out;omega
     have hcell:_∧_:=hrg.2 k hk
     rw [hz.out] at hcell
     obtain ⟨hcell,hfro⟩:=hcell
     have hgs:=hrg.1
     have hS:=Lib.hid (hI.out.step (Nat.mod_lt _ (by omega)) hk)
     rw [hz.out] at hS
     have hm:a' % 1000*(c % 1000)≤999*999:=Nat.mul_le_mul (by omega) (by omega)
     obtain ⟨m,hmm⟩:∃ m:Nat,Hid (a' % 1000*(c % 1000)=m):=⟨_,rfl⟩
     rw [hmm.out] at hS hm
     have hm1:(a':Int) % 1000*((c:Int) % 1000)=(m:Int):=by have:=hmm.out;rw [←this];simp
     have J1:IntKind.i64.wrap ((a':Int) % 1000*((c:Int) % 1000))=(m:Int):=by rw [hm1];exact IntWalk.i64_in _ ⟨by omega,by omega⟩
     have hrs:=hrg.set hk ((y+z+m) % 1000)
     have e1:(((y+z+m) % 1000:Nat):Int)=((y:Int)+z+m) % 1000:=by omega
     rw [e1] at hrs
     have hbs:=hbg.setCell (p:=⟨w.heap.size,k,none⟩) (Nat.le_refl _) (.int .i64 (((y:Int)+z+m) % 1000))
     have HRS:=Lib.hid hrs
     have HBS:=Lib.hid hbs
     clear hrs hbs hrg hbg e1 hm1
     rcases Nat.eq_zero_or_pos c with hc0|hc0
     ·subst hc0
      obtain rfl:m=0:=by have h:=hmm.out;simpa using h.symm
      have HRS2:Hid (RowW (wr.setCell ⟨w.heap.size,k,none⟩ (.int .i64 (((y:Int)+z) % 1000))) w.heap.size (updW g k ((y+z) % 1000))):=Lib.hid (by have h:=HRS.out;simpa using h)
      have HBS2:Hid (Below w.heap.size w (wr.setCell ⟨w.heap.size,k,none⟩ (.int .i64 (((y:Int)+z) % 1000)))):=Lib.hid (by have h:=HBS.out;simpa using h)
      have hS2:Hid (InnerI (updW g k ((y+z) % 1000)) i (k+1) 0 ((y+z) / 1000) (a' % 1000) b T):=Lib.hid (by have h:=hS.out;simpa using h)
      have d1:decide (0 < ((0:Nat):Int))=false:=by decide
      have d2:decide (0 < (y:Int))=true:=decide_eq_true (by omega)
      go_wp2_with fail
      go_roundw
      case rel=>exact ⟨0,(y+z) / 1000,k+1,_,by go_num,by go_num,by go_num,hS2,by omega,by omega,by omega,HRS2.out,HBS2.out⟩
      case measure=>simp [intOf];omega
     ·have d1:decide (0 < (c:Int))=true:=decide_eq_true (by omega)
      go_wp2_with fail
      go_roundw
      case rel=>exact ⟨c / 1000,(y+z+m) / 1000,k+1,_,by go_num,by go_num,by go_num,hS,by omega,by omega,by omega,HRS.out,HBS.out⟩
      case measure=>simp [intOf];omega
    ·obtain rfl:c=0:=by omega
     obtain rfl:y=0:=by omega
     have hO2:=Lib.hid (HOO.out g k hI.out)
     go_wp2_with fail
     go_roundw
     case rel=>exact ⟨a' / 1000,i+1,g,by go_num,by go_num,hO2,by omega,by omega,hrg,hbg⟩
     case measure=>simp [intOf];omega
  ·obtain rfl:a'=0:=by omega
   go_wp2_with fail
   go_ret
   exact ⟨_,f,rfl,Nat.le_refl _,hrow',hO.out.small,hO.out.done,hbe'⟩
end Go.Proofs.YtfhekbacigoblaaGreatDoor
