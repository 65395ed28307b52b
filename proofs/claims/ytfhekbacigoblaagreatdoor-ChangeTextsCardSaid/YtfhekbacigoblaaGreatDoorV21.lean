import Derived.Test.YtfhekbacigoblaaGreatDoorV20
import Derived.Test.YtfhekbacigoblaaGreatDoorV04
import Derived.Lib.LaidTab
import Derived.Stop.LaidErr
namespace Go.Proofs.YtfhekbacigoblaaGreatDoor
set_option maxRecDepth 100000
set_option maxHeartbeats 6400000
open Go.RowKit
structure LtG (g:za):Prop where
 nl:g.nodes.length≤40
 el:g.edges.length≤60
 nodes:∀ n ∈ g.nodes,n.labels.length≤2000∧zdx n.props≤2000
 edges:∀ e ∈ g.edges,zdx e.props≤2000
def z0h (g:za) (w:World) (e:Ending) (w':World):Prop := ∃ b,e= .returned (.bool b)∧(b=true→LtG g)∧Ext w w'
theorem zlc {α:Type} {l:List α} {p:α→Prop} {k:Nat} (h:k < l.length) (h1:∀ a ∈ l.take k,p a) (h2:p l[k]):∀ a ∈ l.take (k+1),p a:=by
 rw [List.take_succ_eq_append_getElem h]
 intro a ha
 rcases List.mem_append.1 ha with h3|h3
 ·exact h1 a h3
 ·rw [List.mem_singleton.1 h3];exact h2
theorem zf7 {α:Type} {l:List α} {p:α→Prop} {k:Nat} (h:¬k < l.length) (h1:∀ a ∈ l.take k,p a):∀ a ∈ l,p a:=by
 rwa [List.take_of_length_le Qk] at h1
theorem zwq (g:za) (ok:Nat→Prop) (A B:Option Addr) (c d:Nat) (w:World) (hg:zp w ok A B g) (hs:SzA g) :
  Calls Tryz.prog 28 #[.agg #[.slice A g.nodes.length c, .slice B g.edges.length d, .int .i64 g.nn, .int .i64 g.ne], .int .i64 40, .int .i64 60] w (z0h g w):=by
 obtain ⟨q,w1,hq,hw1,HB1,hx⟩:=zb9 w (.slice A g.nodes.length c) (.slice B g.edges.length d) (.int .i64 g.nn) (.int .i64 g.ne) 25
 have g0:w1.cell? ⟨q,0,none⟩=some (.slice A g.nodes.length c):=(HB1.cell 0).trans rfl
 have g1:w1.cell? ⟨q,1,none⟩=some (.slice B g.edges.length d):=(HB1.cell 1).trans rfl
 have HW:=Lib.hid hw1
 have HQ:=Lib.hid hq
 have HX:=Lib.hid hx
 have HN:=Lib.hid hg.nodes
 have HE:=Lib.hid hg.edges
 have HS:=Lib.hid hs
 have hln:=hg.nodes.len
 have hle:=hg.edges.len
 clear hw1 hq HB1 hx hg hs
 go_enter Tryz.func28,Tryz.ntmps28
 go_upto_region 1 with (fail)
 rw [←HW.out,←HQ.out]
 by_cases h40:g.nodes.length≤40
 case neg =>
  have p1:(40:Int) < (g.nodes.length:Int):=by omega
  go_wp2_with fail
  go_ret
  exact ⟨false,rfl,(fun h=>by cases h),HX.out.trans Qg⟩
 by_cases h60:g.edges.length≤60
 case neg =>
  have p1:¬ (40:Int) < (g.nodes.length:Int):=by omega
  have p2:(60:Int) < (g.edges.length:Int):=by omega
  go_wp2_with fail
  go_ret
  exact ⟨false,rfl,(fun h=>by cases h),HX.out.trans Qg⟩
 have p1:¬ (40:Int) < (g.nodes.length:Int):=by omega
 have p2:¬ (60:Int) < (g.edges.length:Int):=by omega
 go_wp2_with fail
 clear p1 p2
 go_loopw [7,8] (fun u x W => ∃ (r:Int) (k:Nat),u= .int .i64 r∧x= .int .i64 k∧k≤g.nodes.length∧r≤2000 ∧ -1000000000000000≤r∧Hid (0≤r→(∀ n ∈ g.nodes.take k,n.labels.length≤2000∧zdx n.props≤2000))∧Ext w1 W) (fun _ x _=>g.nodes.length - (intOf x).toNat)
 case atStart=>exact ⟨2000,0,rfl,rfl,Nat.zero_le _,Int.le_refl _,by omega,Lib.hid (fun _ n hn=>by rw [List.take_zero] at hn;cases hn),Ext.refl _⟩
 case round =>
  obtain ⟨r,k,rfl,rfl,hk,hr1,hr2,hall,hE⟩:=hrel
  have d0:=hE.cell g0
  have d1:=hE.cell g1
  by_cases hgo:k < g.nodes.length∧r ≥ 0
  ·obtain ⟨hlt,hr⟩:=hgo
   obtain ⟨b,o,rfl,hc⟩:=HN.out.2 Qk
   obtain ⟨-,n0,L,lc,P,pc,n1,-,hS,n2,-,hP⟩:=hc k hlt
   have hWr:Ext w wr:=HX.out.trans hE
   replace n0:=hWr.cell n0
   replace n1:=hWr.cell n1
   replace n2:=hWr.cell n2
   obtain ⟨hsl,hsp⟩:=HS.out.nodes _ (List.getElem_mem hlt)
   obtain ⟨y,w6,hy,hw6,⟨z0,z1,z2⟩,hx6⟩:=zrg wr g.nodes[k].id (.slice L g.nodes[k].labels.length lc) (.slice P g.nodes[k].props.length pc) 57
   have hll:=hS.len
   have HWG:=Lib.hid (fun W (e:Ext w6 W)=>zkv g.nodes[k].props ok P pc (r - g.nodes[k].labels.length) W (hP.ext ((hWr.trans hx6).trans e)) hsp Qk Qk)
   have HSL:=Lib.hid hsl
   have HST:=Lib.hid (fun (h1:g.nodes[k].labels.length≤2000) (h2:zdx g.nodes[k].props≤2000) (h3:(∀ n ∈ g.nodes.take k,n.labels.length≤2000∧zdx n.props≤2000))=>zlc (p:=fun n:zb=>n.labels.length≤2000∧zdx n.props≤2000) hlt h3 ⟨h1,h2⟩)
   have HLS:=Lib.hid hS
   have hE6:Ext w1 w6:=hE.trans hx6
   have hW6:Ext w w6:=hWr.trans hx6
   clear hc hP hsp hsl hS hx6
   generalize g.nodes[k].labels=Lb at *
   generalize g.nodes[k].props=Pp at *
   generalize g.nodes[k].id=xi at *
   have p1:(0:Int)≤(k:Int):=by omega
   have p2:(k:Int) < (g.nodes.length:Int):=by omega
   have hd:decide (r ≥ 0)=true:=decide_eq_true hr
   go_upto_region 8 with (fail)
   rw [←hw6,←hy]
   clear hw6 hy n0 n1 n2
   have hz2:wrap64 (r - (Lb.length:Int))=r - (Lb.length:Int):=by unfold wrap64;omega
   go_wp2_with ((go_at_call 63;((with_reducible refine (HWG.out _ Qg).mono ?_);rintro e w7 ⟨r7,rfl,hr7,hl7,hm7,hx7⟩)))
   have hE7:Ext w6 w7:=Ext.trans Qg hx7
   have HM7:=Lib.hid hm7
   clear hz2 hd p1 p2 HWG hx7 hm7
   go_loopw [7,10] (fun u x W => ∃ (r:Int) (j:Nat),u= .int .i64 r∧x= .int .i64 j∧j≤Lb.length∧r≤r7 ∧ -1000000000000000≤r∧Ext w6 W) (fun _ x _=>Lb.length - (intOf x).toNat)
   case atStart=>exact ⟨r7,0,rfl,rfl,Nat.zero_le _,Int.le_refl _,by omega,hE7⟩
   case round =>
    obtain ⟨s,j,rfl,rfl,hj,hs1,hs2,hF⟩:=hrel
    have c1:=hF.cell z1
    by_cases hgo:j < Lb.length∧s ≥ 0
    ·obtain ⟨hjl,hs0⟩:=hgo
     obtain ⟨bl,ol,rfl,hcl⟩:=zh4 HLS.out hjl
     replace hcl:=(hW6.trans hF).cell hcl
     obtain ⟨hqq,hq1⟩:=znc (HSL.out _ (List.getElem_mem hjl))
     generalize Lb[j].size / 50=z at *
     generalize Lb[j]=sl at *
     have p1:(0:Int)≤(j:Int):=by omega
     have p2:(j:Int) < (Lb.length:Int):=by omega
     have hd:decide (s ≥ 0)=true:=decide_eq_true hs0
     go_wp2_with fail
     go_roundw
     case rel=>exact ⟨s - z,j+1,by go_num,by go_num,by omega,by omega,by omega,hF⟩
     case measure=>simp [intOf];omega
    ·have hnot:¬ ((j:Int) < (Lb.length:Int)∧s ≥ 0):=fun h=>hgo ⟨by omega,h.2⟩
     by_cases hjl:(j:Int) < (Lb.length:Int)
     ·have hd:decide (s ≥ 0)=false:=decide_eq_false (fun h=>hnot ⟨hjl,h⟩)
      go_wp2_with fail
      go_roundw
      case rel=>exact ⟨s,k+1,rfl,by go_num,by omega,by omega,by omega,Lib.hid (fun h=>by have h1:=HM7.out Qk;exact HST.out Qk Qk (hall.out hr)),hE6.trans hF⟩
      case measure=>simp [intOf];omega
     ·go_wp2_with fail
      go_roundw
      case rel=>exact ⟨s,k+1,rfl,by go_num,by omega,by omega,by omega,Lib.hid (fun h=>by have h1:=HM7.out Qk;exact HST.out Qk Qk (hall.out hr)),hE6.trans hF⟩
      case measure=>simp [intOf];omega
  ·by_cases hlt:(k:Int) < (g.nodes.length:Int)
   ·have hd:decide (r ≥ 0)=false:=decide_eq_false (fun h2=>hgo ⟨by omega,h2⟩)
    go_wp2_with fail
    have hlate:¬0≤r:=fun h2=>hgo ⟨by omega,h2⟩
    have HALL:Hid (0≤r→(∀ n ∈ g.nodes,n.labels.length≤2000∧zdx n.props≤2000)):=Lib.hid (fun h=>absurd h hlate)
    clear hd hlt hgo d0 d1 hlate
    go_loopw [7,11] (fun u x W => ∃ (r:Int) (k:Nat),u= .int .i64 r∧x= .int .i64 k∧k≤g.edges.length∧r≤2000 ∧ -1000000000000000≤r∧Hid (0≤r→(∀ n ∈ g.nodes,n.labels.length≤2000∧zdx n.props≤2000)∧(∀ n ∈ g.edges.take k,zdx n.props≤2000))∧Ext w1 W) (fun _ x _=>g.edges.length - (intOf x).toNat)
    case atStart=>exact ⟨r,0,rfl,rfl,Nat.zero_le _,hr1,hr2,Lib.hid (fun h=>⟨HALL.out h,fun n hn=>by rw [List.take_zero] at hn;cases hn⟩),hE⟩
    case round =>
     obtain ⟨r,k,rfl,rfl,hk,hr1,hr2,hall,hE⟩:=hrel
     have d1:=hE.cell g1
     by_cases hgo:k < g.edges.length∧r ≥ 0
     ·obtain ⟨hlt,hr⟩:=hgo
      obtain ⟨b,o,rfl,hc⟩:=HE.out.2 Qk
      obtain ⟨-,-,-,-,n3,P,pc,n4,-,hP⟩:=hc k hlt
      have hWr:Ext w wr:=HX.out.trans hE
      replace n3:=hWr.cell n3
      replace n4:=hWr.cell n4
      obtain ⟨hst,hsp⟩:=HS.out.edges _ (List.getElem_mem hlt)
      obtain ⟨hqq,hq1⟩:=znc hst
      have HST:=Lib.hid (fun (h2:zdx g.edges[k].props≤2000) (h3:(∀ n ∈ g.edges.take k,zdx n.props≤2000))=>zlc (p:=fun n:zf=>zdx n.props≤2000) hlt h3 h2)
      have HWG:=Lib.hid (fun W (e:Ext wr W)=>zkv g.edges[k].props ok P pc (r - (g.edges[k].typ.size / 50:Nat)) W (hP.ext (hWr.trans e)) hsp Qk Qk)
      clear hc hP hsp hst
      generalize g.edges[k].props=Pp at *
      generalize g.edges[k].typ.size / 50=z at *
      generalize g.edges[k].typ=ty at *
      have hz1:IntKind.i64.wrap (z:Int)=(z:Int):=IntWalk.i64_in _ Qk
      have hz2:IntKind.i64.wrap (r - (z:Int))=r - (z:Int):=IntWalk.i64_in _ Qk
      have p1:(0:Int)≤(k:Int):=by omega
      have p2:(k:Int) < (g.edges.length:Int):=by omega
      have hd:decide (r ≥ 0)=true:=decide_eq_true hr
      go_upto_region 16 with (fail)
      have MKR1:=Lib.hid (fun V (e:Ext wr V)=>(⟨e.cell d1,e.cell n3,e.cell n4,e⟩:V.cell? ⟨q,1,none⟩=some (.slice (some ⟨b,o,none⟩) g.edges.length d)∧V.cell? ⟨b,o+k*5+3,none⟩=some (.string ty)∧V.cell? ⟨b,o+k*5+4,none⟩=some (.slice P Pp.length pc)∧Ext wr V))
      refine wp_region_held_drew (S:=(fun V=>V.cell? ⟨q,1,none⟩=some (.slice (some ⟨b,o,none⟩) g.edges.length d)∧V.cell? ⟨b,o+k*5+3,none⟩=some (.string ty)∧V.cell? ⟨b,o+k*5+4,none⟩=some (.slice P Pp.length pc)∧Ext wr V)) (by kernel_rfl) ?hs1 (fun hHeld=>?go1)
      case hs1=>(exact MKR1.out _ Qg)
      refine KA 0 hHeld ?_;simp only [PU]
      refine KA 1 hHeld ?_;simp only [PU]
      refine KA 2 hHeld ?_;simp only [PU]
      refine KA 3 hHeld ?_;simp only [PU]
      refine KA 4 hHeld ?_;simp only [PU]
      refine KA 5 hHeld ?_;simp only [PU]
      refine KA 6 hHeld ?_;simp only [PU]
      refine KA 7 hHeld ?_;simp only [PU]
      refine KA 8 hHeld ?_;simp only [PU]
      refine KA 9 hHeld ?_;simp only [PU]
      refine KA 10 hHeld ?_;simp only [PU]
      refine KA 11 hHeld ?_;simp only [PU]
      refine KA 12 hHeld ?_;simp only [PU]
      refine KA 13 hHeld ?_;simp only [PU]
      refine KA 14 hHeld ?_;simp only [PU]
      refine KA 15 hHeld ?_;simp only [PU]
      refine wpAnyH_ready (rs:=[16]) (by kernel_rfl) (by simp) ?_
      refine AllReadyH.cons (o:=⟨_,_,_,_,_,_⟩) rfl (fun K hK=>?step18x0) ?more18x0
      case more18x0=>exact AllReadyH.nil
      go_simp
      ((go_at_call 63;((with_reducible refine (HWG.out _ Qg).mono ?_);rintro e w7 ⟨r7,rfl,hr7,hl7,hm7,hx7⟩;have hE7:Ext wr w7:=Ext.trans Qg hx7)))
      refine hK.out _ _ ?hS18x0 (fun H18=>?_)
      case hS18x0=>first|(exact MKR1.out _ Qg)|((try dsimp only);(exact MKR1.out _ Qg))
      clear hK K
      clear hHeld
      (try simp only [PU])
      refine KA 17 H18 ?_;simp only [PU]
      refine wpAnyH_done (by kernel_rfl) ?_ _
      clear H18
      clear MKR1
      go_wp2_with fail
      go_roundw
      case rel=>exact ⟨r7,k+1,rfl,by go_num,by omega,by omega,hl7,Lib.hid (fun h=>by have h1:=hm7 h;have h2:=hall.out hr;exact ⟨h2.1,HST.out Qk h2.2⟩),hE.trans hE7⟩
      case measure=>simp [intOf];omega
     ·by_cases hlt:(k:Int) < (g.edges.length:Int)
      ·have hd:decide (r ≥ 0)=false:=decide_eq_false (fun h2=>hgo ⟨by omega,h2⟩)
       go_wp2_with fail
       go_ret
       exact ⟨_,rfl,(fun h=>by first|(cases h;done)|exact ⟨h40,h60,(hall.out Qk).1,zf7 Qk (hall.out Qk).2⟩),HX.out.trans (hE.trans Qg)⟩
      ·by_cases hr:r ≥ 0
       ·have hd:decide (r ≥ 0)=true:=decide_eq_true hr
        go_wp2_with fail
        go_ret
        exact ⟨_,rfl,(fun h=>by first|(cases h;done)|exact ⟨h40,h60,(hall.out Qk).1,zf7 Qk (hall.out Qk).2⟩),HX.out.trans (hE.trans Qg)⟩
       ·have hd:decide (r ≥ 0)=false:=decide_eq_false hr
        go_wp2_with fail
        go_ret
        exact ⟨_,rfl,(fun h=>by first|(cases h;done)|exact ⟨h40,h60,(hall.out Qk).1,zf7 Qk (hall.out Qk).2⟩),HX.out.trans (hE.trans Qg)⟩
   ·go_wp2_with fail
    have HALL:Hid (0≤r→(∀ n ∈ g.nodes,n.labels.length≤2000∧zdx n.props≤2000)):=Lib.hid (fun h=>zf7 Qk (hall.out h))
    clear hlt hgo d0 d1
    go_loopw [7,11] (fun u x W => ∃ (r:Int) (k:Nat),u= .int .i64 r∧x= .int .i64 k∧k≤g.edges.length∧r≤2000 ∧ -1000000000000000≤r∧Hid (0≤r→(∀ n ∈ g.nodes,n.labels.length≤2000∧zdx n.props≤2000)∧(∀ n ∈ g.edges.take k,zdx n.props≤2000))∧Ext w1 W) (fun _ x _=>g.edges.length - (intOf x).toNat)
    case atStart=>exact ⟨r,0,rfl,rfl,Nat.zero_le _,hr1,hr2,Lib.hid (fun h=>⟨HALL.out h,fun n hn=>by rw [List.take_zero] at hn;cases hn⟩),hE⟩
    case round =>
     obtain ⟨r,k,rfl,rfl,hk,hr1,hr2,hall,hE⟩:=hrel
     have d1:=hE.cell g1
     by_cases hgo:k < g.edges.length∧r ≥ 0
     ·obtain ⟨hlt,hr⟩:=hgo
      obtain ⟨b,o,rfl,hc⟩:=HE.out.2 Qk
      obtain ⟨-,-,-,-,n3,P,pc,n4,-,hP⟩:=hc k hlt
      have hWr:Ext w wr:=HX.out.trans hE
      replace n3:=hWr.cell n3
      replace n4:=hWr.cell n4
      obtain ⟨hst,hsp⟩:=HS.out.edges _ (List.getElem_mem hlt)
      obtain ⟨hqq,hq1⟩:=znc hst
      have HST:=Lib.hid (fun (h2:zdx g.edges[k].props≤2000) (h3:(∀ n ∈ g.edges.take k,zdx n.props≤2000))=>zlc (p:=fun n:zf=>zdx n.props≤2000) hlt h3 h2)
      have HWG:=Lib.hid (fun W (e:Ext wr W)=>zkv g.edges[k].props ok P pc (r - (g.edges[k].typ.size / 50:Nat)) W (hP.ext (hWr.trans e)) hsp Qk Qk)
      clear hc hP hsp hst
      generalize g.edges[k].props=Pp at *
      generalize g.edges[k].typ.size / 50=z at *
      generalize g.edges[k].typ=ty at *
      have hz1:IntKind.i64.wrap (z:Int)=(z:Int):=IntWalk.i64_in _ Qk
      have hz2:IntKind.i64.wrap (r - (z:Int))=r - (z:Int):=IntWalk.i64_in _ Qk
      have p1:(0:Int)≤(k:Int):=by omega
      have p2:(k:Int) < (g.edges.length:Int):=by omega
      have hd:decide (r ≥ 0)=true:=decide_eq_true hr
      go_upto_region 16 with (fail)
      have MKR2:=Lib.hid (fun V (e:Ext wr V)=>(⟨e.cell d1,e.cell n3,e.cell n4,e⟩:V.cell? ⟨q,1,none⟩=some (.slice (some ⟨b,o,none⟩) g.edges.length d)∧V.cell? ⟨b,o+k*5+3,none⟩=some (.string ty)∧V.cell? ⟨b,o+k*5+4,none⟩=some (.slice P Pp.length pc)∧Ext wr V))
      refine wp_region_held_drew (S:=(fun V=>V.cell? ⟨q,1,none⟩=some (.slice (some ⟨b,o,none⟩) g.edges.length d)∧V.cell? ⟨b,o+k*5+3,none⟩=some (.string ty)∧V.cell? ⟨b,o+k*5+4,none⟩=some (.slice P Pp.length pc)∧Ext wr V)) (by kernel_rfl) ?hs20 (fun hHeld=>?go20)
      case hs20=>(exact MKR2.out _ Qg)
      refine KA 0 hHeld ?_;simp only [PU]
      refine KA 1 hHeld ?_;simp only [PU]
      refine KA 2 hHeld ?_;simp only [PU]
      refine KA 3 hHeld ?_;simp only [PU]
      refine KA 4 hHeld ?_;simp only [PU]
      refine KA 5 hHeld ?_;simp only [PU]
      refine KA 6 hHeld ?_;simp only [PU]
      refine KA 7 hHeld ?_;simp only [PU]
      refine KA 8 hHeld ?_;simp only [PU]
      refine KA 9 hHeld ?_;simp only [PU]
      refine KA 10 hHeld ?_;simp only [PU]
      refine KA 11 hHeld ?_;simp only [PU]
      refine KA 12 hHeld ?_;simp only [PU]
      refine KA 13 hHeld ?_;simp only [PU]
      refine KA 14 hHeld ?_;simp only [PU]
      refine KA 15 hHeld ?_;simp only [PU]
      refine wpAnyH_ready (rs:=[16]) (by kernel_rfl) (by simp) ?_
      refine AllReadyH.cons (o:=⟨_,_,_,_,_,_⟩) rfl (fun K hK=>?step37x0) ?more37x0
      case more37x0=>exact AllReadyH.nil
      go_simp
      ((go_at_call 63;((with_reducible refine (HWG.out _ Qg).mono ?_);rintro e w7 ⟨r7,rfl,hr7,hl7,hm7,hx7⟩;have hE7:Ext wr w7:=Ext.trans Qg hx7)))
      refine hK.out _ _ ?hS37x0 (fun H37=>?_)
      case hS37x0=>first|(exact MKR2.out _ Qg)|((try dsimp only);(exact MKR2.out _ Qg))
      clear hK K
      clear hHeld
      (try simp only [PU])
      refine KA 17 H37 ?_;simp only [PU]
      refine wpAnyH_done (by kernel_rfl) ?_ _
      clear H37
      clear MKR2
      go_wp2_with fail
      go_roundw
      case rel=>exact ⟨r7,k+1,rfl,by go_num,by omega,by omega,hl7,Lib.hid (fun h=>by have h1:=hm7 h;have h2:=hall.out hr;exact ⟨h2.1,HST.out Qk h2.2⟩),hE.trans hE7⟩
      case measure=>simp [intOf];omega
     ·by_cases hlt:(k:Int) < (g.edges.length:Int)
      ·have hd:decide (r ≥ 0)=false:=decide_eq_false (fun h2=>hgo ⟨by omega,h2⟩)
       go_wp2_with fail
       go_ret
       exact ⟨_,rfl,(fun h=>by first|(cases h;done)|exact ⟨h40,h60,(hall.out Qk).1,zf7 Qk (hall.out Qk).2⟩),HX.out.trans (hE.trans Qg)⟩
      ·by_cases hr:r ≥ 0
       ·have hd:decide (r ≥ 0)=true:=decide_eq_true hr
        go_wp2_with fail
        go_ret
        exact ⟨_,rfl,(fun h=>by first|(cases h;done)|exact ⟨h40,h60,(hall.out Qk).1,zf7 Qk (hall.out Qk).2⟩),HX.out.trans (hE.trans Qg)⟩
       ·have hd:decide (r ≥ 0)=false:=decide_eq_false hr
        go_wp2_with fail
        go_ret
        exact ⟨_,rfl,(fun h=>by first|(cases h;done)|exact ⟨h40,h60,(hall.out Qk).1,zf7 Qk (hall.out Qk).2⟩),HX.out.trans (hE.trans Qg)⟩
def z1j (i:Int):ChG:=⟨1,i,0,0,ByteArray.empty,zbf⟩
def zuc (i:Int):ChG:=⟨2,i,0,0,ByteArray.empty,zbf⟩
def zxk:Val:= .mk 2 5 0 ByteArray.empty []
def z0w:ByteArray:=⟨#[65]⟩
def z04:ByteArray:=⟨#[107]⟩
def z05:ByteArray:=⟨#[84]⟩
def gA0:za:=⟨[],[],1,1⟩
def gA1:za:=⟨[⟨3,[],[]⟩],[],4,1⟩
def gA2:za:=⟨[],[],4,1⟩
def gAx:za:=⟨[⟨1,[z0w],[⟨z04,zxk⟩]⟩],[],2,1⟩
def gAl:za:=⟨[⟨1,[],[]⟩],[⟨1,1,1,z05,[]⟩],2,2⟩
theorem ck0:zdo gA0=0:=by decide +kernel
theorem ck1:zdo gA1=0:=by decide +kernel
theorem ckx:zdo gAx=0:=by decide +kernel
theorem ckl:zdo gAl=0:=by decide +kernel
theorem z1l:zin gA0 (z1j 3)= .ok gA1:=by
 unfold zin
 rw [if_pos ck0]
 exact zz2 (g:=gA0) (i:=3) (by simp [gA0]) Qj Qj
theorem z1r:zin gA1 (zuc 3)= .ok gA2:=by
 unfold zin
 rw [if_pos ck1]
 exact zx7 (g:=gA1) (i:=3) (by simp [gA1]) (by simp [gA1]) Qj
theorem z1s:zin gAl (zuc 1)= .error 12:=by
 unfold zin
 rw [if_pos ckl]
 rw [zkk (zkl Qj Qj Qc Qc Qc Qc Qc Qc)]
 rfl
def alL:List ChG:=[⟨1,1,0,0,ByteArray.empty,zbf⟩,⟨3,1,0,0,z0w,zbf⟩,⟨5,1,0,0,z04,zxk⟩]
theorem z1v:zkq gAx [zuc 1]= .ok alL:=by
 unfold zkq
 rw [if_pos ckx]
 unfold zf1
 have h:zcg gAx (zuc 1)= .ok ⟨zcv cI zb.id gAx.nodes 1,[],2,1⟩:=zx7 (g:=gAx) (i:=1) (by simp [gAx]) (by simp [gAx]) Qj
 rw [h]
 rfl
theorem ckc {c:ChG} (h:c ∈ alL):zcn c=0:=by
 simp only [alL,List.mem_cons,List.not_mem_nil,or_false] at h
 rcases h with rfl|rfl|rfl <;> exact (zkl Qj Qj Qc Qc (by first|decide|(intro e;first|rfl|decide +kernel|exact absurd e Qj)) Qc (by first|decide|(intro e;first|(exact .inr (by decide +kernel))|exact absurd e Qj)) Qc)
theorem z0u:zar alL[0]=[43,110,111,100,101,32,49]:=by
 unfold zar;rw [if_pos (ckc (List.getElem_mem _))];decide +kernel
theorem z1a:zar alL[1]=[43,108,97,98,101,108,32,49,32,65]:=by
 unfold zar;rw [if_pos (ckc (List.getElem_mem _))];decide +kernel
theorem z0x:zar alL[2]=[115,101,116,32,49,32,107,32,53]:=by
 unfold zar;rw [if_pos (ckc (List.getElem_mem _))];decide +kernel
theorem zr8 (w:World) (ok:Nat→Prop) (a b:Int):zp w ok none none ⟨[],[],a,b⟩:=⟨zo.nil _ _ _,zo.nil _ _ _⟩
theorem zz4 (w:World):∃ w',w'=((w.alloc (.cells #[.string ⟨#[65]⟩] 9)).alloc (.cells #[.string ⟨#[107]⟩, .int .i64 2, .int .i64 5, .int .i64 0, .string ⟨#[]⟩, .slice none 0 0] 54)).alloc (.cells #[.int .i64 1, .slice (some ⟨w.heap.size,0,none⟩) 1 1, .slice (some ⟨w.heap.size+1,0,none⟩) 1 1] 57)∧zp w' (fun _=>True) (some ⟨w.heap.size+2,0,none⟩) none gAx∧Ext w w':=by
 refine ⟨_,rfl,⟨⟨by simp [gAx],fun _=>⟨_,_,rfl,fun k hk=>?_⟩⟩,zo.nil _ _ _⟩,Qg⟩
 have hk0:k=0:=by simpa [gAx] using hk
 subst hk0
 refine ⟨trivial,by go_simp;rfl,some ⟨w.heap.size,0,none⟩,1,some ⟨w.heap.size+1,0,none⟩,1,by go_simp;rfl,Nat.le_refl _,⟨by simp [gAx],fun _=>⟨_,_,rfl,fun j hj=>?_⟩⟩,by go_simp;rfl,Nat.le_refl _,⟨by simp [gAx],fun _=>⟨_,_,rfl,fun j hj=>?_⟩⟩⟩
 ·have hj0:j=0:=by simpa [gAx] using hj
  subst hj0
  exact ⟨trivial,by go_simp;rfl⟩
 ·have hj0:j=0:=by simpa [gAx] using hj
  subst hj0
  exact ⟨by go_simp;rfl,zx.iff.2 ⟨trivial,none,0,⟨by go_simp;rfl,by go_simp;rfl,by go_simp;rfl,by go_simp;rfl,by go_simp;rfl⟩,Nat.le_refl _,zo.nil _ _ _⟩⟩
theorem z0f (w:World):∃ w',w'=(w.alloc (.cells #[.int .i64 1, .slice none 0 0, .slice none 0 0] 57)).alloc (.cells #[.int .i64 1, .int .i64 1, .int .i64 1, .string ⟨#[84]⟩, .slice none 0 0] 59)∧zp w' (fun _=>True) (some ⟨w.heap.size,0,none⟩) (some ⟨w.heap.size+1,0,none⟩) gAl∧Ext w w':=by
 refine ⟨_,rfl,⟨⟨by simp [gAl],fun _=>⟨_,_,rfl,fun k hk=>?_⟩⟩,⟨by simp [gAl],fun _=>⟨_,_,rfl,fun k hk=>?_⟩⟩⟩,Qg⟩
 ·have hk0:k=0:=by simpa [gAl] using hk
  subst hk0
  exact ⟨trivial,by go_simp;rfl,none,0,none,0,by go_simp;rfl,Nat.le_refl _,zo.nil _ _ _,by go_simp;rfl,Nat.le_refl _,zo.nil _ _ _⟩
 ·have hk0:k=0:=by simpa [gAl] using hk
  subst hk0
  exact ⟨trivial,by go_simp;rfl,by go_simp;rfl,by go_simp;rfl,by go_simp;rfl,none,0,by go_simp;rfl,Nat.le_refl _,zo.nil _ _ _⟩
theorem zzt {g g':za} {c:ChG} (he:zin g c= .ok g') (A B:Option Addr) (cc d:Nat) (ok:Nat→Prop) (w:World) (hz:zq w) (hg:zp w ok A B g) (hn:c.v=zbf) :
  Calls Tryz.prog 11 #[.agg #[.slice A g.nodes.length cc, .slice B g.edges.length d, .int .i64 g.nn, .int .i64 g.ne], .agg #[.int .i64 c.op, .int .i64 c.id, .int .i64 c.frm, .int .i64 c.to_, .string c.name, .int .i64 0, .int .i64 0, .int .i64 0, .string ByteArray.empty, .slice none 0 0]] w fun e w'=>(∃ v,e= .returned (.tuple #[v, .int .i64 0])∧zdr (fun b=>w.heap.size≤b) w' g' v)∧Ext w w':=by
 have h:=zit g c ok (fun _=>True) A B none cc d 0 w hz hg (by rw [hn];exact zo.nil _ _ _) (by rw [hn];exact Nat.le_refl _)
 rw [he] at h
 rw [hn] at h
 exact h
theorem zz6 {g:za} {c:ChG} {k:Int} (he:zin g c= .error k) (A B:Option Addr) (cc d:Nat) (ok:Nat→Prop) (w:World) (hz:zq w) (hg:zp w ok A B g) (hn:c.v=zbf) :
  Calls Tryz.prog 11 #[.agg #[.slice A g.nodes.length cc, .slice B g.edges.length d, .int .i64 g.nn, .int .i64 g.ne], .agg #[.int .i64 c.op, .int .i64 c.id, .int .i64 c.frm, .int .i64 c.to_, .string c.name, .int .i64 0, .int .i64 0, .int .i64 0, .string ByteArray.empty, .slice none 0 0]] w fun e w'=>e= .returned (.tuple #[zhy, .int .i64 k])∧Ext w w':=by
 have h:=zit g c ok (fun _=>True) A B none cc d 0 w hz hg (by rw [hn];exact zo.nil _ _ _) (by rw [hn];exact Nat.le_refl _)
 rw [he] at h
 rw [hn] at h
 exact h
theorem tx {c:ChG} {t:List UInt8} (ht:zar c=t) (ok:Nat→Prop) (A:Option Addr) (k:Nat) (w:World) (hz:zq w) (hw:zgc w) (hb:BrW w) (hv:zk w ok A c.v.l) :
  Calls Tryz.prog 24 #[.agg #[.int .i64 c.op, .int .i64 c.id, .int .i64 c.frm, .int .i64 c.to_, .string c.name, .int .i64 c.v.kind, .int .i64 c.v.n, .int .i64 c.v.d, .string c.v.s, .slice A c.v.l.length k]] w fun e w'=>e= .returned (.string ⟨t.toArray⟩)∧Ext w w':=by
 rw [←ht];exact zyb c ok A k w hz hw hb hv
theorem z1i (w:World) (hz:zq w) (hw:zgc w) (hb:BrW w):Calls Tryz.prog 10 #[] w fun e w'=>e= .returned (.bool true)∧Ext w w':=by
 have HZ:=Lib.hid (fun W (e:Ext w W)=>hz.ext e)
 have HP:=Lib.hid (fun W (e:Ext w W)=>hw.ext e)
 have HB:=Lib.hid (fun W (e:Ext w W)=>hb.ext e)
 have HA1:=Lib.hid (fun W (e:Ext w W)=>(show Calls Tryz.prog 11 #[.agg #[.slice none 0 0, .slice none 0 0, .int .i64 1, .int .i64 1], .agg #[.int .i64 1, .int .i64 3, .int .i64 0, .int .i64 0, .string ⟨#[]⟩, .int .i64 0, .int .i64 0, .int .i64 0, .string ⟨#[]⟩, .slice none 0 0]] W fun e w'=>(∃ v,e= .returned (.tuple #[v, .int .i64 0])∧zdr (fun b=>W.heap.size≤b) w' gA1 v)∧Ext W w' from zzt z1l none none 0 0 (fun _=>True) W (hz.ext e) (zr8 W _ 1 1) rfl))
 have HA2:=Lib.hid (fun (A B:Option Addr) (c d:Nat) (ok:Nat→Prop) W (e:Ext w W) (h:zp W ok A B gA1)=>(show Calls Tryz.prog 11 #[.agg #[.slice A 1 c, .slice B 0 d, .int .i64 4, .int .i64 1], .agg #[.int .i64 2, .int .i64 3, .int .i64 0, .int .i64 0, .string ⟨#[]⟩, .int .i64 0, .int .i64 0, .int .i64 0, .string ⟨#[]⟩, .slice none 0 0]] W fun e w'=>(∃ v,e= .returned (.tuple #[v, .int .i64 0])∧zdr (fun b=>W.heap.size≤b) w' gA2 v)∧Ext W w' from zzt z1r A B c d ok W (hz.ext e) h rfl))
 have HA3:=Lib.hid (fun (A B:Option Addr) (c d:Nat) (ok:Nat→Prop) W (e:Ext w W) (h:zp W ok A B gAl)=>(show Calls Tryz.prog 11 #[.agg #[.slice A 1 c, .slice B 1 d, .int .i64 2, .int .i64 2], .agg #[.int .i64 2, .int .i64 1, .int .i64 0, .int .i64 0, .string ⟨#[]⟩, .int .i64 0, .int .i64 0, .int .i64 0, .string ⟨#[]⟩, .slice none 0 0]] W fun e w'=>e= .returned (.tuple #[zhy, .int .i64 12])∧Ext W w' from zz6 z1s A B c d ok W (hz.ext e) h rfl))
 have HIV:=Lib.hid (fun (A:Option Addr) (ok:Nat→Prop) W (e:Ext w W) (h:zp W ok A none gAx)=>(show Calls Tryz.prog 19 #[.agg #[.slice A 1 1, .slice none 0 0, .int .i64 2, .int .i64 1], .slice (some ⟨W.heap.size,0,none⟩) 1 1] (W.alloc (.cells #[.int .i64 2, .int .i64 1, .int .i64 0, .int .i64 0, .string ⟨#[]⟩, .int .i64 0, .int .i64 0, .int .i64 0, .string ⟨#[]⟩, .slice none 0 0] 30)) fun e w'=>(∃ v,e= .returned (.tuple #[v, .int .i64 1, .int .i64 0])∧ChV (fun b=>(W.alloc (.cells #[.int .i64 2, .int .i64 1, .int .i64 0, .int .i64 0, .string ⟨#[]⟩, .int .i64 0, .int .i64 0, .int .i64 0, .string ⟨#[]⟩, .slice none 0 0] 30)).heap.size≤b) w' alL v)∧Ext (W.alloc (.cells #[.int .i64 2, .int .i64 1, .int .i64 0, .int .i64 0, .string ⟨#[]⟩, .int .i64 0, .int .i64 0, .int .i64 0, .string ⟨#[]⟩, .slice none 0 0] 30)) w' from by
  have hh:=zuk gAx [zuc 1] ok (fun _=>True) A none (some ⟨W.heap.size,0,none⟩) 1 0 1 (W.alloc (.cells #[.int .i64 2, .int .i64 1, .int .i64 0, .int .i64 0, .string ⟨#[]⟩, .int .i64 0, .int .i64 0, .int .i64 0, .string ⟨#[]⟩, .slice none 0 0] 30)) (hz.ext (e.alloc _)) (h.ext ((Ext.refl _).alloc _)) (zsk (c:=zuc 1) (ok:=fun _=>True) (A:=none) (k:=0) (zo.nil _ _ _) (Nat.le_refl _) _) Qj
  rw [z1v] at hh
  exact hh))
 have HT:=Lib.hid (fun (c:ChG) (t:List UInt8) (ht:zar c=t) (ok:Nat→Prop) (A:Option Addr) (k:Nat) W (e:Ext w W) (hv:zk W ok A c.v.l)=>tx ht ok A k W (hz.ext e) (hw.ext e) (hb.ext e) hv)
 have HN:=Lib.hid (z0a w)
 clear hz hw hb HZ HP HB
 go_enter Tryz.func10,Tryz.ntmps10
 go_upto_region 2 with (first|(go_at_call 29;((with_reducible refine (HN.out).mono ?_);rintro e w2 ⟨rfl,hx2⟩))|(go_at_call 11;((with_reducible refine (HA1.out _ Qg).mono ?_);rintro e w3 ⟨⟨v3,rfl,hg3⟩,hx3⟩;obtain ⟨A3,c3,B3,d3,hv3,hl3,hm3,ha3⟩:=hg3;change v3= .agg #[.slice A3 1 c3, .slice B3 0 d3, .int .i64 4, .int .i64 1] at hv3;subst hv3)))
 obtain ⟨q4,w4,hq4,hw4,HB4,hx4⟩:=zb9 w3 (.slice A3 1 c3) (.slice B3 0 d3) (.int .i64 4) (.int .i64 1) 25
 rw [←hw4,←hq4]
 have hX4:Ext w w4:=(hx2.trans hx3).trans hx4
 have HG4:=Lib.hid (ha3.ext hx4)
 have HK4:=Lib.hid HB4
 have a0:w4.cell? ⟨q4,0,none⟩=some (.slice A3 1 c3):=(HB4.cell 0).trans rfl
 have a1:w4.cell? ⟨q4,1,none⟩=some (.slice B3 0 d3):=(HB4.cell 1).trans rfl
 have a2:w4.cell? ⟨q4,2,none⟩=some (.int .i64 4):=(HB4.cell 2).trans rfl
 have a3:w4.cell? ⟨q4,3,none⟩=some (.int .i64 1):=(HB4.cell 3).trans rfl
 clear hw4 hq4 hx2 hx3 hx4 HB4 ha3 hl3 hm3 HN HA1
 go_upto_region 3 with ((go_at_call 11;((with_reducible refine (HA2.out _ _ _ _ _ _ Qg (HG4.out.ext Qg)).mono ?_);rintro e w5 ⟨⟨v5,rfl,hg5⟩,hx5⟩;obtain ⟨A5,c5,B5,d5,hv5,hl5,hm5,ha5⟩:=hg5;change v5= .agg #[.slice A5 0 c5, .slice B5 0 d5, .int .i64 4, .int .i64 1] at hv5;subst hv5)))
 obtain ⟨q6,w6,hq6,hw6,HB6,hx6⟩:=zb9 w5 (.slice A5 0 c5) (.slice B5 0 d5) (.int .i64 4) (.int .i64 1) 25
 rw [←hw6,←hq6]
 have hX46:Ext w4 w6:=hx5.trans hx6
 have hX6:Ext w w6:=hX4.trans hX46
 have HK6:=Lib.hid HB6
 have HK46:=Lib.hid (HK4.out.ext hX46)
 clear hw6 hq6 hx5 hx6 HB6 ha5 hl5 hm5 HA2 hX46 a0 a1 a2 a3 HG4 HK4 hX4
 go_upto_region 4 with (fail)
 obtain ⟨q7,w7,hq7,hw7,⟨v0,v1,v2,v3',v4⟩,hx7,-⟩:=zbt w6 zxk none 0 28
 change w7=w6.alloc (.cells #[.int .i64 2, .int .i64 5, .int .i64 0, .string ⟨#[]⟩, .slice none 0 0] 28) at hw7
 rw [←hw7,←hq7]
 have hX7:Ext w w7:=hX6.trans hx7
 have HK7:=Lib.hid (HK6.out.ext hx7)
 have HK47:=Lib.hid (HK46.out.ext hx7)
 change w7.cell? ⟨q7,0,none⟩=some (.int .i64 2) at v0
 change w7.cell? ⟨q7,1,none⟩=some (.int .i64 5) at v1
 change w7.cell? ⟨q7,2,none⟩=some (.int .i64 0) at v2
 change w7.cell? ⟨q7,3,none⟩=some (.string ⟨#[]⟩) at v3'
 change w7.cell? ⟨q7,4,none⟩=some (.slice none 0 0) at v4
 clear hw7 hq7 hx7 HK6 HK46 hX6
 obtain ⟨w8,hw8,hg8,hx8⟩:=zz4 w7
 obtain ⟨q9,w9,hq9,hw9,HB9,hx9⟩:=zb9 w8 (.slice (some ⟨w7.heap.size+2,0,none⟩) 1 1) (.slice none 0 0) (.int .i64 2) (.int .i64 1) 25
 have HW9:Hid (w9=(((w7.alloc (.cells #[.string ⟨#[65]⟩] 9)).alloc (.cells #[.string ⟨#[107]⟩, .int .i64 2, .int .i64 5, .int .i64 0, .string ⟨#[]⟩, .slice none 0 0] 54)).alloc (.cells #[.int .i64 1, .slice (some ⟨w7.heap.size,0,none⟩) 1 1, .slice (some ⟨w7.heap.size+1,0,none⟩) 1 1] 57)).alloc (.cells #[.slice (some ⟨w7.heap.size+1+1,0,none⟩) 1 1, .slice none 0 0, .int .i64 2, .int .i64 1] 25)):=Lib.hid (by rw [hw9,hw8])
 have HQ9:Hid (q9=w7.heap.size+1+1+1):=Lib.hid (by rw [hq9,hw8];simp)
 have hX79:Ext w7 w9:=hx8.trans hx9
 have hX9:Ext w w9:=hX7.trans hX79
 have HG9:=Lib.hid (hg8.ext hx9)
 have HK9:=Lib.hid HB9
 have HK79:=Lib.hid (HK7.out.ext hX79)
 have HK49:=Lib.hid (HK47.out.ext hX79)
 clear hw8 hq9 hw9 hx8 hx9 HB9 hg8 HK7 HK47
 have y0:(w7.alloc (.cells #[.string ⟨#[65]⟩] 9)).cell? ⟨q7,0,none⟩=some (.int .i64 2):=((Ext.refl _).alloc _).cell v0
 have y1:(w7.alloc (.cells #[.string ⟨#[65]⟩] 9)).cell? ⟨q7,1,none⟩=some (.int .i64 5):=((Ext.refl _).alloc _).cell v1
 have y2:(w7.alloc (.cells #[.string ⟨#[65]⟩] 9)).cell? ⟨q7,2,none⟩=some (.int .i64 0):=((Ext.refl _).alloc _).cell v2
 have y3:(w7.alloc (.cells #[.string ⟨#[65]⟩] 9)).cell? ⟨q7,3,none⟩=some (.string ⟨#[]⟩):=((Ext.refl _).alloc _).cell v3'
 have y4:(w7.alloc (.cells #[.string ⟨#[65]⟩] 9)).cell? ⟨q7,4,none⟩=some (.slice none 0 0):=((Ext.refl _).alloc _).cell v4
 go_upto_region 5 with (fail)
 rw [←HW9.out,←HQ9.out]
 clear v0 v1 v2 v3' v4 y0 y1 y2 y3 y4 HW9 HQ9 hX79 hX7
 have k0:w9.cell? ⟨q9,0,none⟩=some (.slice (some ⟨w7.heap.size+2,0,none⟩) 1 1):=(HK9.out.cell 0).trans rfl
 have k1:w9.cell? ⟨q9,1,none⟩=some (.slice none 0 0):=(HK9.out.cell 1).trans rfl
 have k2:w9.cell? ⟨q9,2,none⟩=some (.int .i64 2):=(HK9.out.cell 2).trans rfl
 have k3:w9.cell? ⟨q9,3,none⟩=some (.int .i64 1):=(HK9.out.cell 3).trans rfl
 have HI9:=Lib.hid (HIV.out (some ⟨w7.heap.size+2,0,none⟩) (fun _=>True) w9 hX9 HG9.out)
 clear HIV HG9
 generalize w7.heap.size+2=n7 at *
 go_upto_region 6 with ((go_at_call 19;((with_reducible refine (HI9.out).mono ?_);rintro e w10 ⟨⟨vI,rfl,hcv⟩,hx10⟩;obtain ⟨AI,cI',hvI,hlI,hcI⟩:=hcv;change vI= .slice AI 3 cI' at hvI;subst hvI)))
 have hX10:Ext w9 w10:=Ext.trans ((Ext.refl _).alloc _) hx10
 have hY10:Ext w w10:=hX9.trans hX10
 have HCI:=Lib.hid hcI
 have HK10:=Lib.hid (HK79.out.ext hX10)
 have HK40:=Lib.hid (HK49.out.ext hX10)
 clear k0 k1 k2 k3 HI9 hx10 hlI hcI HK79 HK49 HK9 hX9
 obtain ⟨w11,hw11,hg11,hx11⟩:=z0f w10
 obtain ⟨q12,w12,hq12,hw12,HB12,hx12⟩:=zb9 w11 (.slice (some ⟨w10.heap.size,0,none⟩) 1 1) (.slice (some ⟨w10.heap.size+1,0,none⟩) 1 1) (.int .i64 2) (.int .i64 2) 25
 have HW12:Hid (w12=((w10.alloc (.cells #[.int .i64 1, .slice none 0 0, .slice none 0 0] 57)).alloc (.cells #[.int .i64 1, .int .i64 1, .int .i64 1, .string ⟨#[84]⟩, .slice none 0 0] 59)).alloc (.cells #[.slice (some ⟨w10.heap.size,0,none⟩) 1 1, .slice (some ⟨w10.heap.size+1,0,none⟩) 1 1, .int .i64 2, .int .i64 2] 25)):=Lib.hid (by rw [hw12,hw11])
 have HQ12:Hid (q12=w10.heap.size+1+1):=Lib.hid (by rw [hq12,hw11];simp)
 have hX12:Ext w10 w12:=hx11.trans hx12
 have hY12:Ext w w12:=hY10.trans hX12
 have HG12:=Lib.hid (hg11.ext hx12)
 have HCJ:=Lib.hid (HCI.out.ext hX12)
 have HK12:=Lib.hid (HK10.out.ext hX12)
 have HK42:=Lib.hid (HK40.out.ext hX12)
 have k0:w12.cell? ⟨q12,0,none⟩=some (.slice (some ⟨w10.heap.size,0,none⟩) 1 1):=(HB12.cell 0).trans rfl
 have k1:w12.cell? ⟨q12,1,none⟩=some (.slice (some ⟨w10.heap.size+1,0,none⟩) 1 1):=(HB12.cell 1).trans rfl
 have k2:w12.cell? ⟨q12,2,none⟩=some (.int .i64 2):=(HB12.cell 2).trans rfl
 have k3:w12.cell? ⟨q12,3,none⟩=some (.int .i64 2):=(HB12.cell 3).trans rfl
 have HA12:=Lib.hid (fun W (e:Ext w12 W)=>HA3.out _ _ 1 1 _ W (hY12.trans e) (HG12.out.ext e))
 clear hw11 hw12 hq12 hx11 hx12 hg11 HB12 HCI HK10 HK40 HA3 HG12 hX12 hY10 hX10
 go_upto_region 7 with (fail)
 rw [←HW12.out,←HQ12.out]
 clear HW12 HQ12
 generalize w10.heap.size=n10 at *
 go_upto_region 8 with ((go_at_call 11;((with_reducible refine (HA12.out _ Qg).mono ?_);rintro e w13 ⟨rfl,hx13⟩)))
 obtain ⟨q14,w14,hq14,hw14,HB14,hx14⟩:=zb9 w13 (.slice none 0 0) (.slice none 0 0) (.int .i64 0) (.int .i64 0) 25
 rw [←hw14,←hq14]
 have hX14:Ext w12 w14:=Ext.trans Qg hx14
 have hY14:Ext w w14:=hY12.trans hX14
 have HC14:=Lib.hid (HCJ.out.ext hX14)
 have HK14:=Lib.hid (HK12.out.ext hX14)
 have HK44:=Lib.hid (HK42.out.ext hX14)
 clear hw14 hq14 HB14 hx13 hx14 k0 k1 k2 k3 HA12 HCJ HK12 HK42
 obtain ⟨b,o,rfl,hc⟩:=HC14.out.2 Qj
 obtain ⟨-,A0,m0,⟨x00,x01,x02,x03,x04,x05,x06,x07,x08,x09⟩,-,hv0⟩:=hc 0 Qj
 obtain ⟨-,A1,m1,⟨x10,x11,x12,x13,x14,x15,x16,x17,x18,x19⟩,-,hv1⟩:=hc 1 Qj
 obtain ⟨-,A2,m2,⟨x20,x21,x22,x23,x24,x25,x26,x27,x28,x29⟩,-,hv2⟩:=hc 2 Qj
 have HT0:=Lib.hid (fun W (e:Ext w14 W)=>HT.out alL[0] _ z0u _ A0 m0 W (hY14.trans e) (hv0.ext e))
 have HT1:=Lib.hid (fun W (e:Ext w14 W)=>HT.out alL[1] _ z1a _ A1 m1 W (hY14.trans e) (hv1.ext e))
 have HT2:=Lib.hid (fun W (e:Ext w14 W)=>HT.out alL[2] _ z0x _ A2 m2 W (hY14.trans e) (hv2.ext e))
 clear HC14 hc hv0 hv1 hv2 HT
 simp only [Nat.zero_mul,Nat.one_mul,Nat.add_zero,Nat.reduceMul] at x00 x01 x02 x03 x04 x05 x06 x07 x08 x09 x10 x11 x12 x13 x14 x15 x16 x17 x18 x19 x20 x21 x22 x23 x24 x25 x26 x27 x28 x29
 generalize alL[0]=ch0 at *
 generalize alL[1]=ch1 at *
 generalize alL[2]=ch2 at *
 have g2:w14.cell? ⟨q4,2,none⟩=some (.int .i64 4):=(HK44.out.cell 2).trans rfl
 have g0:w14.cell? ⟨q4,0,none⟩=some (.slice A3 1 c3):=(HK44.out.cell 0).trans rfl
 have h2:w14.cell? ⟨q6,2,none⟩=some (.int .i64 4):=(HK14.out.cell 2).trans rfl
 have h0:w14.cell? ⟨q6,0,none⟩=some (.slice A5 0 c5):=(HK14.out.cell 0).trans rfl
 have e0:((⟨[43,110,111,100,101,32,49].toArray⟩:ByteArray).toList == [43,110,111,100,101,32,49])=true:=by rw [ByteArray.toList_eq];decide
 have e1:((⟨[43,108,97,98,101,108,32,49,32,65].toArray⟩:ByteArray).toList == [43,108,97,98,101,108,32,49,32,65])=true:=by rw [ByteArray.toList_eq];decide
 have e2:((⟨[115,101,116,32,49,32,107,32,53].toArray⟩:ByteArray).toList == [115,101,116,32,49,32,107,32,53])=true:=by rw [ByteArray.toList_eq];decide
 go_wp2_with (first|(go_at_call 24;((with_reducible refine (HT0.out _ Qg).mono ?_);rintro e w15 ⟨rfl,hx15⟩;have hE15:Ext w14 w15:=Ext.trans Qg hx15;replace x10:=hE15.cell x10;replace x11:=hE15.cell x11;replace x12:=hE15.cell x12;replace x13:=hE15.cell x13;replace x14:=hE15.cell x14;replace x15:=hE15.cell x15;replace x16:=hE15.cell x16;replace x17:=hE15.cell x17;replace x18:=hE15.cell x18;replace x19:=hE15.cell x19))|(go_at_call 24;((with_reducible refine (HT1.out _ Qg).mono ?_);rintro e w16 ⟨rfl,hx16⟩;have hE16:Ext w14 w16:=Ext.trans Qg hx16;replace x20:=hE16.cell x20;replace x21:=hE16.cell x21;replace x22:=hE16.cell x22;replace x23:=hE16.cell x23;replace x24:=hE16.cell x24;replace x25:=hE16.cell x25;replace x26:=hE16.cell x26;replace x27:=hE16.cell x27;replace x28:=hE16.cell x28;replace x29:=hE16.cell x29))|(go_at_call 24;((with_reducible refine (HT2.out _ Qg).mono ?_);rintro e w17 ⟨rfl,hx17⟩;have hE17:Ext w14 w17:=Ext.trans Qg hx17)))
 go_ret
 exact ⟨rfl,hY14.trans hE17⟩
open Go.ChangeShapes Go.WideShapes Go.ChangeAt Go.RowKit
open Go.ChangeMaps (open_string shut_string)
theorem zsw:Tryz.prog.globalNamed "graphdb/frac.zero" = some 0:=by kernel_rfl
theorem ztn:(Tryz.prog.globals[0]?).map (·.type)=some 116:=by kernel_rfl
theorem zua:Tryz.prog.cellsOf 116=2:=by kernel_rfl
abbrev zf2:List (String × DataW Unit):=Rows.changeRestoresRow.laid
theorem z1g {W:World} (h:laidMetH Tryz.prog zf2 W):zq W:=by
 have h0:laidMet Tryz.prog zf2 W:=h
 have h0:=h0.tail.tail.tail.tail
 obtain ⟨ps,⟨g',t',cs,fuel,p,q,hg',ht',hvar,hd,-,-⟩,-⟩:=h0
 obtain rfl:=Option.some.inj (zsw.symm.trans hg')
 obtain rfl:=Option.some.inj (ztn.symm.trans ht')
 obtain ⟨y0,y1,n,hx,hl,h0,h1⟩:=trod_struct2 Tryz.underlying116 hd
 rw [zua] at hl
 obtain ⟨c0,c1,rfl⟩:=Joins.array2 (show cs.size=2 by simpa using hl)
 obtain ⟨a,e0,x0,-⟩:=DataW.trod_int (k:= .i64) Tryz.underlying3 h0
 obtain ⟨b,e1,x1,-⟩:=DataW.trod_int (k:= .i64) Tryz.underlying3 h1
 rw [x0,x1] at hx
 simp only [Rows.laid_graphdb_frac_zero,Prod.mk.injEq,DataW.agg.injEq,List.cons.injEq,DataW.lit.injEq,Lit.int.injEq] at hx
 have k0:c0= .int .i64 a:=by simpa [show Tryz.prog.cellsOf 3=1 from by kernel_rfl] using e0
 have k1:c1= .int .i64 b:=by simpa [show Tryz.prog.cellsOf 3=1 from by kernel_rfl] using e1
 have ha:(0:Int)=a:=hx.1.1.2
 have hb:(1:Int)=b:=hx.1.2.1.2
 subst ha hb k0 k1
 have z0:=World.var?_cell zsw hvar 0
 have z1:=World.var?_cell zsw hvar 1
 refine ⟨z0,z1,?_⟩
 unfold World.var? at hvar
 rw [zsw] at hvar
 rcases Nat.lt_or_ge 0 W.heap.size with k|k
 ·exact k
 ·simp only [Option.bind_some,Array.getElem?_eq_none k] at hvar;cases hvar
theorem z1k:Tryz.prog.globalNamed "internal/strconv.uint64pow10" = some 1:=by kernel_rfl
theorem zxt:(Tryz.prog.globals[1]?).map (·.type)=some 211:=by kernel_rfl
theorem zww:Tryz.prog.cellsOf 211=20:=by kernel_rfl
theorem zxy:Tryz.prog.cellsOf 181=1:=by kernel_rfl
theorem z1q {W:World} (h:laidMetH Tryz.prog zf2 W):zgc W:=by
 have h0:laidMet Tryz.prog zf2 W:=h
 exact Lib.tabIs_of_head z1k zxt Tryz.underlying211 Tryz.underlying181 zxy zww h0.tail.tail
theorem z0y (os:Os) (args:Array Value):laidMetH Tryz.prog zf2 ((World.laidAll Tryz.prog os zf2).forCall (fun _ _=>0) ⟨#[],args,[]⟩).memory:=by
 rw [MakeChecks.laidMetH_plain _ _ _ (by kernel_rfl)]
 exact laidMet_laidAll _ (by kernel_rfl) (by kernel_rfl)
theorem z1p {α:Type} {l:List α} (h:l.length=2):∃ a b,l=[a,b]:=by
 match l,h with
 | [a,b],_=>exact ⟨a,b,rfl⟩
theorem ztf {α:Type} {l:List α} (h:l.length=3):∃ a b c,l=[a,b,c]:=by
 match l,h with
 | [a,b,c],_=>exact ⟨a,b,c,rfl⟩
theorem zxz {α:Type} {l:List α} (h:l.length=4):∃ a b c d,l=[a,b,c,d]:=by
 match l,h with
 | [a,b,c,d],_=>exact ⟨a,b,c,d,rfl⟩
theorem zom {α:Type} {l:List α} (h:l.length=5):∃ a b c d e,l=[a,b,c,d,e]:=by
 match l,h with
 | [a,b,c,d,e],_=>exact ⟨a,b,c,d,e,rfl⟩
theorem zzq {α:Type} {l:List α} (h:l.length=6):∃ a b c d e f,l=[a,b,c,d,e,f]:=by
 match l,h with
 | [a,b,c,d,e,f],_=>exact ⟨a,b,c,d,e,f,rfl⟩
theorem z1b {α:Type} {l:List α} (h:l.length=10):∃ a b c d e f g h i j,l=[a,b,c,d,e,f,g,h,i,j]:=by
 match l,h with
 | [a,b,c,d,e,f,g,h,i,j],_=>exact ⟨a,b,c,d,e,f,g,h,i,j,rfl⟩
theorem znl:Tryz.prog.cellsOf 54=6:=by kernel_rfl
theorem znr:Tryz.prog.cellsOf 57=3:=by kernel_rfl
theorem znh:Tryz.prog.cellsOf 59=5:=by kernel_rfl
theorem zra:Tryz.prog.cellsOf 25=4:=by kernel_rfl
theorem zk2:Tryz.prog.cellsOf 55=1:=by kernel_rfl
theorem zr4:Tryz.prog.cellsOf 22=1:=by kernel_rfl
theorem zr1:Tryz.prog.cellsOf 23=1:=by kernel_rfl
theorem zwm:Tryz.prog.cellsOf 30=10:=by kernel_rfl
theorem zvi:0 < Tryz.prog.bytesOf 54:=of_decide_eq_true (by kernel_rfl)
theorem ztt:0 < Tryz.prog.bytesOf 57:=of_decide_eq_true (by kernel_rfl)
theorem zt1:0 < Tryz.prog.bytesOf 59:=of_decide_eq_true (by kernel_rfl)
section
variable {H:Type} {enc:TypeId × Value→H} {w:World} {base:Nat} {spare:Nat→Bool} {held:Bool}
theorem zt2 {fuel:Nat} {cs:List Value} {x:DataW H × List MemPlace} (hwt:∀ k ∈ x.1.weights Tryz.prog 54,k≤reachBytes) (h:DataW.trod enc Tryz.prog w base spare held fuel 54 cs=some x):∃ v:zaf,(szV v.v∧szS v.key)∧∀ b o,(∀ j u,cs[j]? = some u→w.cell? ⟨b,o+j,none⟩=some u)→zeh w (fun _=>True) b o v:=by
 obtain ⟨xs,m,hm,hxx,hl,hlen,hg⟩:=DataW.trod_struct Tryz.underlying54 h
 rw [znl] at hl
 obtain ⟨c0,c1,c2,c3,c4,c5,rfl⟩:=zzq hl
 obtain ⟨y0,y1,rfl⟩:=z1p (show xs.length=2 from hlen)
 have g0:DataW.trod enc Tryz.prog w base spare held m 9 (([c0,c1,c2,c3,c4,c5].drop 0).take (Tryz.prog.cellsOf 9))=some y0:=hg 0 _ rfl
 rw [zfx] at g0
 have g1:DataW.trod enc Tryz.prog w base spare held m 28 (([c0,c1,c2,c3,c4,c5].drop 1).take (Tryz.prog.cellsOf 28))=some y1:=hg 1 _ rfl
 rw [zgz] at g1
 have hwe:∀ k ∈ DataW.weightsEach Tryz.prog [9,28] [y0.1,y1.1],k≤reachBytes:=fun k hk=>hwt k (by
  rw [show x.1= .agg [y0.1,y1.1] from congrArg Prod.fst hxx]
  simp only [DataW.weights,Tryz.underlying54]
  exact hk)
 obtain ⟨s0,e0,x0,-⟩:=DataW.trod_string Tryz.underlying9 g0
 have z0:=zex x0 (fun k hk=>hwe k (DataW.weights_mem_each (j:=0) rfl rfl k hk))
 obtain ⟨v1,z1,d1⟩:=(zja m).1 _ _ (fun k hk=>hwe k (DataW.weights_mem_each (j:=1) rfl rfl k hk)) g1
 cases e0
 refine ⟨⟨s0,v1⟩,⟨z1,z0⟩,fun b o hc=>⟨hc 0 _ rfl,d1 b (o+1) (fun j u hu=>?_)⟩⟩
 have h6:=hc (j+1) u (by simpa using hu)
 rwa [show o+(j+1)=o+1+j by omega] at h6
theorem zmd {fuel:Nat} {cs:List Value} {x:DataW H × List MemPlace} (hwt:∀ k ∈ x.1.weights Tryz.prog 55,k≤reachBytes) (h:DataW.trod enc Tryz.prog w base spare held fuel 55 cs=some x) :
  ∃ (l:List zaf) (A:Option Addr) (c:Nat),cs=[.slice A l.length c]∧l.length≤c∧zo (zeh w (fun _=>True)) 6 A l∧∀ v ∈ l,szV v.v∧szS v.key :=
 zfu (α:=zaf) Tryz.underlying55 znl zvi Qj (zeh w (fun _=>True)) (fun v=>szV v.v∧szS v.key) (fun _ _ _ _ hk hy=>zt2 hk hy) hwt h
theorem zu0 {fuel:Nat} {cs:List Value} {x:DataW H × List MemPlace} (hwt:∀ k ∈ x.1.weights Tryz.prog 57,k≤reachBytes) (h:DataW.trod enc Tryz.prog w base spare held fuel 57 cs=some x):∃ v:zb,((∀ s ∈ v.labels,szS s)∧szP v.props)∧∀ b o,(∀ j u,cs[j]? = some u→w.cell? ⟨b,o+j,none⟩=some u)→zd4 w (fun _=>True) b o v:=by
 obtain ⟨xs,m,hm,hxx,hl,hlen,hg⟩:=DataW.trod_struct Tryz.underlying57 h
 rw [znr] at hl
 obtain ⟨c0,c1,c2,rfl⟩:=ztf hl
 obtain ⟨y0,y1,y2,rfl⟩:=ztf (show xs.length=3 from hlen)
 have g0:DataW.trod enc Tryz.prog w base spare held m 3 (([c0,c1,c2].drop 0).take (Tryz.prog.cellsOf 3))=some y0:=hg 0 _ rfl
 rw [zbv] at g0
 have g1:DataW.trod enc Tryz.prog w base spare held m 52 (([c0,c1,c2].drop 1).take (Tryz.prog.cellsOf 52))=some y1:=hg 1 _ rfl
 rw [ztz] at g1
 have g2:DataW.trod enc Tryz.prog w base spare held m 55 (([c0,c1,c2].drop 2).take (Tryz.prog.cellsOf 55))=some y2:=hg 2 _ rfl
 rw [zk2] at g2
 have hwe:∀ k ∈ DataW.weightsEach Tryz.prog [3,52,55] [y0.1,y1.1,y2.1],k≤reachBytes:=fun k hk=>hwt k (by
  rw [show x.1= .agg [y0.1,y1.1,y2.1] from congrArg Prod.fst hxx]
  simp only [DataW.weights,Tryz.underlying57]
  exact hk)
 obtain ⟨k0,e0,-,-⟩:=DataW.trod_int (k:= .i64) Tryz.underlying3 g0
 obtain ⟨l1,A1,c1',e1,n1,v1,z1⟩:=zt5 Tryz.underlying52 (fun k hk=>hwe k (DataW.weights_mem_each (j:=1) rfl rfl k hk)) g1
 obtain ⟨l2,A2,c2',e2,n2,v2,z2⟩:=zmd (fun k hk=>hwe k (DataW.weights_mem_each (j:=2) rfl rfl k hk)) g2
 cases e0;cases e1;cases e2
 exact ⟨⟨k0,l1,l2⟩,⟨z1,z2⟩,fun b o hc=>⟨trivial,hc 0 _ rfl,A1,c1',A2,c2',hc 1 _ rfl,n1,v1,hc 2 _ rfl,n2,v2⟩⟩
theorem zrk {fuel:Nat} {cs:List Value} {x:DataW H × List MemPlace} (hwt:∀ k ∈ x.1.weights Tryz.prog 22,k≤reachBytes) (h:DataW.trod enc Tryz.prog w base spare held fuel 22 cs=some x) :
  ∃ (l:List zb) (A:Option Addr) (c:Nat),cs=[.slice A l.length c]∧l.length≤c∧zo (zd4 w (fun _=>True)) 3 A l∧∀ v ∈ l,(∀ s ∈ v.labels,szS s)∧szP v.props :=
 zfu (α:=zb) Tryz.underlying22 znr ztt Qj (zd4 w (fun _=>True)) (fun v=>(∀ s ∈ v.labels,szS s)∧szP v.props) (fun _ _ _ _ hk hy=>zu0 hk hy) hwt h
theorem zvo {fuel:Nat} {cs:List Value} {x:DataW H × List MemPlace} (hwt:∀ k ∈ x.1.weights Tryz.prog 59,k≤reachBytes) (h:DataW.trod enc Tryz.prog w base spare held fuel 59 cs=some x):∃ v:zf,(szS v.typ∧szP v.props)∧∀ b o,(∀ j u,cs[j]? = some u→w.cell? ⟨b,o+j,none⟩=some u)→zd2 w (fun _=>True) b o v:=by
 obtain ⟨xs,m,hm,hxx,hl,hlen,hg⟩:=DataW.trod_struct Tryz.underlying59 h
 rw [znh] at hl
 obtain ⟨c0,c1,c2,c3,c4,rfl⟩:=zom hl
 obtain ⟨y0,y1,y2,y3,y4,rfl⟩:=zom (show xs.length=5 from hlen)
 have g0:DataW.trod enc Tryz.prog w base spare held m 3 (([c0,c1,c2,c3,c4].drop 0).take (Tryz.prog.cellsOf 3))=some y0:=hg 0 _ rfl
 rw [zbv] at g0
 have g1:DataW.trod enc Tryz.prog w base spare held m 3 (([c0,c1,c2,c3,c4].drop 1).take (Tryz.prog.cellsOf 3))=some y1:=hg 1 _ rfl
 rw [zbv] at g1
 have g2:DataW.trod enc Tryz.prog w base spare held m 3 (([c0,c1,c2,c3,c4].drop 2).take (Tryz.prog.cellsOf 3))=some y2:=hg 2 _ rfl
 rw [zbv] at g2
 have g3:DataW.trod enc Tryz.prog w base spare held m 9 (([c0,c1,c2,c3,c4].drop 3).take (Tryz.prog.cellsOf 9))=some y3:=hg 3 _ rfl
 rw [zfx] at g3
 have g4:DataW.trod enc Tryz.prog w base spare held m 55 (([c0,c1,c2,c3,c4].drop 4).take (Tryz.prog.cellsOf 55))=some y4:=hg 4 _ rfl
 rw [zk2] at g4
 have hwe:∀ k ∈ DataW.weightsEach Tryz.prog [3,3,3,9,55] [y0.1,y1.1,y2.1,y3.1,y4.1],k≤reachBytes:=fun k hk=>hwt k (by
  rw [show x.1= .agg [y0.1,y1.1,y2.1,y3.1,y4.1] from congrArg Prod.fst hxx]
  simp only [DataW.weights,Tryz.underlying59]
  exact hk)
 obtain ⟨k0,e0,-,-⟩:=DataW.trod_int (k:= .i64) Tryz.underlying3 g0
 obtain ⟨k1,e1,-,-⟩:=DataW.trod_int (k:= .i64) Tryz.underlying3 g1
 obtain ⟨k2,e2,-,-⟩:=DataW.trod_int (k:= .i64) Tryz.underlying3 g2
 obtain ⟨s3,e3,x3,-⟩:=DataW.trod_string Tryz.underlying9 g3
 have z3:=zex x3 (fun k hk=>hwe k (DataW.weights_mem_each (j:=3) rfl rfl k hk))
 obtain ⟨l4,A4,c4',e4,n4,v4,z4⟩:=zmd (fun k hk=>hwe k (DataW.weights_mem_each (j:=4) rfl rfl k hk)) g4
 cases e0;cases e1;cases e2;cases e3;cases e4
 exact ⟨⟨k0,k1,k2,s3,l4⟩,⟨z3,z4⟩,fun b o hc=>⟨trivial,hc 0 _ rfl,hc 1 _ rfl,hc 2 _ rfl,hc 3 _ rfl,A4,c4',hc 4 _ rfl,n4,v4⟩⟩
theorem zq7 {fuel:Nat} {cs:List Value} {x:DataW H × List MemPlace} (hwt:∀ k ∈ x.1.weights Tryz.prog 23,k≤reachBytes) (h:DataW.trod enc Tryz.prog w base spare held fuel 23 cs=some x) :
  ∃ (l:List zf) (A:Option Addr) (c:Nat),cs=[.slice A l.length c]∧l.length≤c∧zo (zd2 w (fun _=>True)) 5 A l∧∀ v ∈ l,szS v.typ∧szP v.props :=
 zfu (α:=zf) Tryz.underlying23 znh zt1 Qj (zd2 w (fun _=>True)) (fun v=>szS v.typ∧szP v.props) (fun _ _ _ _ hk hy=>zvo hk hy) hwt h
theorem zuz {fuel:Nat} {cs:List Value} {x:DataW H × List MemPlace} (hwt:∀ k ∈ x.1.weights Tryz.prog 28,k≤reachBytes) (h:DataW.trod enc Tryz.prog w base spare held fuel 28 cs=some x) :
  ∃ (v:Val) (A:Option Addr) (c:Nat),cs=[.int .i64 v.kind, .int .i64 v.n, .int .i64 v.d, .string v.s, .slice A v.l.length c]∧v.l.length≤c∧zk w (fun _=>True) A v.l∧szV v:=by
 obtain ⟨xs,m,hm,hxx,hl,hlen,hg⟩:=DataW.trod_struct Tryz.underlying28 h
 rw [zgz] at hl
 obtain ⟨c0,c1,c2,c3,c4,rfl⟩:=zom hl
 obtain ⟨y0,y1,y2,y3,y4,rfl⟩:=zom (show xs.length=5 from hlen)
 have g0:DataW.trod enc Tryz.prog w base spare held m 3 (([c0,c1,c2,c3,c4].drop 0).take (Tryz.prog.cellsOf 3))=some y0:=hg 0 _ rfl
 rw [zbv] at g0
 have g1:DataW.trod enc Tryz.prog w base spare held m 3 (([c0,c1,c2,c3,c4].drop 1).take (Tryz.prog.cellsOf 3))=some y1:=hg 1 _ rfl
 rw [zbv] at g1
 have g2:DataW.trod enc Tryz.prog w base spare held m 3 (([c0,c1,c2,c3,c4].drop 2).take (Tryz.prog.cellsOf 3))=some y2:=hg 2 _ rfl
 rw [zbv] at g2
 have g3:DataW.trod enc Tryz.prog w base spare held m 9 (([c0,c1,c2,c3,c4].drop 3).take (Tryz.prog.cellsOf 9))=some y3:=hg 3 _ rfl
 rw [zfx] at g3
 have g4:DataW.trod enc Tryz.prog w base spare held m 26 (([c0,c1,c2,c3,c4].drop 4).take (Tryz.prog.cellsOf 26))=some y4:=hg 4 _ rfl
 rw [zm3] at g4
 have hwe:∀ k ∈ DataW.weightsEach Tryz.prog [3,3,3,9,26] [y0.1,y1.1,y2.1,y3.1,y4.1],k≤reachBytes:=fun k hk=>hwt k (by
  rw [show x.1= .agg [y0.1,y1.1,y2.1,y3.1,y4.1] from congrArg Prod.fst hxx]
  simp only [DataW.weights,Tryz.underlying28]
  exact hk)
 obtain ⟨k0,e0,-,-⟩:=DataW.trod_int (k:= .i64) Tryz.underlying3 g0
 obtain ⟨k1,e1,-,-⟩:=DataW.trod_int (k:= .i64) Tryz.underlying3 g1
 obtain ⟨k2,e2,-,-⟩:=DataW.trod_int (k:= .i64) Tryz.underlying3 g2
 obtain ⟨s3,e3,x3,-⟩:=DataW.trod_string Tryz.underlying9 g3
 have z3:=zex x3 (fun k hk=>hwe k (DataW.weights_mem_each (j:=3) rfl rfl k hk))
 obtain ⟨l4,A4,c4',e4,n4,v4,z4⟩:=(zja m).2 _ _ _ Tryz.underlying26 (fun k hk=>hwe k (DataW.weights_mem_each (j:=4) rfl rfl k hk)) g4
 cases e0;cases e1;cases e2;cases e3;cases e4
 exact ⟨.mk k0 k1 k2 s3 l4,A4,c4',rfl,n4,v4,zd7.2 ⟨z3,z4⟩⟩
theorem zvm {fuel:Nat} {cs:List Value} {x:DataW H × List MemPlace} (hwt:∀ k ∈ x.1.weights Tryz.prog 30,k≤reachBytes) (h:DataW.trod enc Tryz.prog w base spare held fuel 30 cs=some x) :
  ∃ (v:ChG) (A:Option Addr) (k:Nat),cs=[.int .i64 v.op, .int .i64 v.id, .int .i64 v.frm, .int .i64 v.to_, .string v.name, .int .i64 v.v.kind, .int .i64 v.v.n, .int .i64 v.v.d, .string v.v.s, .slice A v.v.l.length k]∧v.v.l.length≤k∧zk w (fun _=>True) A v.v.l∧SzC v:=by
 obtain ⟨xs,m,hm,hxx,hl,hlen,hg⟩:=DataW.trod_struct Tryz.underlying30 h
 rw [zwm] at hl
 obtain ⟨c0,c1,c2,c3,c4,c5,c6,c7,c8,c9,rfl⟩:=z1b hl
 obtain ⟨y0,y1,y2,y3,y4,y5,rfl⟩:=zzq (show xs.length=6 from hlen)
 have g0:DataW.trod enc Tryz.prog w base spare held m 3 (([c0,c1,c2,c3,c4,c5,c6,c7,c8,c9].drop 0).take (Tryz.prog.cellsOf 3))=some y0:=hg 0 _ rfl
 rw [zbv] at g0
 have g1:DataW.trod enc Tryz.prog w base spare held m 3 (([c0,c1,c2,c3,c4,c5,c6,c7,c8,c9].drop 1).take (Tryz.prog.cellsOf 3))=some y1:=hg 1 _ rfl
 rw [zbv] at g1
 have g2:DataW.trod enc Tryz.prog w base spare held m 3 (([c0,c1,c2,c3,c4,c5,c6,c7,c8,c9].drop 2).take (Tryz.prog.cellsOf 3))=some y2:=hg 2 _ rfl
 rw [zbv] at g2
 have g3:DataW.trod enc Tryz.prog w base spare held m 3 (([c0,c1,c2,c3,c4,c5,c6,c7,c8,c9].drop 3).take (Tryz.prog.cellsOf 3))=some y3:=hg 3 _ rfl
 rw [zbv] at g3
 have g4:DataW.trod enc Tryz.prog w base spare held m 9 (([c0,c1,c2,c3,c4,c5,c6,c7,c8,c9].drop 4).take (Tryz.prog.cellsOf 9))=some y4:=hg 4 _ rfl
 rw [zfx] at g4
 have g5:DataW.trod enc Tryz.prog w base spare held m 28 (([c0,c1,c2,c3,c4,c5,c6,c7,c8,c9].drop 5).take (Tryz.prog.cellsOf 28))=some y5:=hg 5 _ rfl
 rw [zgz] at g5
 have hwe:∀ k ∈ DataW.weightsEach Tryz.prog [3,3,3,3,9,28] [y0.1,y1.1,y2.1,y3.1,y4.1,y5.1],k≤reachBytes:=fun k hk=>hwt k (by
  rw [show x.1= .agg [y0.1,y1.1,y2.1,y3.1,y4.1,y5.1] from congrArg Prod.fst hxx]
  simp only [DataW.weights,Tryz.underlying30]
  exact hk)
 obtain ⟨k0,e0,-,-⟩:=DataW.trod_int (k:= .i64) Tryz.underlying3 g0
 obtain ⟨k1,e1,-,-⟩:=DataW.trod_int (k:= .i64) Tryz.underlying3 g1
 obtain ⟨k2,e2,-,-⟩:=DataW.trod_int (k:= .i64) Tryz.underlying3 g2
 obtain ⟨k3,e3,-,-⟩:=DataW.trod_int (k:= .i64) Tryz.underlying3 g3
 obtain ⟨s4,e4,x4,-⟩:=DataW.trod_string Tryz.underlying9 g4
 have z4:=zex x4 (fun k hk=>hwe k (DataW.weights_mem_each (j:=4) rfl rfl k hk))
 obtain ⟨v5,A5,c5',e5,n5,d5,z5⟩:=zuz (fun k hk=>hwe k (DataW.weights_mem_each (j:=5) rfl rfl k hk)) g5
 cases e0;cases e1;cases e2;cases e3;cases e4;cases e5
 exact ⟨⟨k0,k1,k2,k3,s4,v5⟩,A5,c5',rfl,n5,d5,z5,z4⟩
theorem z1u {r:Reach} {b0:Nat} {v:Value} {dd:DataW H} {p:List MemPlace} (hv:Value.okWide Tryz.prog w r b0 25 v) (hwt0:∀ k ∈ dd.weights Tryz.prog 25,k≤reachBytes) (h0:DataW.Trod enc Tryz.prog w base spare held 25 v dd p) :
  ∃ (g:za) (A B:Option Addr) (c d:Nat),v= .agg #[.slice A g.nodes.length c, .slice B g.edges.length d, .int .i64 g.nn, .int .i64 g.ne]∧g.nodes.length≤c∧g.edges.length≤d∧zp w (fun _=>True) A B g∧SzA g:=by
 obtain ⟨csa,rfl,-⟩:=okWide_struct Tryz.underlying25 hv
 obtain ⟨fuel,hf⟩:=h0
 obtain ⟨cs,rfl⟩:∃ cs:List Value,csa=cs.toArray:=⟨csa.toList,by simp⟩
 obtain ⟨x,hx⟩:∃ x:DataW H × List MemPlace,x=(dd,p):=⟨_,rfl⟩
 rw [←hx] at hf
 have hwt:∀ k ∈ x.1.weights Tryz.prog 25,k≤reachBytes:=by rw [hx];exact hwt0
 have h:DataW.trod enc Tryz.prog w base spare held fuel 25 cs=some x:=by simpa [Value.cells] using hf
 obtain ⟨xs,m,hm,hxx,hl,hlen,hg⟩:=DataW.trod_struct Tryz.underlying25 h
 rw [zra] at hl
 obtain ⟨c0,c1,c2,c3,rfl⟩:=zxz hl
 obtain ⟨y0,y1,y2,y3,rfl⟩:=zxz (show xs.length=4 from hlen)
 have g0:DataW.trod enc Tryz.prog w base spare held m 22 (([c0,c1,c2,c3].drop 0).take (Tryz.prog.cellsOf 22))=some y0:=hg 0 _ rfl
 rw [zr4] at g0
 have g1:DataW.trod enc Tryz.prog w base spare held m 23 (([c0,c1,c2,c3].drop 1).take (Tryz.prog.cellsOf 23))=some y1:=hg 1 _ rfl
 rw [zr1] at g1
 have g2:DataW.trod enc Tryz.prog w base spare held m 3 (([c0,c1,c2,c3].drop 2).take (Tryz.prog.cellsOf 3))=some y2:=hg 2 _ rfl
 rw [zbv] at g2
 have g3:DataW.trod enc Tryz.prog w base spare held m 3 (([c0,c1,c2,c3].drop 3).take (Tryz.prog.cellsOf 3))=some y3:=hg 3 _ rfl
 rw [zbv] at g3
 have hwe:∀ k ∈ DataW.weightsEach Tryz.prog [22,23,3,3] [y0.1,y1.1,y2.1,y3.1],k≤reachBytes:=fun k hk=>hwt k (by
  rw [show x.1= .agg [y0.1,y1.1,y2.1,y3.1] from congrArg Prod.fst hxx]
  simp only [DataW.weights,Tryz.underlying25]
  exact hk)
 obtain ⟨l0,A0,c0',e0,n0,v0,z0⟩:=zrk (fun k hk=>hwe k (DataW.weights_mem_each (j:=0) rfl rfl k hk)) g0
 obtain ⟨l1,A1,c1',e1,n1,v1,z1⟩:=zq7 (fun k hk=>hwe k (DataW.weights_mem_each (j:=1) rfl rfl k hk)) g1
 obtain ⟨k2,e2,-,-⟩:=DataW.trod_int (k:= .i64) Tryz.underlying3 g2
 obtain ⟨k3,e3,-,-⟩:=DataW.trod_int (k:= .i64) Tryz.underlying3 g3
 cases e0;cases e1;cases e2;cases e3
 exact ⟨⟨l0,l1,k2,k3⟩,A0,A1,c0',c1',rfl,n0,n1,⟨v0,v1⟩,⟨z0,z1⟩⟩
theorem z1t {r:Reach} {b0:Nat} {v:Value} {dd:DataW H} {p:List MemPlace} (hv:Value.okWide Tryz.prog w r b0 30 v) (hwt0:∀ k ∈ dd.weights Tryz.prog 30,k≤reachBytes) (h0:DataW.Trod enc Tryz.prog w base spare held 30 v dd p) :
  ∃ (c:ChG) (A:Option Addr) (k:Nat),v= .agg #[.int .i64 c.op, .int .i64 c.id, .int .i64 c.frm, .int .i64 c.to_, .string c.name, .int .i64 c.v.kind, .int .i64 c.v.n, .int .i64 c.v.d, .string c.v.s, .slice A c.v.l.length k]∧c.v.l.length≤k∧zk w (fun _=>True) A c.v.l∧SzC c:=by
 obtain ⟨csa,rfl,-⟩:=okWide_struct Tryz.underlying30 hv
 obtain ⟨fuel,hf⟩:=h0
 obtain ⟨cs,rfl⟩:∃ cs:List Value,csa=cs.toArray:=⟨csa.toList,by simp⟩
 obtain ⟨x,hx⟩:∃ x:DataW H × List MemPlace,x=(dd,p):=⟨_,rfl⟩
 rw [←hx] at hf
 have hwt:∀ k ∈ x.1.weights Tryz.prog 30,k≤reachBytes:=by rw [hx];exact hwt0
 have h:DataW.trod enc Tryz.prog w base spare held fuel 30 cs=some x:=by simpa [Value.cells] using hf
 obtain ⟨c,A,k,rfl,h1,h2,h3⟩:=zvm hwt h
 exact ⟨c,A,k,rfl,h1,h2,h3⟩
end
theorem zqz (l:List ByteArray) (ok ok':Nat→Prop) (A B:Option Addr) (c d:Nat) (w:World) (ha:zcq w ok A l) (hb:zcq w ok' B l) :
  Calls Tryz.prog 53 #[.slice A l.length c, .slice B l.length d] w fun e w'=>e= .returned (.bool true)∧Ext w w':=by
 have HA:=Lib.hid ha
 have HB:=Lib.hid hb
 have hlen:=ha.len
 clear ha hb
 go_enter Tryz.func53,Tryz.ntmps53
 have hne:((l.length:Int) != (l.length:Int))=false:=by simp
 go_wp2_with fail
 clear hne
 go_loopw [5] (fun u W => ∃ (k:Nat),u= .int .i64 k∧k≤l.length∧Ext w W) (fun u _=>l.length - (intOf u).toNat)
 case atStart=>exact ⟨0,rfl,Nat.zero_le _,Ext.refl _⟩
 case round =>
  obtain ⟨k,rfl,hk,hE⟩:=hrel
  by_cases hlt:k < l.length
  ·obtain ⟨b,o,rfl,h1⟩:=zh4 HA.out hlt
   obtain ⟨b',o',rfl,h2⟩:=zh4 HB.out hlt
   replace h1:=hE.cell h1
   replace h2:=hE.cell h2
   generalize l[k]=s at *
   have p1:(0:Int)≤(k:Int):=by omega
   have p2:(k:Int) < (l.length:Int):=by omega
   go_upto_region 6 with (fail)
   have MKR1:=Lib.hid (fun V (e:Ext wr V)=>(⟨e.cell h1,e.cell h2,e⟩:V.cell? ⟨b,o+k,none⟩=some (.string s)∧V.cell? ⟨b',o'+k,none⟩=some (.string s)∧Ext wr V))
   refine wp_region_held_drew (S:=(fun V=>V.cell? ⟨b,o+k,none⟩=some (.string s)∧V.cell? ⟨b',o'+k,none⟩=some (.string s)∧Ext wr V)) (by kernel_rfl) ?hs1 (fun hHeld=>?go1)
   case hs1=>(exact MKR1.out _ Qg)
   refine KA 0 hHeld ?_;simp only [PU]
   refine KA 1 hHeld ?_;simp only [PU]
   refine KA 2 hHeld ?_;simp only [PU]
   refine KA 3 hHeld ?_;simp only [PU]
   refine KA 4 hHeld ?_;simp only [PU]
   refine KA 5 hHeld ?_;simp only [PU]
   refine KA 6 hHeld ?_;simp only [PU]
   refine KA 7 hHeld ?_;simp only [PU]
   refine KA 8 hHeld ?_;simp only [PU]
   refine wpAnyH_done (by kernel_rfl) ?_ _
   clear hHeld
   clear MKR1
   go_wp2_with fail
   go_roundw
   case rel=>exact ⟨k+1,by go_num,by omega,hE.trans Qg⟩
   case measure=>simp [intOf];omega
  ·have p2:¬ (k:Int) < (l.length:Int):=by omega
   go_wp2_with fail
   go_ret
   exact ⟨rfl,hE⟩
theorem zh7 (l:List zaf) (ok ok':Nat→Prop) (A B:Option Addr) (c d:Nat) (w:World) (ha:zay w ok A l) (hb:zay w ok' B l) (hs:∀ p ∈ l,szV p.v) :
  Calls Tryz.prog 54 #[.slice A l.length c, .slice B l.length d] w fun e w'=>e= .returned (.bool true)∧Ext w w':=by
 have HA:=Lib.hid ha
 have HB:=Lib.hid hb
 have HS:=Lib.hid hs
 have hlen:=ha.len
 clear ha hb hs
 go_enter Tryz.func54,Tryz.ntmps54
 have hne:((l.length:Int) != (l.length:Int))=false:=by simp
 go_wp2_with fail
 clear hne
 go_loopw [5] (fun u W => ∃ (k:Nat),u= .int .i64 k∧k≤l.length∧Ext w W) (fun u _=>l.length - (intOf u).toNat)
 case atStart=>exact ⟨0,rfl,Nat.zero_le _,Ext.refl _⟩
 case round =>
  obtain ⟨k,rfl,hk,hE⟩:=hrel
  by_cases hlt:k < l.length
  ·obtain ⟨b,o,X,xc,rfl,⟨x0,x1,x2,x3,x4,x5⟩,hx⟩:=HA.out.at6 hlt
   obtain ⟨b',o',Y,yc,rfl,⟨y0,y1,y2,y3,y4,y5⟩,hy⟩:=HB.out.at6 hlt
   have hsv:=HS.out _ (List.getElem_mem hlt)
   have h0:zbw l[k].v l[k].v=0:=(zae.val.zero _ _).2 rfl
   have HOR:=Lib.hid (fun W (e:Ext wr W)=>(by
    have hh:=zwy l[k].v l[k].v ok ok' X Y xc yc W (hx.ext (hE.trans e)) (hy.ext (hE.trans e)) hsv hsv
    rw [h0] at hh
    exact hh:Calls Tryz.prog 62 #[.agg #[.int .i64 l[k].v.kind, .int .i64 l[k].v.n, .int .i64 l[k].v.d, .string l[k].v.s, .slice X l[k].v.l.length xc], .agg #[.int .i64 l[k].v.kind, .int .i64 l[k].v.n, .int .i64 l[k].v.d, .string l[k].v.s, .slice Y l[k].v.l.length yc]] W fun e w'=>e= .returned (.int .i64 0)∧Ext W w'))
   replace x0:=hE.cell x0
   replace y0:=hE.cell y0
   replace x1:=hE.cell x1
   replace y1:=hE.cell y1
   replace x2:=hE.cell x2
   replace y2:=hE.cell y2
   replace x3:=hE.cell x3
   replace y3:=hE.cell y3
   replace x4:=hE.cell x4
   replace y4:=hE.cell y4
   replace x5:=hE.cell x5
   replace y5:=hE.cell y5
   clear hx hy hsv h0
   generalize l[k].key=pk at *
   generalize l[k].v=pv at *
   have p1:(0:Int)≤(k:Int):=by omega
   have p2:(k:Int) < (l.length:Int):=by omega
   go_upto_region 6 with (fail)
   have MKR2:=Lib.hid (fun V (e:Ext wr V)=>(⟨e.cell x0,e.cell x1,e.cell x2,e.cell x3,e.cell x4,e.cell x5,e.cell y0,e.cell y1,e.cell y2,e.cell y3,e.cell y4,e.cell y5,e⟩:V.cell? ⟨b,o+k*6,none⟩=some (.string pk)∧V.cell? ⟨b,o+k*6+1,none⟩=some (.int .i64 pv.kind)∧V.cell? ⟨b,o+k*6+2,none⟩=some (.int .i64 pv.n)∧V.cell? ⟨b,o+k*6+3,none⟩=some (.int .i64 pv.d)∧V.cell? ⟨b,o+k*6+4,none⟩=some (.string pv.s)∧V.cell? ⟨b,o+k*6+5,none⟩=some (.slice X pv.l.length xc)∧V.cell? ⟨b',o'+k*6,none⟩=some (.string pk)∧V.cell? ⟨b',o'+k*6+1,none⟩=some (.int .i64 pv.kind)∧V.cell? ⟨b',o'+k*6+2,none⟩=some (.int .i64 pv.n)∧V.cell? ⟨b',o'+k*6+3,none⟩=some (.int .i64 pv.d)∧V.cell? ⟨b',o'+k*6+4,none⟩=some (.string pv.s)∧V.cell? ⟨b',o'+k*6+5,none⟩=some (.slice Y pv.l.length yc)∧Ext wr V))
   refine wp_region_held_drew (S:=(fun V=>V.cell? ⟨b,o+k*6,none⟩=some (.string pk)∧V.cell? ⟨b,o+k*6+1,none⟩=some (.int .i64 pv.kind)∧V.cell? ⟨b,o+k*6+2,none⟩=some (.int .i64 pv.n)∧V.cell? ⟨b,o+k*6+3,none⟩=some (.int .i64 pv.d)∧V.cell? ⟨b,o+k*6+4,none⟩=some (.string pv.s)∧V.cell? ⟨b,o+k*6+5,none⟩=some (.slice X pv.l.length xc)∧V.cell? ⟨b',o'+k*6,none⟩=some (.string pk)∧V.cell? ⟨b',o'+k*6+1,none⟩=some (.int .i64 pv.kind)∧V.cell? ⟨b',o'+k*6+2,none⟩=some (.int .i64 pv.n)∧V.cell? ⟨b',o'+k*6+3,none⟩=some (.int .i64 pv.d)∧V.cell? ⟨b',o'+k*6+4,none⟩=some (.string pv.s)∧V.cell? ⟨b',o'+k*6+5,none⟩=some (.slice Y pv.l.length yc)∧Ext wr V)) (by kernel_rfl) ?hs11 (fun hHeld=>?go11)
   case hs11=>(exact MKR2.out _ Qg)
   refine KA 0 hHeld ?_;simp only [PU]
   refine KA 1 hHeld ?_;simp only [PU]
   refine KA 2 hHeld ?_;simp only [PU]
   refine KA 3 hHeld ?_;simp only [PU]
   refine KA 4 hHeld ?_;simp only [PU]
   refine KA 5 hHeld ?_;simp only [PU]
   refine KA 6 hHeld ?_;simp only [PU]
   refine KA 7 hHeld ?_;simp only [PU]
   refine KA 8 hHeld ?_;simp only [PU]
   refine KA 9 hHeld ?_;simp only [PU]
   refine KA 10 hHeld ?_;simp only [PU]
   refine KA 11 hHeld ?_;simp only [PU]
   refine KA 12 hHeld ?_;simp only [PU]
   refine KA 13 hHeld ?_;simp only [PU]
   refine KA 14 hHeld ?_;simp only [PU]
   refine KA 15 hHeld ?_;simp only [PU]
   refine KA 16 hHeld ?_;simp only [PU]
   refine KA 17 hHeld ?_;simp only [PU]
   refine KA 18 hHeld ?_;simp only [PU]
   refine KA 19 hHeld ?_;simp only [PU]
   refine KA 20 hHeld ?_;simp only [PU]
   refine KA 21 hHeld ?_;simp only [PU]
   refine wpAnyH_ready (rs:=[22]) (by kernel_rfl) (by simp) ?_
   refine AllReadyH.cons (o:=⟨_,_,_,_,_,_⟩) rfl (fun K hK=>?step34x0) ?more34x0
   case more34x0=>exact AllReadyH.nil
   go_simp
   ((go_at_call 62;((with_reducible refine (HOR.out _ Qg).mono ?_);rintro e w7 ⟨rfl,hx7⟩;have hE7:Ext wr w7:=Ext.trans Qg hx7)))
   refine hK.out _ _ ?hS34x0 (fun H34=>?_)
   case hS34x0=>first|(exact MKR2.out _ Qg)|((try dsimp only);(exact MKR2.out _ Qg))
   clear hK K
   clear hHeld
   (try simp only [PU])
   refine KA 23 H34 ?_;simp only [PU]
   refine KA 24 H34 ?_;simp only [PU]
   refine wpAnyH_done (by kernel_rfl) ?_ _
   clear H34
   clear MKR2
   go_wp2_with fail
   go_roundw
   case rel=>exact ⟨k+1,by go_num,by omega,hE.trans (hE7.trans Qg)⟩
   case measure=>simp [intOf];omega
  ·have p2:¬ (k:Int) < (l.length:Int):=by omega
   go_wp2_with fail
   go_ret
   exact ⟨rfl,hE⟩
end Go.Proofs.YtfhekbacigoblaaGreatDoor
