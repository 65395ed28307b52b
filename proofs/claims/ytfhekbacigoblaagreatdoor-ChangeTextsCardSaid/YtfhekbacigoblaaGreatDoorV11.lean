import Derived.Test.YtfhekbacigoblaaGreatDoorV10
import Derived.Test.YtfhekbacigoblaaGreatDoorV01
import Derived.Test.YtfhekbacigoblaaGreatDoorV04
namespace Go.Proofs.YtfhekbacigoblaaGreatDoor
set_option maxRecDepth 100000
set_option maxHeartbeats 6400000
open Go.RowKit
theorem zf5.at_ {w:World} {ok:Nat→Prop} {A:Option Addr} {l:List zb} (h:zf5 w ok A l) {i:Nat} (hi:i < l.length):∃ b o,A=some ⟨b,o,none⟩∧∀ k,k < l.length→zd4 w ok b (o+k*3) l[k]! := by
 obtain ⟨b,o,hA,hc⟩:=h.2 Qk
 exact ⟨b,o,hA,fun k hk=>by rw [getElem!_pos l k hk];exact hc k hk⟩
theorem zgt.at_ {w:World} {ok:Nat→Prop} {A:Option Addr} {l:List zf} (h:zgt w ok A l) {i:Nat} (hi:i < l.length):∃ b o,A=some ⟨b,o,none⟩∧∀ k,k < l.length→zd2 w ok b (o+k*5) l[k]! := by
 obtain ⟨b,o,hA,hc⟩:=h.2 Qk
 exact ⟨b,o,hA,fun k hk=>by rw [getElem!_pos l k hk];exact hc k hk⟩
theorem zpb (w:World) (n:Int) (A B:Option Addr) (na c nb d:Nat) (t:TypeId):∃ (q:Nat) (w1:World),q=w.heap.size∧w1=w.alloc (.cells #[.int .i64 n, .slice A na c, .slice B nb d] t)∧w1.cell? ⟨q,0,none⟩=some (.int .i64 n)∧w1.cell? ⟨q,1,none⟩=some (.slice A na c)∧w1.cell? ⟨q,2,none⟩=some (.slice B nb d)∧Ext w w1 :=
 ⟨_,_,rfl,rfl,by go_simp,by go_simp,by go_simp,(Ext.refl _).alloc _⟩
theorem zis (w:World) (e:zf) (B:Option Addr) (d:Nat) (t:TypeId):∃ (q:Nat) (w1:World),q=w.heap.size∧w1=w.alloc (.cells #[.int .i64 e.id, .int .i64 e.frm, .int .i64 e.to_, .string e.typ, .slice B e.props.length d] t)∧w1.cell? ⟨q,0,none⟩=some (.int .i64 e.id)∧w1.cell? ⟨q,1,none⟩=some (.int .i64 e.frm)∧w1.cell? ⟨q,2,none⟩=some (.int .i64 e.to_)∧w1.cell? ⟨q,3,none⟩=some (.string e.typ)∧w1.cell? ⟨q,4,none⟩=some (.slice B e.props.length d)∧Ext w w1 :=
 ⟨_,_,rfl,rfl,by go_simp,by go_simp,by go_simp,by go_simp,by go_simp,(Ext.refl _).alloc _⟩
theorem zqt {g:za} {i:Nat} (h:0 < i) (h2:g.nodes[i]!.id≤g.nodes[i - 1]!.id):ze3 g i=26:=by unfold ze3;rw [if_pos ⟨h,h2⟩]
theorem zth {g:za} {i:Nat} (h:0 < i→g.nodes[i - 1]!.id < g.nodes[i]!.id) (h2:g.nodes[i]!.id < 1∨g.nn≤g.nodes[i]!.id):ze3 g i=1:=by
 unfold ze3;rw [if_neg (fun hh=>by have:=h hh.1;omega),if_pos h2]
theorem zsi {g:za} {i:Nat} (h:0 < i→g.nodes[i - 1]!.id < g.nodes[i]!.id) (h2:1≤g.nodes[i]!.id) (h3:g.nodes[i]!.id < g.nn):ze3 g i=zcf g.nodes[i]!.labels g.nodes[i]!.props:=by
 unfold ze3;rw [if_neg (fun hh=>by have:=h hh.1;omega),if_neg Qk]
theorem zqu {g:za} {i:Nat} (h:0 < i) (h2:g.edges[i]!.id≤g.edges[i - 1]!.id):zfg g i=26:=by unfold zfg;rw [if_pos ⟨h,h2⟩]
theorem zsr {g:za} {i:Nat} (h:0 < i→g.edges[i - 1]!.id < g.edges[i]!.id) (h2:g.edges[i]!.id < 1∨g.ne≤g.edges[i]!.id):zfg g i=1:=by
 unfold zfg;rw [if_neg (fun hh=>by have:=h hh.1;omega),if_pos h2]
theorem ztd {g:za} {i:Nat} (h:0 < i→g.edges[i - 1]!.id < g.edges[i]!.id) (h2:1≤g.edges[i]!.id) (h3:g.edges[i]!.id < g.ne):zfg g i=if zav g.nodes g.edges[i]!.frm && zav g.nodes g.edges[i]!.to_ then (if zbk g.edges[i]!.typ then zcf [] g.edges[i]!.props else 6) else 10:=by
 unfold zfg;rw [if_neg (fun hh=>by have:=h hh.1;omega),if_neg Qk]
theorem znk {g:za} (h:zeg g ≠ 0):zdo g=zeg g:=by unfold zdo;rw [if_neg h]
theorem zsd {g:za} (h:zeg g=0) {z:Int} (hz:zfm g=z) (h2:z ≠ 0):zdo g=z:=by unfold zdo;rw [if_pos h,if_neg (by rw [hz];exact h2),hz]
theorem zls {g:za} (h:zeg g=0) (h2:zfm g=0) {z:Int} (hz:zi6 g=z):zdo g=z:=by unfold zdo;rw [if_pos h,if_pos h2,hz]
theorem zvc (P:List zaf) (ok:Nat→Prop) (B:Option Addr) (d:Nat) (w:World) (hp:zay w ok B P) :
  Calls Tryz.prog 44 #[.slice none 0 0, .slice B P.length d] w fun e w'=>e= .returned (.int .i64 (zcf [] P))∧Ext w w' :=
 zqn [] P ok ok none B 0 d w (zo.nil _ _ _) hp
theorem zqj (g:za) (ok:Nat→Prop) (A B:Option Addr) (c d:Nat) (w:World) (hg:zp w ok A B g) :
  Calls Tryz.prog 17 #[.agg #[.slice A g.nodes.length c, .slice B g.edges.length d, .int .i64 g.nn, .int .i64 g.ne]] w fun e w'=>e= .returned (.int .i64 (zdo g))∧Ext w w':=by
 have hm:=hg.nodes.len
 have hm2:=hg.edges.len
 obtain ⟨q,w1,hq,hw1,g0,g1,g2,g3,hx1⟩:=zum w A B c d g 25
 have HW1:=Lib.hid hw1
 have HG:=Lib.hid hq
 have HGA:=Lib.hid (hg.ext hx1)
 clear hw1 hq hg
 by_cases h1:2000 < g.nodes.length∨4000 < g.edges.length
 ·have HR:=Lib.hid (show zdo g=4 by have:zeg g=4:=(by unfold zeg;rw [if_pos h1]);rw [znk Qk,this])
  rcases h1 with h1|h1
  all_goals
   go_enter Tryz.func17,Tryz.ntmps17
   go_upto_region 1 with (fail)
   rw [←HW1.out,←HG.out]
   clear HW1 HG
   go_wp2_with fail
   all_goals
    go_ret
    exact ⟨zm HR.out.symm,hx1.trans Qg⟩
 ·have a1:g.nodes.length≤2000:=by omega
  have a2:g.edges.length≤4000:=by omega
  by_cases h2:g.nn < 1∨1000001 < g.nn∨g.ne < 1∨1000001 < g.ne
  ·have HR:=Lib.hid (show zdo g=1 by have:zeg g=1:=(by unfold zeg;rw [if_neg h1,if_pos h2]);rw [znk Qk,this])
   clear h1
   rcases h2 with h2|h2|h2|h2
   all_goals
    go_enter Tryz.func17,Tryz.ntmps17
    go_upto_region 1 with (fail)
    rw [←HW1.out,←HG.out]
    clear HW1 HG
    go_wp2_with fail
    all_goals
     go_ret
     exact ⟨zm HR.out.symm,hx1.trans Qg⟩
  ·have HH:=Lib.hid (show zeg g=0 by unfold zeg;rw [if_neg h1,if_neg h2])
   have b1:1≤g.nn:=by omega
   have b2:g.nn≤1000001:=by omega
   have b3:1≤g.ne:=by omega
   have b4:g.ne≤1000001:=by omega
   clear h1 h2
   go_enter Tryz.func17,Tryz.ntmps17
   go_upto_region 1 with (fail)
   rw [←HW1.out,←HG.out]
   clear HW1 HG
   go_wp2_with fail
   go_loopw [40] (fun u W => ∃ k:Nat,u= .int .i64 k∧k≤g.nodes.length∧Hid (∀ t,t < k→ze3 g t=0)∧Ext w1 W) (fun u _=>g.nodes.length - (intOf u).toNat)
   case atStart=>exact ⟨0,rfl,Nat.zero_le _,Lib.hid (fun t ht=>absurd ht Qk),Qg⟩
   case round =>
    obtain ⟨k,rfl,hk,hgd,hEr⟩:=hrel
    have g0':=hEr.cell g0
    have g1':=hEr.cell g1
    have g2':=hEr.cell g2
    have g3':=hEr.cell g3
    by_cases hlt:k < g.nodes.length
    ·obtain ⟨b,o,rfl,hc⟩:=HGA.out.nodes.at_ hlt
     obtain ⟨-,d0,A',c',B',d',d1,-,hS,d2,-,hP⟩:=hc k hlt
     replace d0:=hEr.cell d0
     replace d1:=hEr.cell d1
     replace d2:=hEr.cell d2
     obtain ⟨q2,w2,hq2,hw2,n0,n1,n2,hx2⟩:=zpb wr g.nodes[k]!.id A' B' g.nodes[k]!.labels.length c' g.nodes[k]!.props.length d' 57
     have HP:=Lib.hid (fun W (e:Ext w2 W)=>zqn g.nodes[k]!.labels g.nodes[k]!.props ok ok A' B' c' d' W (hS.ext ((hEr.trans hx2).trans e)) (hP.ext ((hEr.trans hx2).trans e)))
     have hpv:0 < k→w2.cell? ⟨b,o+(k - 1)*3,none⟩=some (.int .i64 g.nodes[k - 1]!.id):=fun h=>by
      obtain ⟨-,e0,-⟩:=hc (k - 1) Qk
      exact hx2.cell (hEr.cell e0)
     have G0:=hx2.cell g0'
     have G1:=hx2.cell g1'
     have G2:=hx2.cell g2'
     have G3:=hx2.cell g3'
     have HS:=Lib.hid (fun (h:ze3 g k=0) t (ht:t < k+1)=>(if e:t=k then (by rw [e];exact h) else hgd.out t Qk:ze3 g t=0))
     have HX:=Lib.hid (fun (h:ze3 g k ≠ 0)=>zsd HH.out (zjn hgd.out h hlt) h)
     obtain ⟨E,hE⟩:∃ E,E=ze3 g k:=⟨_,rfl⟩
     rw [←hE] at HS HX
     have HW2:=Lib.hid hw2
     have HQ2:=Lib.hid hq2
     clear hc hgd hw2 hq2 hP hS
     rcases Nat.eq_zero_or_pos k with hz|hz
     ·subst hz
      clear hpv
      rw [Nat.zero_mul,Nat.add_zero] at d0 d1 d2
      have HE1:=Lib.hid (fun h=>zth (g:=g) (i:=0) (fun h=>absurd h (Nat.lt_irrefl _)) h)
      have HEP:=Lib.hid (fun h1 h2=>zsi (g:=g) (i:=0) (fun h=>absurd h (Nat.lt_irrefl _)) h1 h2)
      rw [←hE] at HE1 HEP
      clear hE
      generalize g.nodes[0]! = x at *
      generalize zcf x.labels x.props=z at *
      go_upto_region 8 with (fail)
      rw [←HW2.out,←HQ2.out]
      clear HW2 HQ2 g0' g1' g2' g3'
      have MKR1:=Lib.hid (fun V (e:Ext w2 V)=>(e:Ext w2 V))
      refine wp_region_held_drew (S:=(fun V=>Ext w2 V)) (by kernel_rfl) ?hs1 (fun hHeld=>?go1)
      case hs1=>(exact MKR1.out _ Qg)
      refine KA 0 hHeld ?_;simp only [PU]
      refine KA 1 hHeld ?_;simp only [PU]
      refine KA 2 hHeld ?_;simp only [PU]
      refine TN 3 hHeld ?_
      (try simp only [PU])
      refine TN 4 hHeld ?_
      (try simp only [PU])
      refine TN 5 hHeld ?_
      (try simp only [PU])
      refine TN 6 hHeld ?_
      (try simp only [PU])
      refine TN 7 hHeld ?_
      (try simp only [PU])
      refine TN 8 hHeld ?_
      (try simp only [PU])
      refine TN 9 hHeld ?_
      (try simp only [PU])
      refine TN 10 hHeld ?_
      (try simp only [PU])
      refine TN 11 hHeld ?_
      (try simp only [PU])
      refine TN 12 hHeld ?_
      (try simp only [PU])
      refine KA 13 hHeld ?_;simp only [PU]
      refine wpAnyH_done (by kernel_rfl) ?_ _
      clear hHeld
      clear MKR1
      have gE:Ext w2 w2.drew:=(Ext.refl _).drew
      have j0:=gE.cell n0
      have j1:=gE.cell n1
      have j2:=gE.cell n2
      have k0:=gE.cell G0
      have k1:=gE.cell G1
      have k2:=gE.cell G2
      have k3:=gE.cell G3
      by_cases h1:x.id < 1
      ·have HT:=Lib.hid (HX.out (by rw [HE1.out (.inl h1)];decide))
       rw [HE1.out (.inl h1)] at HT
       go_wp2_with fail
       go_ret
       exact ⟨zm HT.out.symm,(hx1.trans (hEr.trans (hx2.trans Qg)))⟩
      ·by_cases h2:g.nn≤x.id
       ·have HT:=Lib.hid (HX.out (by rw [HE1.out (.inr h2)];decide))
        rw [HE1.out (.inr h2)] at HT
        go_wp2_with fail
        go_ret
        exact ⟨zm HT.out.symm,(hx1.trans (hEr.trans (hx2.trans Qg)))⟩
       ·have HZ:=Lib.hid (HEP.out Qk Qk)
        clear HE1 HEP
        rw [HZ.out] at HS HX
        by_cases he:z=0
        ·have HT:=Lib.hid (HS.out he)
         have he2:(z != 0)=false:=by rw [he];rfl
         clear HS HX HZ he
         go_wp2_with (go_at_call 44;((with_reducible refine (HP.out _ Qg).mono ?_);rintro e w8 ⟨rfl,hx8⟩;replace hx8:Ext w2 w8:=Ext.trans Qg hx8))
         go_roundw
         case rel=>exact ⟨0+1,rfl,by omega,HT,hEr.trans (hx2.trans hx8)⟩
         case measure=>simp [intOf];omega
        ·have HT:=Lib.hid (HX.out he)
         have he2:(z != 0)=true:=bne_iff_ne.2 he
         clear HS HX he
         go_wp2_with (go_at_call 44;((with_reducible refine (HP.out _ Qg).mono ?_);rintro e w8 ⟨rfl,hx8⟩;replace hx8:Ext w2 w8:=Ext.trans Qg hx8))
         go_ret
         exact ⟨zm HT.out.symm,hx1.trans (hEr.trans (hx2.trans hx8))⟩
     ·replace hpv:=hpv hz
      by_cases hlo:g.nodes[k - 1]!.id < g.nodes[k]!.id
      ·have HE1:=Lib.hid (fun h=>zth (g:=g) (i:=k) (fun _=>hlo) h)
       have HEP:=Lib.hid (fun h1 h2=>zsi (g:=g) (i:=k) (fun _=>hlo) h1 h2)
       rw [←hE] at HE1 HEP
       clear hE
       generalize g.nodes[k]! = x at *
       generalize g.nodes[k - 1]! = y at *
       generalize zcf x.labels x.props=z at *
       have ho:¬x.id≤y.id:=by omega
       clear hlo
       go_upto_region 8 with (fail)
       rw [←HW2.out,←HQ2.out]
       clear HW2 HQ2 g0' g1' g2' g3'
       have p0:0 < k:=by omega
       have p1:(1:Int)≤(k:Int):=by omega
       have p2:((k:Int) - 1).toNat=k - 1:=by omega
       have p5:IntKind.i64.wrap ((k:Int) - 1)=(k:Int) - 1:=IntWalk.i64_in _ Qk
       have p6:((k:Int) - 1) < (g.nodes.length:Int):=by omega
       have MKR2:=Lib.hid (fun V (e:Ext w2 V)=>(⟨e.cell G0,e.cell n0,e.cell hpv,e⟩:V.cell? ⟨q,0,none⟩=some (.slice (some ⟨b,o,none⟩) g.nodes.length c)∧V.cell? ⟨q2,0,none⟩=some (.int .i64 x.id)∧V.cell? ⟨b,o+(k - 1)*3,none⟩=some (.int .i64 y.id)∧Ext w2 V))
       refine wp_region_held_drew (S:=(fun V=>V.cell? ⟨q,0,none⟩=some (.slice (some ⟨b,o,none⟩) g.nodes.length c)∧V.cell? ⟨q2,0,none⟩=some (.int .i64 x.id)∧V.cell? ⟨b,o+(k - 1)*3,none⟩=some (.int .i64 y.id)∧Ext w2 V)) (by kernel_rfl) ?hs16 (fun hHeld=>?go16)
       case hs16=>(exact MKR2.out _ Qg)
       refine KA 0 hHeld ?_;simp only [PU]
       refine KA 1 hHeld ?_;simp only [PU]
       refine KA 2 hHeld ?_;simp only [PU]
       refine KA 3 hHeld ?_;simp only [PU]
       refine KA 4 hHeld ?_;simp only [PU]
       refine KA 5 hHeld ?_;simp only [PU]
       refine KA 6 hHeld ?_;simp only [PU]
       refine KA 7 hHeld ?_;simp only [PU]
       refine KA 8 hHeld ?_;simp only [PU]
       refine KA 9 hHeld ?_;simp only [PU]
       refine KA 10 hHeld ?_;simp only [PU]
       refine KA 11 hHeld ?_;simp only [PU]
       refine KA 12 hHeld ?_;simp only [PU]
       refine KA 13 hHeld ?_;simp only [PU]
       refine wpAnyH_done (by kernel_rfl) ?_ _
       clear hHeld
       clear MKR2
       clear p0 p1 p2 p5 p6 ho hpv
       have gE:Ext w2 w2.drew:=(Ext.refl _).drew
       have j0:=gE.cell n0
       have j1:=gE.cell n1
       have j2:=gE.cell n2
       have k0:=gE.cell G0
       have k1:=gE.cell G1
       have k2:=gE.cell G2
       have k3:=gE.cell G3
       by_cases h1:x.id < 1
       ·have HT:=Lib.hid (HX.out (by rw [HE1.out (.inl h1)];decide))
        rw [HE1.out (.inl h1)] at HT
        go_wp2_with fail
        go_ret
        exact ⟨zm HT.out.symm,(hx1.trans (hEr.trans (hx2.trans Qg)))⟩
       ·by_cases h2:g.nn≤x.id
        ·have HT:=Lib.hid (HX.out (by rw [HE1.out (.inr h2)];decide))
         rw [HE1.out (.inr h2)] at HT
         go_wp2_with fail
         go_ret
         exact ⟨zm HT.out.symm,(hx1.trans (hEr.trans (hx2.trans Qg)))⟩
        ·have HZ:=Lib.hid (HEP.out Qk Qk)
         clear HE1 HEP
         rw [HZ.out] at HS HX
         by_cases he:z=0
         ·have HT:=Lib.hid (HS.out he)
          have he2:(z != 0)=false:=by rw [he];rfl
          clear HS HX HZ he
          go_wp2_with (go_at_call 44;((with_reducible refine (HP.out _ Qg).mono ?_);rintro e w8 ⟨rfl,hx8⟩;replace hx8:Ext w2 w8:=Ext.trans Qg hx8))
          go_roundw
          case rel=>exact ⟨k+1,by go_num,by omega,HT,hEr.trans (hx2.trans hx8)⟩
          case measure=>simp [intOf];omega
         ·have HT:=Lib.hid (HX.out he)
          have he2:(z != 0)=true:=bne_iff_ne.2 he
          clear HS HX he
          go_wp2_with (go_at_call 44;((with_reducible refine (HP.out _ Qg).mono ?_);rintro e w8 ⟨rfl,hx8⟩;replace hx8:Ext w2 w8:=Ext.trans Qg hx8))
          go_ret
          exact ⟨zm HT.out.symm,hx1.trans (hEr.trans (hx2.trans hx8))⟩
      ·have HT:=Lib.hid (HX.out (by rw [hE,zqt hz Qk];decide))
       rw [hE,zqt hz Qk] at HT
       clear hE HS HX HP
       generalize g.nodes[k]! = x at *
       generalize g.nodes[k - 1]! = y at *
       have ho:x.id≤y.id:=by omega
       clear hlo
       go_upto_region 8 with (fail)
       rw [←HW2.out,←HQ2.out]
       clear HW2 HQ2 g0' g1' g2' g3'
       have p0:0 < k:=by omega
       have p1:(1:Int)≤(k:Int):=by omega
       have p2:((k:Int) - 1).toNat=k - 1:=by omega
       have p5:IntKind.i64.wrap ((k:Int) - 1)=(k:Int) - 1:=IntWalk.i64_in _ Qk
       have p6:((k:Int) - 1) < (g.nodes.length:Int):=by omega
       have MKR3:=Lib.hid (fun V (e:Ext w2 V)=>(⟨e.cell G0,e.cell n0,e.cell hpv,e⟩:V.cell? ⟨q,0,none⟩=some (.slice (some ⟨b,o,none⟩) g.nodes.length c)∧V.cell? ⟨q2,0,none⟩=some (.int .i64 x.id)∧V.cell? ⟨b,o+(k - 1)*3,none⟩=some (.int .i64 y.id)∧Ext w2 V))
       refine wp_region_held_drew (S:=(fun V=>V.cell? ⟨q,0,none⟩=some (.slice (some ⟨b,o,none⟩) g.nodes.length c)∧V.cell? ⟨q2,0,none⟩=some (.int .i64 x.id)∧V.cell? ⟨b,o+(k - 1)*3,none⟩=some (.int .i64 y.id)∧Ext w2 V)) (by kernel_rfl) ?hs31 (fun hHeld=>?go31)
       case hs31=>(exact MKR3.out _ Qg)
       refine KA 0 hHeld ?_;simp only [PU]
       refine KA 1 hHeld ?_;simp only [PU]
       refine KA 2 hHeld ?_;simp only [PU]
       refine KA 3 hHeld ?_;simp only [PU]
       refine KA 4 hHeld ?_;simp only [PU]
       refine KA 5 hHeld ?_;simp only [PU]
       refine KA 6 hHeld ?_;simp only [PU]
       refine KA 7 hHeld ?_;simp only [PU]
       refine KA 8 hHeld ?_;simp only [PU]
       refine KA 9 hHeld ?_;simp only [PU]
       refine KA 10 hHeld ?_;simp only [PU]
       refine KA 11 hHeld ?_;simp only [PU]
       refine KA 12 hHeld ?_;simp only [PU]
       refine KA 13 hHeld ?_;simp only [PU]
       refine wpAnyH_done (by kernel_rfl) ?_ _
       clear hHeld
       clear MKR3
       go_wp2_with fail
       go_ret
       exact ⟨zm HT.out.symm,(hx1.trans (hEr.trans (hx2.trans Qg)))⟩
    ·have HNZ:=Lib.hid (show zfm g=0 from zdj (fun t ht=>hgd.out t Qk))
     have HST:=Lib.hid (fun (i j:Nat) (hij:i < j) (hj:j < g.nodes.length)=>zwh HNZ.out hij hj)
     have hE0:=hEr
     clear hgd hEr
     go_wp2_with fail
     clear g0' g1' g2' g3'
     go_loopw [81] (fun u W => ∃ k:Nat,u= .int .i64 k∧k≤g.edges.length∧Hid (∀ t,t < k→zfg g t=0)∧Ext w1 W) (fun u _=>g.edges.length - (intOf u).toNat)
     case atStart=>exact ⟨0,rfl,Nat.zero_le _,Lib.hid (fun t ht=>absurd ht Qk),hE0⟩
     case round =>
      clear hE0
      obtain ⟨k,rfl,hk,hgd,hEr⟩:=hrel
      have g0':=hEr.cell g0
      have g1':=hEr.cell g1
      have g2':=hEr.cell g2
      have g3':=hEr.cell g3
      by_cases hlt:k < g.edges.length
      ·obtain ⟨b,o,rfl,hc⟩:=HGA.out.edges.at_ hlt
       obtain ⟨-,d0,d1,d2,d3,B',d',d4,-,hP⟩:=hc k hlt
       replace d0:=hEr.cell d0
       replace d1:=hEr.cell d1
       replace d2:=hEr.cell d2
       replace d3:=hEr.cell d3
       replace d4:=hEr.cell d4
       obtain ⟨q2,w2,hq2,hw2,n0,n1,n2,n3,n4,hx2⟩:=zis wr g.edges[k]! B' d' 59
       have HP:=Lib.hid (fun W (e:Ext w2 W)=>zvc g.edges[k]!.props ok B' d' W (hP.ext ((hEr.trans hx2).trans e)))
       have HN1:=Lib.hid (fun W (e:Ext w2 W)=>zx3 g.nodes ok A c g.edges[k]!.frm W (HGA.out.nodes.ext ((hEr.trans hx2).trans e)) HST.out)
       have HN2:=Lib.hid (fun W (e:Ext w2 W)=>zx3 g.nodes ok A c g.edges[k]!.to_ W (HGA.out.nodes.ext ((hEr.trans hx2).trans e)) HST.out)
       have HNM:=Lib.hid (fun W=>zbm g.edges[k]!.typ W)
       have hpv:0 < k→w2.cell? ⟨b,o+(k - 1)*5,none⟩=some (.int .i64 g.edges[k - 1]!.id):=fun h=>by
        obtain ⟨-,e0,-⟩:=hc (k - 1) Qk
        exact hx2.cell (hEr.cell e0)
       have G0:=hx2.cell g0'
       have G1:=hx2.cell g1'
       have G2:=hx2.cell g2'
       have G3:=hx2.cell g3'
       have HS:=Lib.hid (fun (h:zfg g k=0) t (ht:t < k+1)=>(if e:t=k then (by rw [e];exact h) else hgd.out t Qk:zfg g t=0))
       have HX:=Lib.hid (fun (h:zfg g k ≠ 0)=>zls HH.out HNZ.out (zjn hgd.out h hlt))
       obtain ⟨E,hE⟩:∃ E,E=zfg g k:=⟨_,rfl⟩
       rw [←hE] at HS HX
       have HW2:=Lib.hid hw2
       have HQ2:=Lib.hid hq2
       clear hc hgd hw2 hq2 hP
       rcases Nat.eq_zero_or_pos k with hz|hz
       ·subst hz
        clear hpv
        rw [Nat.zero_mul,Nat.add_zero] at d0 d1 d2 d3 d4
        have HE1:=Lib.hid (fun h=>zsr (g:=g) (i:=0) (fun h=>absurd h (Nat.lt_irrefl _)) h)
        have HEP:=Lib.hid (fun h1 h2=>ztd (g:=g) (i:=0) (fun h=>absurd h (Nat.lt_irrefl _)) h1 h2)
        rw [←hE] at HE1 HEP
        clear hE
        generalize g.edges[0]! = x at *
        generalize zcf [] x.props=z at *
        generalize zav g.nodes x.frm=b1 at *
        generalize zav g.nodes x.to_=b2 at *
        generalize zbk x.typ=b3 at *
        go_upto_region 19 with (fail)
        rw [←HW2.out,←HQ2.out]
        clear HW2 HQ2 g0' g1' g2' g3'
        have MKR4:=Lib.hid (fun V (e:Ext w2 V)=>(e:Ext w2 V))
        refine wp_region_held_drew (S:=(fun V=>Ext w2 V)) (by kernel_rfl) ?hs46 (fun hHeld=>?go46)
        case hs46=>(exact MKR4.out _ Qg)
        refine KA 0 hHeld ?_;simp only [PU]
        refine KA 1 hHeld ?_;simp only [PU]
        refine KA 2 hHeld ?_;simp only [PU]
        refine TN 3 hHeld ?_
        (try simp only [PU])
        refine TN 4 hHeld ?_
        (try simp only [PU])
        refine TN 5 hHeld ?_
        (try simp only [PU])
        refine TN 6 hHeld ?_
        (try simp only [PU])
        refine TN 7 hHeld ?_
        (try simp only [PU])
        refine TN 8 hHeld ?_
        (try simp only [PU])
        refine TN 9 hHeld ?_
        (try simp only [PU])
        refine TN 10 hHeld ?_
        (try simp only [PU])
        refine TN 11 hHeld ?_
        (try simp only [PU])
        refine TN 12 hHeld ?_
        (try simp only [PU])
        refine KA 13 hHeld ?_;simp only [PU]
        refine wpAnyH_done (by kernel_rfl) ?_ _
        clear hHeld
        clear MKR4
        have gE:Ext w2 w2.drew:=(Ext.refl _).drew
        have j0:=gE.cell n0
        have j1:=gE.cell n1
        have j2:=gE.cell n2
        have j3:=gE.cell n3
        have j4:=gE.cell n4
        have k0:=gE.cell G0
        have k1:=gE.cell G1
        have k2:=gE.cell G2
        have k3:=gE.cell G3
        by_cases h1:x.id < 1
        ·have HT:=Lib.hid (HX.out (by rw [HE1.out (.inl h1)];decide))
         rw [HE1.out (.inl h1)] at HT
         go_wp2_with fail
         go_ret
         exact ⟨zm HT.out.symm,(hx1.trans (hEr.trans (hx2.trans Qg)))⟩
        ·by_cases h2:g.ne≤x.id
         ·have HT:=Lib.hid (HX.out (by rw [HE1.out (.inr h2)];decide))
          rw [HE1.out (.inr h2)] at HT
          go_wp2_with fail
          go_ret
          exact ⟨zm HT.out.symm,(hx1.trans (hEr.trans (hx2.trans Qg)))⟩
         ·have HZ:=Lib.hid (HEP.out Qk Qk)
          clear HE1 HEP
          cases b1
          ·have HT:=Lib.hid (HX.out (by rw [HZ.out];simp))
           rw [HZ.out] at HT
           go_wp2_with (go_at_call 45;((with_reducible refine (HN1.out _ Qg).mono ?_);rintro e v1 ⟨rfl,gx1⟩;replace gx1:Ext w2 v1:=Ext.trans Qg gx1;have m0:=gx1.cell G0;have r0:=gx1.cell n0;have r1:=gx1.cell n1;have r2:=gx1.cell n2;have r3:=gx1.cell n3;have r4:=gx1.cell n4))
           go_ret
           exact ⟨zm HT.out.symm,hx1.trans (hEr.trans (hx2.trans gx1))⟩
          ·cases b2
           ·have HT:=Lib.hid (HX.out (by rw [HZ.out];simp))
            rw [HZ.out] at HT
            go_wp2_with (first|(go_at_call 45;((with_reducible refine (HN1.out _ Qg).mono ?_);rintro e v1 ⟨rfl,gx1⟩;replace gx1:Ext w2 v1:=Ext.trans Qg gx1;have m0:=gx1.cell G0;have r0:=gx1.cell n0;have r1:=gx1.cell n1;have r2:=gx1.cell n2;have r3:=gx1.cell n3;have r4:=gx1.cell n4))|(go_at_call 45;((with_reducible refine (HN2.out _ gx1).mono ?_);rintro e v2 ⟨rfl,gx2⟩;replace gx2:Ext w2 v2:=gx1.trans gx2;have l3:=gx2.cell n3;have l4:=gx2.cell n4)))
            go_ret
            exact ⟨zm HT.out.symm,hx1.trans (hEr.trans (hx2.trans gx2))⟩
           ·cases b3
            ·have HT:=Lib.hid (HX.out (by rw [HZ.out];simp))
             rw [HZ.out] at HT
             go_wp2_with (first|(go_at_call 45;((with_reducible refine (HN1.out _ Qg).mono ?_);rintro e v1 ⟨rfl,gx1⟩;replace gx1:Ext w2 v1:=Ext.trans Qg gx1;have m0:=gx1.cell G0;have r0:=gx1.cell n0;have r1:=gx1.cell n1;have r2:=gx1.cell n2;have r3:=gx1.cell n3;have r4:=gx1.cell n4))|(go_at_call 45;((with_reducible refine (HN2.out _ gx1).mono ?_);rintro e v2 ⟨rfl,gx2⟩;replace gx2:Ext w2 v2:=gx1.trans gx2;have l3:=gx2.cell n3;have l4:=gx2.cell n4))|(go_at_call 35;((with_reducible refine (HNM.out _).mono ?_);rintro e v3 ⟨rfl,rfl⟩)))
             go_ret
             exact ⟨zm HT.out.symm,hx1.trans (hEr.trans (hx2.trans gx2))⟩
            ·rw [show E=z from HZ.out] at HS HX
             by_cases he:z=0
             ·have HT:=Lib.hid (HS.out he)
              have he2:(z != 0)=false:=by rw [he];rfl
              clear HS HX HZ he
              go_wp2_with (first|(go_at_call 45;((with_reducible refine (HN1.out _ Qg).mono ?_);rintro e v1 ⟨rfl,gx1⟩;replace gx1:Ext w2 v1:=Ext.trans Qg gx1;have m0:=gx1.cell G0;have r0:=gx1.cell n0;have r1:=gx1.cell n1;have r2:=gx1.cell n2;have r3:=gx1.cell n3;have r4:=gx1.cell n4))|(go_at_call 45;((with_reducible refine (HN2.out _ gx1).mono ?_);rintro e v2 ⟨rfl,gx2⟩;replace gx2:Ext w2 v2:=gx1.trans gx2;have l3:=gx2.cell n3;have l4:=gx2.cell n4))|(go_at_call 35;((with_reducible refine (HNM.out _).mono ?_);rintro e v3 ⟨rfl,rfl⟩))|(go_at_call 44;((with_reducible refine (HP.out _ Qg).mono ?_);rintro e w8 ⟨rfl,hx8⟩;replace hx8:Ext w2 w8:=Ext.trans Qg hx8)))
              go_roundw
              case rel=>exact ⟨0+1,rfl,by omega,HT,hEr.trans (hx2.trans hx8)⟩
              case measure=>simp [intOf];omega
             ·have HT:=Lib.hid (HX.out he)
              have he2:(z != 0)=true:=bne_iff_ne.2 he
              clear HS HX he
              go_wp2_with (first|(go_at_call 45;((with_reducible refine (HN1.out _ Qg).mono ?_);rintro e v1 ⟨rfl,gx1⟩;replace gx1:Ext w2 v1:=Ext.trans Qg gx1;have m0:=gx1.cell G0;have r0:=gx1.cell n0;have r1:=gx1.cell n1;have r2:=gx1.cell n2;have r3:=gx1.cell n3;have r4:=gx1.cell n4))|(go_at_call 45;((with_reducible refine (HN2.out _ gx1).mono ?_);rintro e v2 ⟨rfl,gx2⟩;replace gx2:Ext w2 v2:=gx1.trans gx2;have l3:=gx2.cell n3;have l4:=gx2.cell n4))|(go_at_call 35;((with_reducible refine (HNM.out _).mono ?_);rintro e v3 ⟨rfl,rfl⟩))|(go_at_call 44;((with_reducible refine (HP.out _ Qg).mono ?_);rintro e w8 ⟨rfl,hx8⟩;replace hx8:Ext w2 w8:=Ext.trans Qg hx8)))
              go_ret
              exact ⟨zm HT.out.symm,hx1.trans (hEr.trans (hx2.trans hx8))⟩
       ·replace hpv:=hpv hz
        by_cases hlo:g.edges[k - 1]!.id < g.edges[k]!.id
        ·have HE1:=Lib.hid (fun h=>zsr (g:=g) (i:=k) (fun _=>hlo) h)
         have HEP:=Lib.hid (fun h1 h2=>ztd (g:=g) (i:=k) (fun _=>hlo) h1 h2)
         rw [←hE] at HE1 HEP
         clear hE
         generalize g.edges[k]! = x at *
         generalize g.edges[k - 1]! = y at *
         generalize zcf [] x.props=z at *
         generalize zav g.nodes x.frm=b1 at *
         generalize zav g.nodes x.to_=b2 at *
         generalize zbk x.typ=b3 at *
         have ho:¬x.id≤y.id:=by omega
         clear hlo
         go_upto_region 19 with (fail)
         rw [←HW2.out,←HQ2.out]
         clear HW2 HQ2 g0' g1' g2' g3'
         have p0:0 < k:=by omega
         have p1:(1:Int)≤(k:Int):=by omega
         have p2:((k:Int) - 1).toNat=k - 1:=by omega
         have p5:IntKind.i64.wrap ((k:Int) - 1)=(k:Int) - 1:=IntWalk.i64_in _ Qk
         have p6:((k:Int) - 1) < (g.edges.length:Int):=by omega
         have MKR5:=Lib.hid (fun V (e:Ext w2 V)=>(⟨e.cell G1,e.cell n0,e.cell hpv,e⟩:V.cell? ⟨q,1,none⟩=some (.slice (some ⟨b,o,none⟩) g.edges.length d)∧V.cell? ⟨q2,0,none⟩=some (.int .i64 x.id)∧V.cell? ⟨b,o+(k - 1)*5,none⟩=some (.int .i64 y.id)∧Ext w2 V))
         refine wp_region_held_drew (S:=(fun V=>V.cell? ⟨q,1,none⟩=some (.slice (some ⟨b,o,none⟩) g.edges.length d)∧V.cell? ⟨q2,0,none⟩=some (.int .i64 x.id)∧V.cell? ⟨b,o+(k - 1)*5,none⟩=some (.int .i64 y.id)∧Ext w2 V)) (by kernel_rfl) ?hs61 (fun hHeld=>?go61)
         case hs61=>(exact MKR5.out _ Qg)
         refine KA 0 hHeld ?_;simp only [PU]
         refine KA 1 hHeld ?_;simp only [PU]
         refine KA 2 hHeld ?_;simp only [PU]
         refine KA 3 hHeld ?_;simp only [PU]
         refine KA 4 hHeld ?_;simp only [PU]
         refine KA 5 hHeld ?_;simp only [PU]
         refine KA 6 hHeld ?_;simp only [PU]
         refine KA 7 hHeld ?_;simp only [PU]
         refine KA 8 hHeld ?_;simp only [PU]
         refine KA 9 hHeld ?_;simp only [PU]
         refine KA 10 hHeld ?_;simp only [PU]
         refine KA 11 hHeld ?_;simp only [PU]
         refine KA 12 hHeld ?_;simp only [PU]
         refine KA 13 hHeld ?_;simp only [PU]
         refine wpAnyH_done (by kernel_rfl) ?_ _
         clear hHeld
         clear MKR5
         clear p0 p1 p2 p5 p6 ho hpv
         have gE:Ext w2 w2.drew:=(Ext.refl _).drew
         have j0:=gE.cell n0
         have j1:=gE.cell n1
         have j2:=gE.cell n2
         have j3:=gE.cell n3
         have j4:=gE.cell n4
         have k0:=gE.cell G0
         have k1:=gE.cell G1
         have k2:=gE.cell G2
         have k3:=gE.cell G3
         by_cases h1:x.id < 1
         ·have HT:=Lib.hid (HX.out (by rw [HE1.out (.inl h1)];decide))
          rw [HE1.out (.inl h1)] at HT
          go_wp2_with fail
          go_ret
          exact ⟨zm HT.out.symm,(hx1.trans (hEr.trans (hx2.trans Qg)))⟩
         ·by_cases h2:g.ne≤x.id
          ·have HT:=Lib.hid (HX.out (by rw [HE1.out (.inr h2)];decide))
           rw [HE1.out (.inr h2)] at HT
           go_wp2_with fail
           go_ret
           exact ⟨zm HT.out.symm,(hx1.trans (hEr.trans (hx2.trans Qg)))⟩
          ·have HZ:=Lib.hid (HEP.out Qk Qk)
           clear HE1 HEP
           cases b1
           ·have HT:=Lib.hid (HX.out (by rw [HZ.out];simp))
            rw [HZ.out] at HT
            go_wp2_with (go_at_call 45;((with_reducible refine (HN1.out _ Qg).mono ?_);rintro e v1 ⟨rfl,gx1⟩;replace gx1:Ext w2 v1:=Ext.trans Qg gx1;have m0:=gx1.cell G0;have r0:=gx1.cell n0;have r1:=gx1.cell n1;have r2:=gx1.cell n2;have r3:=gx1.cell n3;have r4:=gx1.cell n4))
            go_ret
            exact ⟨zm HT.out.symm,hx1.trans (hEr.trans (hx2.trans gx1))⟩
           ·cases b2
            ·have HT:=Lib.hid (HX.out (by rw [HZ.out];simp))
             rw [HZ.out] at HT
             go_wp2_with (first|(go_at_call 45;((with_reducible refine (HN1.out _ Qg).mono ?_);rintro e v1 ⟨rfl,gx1⟩;replace gx1:Ext w2 v1:=Ext.trans Qg gx1;have m0:=gx1.cell G0;have r0:=gx1.cell n0;have r1:=gx1.cell n1;have r2:=gx1.cell n2;have r3:=gx1.cell n3;have r4:=gx1.cell n4))|(go_at_call 45;((with_reducible refine (HN2.out _ gx1).mono ?_);rintro e v2 ⟨rfl,gx2⟩;replace gx2:Ext w2 v2:=gx1.trans gx2;have l3:=gx2.cell n3;have l4:=gx2.cell n4)))
             go_ret
             exact ⟨zm HT.out.symm,hx1.trans (hEr.trans (hx2.trans gx2))⟩
            ·cases b3
             ·have HT:=Lib.hid (HX.out (by rw [HZ.out];simp))
              rw [HZ.out] at HT
              go_wp2_with (first|(go_at_call 45;((with_reducible refine (HN1.out _ Qg).mono ?_);rintro e v1 ⟨rfl,gx1⟩;replace gx1:Ext w2 v1:=Ext.trans Qg gx1;have m0:=gx1.cell G0;have r0:=gx1.cell n0;have r1:=gx1.cell n1;have r2:=gx1.cell n2;have r3:=gx1.cell n3;have r4:=gx1.cell n4))|(go_at_call 45;((with_reducible refine (HN2.out _ gx1).mono ?_);rintro e v2 ⟨rfl,gx2⟩;replace gx2:Ext w2 v2:=gx1.trans gx2;have l3:=gx2.cell n3;have l4:=gx2.cell n4))|(go_at_call 35;((with_reducible refine (HNM.out _).mono ?_);rintro e v3 ⟨rfl,rfl⟩)))
              go_ret
              exact ⟨zm HT.out.symm,hx1.trans (hEr.trans (hx2.trans gx2))⟩
             ·rw [show E=z from HZ.out] at HS HX
              by_cases he:z=0
              ·have HT:=Lib.hid (HS.out he)
               have he2:(z != 0)=false:=by rw [he];rfl
               clear HS HX HZ he
               go_wp2_with (first|(go_at_call 45;((with_reducible refine (HN1.out _ Qg).mono ?_);rintro e v1 ⟨rfl,gx1⟩;replace gx1:Ext w2 v1:=Ext.trans Qg gx1;have m0:=gx1.cell G0;have r0:=gx1.cell n0;have r1:=gx1.cell n1;have r2:=gx1.cell n2;have r3:=gx1.cell n3;have r4:=gx1.cell n4))|(go_at_call 45;((with_reducible refine (HN2.out _ gx1).mono ?_);rintro e v2 ⟨rfl,gx2⟩;replace gx2:Ext w2 v2:=gx1.trans gx2;have l3:=gx2.cell n3;have l4:=gx2.cell n4))|(go_at_call 35;((with_reducible refine (HNM.out _).mono ?_);rintro e v3 ⟨rfl,rfl⟩))|(go_at_call 44;((with_reducible refine (HP.out _ Qg).mono ?_);rintro e w8 ⟨rfl,hx8⟩;replace hx8:Ext w2 w8:=Ext.trans Qg hx8)))
               go_roundw
               case rel=>exact ⟨k+1,by go_num,by omega,HT,hEr.trans (hx2.trans hx8)⟩
               case measure=>simp [intOf];omega
              ·have HT:=Lib.hid (HX.out he)
               have he2:(z != 0)=true:=bne_iff_ne.2 he
               clear HS HX he
               go_wp2_with (first|(go_at_call 45;((with_reducible refine (HN1.out _ Qg).mono ?_);rintro e v1 ⟨rfl,gx1⟩;replace gx1:Ext w2 v1:=Ext.trans Qg gx1;have m0:=gx1.cell G0;have r0:=gx1.cell n0;have r1:=gx1.cell n1;have r2:=gx1.cell n2;have r3:=gx1.cell n3;have r4:=gx1.cell n4))|(go_at_call 45;((with_reducible refine (HN2.out _ gx1).mono ?_);rintro e v2 ⟨rfl,gx2⟩;replace gx2:Ext w2 v2:=gx1.trans gx2;have l3:=gx2.cell n3;have l4:=gx2.cell n4))|(go_at_call 35;((with_reducible refine (HNM.out _).mono ?_);rintro e v3 ⟨rfl,rfl⟩))|(go_at_call 44;((with_reducible refine (HP.out _ Qg).mono ?_);rintro e w8 ⟨rfl,hx8⟩;replace hx8:Ext w2 w8:=Ext.trans Qg hx8)))
               go_ret
               exact ⟨zm HT.out.symm,hx1.trans (hEr.trans (hx2.trans hx8))⟩
        ·have HT:=Lib.hid (HX.out (by rw [hE,zqu hz Qk];decide))
         rw [hE,zqu hz Qk] at HT
         clear hE HS HX HP
         generalize g.edges[k]! = x at *
         generalize g.edges[k - 1]! = y at *
         have ho:x.id≤y.id:=by omega
         clear hlo
         go_upto_region 19 with (fail)
         rw [←HW2.out,←HQ2.out]
         clear HW2 HQ2 g0' g1' g2' g3'
         have p0:0 < k:=by omega
         have p1:(1:Int)≤(k:Int):=by omega
         have p2:((k:Int) - 1).toNat=k - 1:=by omega
         have p5:IntKind.i64.wrap ((k:Int) - 1)=(k:Int) - 1:=IntWalk.i64_in _ Qk
         have p6:((k:Int) - 1) < (g.edges.length:Int):=by omega
         have MKR6:=Lib.hid (fun V (e:Ext w2 V)=>(⟨e.cell G1,e.cell n0,e.cell hpv,e⟩:V.cell? ⟨q,1,none⟩=some (.slice (some ⟨b,o,none⟩) g.edges.length d)∧V.cell? ⟨q2,0,none⟩=some (.int .i64 x.id)∧V.cell? ⟨b,o+(k - 1)*5,none⟩=some (.int .i64 y.id)∧Ext w2 V))
         refine wp_region_held_drew (S:=(fun V=>V.cell? ⟨q,1,none⟩=some (.slice (some ⟨b,o,none⟩) g.edges.length d)∧V.cell? ⟨q2,0,none⟩=some (.int .i64 x.id)∧V.cell? ⟨b,o+(k - 1)*5,none⟩=some (.int .i64 y.id)∧Ext w2 V)) (by kernel_rfl) ?hs76 (fun hHeld=>?go76)
         case hs76=>(exact MKR6.out _ Qg)
         refine KA 0 hHeld ?_;simp only [PU]
         refine KA 1 hHeld ?_;simp only [PU]
         refine KA 2 hHeld ?_;simp only [PU]
         refine KA 3 hHeld ?_;simp only [PU]
         refine KA 4 hHeld ?_;simp only [PU]
         refine KA 5 hHeld ?_;simp only [PU]
         refine KA 6 hHeld ?_;simp only [PU]
         refine KA 7 hHeld ?_;simp only [PU]
         refine KA 8 hHeld ?_;simp only [PU]
         refine KA 9 hHeld ?_;simp only [PU]
         refine KA 10 hHeld ?_;simp only [PU]
         refine KA 11 hHeld ?_;simp only [PU]
         refine KA 12 hHeld ?_;simp only [PU]
         refine KA 13 hHeld ?_;simp only [PU]
         refine wpAnyH_done (by kernel_rfl) ?_ _
         clear hHeld
         clear MKR6
         go_wp2_with fail
         go_ret
         exact ⟨zm HT.out.symm,(hx1.trans (hEr.trans (hx2.trans Qg)))⟩
      ·have HT:=Lib.hid (zls HH.out HNZ.out (zdj (fun t ht=>hgd.out t Qk):zi6 g=0))
       go_wp2_with fail
       go_ret
       exact ⟨zm HT.out.symm,hx1.trans hEr⟩
def zd1:Nat→(Nat→Nat)→Nat
 | 0,_=>0
 | n+1,f=>zd1 n f+f n*1000 ^ n
theorem zj2 (f:Nat→Nat):∃ v,∀ n,n=14→v=zd1 n f:=⟨zd1 14 f,fun n h=>by rw [h]⟩
noncomputable def zi (f:Nat→Nat):Nat:=Classical.choose (zj2 f)
theorem zb4 (f:Nat→Nat) {n:Nat} (h:n=14):zi f=zd1 n f:=Classical.choose_spec (zj2 f) n h
def zbd (f:Nat→Nat):Prop := ∀ i,f i < 1000
def zgy (f:Nat→Nat) (k v:Nat):Nat→Nat:=fun i=>if i=k then v else f i
theorem zg4 (f:Nat→Nat) (k v:Nat):zgy f k v k=v:=if_pos rfl
theorem zkj (f:Nat→Nat) {k i:Nat} (v:Nat) (h:i ≠ k):zgy f k v i=f i:=if_neg h
theorem ze2 {f:Nat→Nat} {k v:Nat} (h:zbd f) (hv:v < 1000):zbd (zgy f k v):=by
 intro i;unfold zgy;split
 ·exact hv
 ·exact h i
theorem zej (f:Nat→Nat) (k v:Nat):∀ n,n≤k→zd1 n (zgy f k v)=zd1 n f
 | 0,_=>rfl
 | n+1,h=>by
  unfold zd1
  rw [zej f k v n Qk,zkj f v Qk]
theorem zo8 (f:Nat→Nat) (k v:Nat):∀ n,k < n→zd1 n (zgy f k v)+f k*1000 ^ k=zd1 n f+v*1000 ^ k
 | 0,h=>absurd h Qk
 | n+1,h=>by
  unfold zd1
  by_cases e:k=n
  ·subst e
   rw [zej f k v k (Nat.le_refl _),zg4];omega
  ·rw [zkj f v (show n ≠ k from fun q=>e q.symm)]
   have:=zo8 f k v n Qk
   omega
theorem zv1 (f:Nat→Nat) (k v:Nat) (h:k < 14):zi (zgy f k v)+f k*1000 ^ k=zi f+v*1000 ^ k:=by
 obtain ⟨n,hn⟩:∃ n:Nat,n=14:=⟨_,rfl⟩
 rw [zb4 _ hn,zb4 _ hn];exact zo8 f k v n Qk
theorem zi4:∀ n,zd1 n (fun _=>0)=0
 | 0=>rfl
 | n+1=>by unfold zd1;rw [zi4 n];simp
theorem zo1 {f:Nat→Nat} (h:zbd f):∀ n,zd1 n f < 1000 ^ n
 | 0=>by simp [zd1]
 | n+1=>by
  unfold zd1
  have h1:=zo1 h n
  have h2:=h n
  have h3:f n*1000 ^ n≤999*1000 ^ n:=Nat.mul_le_mul_right _ Qk
  rw [Nat.pow_succ];omega
theorem zs5 {k:Nat} (h:14≤k):1000000000000000000000000000000000000000000≤1000 ^ k :=
 Nat.le_trans Qj (Nat.pow_le_pow_right (show 0 < 1000 by omega) h)
structure zfj (f:Nat→Nat) (i k c y d b T:Nat):Prop where
 small:zbd f
 sum:zi f+1000 ^ k*(y+d*c)=T
 left:c*1000 ^ k≤b*1000 ^ i
 carry:y≤1000
theorem zfj.room {f:Nat→Nat} {i k c y d b T:Nat} (h:zfj f i k c y d b T) (hb:b≤1000000000000000) (hi:i≤5) (hT:T≤1000000000000000000000000000000) (hg:0 < c∨0 < y):k < 14:=by
 rcases Nat.lt_or_ge k 14 with k1|k1
 ·exact k1
 ·exfalso
  have hp:=zs5 k1
  rcases hg with hc|hy
  ·have h1:b*1000 ^ i≤1000000000000000*1000 ^ 5:=Nat.mul_le_mul hb (Nat.pow_le_pow_right Qk hi)
   have h2:1000 ^ k≤c*1000 ^ k:=Nat.le_mul_of_pos_left _ hc
   have h3:=h.left
   have h4:1000000000000000*1000 ^ 5=1000000000000000000000000000000:=by decide
   omega
  ·have h1:=h.sum
   have h2:1000 ^ k*1≤1000 ^ k*(y+d*c):=Nat.mul_le_mul_left _ Qk
   omega
theorem zfj.step {f:Nat→Nat} {i k c y d b T:Nat} (h:zfj f i k c y d b T) (hd:d < 1000) (hk:k < 14) :
  zfj (zgy f k ((y+f k+d*(c % 1000)) % 1000)) i (k+1) (c / 1000) ((y+f k+d*(c % 1000)) / 1000) d b T:=by
 have hs:=h.small k
 have hy:=h.carry
 have hm:d*(c % 1000)≤999*999:=Nat.mul_le_mul Qk Qk
 have hc:d*c=d*(c % 1000)+1000*(d*(c / 1000)):=by
  have:=Nat.div_add_mod c 1000
  calc d*c=d*(1000*(c / 1000)+c % 1000):=by rw [this]
   _=_:=by rw [Nat.mul_add,Nat.mul_left_comm];omega
 refine ⟨ze2 h.small (Nat.mod_lt _ Qk),?_,?_,by omega⟩
 ·have e:=h.sum
  have u:=zv1 f k ((y+f k+d*(c % 1000)) % 1000) hk
  rw [hc] at e
  rw [Nat.pow_succ]
  generalize d*(c % 1000)=m at *
  generalize d*(c / 1000)=n at *
  generalize f k=z at *
  generalize 1000 ^ k=p at *
  have q:=Nat.div_add_mod (y+z+m) 1000
  generalize (y+z+m) / 1000=t at *
  generalize (y+z+m) % 1000=r at *
  generalize zi f=v at *
  generalize zi (zgy f k r)=v' at *
  have e1:p*1000*(t+n)=p*(1000*t)+p*(1000*n):=by grind
  have e2:p*(y+(m+1000*n))=p*y+p*m+p*(1000*n):=by grind
  have e3:p*(1000*t)+p*r=p*y+p*z+p*m:=by
   have:p*(1000*t+r)=p*(y+z+m):=by rw [q]
   grind
  rw [Nat.mul_comm z p,Nat.mul_comm r p] at u
  omega
 ·have l:=h.left
  rw [Nat.pow_succ]
  have:c / 1000*(1000 ^ k*1000)≤c*1000 ^ k:=by
   rw [Nat.mul_comm (1000 ^ k),←Nat.mul_assoc]
   exact Nat.mul_le_mul_right _ (Nat.div_mul_le_self c 1000)
  omega
structure zdb (f:Nat→Nat) (i a b a0:Nat):Prop where
 small:zbd f
 sum:zi f+1000 ^ i*(a*b)=a0*b
 left:a*1000 ^ i≤a0
theorem zdb.room {f:Nat→Nat} {i a b a0:Nat} (h:zdb f i a b a0) (ha:a0≤1000000000000000) (hg:0 < a):i≤5:=by
 rcases Nat.lt_or_ge i 6 with k|k
 ·omega
 ·exfalso
  have h1:1000 ^ 6≤1000 ^ i:=Nat.pow_le_pow_right Qk k
  have h2:1000 ^ i≤a*1000 ^ i:=Nat.le_mul_of_pos_left _ hg
  have:=h.left
  have h4:1000 ^ 6=1000000000000000000:=by decide
  omega
theorem zdb.start (a0 b:Nat):zdb (fun _=>0) 0 a0 b a0:=by
 refine ⟨fun _=>by omega,?_,by simp⟩
 obtain ⟨n,hn⟩:∃ n:Nat,n=14:=⟨_,rfl⟩
 rw [zb4 _ hn,zi4];simp
theorem zdb.enter {f:Nat→Nat} {i a b a0:Nat} (h:zdb f i a b a0):zfj f i i b 0 (a % 1000) b (zi f+1000 ^ i*(a % 1000*b)):=by
 refine ⟨h.small,by simp,Nat.le_refl _,by omega⟩
theorem zdb.total {f:Nat→Nat} {i a b a0:Nat} (h:zdb f i a b a0):zi f+1000 ^ i*(a % 1000*b)≤a0*b:=by
 have:=h.sum
 have h1:a % 1000*b≤a*b:=Nat.mul_le_mul_right _ (Nat.mod_le _ _)
 have h2:1000 ^ i*(a % 1000*b)≤1000 ^ i*(a*b):=Nat.mul_le_mul_left _ h1
 omega
theorem zdb.leave {f g:Nat→Nat} {i k a b a0:Nat} (h:zdb f i a b a0) (hI:zfj g i k 0 0 (a % 1000) b (zi f+1000 ^ i*(a % 1000*b))):zdb g (i+1) (a / 1000) b a0:=by
 refine ⟨hI.small,?_,?_⟩
 ·have e:=h.sum
  have e2:=hI.sum
  simp only [Nat.mul_zero,Nat.add_zero] at e2
  rw [e2,Nat.pow_succ]
  have q:=Nat.div_add_mod a 1000
  have e3:1000 ^ i*(a*b)=1000 ^ i*(a % 1000*b)+1000 ^ i*1000*(a / 1000*b):=by
   calc 1000 ^ i*(a*b)=1000 ^ i*((1000*(a / 1000)+a % 1000)*b):=by rw [q]
    _=_:=by grind
  omega
 ·have l:=h.left
  rw [Nat.pow_succ]
  have:a / 1000*(1000 ^ i*1000)≤a*1000 ^ i:=by
   rw [Nat.mul_comm (1000 ^ i),←Nat.mul_assoc]
   exact Nat.mul_le_mul_right _ (Nat.div_mul_le_self a 1000)
  omega
theorem zdb.done {f:Nat→Nat} {i b a0:Nat} (h:zdb f i 0 b a0):zi f=a0*b:=by
 have:=h.sum;simpa using this
structure zim (x y f:Nat→Nat) (k c:Nat):Prop where
 small:zbd f
 sum:zd1 k f+1000 ^ k*c=zd1 k x+zd1 k y
 carry:c≤1
theorem zim.start (x y:Nat→Nat):zim x y (fun _=>0) 0 0:=⟨fun _=>by omega,rfl,by omega⟩
theorem zim.step {x y f:Nat→Nat} {k c:Nat} (h:zim x y f k c) (hx:zbd x) (hy:zbd y):zim x y (zgy f k ((c+x k+y k) % 1000)) (k+1) ((c+x k+y k) / 1000):=by
 have h1:=hx k
 have h2:=hy k
 have h3:=h.carry
 refine ⟨ze2 h.small (Nat.mod_lt _ Qk),?_,by omega⟩
 unfold zd1
 rw [zej f k _ k (Nat.le_refl _),zg4,Nat.pow_succ]
 have e:=h.sum
 have q:=Nat.div_add_mod (c+x k+y k) 1000
 generalize (c+x k+y k) / 1000=t at *
 generalize (c+x k+y k) % 1000=r at *
 generalize 1000 ^ k=p at *
 have e3:r*p+p*1000*t=p*c+x k*p+y k*p:=by
  have:p*(1000*t+r)=p*(c+x k+y k):=by rw [q]
  grind
 omega
theorem zim.done {x y f:Nat→Nat} {n c:Nat} (hn:n=14) (h:zim x y f n c) (hs:zi x+zi y < 1000000000000000000000000000000000000000000):zi f=zi x+zi y:=by
 have e:=h.sum
 have hc:=h.carry
 have hp:=zs5 (show 14≤n by omega)
 rw [zb4 _ hn,zb4 _ hn] at hs
 rw [zb4 _ hn,zb4 _ hn,zb4 _ hn]
 rcases Nat.eq_zero_or_pos c with k|k
 ·subst k;omega
 ·obtain rfl:c=1:=by omega
  omega
structure zek (x y f:Nat→Nat) (k:Nat) (c:Int):Prop where
 small:zbd f
 sum:(zd1 k f:Int)+1000 ^ k*c=zd1 k x - zd1 k y
 carry : -1≤c∧c≤0
theorem zek.start (x y:Nat→Nat):zek x y (fun _=>0) 0 0:=⟨fun _=>by omega,rfl,by omega⟩
theorem zek.low {x y f:Nat→Nat} {k:Nat} {c:Int} (h:zek x y f k c) (hx:zbd x) (hy:zbd y) (hn:c+x k - y k < 0):zek x y (zgy f k (c+x k - y k+1000).toNat) (k+1) (-1):=by
 have h1:=hx k
 have h2:=hy k
 have h3:=h.carry
 refine ⟨ze2 h.small Qk,?_,by omega⟩
 unfold zd1
 rw [zej f k _ k (Nat.le_refl _),zg4,Int.pow_succ]
 have e:=h.sum
 have q:(((c+x k - y k+1000).toNat:Nat):Int)=c+x k - y k+1000:=by omega
 simp only [Int.natCast_add,Int.natCast_mul,Int.natCast_pow,q]
 generalize ((1000:Nat):Int) ^ k=p at *
 grind
theorem zek.high {x y f:Nat→Nat} {k:Nat} {c:Int} (h:zek x y f k c) (hx:zbd x) (hy:zbd y) (hn:¬c+x k - y k < 0):zek x y (zgy f k (c+x k - y k).toNat) (k+1) 0:=by
 have h1:=hx k
 have h2:=hy k
 have h3:=h.carry
 refine ⟨ze2 h.small Qk,?_,by omega⟩
 unfold zd1
 rw [zej f k _ k (Nat.le_refl _),zg4,Int.pow_succ]
 have e:=h.sum
 have q:(((c+x k - y k).toNat:Nat):Int)=c+x k - y k:=by omega
 simp only [Int.natCast_add,Int.natCast_mul,Int.natCast_pow,q]
 generalize ((1000:Nat):Int) ^ k=p at *
 grind
theorem zek.done {x y f:Nat→Nat} {n:Nat} {c:Int} (hn:n=14) (h:zek x y f n c) (hs:zi y≤zi x):zi f=zi x - zi y:=by
 have e:=h.sum
 have hc:=h.carry
 have hl:=zo1 h.small n
 rw [zb4 _ hn,zb4 _ hn] at hs
 rw [zb4 _ hn,zb4 _ hn,zb4 _ hn]
 rcases (show c=0∨c = -1 by omega) with k|k
 ·subst k;omega
 ·subst k
  have:((1000:Int) ^ n)=((1000 ^ n:Nat):Int):=by simp
  rw [this] at e
  omega
def hiW (f:Nat→Nat) (k:Nat):Nat:=if h:k < 14 then f k+1000*hiW f (k+1) else 0
termination_by 14 - k
theorem zkm (f:Nat→Nat):hiW f 14=0:=by rw [hiW,dif_neg Qk]
theorem zkw (f:Nat→Nat) {k:Nat} (h:14≤k):hiW f k=0:=by rw [hiW,dif_neg Qk]
theorem ze0 (f:Nat→Nat) {k:Nat} (h:k < 14):hiW f k=f k+1000*hiW f (k+1):=by rw [hiW,dif_pos h]
theorem zod (f:Nat→Nat):∀ n k,n+k=14→zd1 k f+1000 ^ k*hiW f k=zi f
 | 0,k,h=>by rw [zb4 f (show k=14 by omega),zkw f Qk];simp
 | n+1,k,h=>by
  have ih:=zod f n (k+1) Qk
  rw [ze0 f Qk]
  unfold zd1 at ih
  rw [Nat.pow_succ] at ih
  rw [←ih];grind
theorem ziu (f:Nat→Nat):hiW f 0=zi f:=by
 have:=zod f 14 0 rfl
 unfold zd1 at this
 simpa using this
theorem zsj (f:Nat→Nat) (k v:Nat):∀ n j,n+j=14→k < j→hiW (zgy f k v) j=hiW f j
 | 0,j,h,_=>by rw [zkw _ Qk,zkw _ Qk]
 | n+1,j,h,hk=>by
  rw [ze0 _ (show j < 14 by omega),ze0 _ (show j < 14 by omega),zsj f k v n (j+1) Qk Qk,zkj f v Qk]
structure zl5 (x f:Nat→Nat) (d k r:Nat):Prop where
 small:zbd f
 sum:hiW x k=d*hiW f k+r
 rest:r < d
theorem zl5.start (x:Nat→Nat) {d:Nat} (h:0 < d):zl5 x (fun _=>0) d 14 0:=⟨fun _=>by omega,by rw [zkm,zkm];simp,h⟩
theorem zl5.step {x f:Nat→Nat} {d k r:Nat} (h:zl5 x f d (k+1) r) (hx:zbd x) (hk:k < 14):zl5 x (zgy f k ((r*1000+x k) / d)) d k ((r*1000+x k) % d):=by
 have hd:0 < d:=by have:=h.rest;omega
 have h1:=hx k
 have h2:=h.rest
 refine ⟨ze2 h.small ?_,?_,Nat.mod_lt _ hd⟩
 ·rw [Nat.div_lt_iff_lt_mul hd]
  have:r*1000+1000≤d*1000:=by omega
  omega
 ·rw [ze0 x hk,ze0 _ hk,zg4,zsj f k _ (14 - (k+1)) (k+1) Qk Qk,h.sum]
  have q:=Nat.div_add_mod (r*1000+x k) d
  generalize (r*1000+x k) / d=t at *
  generalize (r*1000+x k) % d=s at *
  grind
theorem zl5.done {x f:Nat→Nat} {d r:Nat} (h:zl5 x f d 0 r):zi f=zi x / d∧r=zi x % d:=by
 have e:=h.sum
 rw [ziu,ziu] at e
 have hr:=h.rest
 constructor
 ·rw [e,Nat.mul_comm,Nat.add_comm,Nat.add_mul_div_right _ _ Qk,Nat.div_eq_of_lt hr];omega
 ·rw [e,Nat.mul_comm,Nat.add_comm,Nat.add_mul_mod_self_right,Nat.mod_eq_of_lt hr]
def zbl (x y:Nat→Nat) (k:Nat):Prop:=hiW x k=hiW y k
theorem zp6 {x y:Nat→Nat} {k:Nat} (hx:zbd x) (hk:k < 14) (h:zbl x y (k+1)) (hl:x k < y k):zi x < zi y:=by
 have e1:=zod x (14 - (k+1)) (k+1) Qk
 have e2:=zod y (14 - (k+1)) (k+1) Qk
 unfold zbl at h
 rw [h] at e1
 have b:=zo1 hx k
 unfold zd1 at e1 e2
 have:x k*1000 ^ k+1000 ^ k≤y k*1000 ^ k:=by
  have:=Nat.mul_le_mul_right (1000 ^ k) (show x k+1≤y k by omega)
  rw [Nat.add_mul,Nat.one_mul] at this;exact this
 omega
theorem zbl.step {x y:Nat→Nat} {k:Nat} (hk:k < 14) (h:zbl x y (k+1)) (he:x k=y k):zbl x y k:=by
 unfold zbl at *;rw [ze0 x hk,ze0 y hk,h,he]
theorem zbl.symm {x y:Nat→Nat} {k:Nat} (h:zbl x y k):zbl y x k:=Eq.symm h
theorem zbl.start (x y:Nat→Nat):zbl x y 14:=by unfold zbl;rw [zkm,zkm]
theorem zbl.done {x y:Nat→Nat} (h:zbl x y 0):zi x=zi y:=by unfold zbl at h;rw [ziu,ziu] at h;exact h
def zbx (V:World) (g:Nat) (f:Nat→Nat):Prop:=g < V.heap.size∧∀ i,i < 14→V.cell? ⟨g,i,none⟩=some (.int .i64 ((f i:Nat):Int))∧V.frozen? ⟨g,i,none⟩=false
theorem zbx.step {V V':World} {g:Nat} {f:Nat→Nat} (h:zbx V g f) (hb:Below V.heap.size V V'):zbx V' g f:=by
 obtain ⟨h0,h1⟩:=h
 obtain ⟨hc,hf⟩:=zch hb
 have hs:=hb.size
 exact ⟨by omega,fun i hi=>⟨(hc _ _ h0).trans (h1 i hi).1,(hf _ _ h0).trans (h1 i hi).2⟩⟩
theorem zbx.set {V:World} {g:Nat} {f:Nat→Nat} (h:zbx V g f) {k:Nat} (hk:k < 14) (v:Nat):zbx (V.setCell ⟨g,k,none⟩ (.int .i64 (v:Int))) g (zgy f k v):=by
 obtain ⟨h0,h1⟩:=h
 refine ⟨by simpa using h0,fun i hi=>?_⟩
 obtain ⟨a,b⟩:=h1 i hi
 obtain ⟨a',b'⟩:=h1 k hk
 by_cases e:i=k
 ·subst e
  rw [zg4]
  exact ⟨by go_simp,by go_simp⟩
 ·rw [zkj f v e]
  have e2:¬k=i:=fun q=>e q.symm
  exact ⟨by go_simp,by go_simp⟩
theorem zgf (w:World):(Instr.makeSlice 156 (.int .i64 14) (.int .i64 14)).run Tryz.prog w= .ok (.slice (some ⟨w.heap.size,0,none⟩) 14 14) (w.alloc (.cells #[.int .i64 0, .int .i64 0, .int .i64 0, .int .i64 0, .int .i64 0, .int .i64 0, .int .i64 0, .int .i64 0, .int .i64 0, .int .i64 0, .int .i64 0, .int .i64 0, .int .i64 0, .int .i64 0] 3)):=by kernel_rfl
theorem zbx.new (w:World) (t:TypeId):zbx (w.alloc (.cells #[.int .i64 0, .int .i64 0, .int .i64 0, .int .i64 0, .int .i64 0, .int .i64 0, .int .i64 0, .int .i64 0, .int .i64 0, .int .i64 0, .int .i64 0, .int .i64 0, .int .i64 0, .int .i64 0] t)) w.heap.size (fun _=>0):=by
 refine ⟨by simp,fun i hi=>?_⟩
 match i,hi with
 | 0,_|1,_|2,_|3,_|4,_|5,_|6,_|7,_|8,_|9,_|10,_|11,_|12,_|13,_=>exact ⟨by go_simp,by go_simp⟩
theorem zvs (a b:Nat) (w:World) (ha:a≤1000000000000000) (hb:b≤1000000000000000) :
  Calls Tryz.prog 152 #[.int .i64 a, .int .i64 b] w fun e w' => ∃ (g:Nat) (f:Nat→Nat),e= .returned (.slice (some ⟨g,0,none⟩) 14 14)∧w.heap.size≤g∧zbx w' g f∧zbd f∧zi f=a*b∧Below w.heap.size w w':=by
 go_enter Tryz.func152,Tryz.ntmps152
 have hmk:=zgf
 have hab:a*b≤1000000000000000000000000000000:=Nat.le_trans (Nat.mul_le_mul ha hb) Qj
 have HAB:=Lib.hid hab
 have HA:=Lib.hid ha
 have HB:=Lib.hid hb
 go_wp2_with fail
 have hrow:=zbx.new w 3
 have hbe:=(Below.refl w.heap.size w).alloc (Nat.le_refl _) (.cells #[.int .i64 0, .int .i64 0, .int .i64 0, .int .i64 0, .int .i64 0, .int .i64 0, .int .i64 0, .int .i64 0, .int .i64 0, .int .i64 0, .int .i64 0, .int .i64 0, .int .i64 0, .int .i64 0] 3)
 refine za2 (fun W=>zbx W w.heap.size (fun _=>0)∧Below w.heap.size w W) ⟨hrow,hbe⟩ ?_
 clear hrow hbe hmk hab ha hb
 rintro W ⟨hrow,hbe⟩
 go_loopw [0,6] (fun u v wr => ∃ (a' i:Nat) (f:Nat→Nat),u= .int .i64 a'∧v= .int .i64 i∧Hid (zdb f i a' b a)∧a'≤1000000000000000∧i≤14∧zbx wr w.heap.size f∧Below w.heap.size w wr) (fun u _ _=>(intOf u).toNat)
 case atStart=>exact ⟨a,0,_,rfl,rfl,Lib.hid (zdb.start a b),HA.out,by omega,hrow,hbe⟩
 case round =>
  obtain ⟨a',i,f,rfl,rfl,hO,ha',hi14,hrow',hbe'⟩:=hrel
  clear hrow hbe
  by_cases h0:0 < a'
  ·have hi:i≤5:=hO.out.room HA.out h0
   have h0':decide (0 < (a':Int))=true:=decide_eq_true Qk
   have hE:=Lib.hid hO.out.enter
   have hTT:Hid (zi f+1000 ^ i*(a' % 1000*b)≤1000000000000000000000000000000):=Lib.hid (Nat.le_trans hO.out.total HAB.out)
   have HOO:Hid (∀ (g:Nat→Nat) (k:Nat),zfj g i k 0 0 (a' % 1000) b (zi f+1000 ^ i*(a' % 1000*b))→zdb g (i+1) (a' / 1000) b a):=fun g k hI=>hO.out.leave hI
   generalize zi f+1000 ^ i*(a' % 1000*b)=T at *
   clear hO
   go_wp2_with fail
   obtain ⟨wo,rfl⟩:∃ wo:World,wo=wr:=⟨_,rfl⟩
   have HR0:=Lib.hid hrow'
   have HBE0:=Lib.hid hbe'
   clear hrow' hbe'
   go_loopw [8,9,10] (fun u v x wx => ∃ (c y k:Nat) (g:Nat→Nat),u= .int .i64 c∧v= .int .i64 y∧x= .int .i64 k∧Hid (zfj g i k c y (a' % 1000) b T)∧c≤1000000000000000∧y≤1000∧k≤14∧zbx wx w.heap.size g∧Below w.heap.size w wx) (fun _ _ x _=>14 - (intOf x).toNat)
   case atStart=>exact ⟨b,0,i,f,rfl,rfl,rfl,hE,HB.out,by omega,by omega,HR0.out,HBE0.out⟩
   case round =>
    obtain ⟨c,y,k,g,rfl,rfl,rfl,hI,hc,hy,hk14,hrg,hbg⟩:=hrel
    by_cases hgo:0 < c∨0 < y
    ·have hk:k < 14:=hI.out.room HB.out hi hTT.out hgo
     obtain ⟨z,hz⟩:∃ z,Hid (g k=z):=⟨_,rfl⟩
     have hz1:z≤999:=by have h1:=hI.out.small k;have h2:=hz.out;omega
     have hcell:_∧_:=hrg.2 k hk
     rw [hz.out] at hcell
     obtain ⟨hcell,hfro⟩:=hcell
     have hgs:=hrg.1
     have hS:=Lib.hid (hI.out.step (Nat.mod_lt _ Qk) hk)
     rw [hz.out] at hS
     have hm:a' % 1000*(c % 1000)≤999*999:=Nat.mul_le_mul Qk Qk
     obtain ⟨m,hmm⟩:∃ m:Nat,Hid (a' % 1000*(c % 1000)=m):=⟨_,rfl⟩
     rw [hmm.out] at hS hm
     have hm1:(a':Int) % 1000*((c:Int) % 1000)=(m:Int):=by have:=hmm.out;rw [←this];simp
     have J1:IntKind.i64.wrap ((a':Int) % 1000*((c:Int) % 1000))=(m:Int):=by rw [hm1];exact IntWalk.i64_in _ ⟨by omega,by omega⟩
     have hrs:=hrg.set hk ((y+z+m) % 1000)
     have e1:(((y+z+m) % 1000:Nat):Int)=((y:Int)+z+m) % 1000:=by omega
     rw [e1] at hrs
     have hbs:=hbg.setCell (p:=⟨w.heap.size,k,none⟩) (Nat.le_refl _) (.int .i64 (((y:Int)+z+m) % 1000))
     have HRS:=Lib.hid hrs
     have HBS:=Lib.hid hbs
     clear hrs hbs hrg hbg e1 hm1
     rcases Nat.eq_zero_or_pos c with hc0|hc0
     ·subst hc0
      obtain rfl:m=0:=by have h:=hmm.out;simpa using h.symm
      have HRS2:Hid (zbx (wr.setCell ⟨w.heap.size,k,none⟩ (.int .i64 (((y:Int)+z) % 1000))) w.heap.size (zgy g k ((y+z) % 1000))):=Lib.hid (by have h:=HRS.out;simpa using h)
      have HBS2:Hid (Below w.heap.size w (wr.setCell ⟨w.heap.size,k,none⟩ (.int .i64 (((y:Int)+z) % 1000)))):=Lib.hid (by have h:=HBS.out;simpa using h)
      have hS2:Hid (zfj (zgy g k ((y+z) % 1000)) i (k+1) 0 ((y+z) / 1000) (a' % 1000) b T):=Lib.hid (by have h:=hS.out;simpa using h)
      have d1:decide (0 < ((0:Nat):Int))=false:=by decide
      have d2:decide (0 < (y:Int))=true:=decide_eq_true Qk
      go_wp2_with fail
      go_roundw
      case rel=>exact ⟨0,(y+z) / 1000,k+1,_,by go_num,by go_num,by go_num,hS2,by omega,by omega,by omega,HRS2.out,HBS2.out⟩
      case measure=>simp [intOf];omega
     ·have d1:decide (0 < (c:Int))=true:=decide_eq_true Qk
      go_wp2_with fail
      go_roundw
      case rel=>exact ⟨c / 1000,(y+z+m) / 1000,k+1,_,by go_num,by go_num,by go_num,hS,by omega,by omega,by omega,HRS.out,HBS.out⟩
      case measure=>simp [intOf];omega
    ·obtain rfl:c=0:=by omega
     obtain rfl:y=0:=by omega
     have hO2:=Lib.hid (HOO.out g k hI.out)
     go_wp2_with fail
     go_roundw
     case rel=>exact ⟨a' / 1000,i+1,g,by go_num,by go_num,hO2,by omega,by omega,hrg,hbg⟩
     case measure=>simp [intOf];omega
  ·obtain rfl:a'=0:=by omega
   go_wp2_with fail
   go_ret
   exact ⟨_,f,rfl,Nat.le_refl _,hrow',hO.out.small,hO.out.done,hbe'⟩
end Go.Proofs.YtfhekbacigoblaaGreatDoor
