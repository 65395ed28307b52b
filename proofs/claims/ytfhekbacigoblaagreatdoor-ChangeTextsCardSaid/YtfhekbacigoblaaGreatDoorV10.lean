import Derived.Test.YtfhekbacigoblaaGreatDoorV09
import Derived.Deep.Cut
import Derived.Test.YtfhekbacigoblaaGreatDoorV05
import Derived.Laws.BitsAllLaws
import Derived.Test.YtfhekbacigoblaaGreatDoorV08
namespace Go.Proofs.YtfhekbacigoblaaGreatDoor
set_option maxRecDepth 100000
set_option maxHeartbeats 1600000
open Go.RowKit
theorem zhm (l:List ByteArray) (ok:Nat→Prop) (A:Option Addr) (c:Nat) (w:World) (hv:zcq w ok A l) :
  Calls Tryz.prog 79 #[.slice A l.length c] w fun e w'=>e= .returned (.bool (zdv l))∧Ext w w':=by
 have hm:=hv.len
 have HV:=Lib.hid hv
 have HY:=Lib.hid (fun (h:∀ i,i+1 < l.length→zn l[i]! l[i+1]! < 0)=>zho.2 h)
 have HB:=Lib.hid (fun i (hi:i+1 < l.length) (h:¬zn l[i]! l[i+1]! < 0)=>ztp hi h)
 generalize zdv l=R at *
 clear hv
 go_enter Tryz.func79,Tryz.ntmps79
 go_wp2_with fail
 go_loopw [3] (fun u W => ∃ k:Nat,u= .int .i64 k∧1≤k∧(k≤l.length∨k=1)∧Hid (∀ i,i+1 < k→zn l[i]! l[i+1]! < 0)∧Ext w W) (fun u _=>l.length - (intOf u).toNat)
 case atStart=>exact ⟨1,rfl,Nat.le_refl _, .inr rfl,Lib.hid (fun i hi=>absurd hi Qk),Ext.refl _⟩
 case round =>
  obtain ⟨k,rfl,hk,hk2,hgd,hE⟩:=hrel
  by_cases hlt:k < l.length
  ·obtain ⟨b,o,rfl,hc⟩:=HV.out.2 Qk
   have h5:=(hc k hlt).2
   have h6:=(hc (k - 1) Qk).2
   rw [Nat.mul_one] at h5 h6
   rw [←getElem!_pos l k hlt] at h5
   rw [←getElem!_pos l (k - 1) Qk] at h6
   replace h5:=hE.cell h5
   replace h6:=hE.cell h6
   have HS:=Lib.hid (fun (h:zn l[k - 1]! l[k]! < 0) i (hi:i+1 < k+1)=>(if e:i=k - 1 then (by subst e;rw [show k - 1+1=k by omega];exact h) else hgd.out i Qk:zn l[i]! l[i+1]! < 0))
   have HB':=Lib.hid (show ¬zn l[k - 1]! l[k]! < 0→R=false from fun h=>HB.out (k - 1) Qk (by rw [show k - 1+1=k by omega];omega))
   clear hc HB hgd hk2 HY
   generalize l[k]! = x at *
   generalize l[k - 1]! = y at *
   have p1:(1:Int)≤(k:Int):=by omega
   have p2:((k:Int) - 1).toNat=k - 1:=by omega
   have p5:IntKind.i64.wrap ((k:Int) - 1)=(k:Int) - 1:=IntWalk.i64_in _ Qk
   have p6:((k:Int) - 1) < (l.length:Int):=by omega
   rcases ze6 y x with ⟨hq,h7,-⟩|⟨rfl,h7⟩|⟨hq,h7,-⟩
   ·have HT:=Lib.hid (HS.out Qk)
    have q1:=zhz hq
    have q2:(x.toList == y.toList)=false:=zv8 (fun e=>by subst e;rw [zsz] at h7;omega)
    clear HS HB' hq h7
    go_upto_region 4 with (fail)
    have MKR1:=Lib.hid (fun V (e:Ext wr V)=>(⟨e.cell h5,e.cell h6,e⟩:V.cell? ⟨b,o+k,none⟩=some (.string x)∧V.cell? ⟨b,o+(k - 1),none⟩=some (.string y)∧Ext wr V))
    refine wp_region_held_drew (S:=(fun V=>V.cell? ⟨b,o+k,none⟩=some (.string x)∧V.cell? ⟨b,o+(k - 1),none⟩=some (.string y)∧Ext wr V)) (by kernel_rfl) ?hs1 (fun hHeld=>?go1)
    case hs1=>(exact MKR1.out _ Qg)
    refine KA 0 hHeld ?_;simp only [PU]
    refine KA 1 hHeld ?_;simp only [PU]
    refine KA 2 hHeld ?_;simp only [PU]
    refine KA 3 hHeld ?_;simp only [PU]
    refine KA 4 hHeld ?_;simp only [PU]
    refine KA 5 hHeld ?_;simp only [PU]
    refine KA 6 hHeld ?_;simp only [PU]
    refine KA 7 hHeld ?_;simp only [PU]
    refine KA 8 hHeld ?_;simp only [PU]
    refine KA 9 hHeld ?_;simp only [PU]
    refine wpAnyH_done (by kernel_rfl) ?_ _
    clear hHeld
    clear MKR1
    clear p1 p2 p5 p6
    go_wp2_with fail
    go_roundw
    case rel=>exact ⟨k+1,by go_num,by omega,by omega,HT,hE.trans Qg⟩
    case measure=>simp [intOf];omega
   ·have HT:=Lib.hid (HB'.out Qk)
    clear h7
    clear HS HB'
    go_upto_region 4 with (fail)
    have MKR2:=Lib.hid (fun V (e:Ext wr V)=>(⟨e.cell h5,e.cell h6,e⟩:V.cell? ⟨b,o+k,none⟩=some (.string y)∧V.cell? ⟨b,o+(k - 1),none⟩=some (.string y)∧Ext wr V))
    refine wp_region_held_drew (S:=(fun V=>V.cell? ⟨b,o+k,none⟩=some (.string y)∧V.cell? ⟨b,o+(k - 1),none⟩=some (.string y)∧Ext wr V)) (by kernel_rfl) ?hs12 (fun hHeld=>?go12)
    case hs12=>(exact MKR2.out _ Qg)
    refine KA 0 hHeld ?_;simp only [PU]
    refine KA 1 hHeld ?_;simp only [PU]
    refine KA 2 hHeld ?_;simp only [PU]
    refine KA 3 hHeld ?_;simp only [PU]
    refine KA 4 hHeld ?_;simp only [PU]
    refine KA 5 hHeld ?_;simp only [PU]
    refine KA 6 hHeld ?_;simp only [PU]
    refine KA 7 hHeld ?_;simp only [PU]
    refine KA 8 hHeld ?_;simp only [PU]
    refine KA 9 hHeld ?_;simp only [PU]
    refine wpAnyH_done (by kernel_rfl) ?_ _
    clear hHeld
    clear MKR2
    go_wp2_with fail
    go_ret
    exact ⟨ze HT.out.symm,hE.trans Qg⟩
   ·have HT:=Lib.hid (HB'.out Qk)
    clear h7
    clear HS HB'
    go_upto_region 4 with (fail)
    have MKR3:=Lib.hid (fun V (e:Ext wr V)=>(⟨e.cell h5,e.cell h6,e⟩:V.cell? ⟨b,o+k,none⟩=some (.string x)∧V.cell? ⟨b,o+(k - 1),none⟩=some (.string y)∧Ext wr V))
    refine wp_region_held_drew (S:=(fun V=>V.cell? ⟨b,o+k,none⟩=some (.string x)∧V.cell? ⟨b,o+(k - 1),none⟩=some (.string y)∧Ext wr V)) (by kernel_rfl) ?hs23 (fun hHeld=>?go23)
    case hs23=>(exact MKR3.out _ Qg)
    refine KA 0 hHeld ?_;simp only [PU]
    refine KA 1 hHeld ?_;simp only [PU]
    refine KA 2 hHeld ?_;simp only [PU]
    refine KA 3 hHeld ?_;simp only [PU]
    refine KA 4 hHeld ?_;simp only [PU]
    refine KA 5 hHeld ?_;simp only [PU]
    refine KA 6 hHeld ?_;simp only [PU]
    refine KA 7 hHeld ?_;simp only [PU]
    refine KA 8 hHeld ?_;simp only [PU]
    refine KA 9 hHeld ?_;simp only [PU]
    refine wpAnyH_done (by kernel_rfl) ?_ _
    clear hHeld
    clear MKR3
    go_wp2_with fail
    go_ret
    exact ⟨ze HT.out.symm,hE.trans Qg⟩
  ·have HT:=Lib.hid (HY.out (fun i hi=>hgd.out i Qk))
   go_wp2_with fail
   go_ret
   exact ⟨ze HT.out.symm,hE⟩
theorem zih (v:Val) (ok:Nat→Prop) (A:Option Addr) (c:Nat) (w:World) (hv:zk w ok A v.l) :
  Calls Tryz.prog 36 #[.agg #[.int .i64 v.kind, .int .i64 v.n, .int .i64 v.d, .string v.s, .slice A v.l.length c]] w fun e w'=>e= .returned (.bool (za9 v))∧Ext w w':=by
 obtain ⟨g,w1,hg,hw1,⟨p0,p1,p2,p3,p4⟩,hx,-⟩:=zbt w v A c 28
 have HC:=Lib.hid (ziy v ok A c w1 (hv.ext hx))
 have HW1:=Lib.hid hw1
 have HG:=Lib.hid hg
 have HQ:=Lib.hid (show za9 v=((decide (v.kind=1) || decide (v.kind=2) || decide (v.kind=4)) && zab v) from rfl)
 generalize za9 v=R at *
 generalize zab v=q at *
 generalize v.kind=K at *
 clear hw1 hg hv
 by_cases h1:K=1
 ·subst h1
  cases q
  all_goals
   go_enter Tryz.func36,Tryz.ntmps36
   go_upto_region 1 with (fail)
   rw [←HW1.out,←HG.out]
   clear HW1 HG
   go_wp2_with (go_at_call 73;((with_reducible refine (HC.out).mono ?_);rintro e w' ⟨rfl,hb⟩;have:=hb.cell p0))
   go_ret
   exact ⟨ze (by rw [HQ.out];rfl),hx.trans (by first|assumption|exact Ext.refl _)⟩
 ·by_cases h2:K=2
  ·subst h2
   cases q
   all_goals
    go_enter Tryz.func36,Tryz.ntmps36
    go_upto_region 1 with (fail)
    rw [←HW1.out,←HG.out]
    clear HW1 HG
    go_wp2_with (go_at_call 73;((with_reducible refine (HC.out).mono ?_);rintro e w' ⟨rfl,hb⟩;have:=hb.cell p0))
    go_ret
    exact ⟨ze (by rw [HQ.out];rfl),hx.trans (by first|assumption|exact Ext.refl _)⟩
  ·by_cases h4:K=4
   ·subst h4
    cases q
    all_goals
     go_enter Tryz.func36,Tryz.ntmps36
     go_upto_region 1 with (fail)
     rw [←HW1.out,←HG.out]
     clear HW1 HG
     go_wp2_with (go_at_call 73;((with_reducible refine (HC.out).mono ?_);rintro e w' ⟨rfl,hb⟩;have:=hb.cell p0))
     go_ret
     exact ⟨ze (by rw [HQ.out];rfl),hx.trans (by first|assumption|exact Ext.refl _)⟩
   ·have HR:=Lib.hid (show R=false by rw [HQ.out,decide_eq_false h1,decide_eq_false h2,decide_eq_false h4];rfl)
    have k1:(K == 1)=false:=beq_eq_false_iff_ne.2 h1
    have k2:(K == 2)=false:=beq_eq_false_iff_ne.2 h2
    have k4:(K == 4)=false:=beq_eq_false_iff_ne.2 h4
    clear h1 h2 h4 HQ
    cases q
    all_goals
     go_enter Tryz.func36,Tryz.ntmps36
     go_upto_region 1 with (fail)
     rw [←HW1.out,←HG.out]
     clear HW1 HG
     go_wp2_with (go_at_call 73;((with_reducible refine (HC.out).mono ?_);rintro e w' ⟨rfl,hb⟩;have:=hb.cell p0))
     go_ret
     exact ⟨ze HR.out.symm,hx.trans (by first|assumption|exact Ext.refl _)⟩
theorem zrv (l:List zaf) (k:Nat) (h:k < l.length):(zdm (l.take (k+1))).map Value.string=(zdm (l.take k)).map Value.string ++ [.string l[k].key]:=by
 unfold zdm
 rw [List.take_succ_eq_append_getElem h,List.map_append,List.map_append];rfl
theorem zm4 (l:List zaf):(zdm l).length=l.length:=by unfold zdm;rw [List.length_map]
theorem zv7 {l:List zaf} (h:∀ i (hi:i < l.length),za9 l[i].v=true):l.all (fun p=>za9 p.v)=true:=List.all_eq_true.2 (fun x hx=>by obtain ⟨i,hi,rfl⟩:=List.getElem_of_mem hx;exact h i hi)
theorem zqd {l:List zaf} (i:Nat) (hi:i < l.length) (h:za9 l[i].v=false):l.all (fun p=>za9 p.v)=false:=List.all_eq_false.2 ⟨l[i],List.getElem_mem hi,by rw [h];exact Bool.false_ne_true⟩
theorem zvl {L:List ByteArray} {P:List zaf} (h1:L.length≤8) (h2:P.length≤16):zcf L P=if L.all zbk && (zdm P).all zbk then (if zdv L && zdv (zdm P) then (if P.all (fun p=>za9 p.v) then 0 else 8) else 26) else 6:=by
 unfold zcf;rw [if_neg Qk]
theorem zqn (L:List ByteArray) (P:List zaf) (ok ok':Nat→Prop) (A B:Option Addr) (c d:Nat) (w:World) (hv:zcq w ok A L) (hp:zay w ok' B P) :
  Calls Tryz.prog 44 #[.slice A L.length c, .slice B P.length d] w fun e w'=>e= .returned (.int .i64 (zcf L P))∧Ext w w':=by
 have hm:=hv.len
 have hm2:=hp.len
 by_cases h8:L.length≤8
 ·by_cases h16:P.length≤16
  ·have HP:=Lib.hid hp
   have HR:=Lib.hid (zvl h8 h16)
   have HN1:=Lib.hid (fun W (e:Ext w W)=>zik L ok A c W (hv.ext e))
   have HN2:=Lib.hid (fun W A' c' (h:zcq W (fun b=>w.heap.size≤b) A' (zdm P))=>zik (zdm P) _ A' c' W h)
   have HI1:=Lib.hid (fun W (e:Ext w W)=>zhm L ok A c W (hv.ext e))
   have HI2:=Lib.hid (fun W A' c' (h:zcq W (fun b=>w.heap.size≤b) A' (zdm P))=>zhm (zdm P) _ A' c' W h)
   have HY:=Lib.hid (zv7 (l:=P))
   have HB:=Lib.hid (zqd (l:=P))
   have HQ:=Lib.hid (fun k (hk:k < P.length) (A':Option Addr) c' W (h:zk W ok' A' P[k].v.l)=>zih P[k].v ok' A' c' W h)
   have HS0:=Lib.hid (World.ownsRow_nil w w.heap.size 9 1)
   clear hv hp
   generalize zcf L P=R at *
   generalize L.all zbk=n1 at *
   obtain ⟨n2,hn2⟩:∃ n2,n2=(zdm P).all zbk:=⟨_,rfl⟩
   generalize zdv L=i1 at *
   obtain ⟨i2,hi2⟩:∃ i2,i2=zdv (zdm P):=⟨_,rfl⟩
   rw [←hn2] at HN2 HR
   rw [←hi2] at HI2 HR
   clear hn2 hi2
   generalize P.all (fun p=>za9 p.v)=q at *
   go_enter Tryz.func44,Tryz.ntmps44
   go_wp2_with fail
   go_loopw [5,20] (fun v u W => ∃ k:Nat,u= .int .i64 k∧k≤P.length∧Hid (W.ownsRow w.heap.size 9 1 v k ((zdm (P.take k)).map Value.string))∧Hid (Ext w W)) (fun _ u _=>P.length - (intOf u).toNat)
   case atStart=>exact ⟨0,rfl,Nat.zero_le _,HS0,Lib.hid (Ext.refl _)⟩
   case round =>
    clear HS0
    obtain ⟨k,rfl,hk,hown,hE⟩:=hrel
    by_cases hlt:k < P.length
    ·obtain ⟨b,o,rfl,hc⟩:=HP.out.2 Qk
     have h5:=hE.out.cell (hc k hlt).1
     obtain ⟨-,A',c',h6,-,-⟩:=zx.iff.1 (hc k hlt).2
     obtain ⟨d0,d1,d2,d3,d4⟩:=h6.ext hE.out
     have HSN:=Lib.hid (zrv P k hlt)
     clear hc h6 HQ HB HY HN1 HN2 HI1 HI2
     generalize P[k]=x at *
     have hown':=hown.out
     have hE':=hE.out
     clear hown hE
     have hkb:k+1≤8388608:=by omega
     go_wp2_with (at_builtin;refine zvh zwt rfl (.tmp 24) (.tmp 27) rfl w _ _ k _ [.string x.key] rfl (zag hown' Qg) (hE'.trans Qg) rfl (wr.heap.size+1) (by simp) rfl rfl (by simp [Value.oneCell']) hkb Qj ?_;intro v2 w9 hown2 hE9 hF9;clear hF9)
     have HO2:=Lib.hid (show w9.ownsRow w.heap.size 9 1 v2 (k+1) ((zdm (P.take (k+1))).map Value.string) by rw [HSN.out];exact hown2)
     have HE9:=Lib.hid hE9
     clear hown2 hE9 hown' hE'
     go_roundw
     case rel=>exact ⟨k+1,by go_num,by omega,HO2,HE9⟩
     case measure=>simp [intOf];omega
    ·obtain ⟨A1,c1,rfl,-,hS1⟩:=zph (l:=zdm P) (by have:=hown.out;rwa [List.take_of_length_le Qk] at this) (by rw [zm4];omega) (by rw [zm4];omega)
     have hx1:=hE.out
     clear hown hE
     generalize zdm P=KS at *
     cases n1
     ·clear HY HB HQ HI1 HI2 HN2
      go_wp2_with (first|(go_at_call 77;((with_reducible refine (HN1.out _ Qg).mono ?_);rintro e w1x ⟨rfl,rfl⟩))|(go_at_call 77;((with_reducible refine (HN2.out _ A1 c1 hS1).mono ?_);rintro e w1x ⟨rfl,rfl⟩))|(go_at_call 79;((with_reducible refine (HI1.out _ hx1).mono ?_);rintro e w2 ⟨rfl,hx2⟩))|(go_at_call 79;((with_reducible refine (HI2.out _ A1 c1 (hS1.ext hx2)).mono ?_);rintro e w3 ⟨rfl,hx3⟩)))
      go_ret
      exact ⟨zm (by rw [HR.out];rfl),hx1⟩
     ·cases n2
      ·clear HY HB HQ HI1 HI2
       go_wp2_with (first|(go_at_call 77;((with_reducible refine (HN1.out _ Qg).mono ?_);rintro e w1x ⟨rfl,rfl⟩))|(go_at_call 77;((with_reducible refine (HN2.out _ A1 c1 hS1).mono ?_);rintro e w1x ⟨rfl,rfl⟩))|(go_at_call 79;((with_reducible refine (HI1.out _ hx1).mono ?_);rintro e w2 ⟨rfl,hx2⟩))|(go_at_call 79;((with_reducible refine (HI2.out _ A1 c1 (hS1.ext hx2)).mono ?_);rintro e w3 ⟨rfl,hx3⟩)))
       go_ret
       exact ⟨zm (by rw [HR.out];rfl),hx1⟩
      ·cases i1
       ·clear HY HB HQ HI2
        go_wp2_with (first|(go_at_call 77;((with_reducible refine (HN1.out _ Qg).mono ?_);rintro e w1x ⟨rfl,rfl⟩))|(go_at_call 77;((with_reducible refine (HN2.out _ A1 c1 hS1).mono ?_);rintro e w1x ⟨rfl,rfl⟩))|(go_at_call 79;((with_reducible refine (HI1.out _ hx1).mono ?_);rintro e w2 ⟨rfl,hx2⟩))|(go_at_call 79;((with_reducible refine (HI2.out _ A1 c1 (hS1.ext hx2)).mono ?_);rintro e w3 ⟨rfl,hx3⟩)))
        go_ret
        exact ⟨zm (by rw [HR.out];rfl),hx1.trans hx2⟩
       ·cases i2
        ·clear HY HB HQ
         go_wp2_with (first|(go_at_call 77;((with_reducible refine (HN1.out _ Qg).mono ?_);rintro e w1x ⟨rfl,rfl⟩))|(go_at_call 77;((with_reducible refine (HN2.out _ A1 c1 hS1).mono ?_);rintro e w1x ⟨rfl,rfl⟩))|(go_at_call 79;((with_reducible refine (HI1.out _ hx1).mono ?_);rintro e w2 ⟨rfl,hx2⟩))|(go_at_call 79;((with_reducible refine (HI2.out _ A1 c1 (hS1.ext hx2)).mono ?_);rintro e w3 ⟨rfl,hx3⟩)))
         go_ret
         exact ⟨zm (by rw [HR.out];rfl),(hx1.trans hx2).trans hx3⟩
        ·go_wp2_with (first|(go_at_call 77;((with_reducible refine (HN1.out _ Qg).mono ?_);rintro e w1x ⟨rfl,rfl⟩))|(go_at_call 77;((with_reducible refine (HN2.out _ A1 c1 hS1).mono ?_);rintro e w1x ⟨rfl,rfl⟩))|(go_at_call 79;((with_reducible refine (HI1.out _ hx1).mono ?_);rintro e w2 ⟨rfl,hx2⟩))|(go_at_call 79;((with_reducible refine (HI2.out _ A1 c1 (hS1.ext hx2)).mono ?_);rintro e w3 ⟨rfl,hx3⟩)))
         have hE0:=(hx1.trans hx2).trans hx3
         clear hx1 hx2 hx3 hS1 HN1 HN2 HI1 HI2
         go_loopw [46] (fun u W => ∃ k:Nat,u= .int .i64 k∧k≤P.length∧Hid (∀ i (hi:i < P.length),i < k→za9 P[i].v=true)∧Ext w W) (fun u _=>P.length - (intOf u).toNat)
         case atStart=>exact ⟨0,rfl,Nat.zero_le _,Lib.hid (fun i _ hi=>absurd hi (Nat.not_lt_zero _)),hE0⟩
         case round =>
          clear hE0
          obtain ⟨k,rfl,hk,hgd,hE⟩:=hrel
          by_cases hlt:k < P.length
          ·obtain ⟨b,o,rfl,hc⟩:=HP.out.2 Qk
           have h5:=hE.cell (hc k hlt).1
           obtain ⟨-,A',c',h6,-,hv'⟩:=zx.iff.1 (hc k hlt).2
           obtain ⟨d0,d1,d2,d3,d4⟩:=h6.ext hE
           have HC:=Lib.hid (fun W (e:Ext wr W)=>HQ.out k hlt A' c' W (hv'.ext (hE.trans e)))
           have HS:=Lib.hid (fun (h:za9 P[k].v=true) i hi (hj:i < k+1)=>(if e:i=k then (by subst e;exact h) else hgd.out i hi Qk:za9 P[i].v=true))
           have HB':=Lib.hid (HB.out k hlt)
           clear hc h6 hv' HQ HB HY hgd
           generalize P[k].key=ky at *
           generalize P[k].v=x at *
           generalize za9 x=y at *
           cases y
           ·have HT:=Lib.hid (HB'.out rfl)
            go_wp2_with (go_at_call 36;((with_reducible refine (HC.out _ Qg).mono ?_);rintro e w8 ⟨rfl,hx8⟩))
            go_ret
            exact ⟨zm (by rw [HR.out,HT.out];rfl),hE.trans (Ext.trans Qg hx8)⟩
           ·have HT:=Lib.hid (HS.out rfl)
            go_wp2_with (go_at_call 36;((with_reducible refine (HC.out _ Qg).mono ?_);rintro e w8 ⟨rfl,hx8⟩))
            go_roundw
            case rel=>exact ⟨k+1,by go_num,by omega,HT,hE.trans (Ext.trans Qg hx8)⟩
            case measure=>simp [intOf];omega
          ·have HT:=Lib.hid (HY.out (fun i hi=>hgd.out i hi Qk))
           go_wp2_with fail
           go_ret
           exact ⟨zm (by rw [HR.out,HT.out];rfl),hE⟩
  ·have HR:=Lib.hid (show zcf L P=4 by unfold zcf;rw [if_pos (.inr Qk)])
   clear hv hp
   go_enter Tryz.func44,Tryz.ntmps44
   go_wp2_with fail
   go_ret
   exact ⟨zm HR.out.symm,Ext.refl _⟩
 ·have HR:=Lib.hid (show zcf L P=4 by unfold zcf;rw [if_pos (.inl Qk)])
  clear hv hp
  go_enter Tryz.func44,Tryz.ntmps44
  go_wp2_with fail
  go_ret
  exact ⟨zm HR.out.symm,Ext.refl _⟩
theorem zoi (n:Int) (A B:Option Addr) (na c nb d:Nat) (m:Int) (w:World) :
  Calls Tryz.prog 81 #[.agg #[.int .i64 n, .slice A na c, .slice B nb d], .int .i64 m] w fun e w'=>e= .returned (.int .i64 (Lib.compareInt n m))∧Ext w w':=by
 go_enter Tryz.func81,Tryz.ntmps81
 go_wp2_with (go_at_call 82;((with_reducible refine (zdi _ _ _).mono ?_);rintro e w' ⟨rfl,rfl⟩))
 go_ret
 exact ⟨rfl,(Ext.refl _).alloc _⟩
theorem zyn {l:List zb} {n:Int} (i:Nat) (hi:i < l.length) (h:l[i]!.id=n):zav l n=true:=by
 unfold zav
 rw [List.any_eq_true]
 exact ⟨l[i],List.getElem_mem hi,by rw [getElem!_pos l i hi] at h;exact decide_eq_true h⟩
theorem zzd {l:List zb} {n:Int} (h:∀ i,i < l.length→l[i]!.id ≠ n):zav l n=false:=by
 unfold zav
 rw [List.any_eq_false]
 intro x hx
 obtain ⟨i,hi,rfl⟩:=List.getElem_of_mem hx
 have:=h i hi
 rw [getElem!_pos l i hi] at this
 rw [decide_eq_false this];exact Bool.false_ne_true
theorem zyj {a b:Int} (h:a < b):Lib.compareInt a b = -1:=by unfold Lib.compareInt;rw [if_pos h]
theorem zyp {a b:Int} (h:¬a < b):¬Lib.compareInt a b < 0:=by unfold Lib.compareInt;rw [if_neg h];split <;> omega
theorem zy2 (a:Int):Lib.compareInt a a=0:=by unfold Lib.compareInt;rw [if_neg Qk,if_neg Qk]
theorem zyz {a b:Int} (h:a ≠ b):Lib.compareInt a b ≠ 0:=by unfold Lib.compareInt;split <;> (try split) <;> omega
theorem zz5 (l:List zb) (ok:Nat→Prop) (A:Option Addr) (c:Nat) (n:Int) (w:World) (hv:zf5 w ok A l) (hsort:∀ i j,i < j→j < l.length→l[i]!.id < l[j]!.id) :
  Calls Tryz.prog 80 #[.slice A l.length c, .int .i64 n, .func (.func 81) #[] #[]] w fun e w'=>(∃ i:Int,e= .returned (.tuple #[.int .i64 i, .bool (zav l n)]))∧Ext w w':=by
 have hm:=hv.len
 have HV:=Lib.hid hv
 have HY:=Lib.hid (zyn (l:=l) (n:=n))
 have HN:=Lib.hid (zzd (l:=l) (n:=n))
 have HS:=Lib.hid hsort
 generalize zav l n=R at *
 clear hv hsort
 go_enter Tryz.func80,Tryz.ntmps80
 go_wp2_with fail
 go_loopw [9,10] (fun u v W => ∃ i j:Nat,u= .int .i64 i∧v= .int .i64 j∧i≤j∧j≤l.length∧Hid (∀ t,t < i→l[t]!.id < n)∧Hid (∀ t,j≤t→t < l.length→n≤l[t]!.id)∧Ext w W) (fun u v _=>(intOf v - intOf u).toNat)
 case atStart=>exact ⟨0,l.length,rfl,rfl,Nat.zero_le _,Nat.le_refl _,Lib.hid (fun t ht=>absurd ht Qk),Lib.hid (fun t h1 h2=>absurd h1 Qk),Ext.refl _⟩
 case round =>
  obtain ⟨i,j,rfl,rfl,hij,hjl,hlo,hhi,hE⟩:=hrel
  by_cases hlt:i < j
  ·obtain ⟨b,off,rfl,hc⟩:=HV.out.2 Qk
   have hm1:(i+j) / 2 < l.length:=by omega
   obtain ⟨-,d0,A',c',B',d',d1,-,-,d2,-,-⟩:=(hc ((i+j) / 2) hm1).ext hE
   rw [←getElem!_pos l ((i+j) / 2) hm1] at d0 d1 d2
   have HL:=Lib.hid (fun (h:l[(i+j) / 2]!.id < n) t (ht:t < (i+j) / 2+1)=>(if e:t=(i+j) / 2 then (by rw [e];exact h) else (Int.lt_trans (HS.out t _ Qk hm1) h):l[t]!.id < n))
   have HH:=Lib.hid (fun (h:n≤l[(i+j) / 2]!.id) t (ht:(i+j) / 2≤t) (htl:t < l.length)=>(if e:t=(i+j) / 2 then (by rw [e];exact h) else (Int.le_trans h (Int.le_of_lt (HS.out _ t Qk htl))):n≤l[t]!.id))
   clear hc
   generalize l[(i+j) / 2]! = x at *
   have q1:(0:Int)≤((i:Int)+(j:Int)) / 2:=by omega
   have q2:((i:Int)+(j:Int)) / 2 < (l.length:Int):=by omega
   have q3:(((i:Int)+(j:Int)) / 2).toNat=(i+j) / 2:=by omega
   by_cases ho:x.id < n
   ·have HX:=Lib.hid (HL.out ho)
    have HC:=Lib.hid (fun W=>zoi x.id A' B' x.labels.length c' x.props.length d' n W)
    rw [zyj ho] at HC
    clear ho HL HH
    go_wp2_with (go_at_call 81;((with_reducible refine (HC.out _).mono ?_);rintro e w8 ⟨rfl,hx8⟩))
    go_roundw
    case rel=>exact ⟨(i+j) / 2+1,j,congrArg (Value.int .i64) Qk,rfl,by omega,hjl,HX,hhi,hE.trans hx8⟩
    case measure=>simp [intOf];omega
   ·have HX:=Lib.hid (HH.out Qk)
    have ho':=zyp ho
    have HC:=Lib.hid (fun W=>zoi x.id A' B' x.labels.length c' x.props.length d' n W)
    generalize Lib.compareInt x.id n=z at *
    have ho2:decide (z < 0)=false:=decide_eq_false ho'
    clear ho ho' HL HH
    go_wp2_with (go_at_call 81;((with_reducible refine (HC.out _).mono ?_);rintro e w8 ⟨rfl,hx8⟩))
    go_roundw
    case rel=>exact ⟨i,(i+j) / 2,rfl,congrArg (Value.int .i64) Qk,by omega,by omega,hlo,HX,hE.trans hx8⟩
    case measure=>simp [intOf];omega
  ·obtain rfl:i=j:=by omega
   by_cases hin:i < l.length
   ·obtain ⟨b,off,rfl,hc⟩:=HV.out.2 Qk
    obtain ⟨-,d0,A',c',B',d',d1,-,-,d2,-,-⟩:=(hc i hin).ext hE
    rw [←getElem!_pos l i hin] at d0 d1 d2
    have HX1:=Lib.hid (HY.out i hin)
    have HX2:=Lib.hid (fun (h:l[i]!.id ≠ n)=>HN.out (fun t ht=>by
     rcases Nat.lt_trichotomy t i with h1|h1|h1
     ·have:=hlo.out t h1;omega
     ·rw [h1];exact h
     ·have h2:=hhi.out i (Nat.le_refl _) hin
      have h3:=HS.out i t h1 ht
      omega))
    have HC:=Lib.hid (fun W=>zoi l[i]!.id A' B' l[i]!.labels.length c' l[i]!.props.length d' n W)
    clear hc HY HN
    generalize l[i]! = x at *
    by_cases he:x.id=n
    ·have HT:=Lib.hid (HX1.out he)
     rw [he] at d0 HC
     rw [zy2] at HC
     clear he HX1 HX2
     go_wp2_with (go_at_call 81;((with_reducible refine (HC.out _).mono ?_);rintro e w8 ⟨rfl,hx8⟩))
     go_ret2
     exact ⟨⟨(i:Int),by rw [HT.out];rfl⟩,hE.trans hx8⟩
    ·have HT:=Lib.hid (HX2.out he)
     have hz:(Lib.compareInt x.id n == 0)=false:=beq_eq_false_iff_ne.2 (zyz he)
     generalize Lib.compareInt x.id n=z at *
     clear he HX1 HX2
     go_wp2_with (go_at_call 81;((with_reducible refine (HC.out _).mono ?_);rintro e w8 ⟨rfl,hx8⟩))
     go_ret2
     exact ⟨⟨(i:Int),by rw [HT.out];rfl⟩,hE.trans hx8⟩
   ·have HT:=Lib.hid (HN.out (fun t ht=>by have:=hlo.out t Qk;omega))
    go_wp2_with fail
    go_ret2
    exact ⟨⟨(i:Int),by rw [HT.out];rfl⟩,hE⟩
theorem zx3 (l:List zb) (ok:Nat→Prop) (A:Option Addr) (c:Nat) (n:Int) (w:World) (hv:zf5 w ok A l) (hsort:∀ i j,i < j→j < l.length→l[i]!.id < l[j]!.id) :
  Calls Tryz.prog 45 #[.slice A l.length c, .int .i64 n] w fun e w'=>e= .returned (.bool (zav l n))∧Ext w w':=by
 have HC:=Lib.hid (zz5 l ok A c n w hv hsort)
 clear hv hsort
 generalize zav l n=R at *
 go_enter Tryz.func45,Tryz.ntmps45
 go_wp2_with (go_at_call 80;((with_reducible refine (HC.out).mono ?_);rintro e w8 ⟨⟨i,rfl⟩,hx8⟩))
 go_ret
 exact ⟨rfl,hx8⟩
theorem zum (w:World) (A B:Option Addr) (c d:Nat) (g:za) (t:TypeId):∃ (q:Nat) (w1:World),q=w.heap.size∧w1=w.alloc (.cells #[.slice A g.nodes.length c, .slice B g.edges.length d, .int .i64 g.nn, .int .i64 g.ne] t)∧w1.cell? ⟨q,0,none⟩=some (.slice A g.nodes.length c)∧w1.cell? ⟨q,1,none⟩=some (.slice B g.edges.length d)∧w1.cell? ⟨q,2,none⟩=some (.int .i64 g.nn)∧w1.cell? ⟨q,3,none⟩=some (.int .i64 g.ne)∧Ext w w1 :=
 ⟨_,_,rfl,rfl,by go_simp,by go_simp,by go_simp,by go_simp,(Ext.refl _).alloc _⟩
theorem zs6 (n:Int) (A B:Option Addr) (na c nb d:Nat) (m:Int) (w:World) :
  Calls Tryz.prog 133 #[.agg #[.int .i64 n, .slice A na c, .slice B nb d], .int .i64 m] w fun e w'=>e= .returned (.int .i64 (Lib.compareInt n m))∧Ext w w':=by
 go_enter Tryz.func133,Tryz.ntmps133
 go_wp2_with (go_at_call 82;((with_reducible refine (zdi _ _ _).mono ?_);rintro e w' ⟨rfl,rfl⟩))
 go_ret
 exact ⟨rfl,(Ext.refl _).alloc _⟩
theorem zwe {w:World} {base:Nat} {lv pv:Int→Value} {l:List zb} {g c:Nat} (h:w.ownsRow base 57 3 (.slice (some ⟨g,0,none⟩) l.length c) l.length (l.flatMap (zbj lv pv))) (i:Nat) (hi:i < l.length) (j:Nat) (hj:j < 3) (u:Value) (hu:(zbj lv pv l[i]!)[j]? = some u):w.cell? ⟨g,i*3+j,none⟩=some u:=by
 have h1:(i+1)*3≤l.length*3:=Nat.mul_le_mul_right _ hi
 rw [World.ownsRow.cellAt h (i*3+j) Qk,zce (zbj lv pv) 3 (fun _=>rfl) l i j hi hj,←getElem!_pos l i hi]
 exact hu
theorem zy5 (lv pv:Int→Value) (l:List zb) (base:Nat) (V:Value) (x:Int) (w:World) (hV:w.ownsRow base 57 3 V l.length (l.flatMap (zbj lv pv))) (hf:∀ n ∈ l,∃ A c B d,lv n.id= .slice A n.labels.length c∧pv n.id= .slice B n.props.length d) (hs:za0 cI zb.id l) (hl:l.length≤100000) :
  Calls Tryz.prog 80 #[V, .int .i64 x, .func (.func 133) #[] #[]] w fun e w'=>e= .returned (.tuple #[.int .i64 ((zg cI zb.id l x:Nat):Int), .bool (decide (∃ a ∈ l,zb.id a=x))])∧Ext w w':=by
 obtain ⟨A,c,rfl⟩:=zao hV
 have HA:=Lib.hid (fun (h:0 < l.length)=>(by
  obtain ⟨g,cap,cur,e,-⟩:=zbp hV h
  injection e with e1 e2 e3
  exact ⟨g,e1⟩:∃ g,A=some ⟨g,0,none⟩))
 have HV:=Lib.hid hV
 have HF:=Lib.hid hf
 clear hf
 have HI:=Lib.hid (fun (i:Nat) (h:i < l.length)=>(by rw [getElem!_pos l i h];exact ziz zct hs x h:cI (zb.id l[i]!) x < 0 ↔ i < zg cI zb.id l x))
 have HM:=Lib.hid (zu zct hs x)
 have hlo:=zcm (c:=cI) (k:=zb.id) l x
 have HD:=Lib.hid (rfl:decide (∃ a ∈ l,zb.id a=x)=decide (∃ a ∈ l,zb.id a=x))
 generalize hL:zg cI zb.id l x=L at *
 clear hV hs hL HD
 generalize hR:decide (∃ a ∈ l,zb.id a=x)=R
 have HB:=Lib.hid hR
 clear hR
 go_enter Tryz.func80,Tryz.ntmps80
 go_wp2_with fail
 go_loopw [9,10] (fun u v W => ∃ i j:Nat,u= .int .i64 i∧v= .int .i64 j∧i≤L∧L≤j∧j≤l.length∧Ext w W) (fun u v _=>(intOf v - intOf u).toNat)
 case atStart=>exact ⟨0,l.length,rfl,rfl,Nat.zero_le _,hlo,Nat.le_refl _,Ext.refl _⟩
 case round =>
  obtain ⟨i,j,rfl,rfl,hi,hj,hjl,hE⟩:=hrel
  by_cases hlt:i < j
  ·have hm1:(i+j) / 2 < l.length:=by omega
   obtain ⟨g,rfl⟩:=HA.out Qk
   have HR:=Lib.hid (zwe HV.out)
   obtain ⟨A',c',B',d',f1,f2⟩:=HF.out _ (ze9 hm1)
   have d0:=hE.cell (HR.out ((i+j) / 2) hm1 0 Qk (.int .i64 (l[(i+j) / 2]!).id) rfl)
   have d1:=hE.cell (HR.out ((i+j) / 2) hm1 1 Qk (.slice A' (l[(i+j) / 2]!).labels.length c') (by rw [←f1];rfl))
   have d2:=hE.cell (HR.out ((i+j) / 2) hm1 2 Qk (.slice B' (l[(i+j) / 2]!).props.length d') (by rw [←f2];rfl))
   simp only [Nat.add_zero] at d0
   have HX:=Lib.hid (HI.out ((i+j) / 2) hm1)
   clear f1 f2
   generalize l[(i+j) / 2]! = y at *
   have q1:(0:Int)≤((i:Int)+(j:Int)) / 2:=by omega
   have q2:((i:Int)+(j:Int)) / 2 < (l.length:Int):=by omega
   have q3:(((i:Int)+(j:Int)) / 2).toNat=(i+j) / 2:=by omega
   have HC:=Lib.hid (fun W=>zs6 y.id A' B' y.labels.length c' y.props.length d' x W)
   have HX2:Hid (cI y.id x < 0 ↔ (i+j) / 2 < L):=HX
   clear HX HR
   skip
   generalize hz:Lib.compareInt y.id x=z at *
   by_cases ho:z < 0
   ·have HY:=Lib.hid ((by have h2:=HX2.out;rw [←h2];first|exact ho|(show Lib.compareInt y.id x < 0;rw [hz];exact ho)):(i+j) / 2 < L)
    have ho':decide (z < 0)=true:=decide_eq_true ho
    clear ho HX2 hz
    go_wp2_with (go_at_call 133;((with_reducible refine (HC.out _).mono ?_);rintro e w8 ⟨rfl,hx8⟩))
    have hy:=HY.out
    go_roundw
    case rel=>exact ⟨(i+j) / 2+1,j,congrArg (Value.int .i64) Qk,rfl,by omega,hj,hjl,hE.trans hx8⟩
    case measure=>simp [intOf];omega
   ·have HY:=Lib.hid ((by have h2:=HX2.out;refine Nat.le_of_not_lt (fun h3=>ho ?_);first|exact h2.2 h3|(have h4:=h2.2 h3;rw [←hz];exact h4)):L≤(i+j) / 2)
    have ho':decide (z < 0)=false:=decide_eq_false ho
    clear ho HX2 hz
    go_wp2_with (go_at_call 133;((with_reducible refine (HC.out _).mono ?_);rintro e w8 ⟨rfl,hx8⟩))
    have hy:=HY.out
    go_roundw
    case rel=>exact ⟨i,(i+j) / 2,rfl,congrArg (Value.int .i64) Qk,hi,hy,by omega,hE.trans hx8⟩
    case measure=>simp [intOf];omega
  ·obtain rfl:i=j:=by omega
   obtain rfl:i=L:=by omega
   by_cases hin:i < l.length
   ·obtain ⟨g,rfl⟩:=HA.out Qk
    have HR:=Lib.hid (zwe HV.out)
    obtain ⟨A',c',B',d',f1,f2⟩:=HF.out _ (ze9 hin)
    have d0:=hE.cell (HR.out (i) hin 0 Qk (.int .i64 (l[i]!).id) rfl)
    have d1:=hE.cell (HR.out (i) hin 1 Qk (.slice A' (l[i]!).labels.length c') (by rw [←f1];rfl))
    have d2:=hE.cell (HR.out (i) hin 2 Qk (.slice B' (l[i]!).props.length d') (by rw [←f2];rfl))
    simp only [Nat.add_zero] at d0
    have HT:=Lib.hid (show R=decide (zb.id l[i]! = x) by
     rw [←HB.out]
     exact decide_eq_decide.2 (HM.out.trans ⟨fun h=>h.2,fun h=>⟨hin,h⟩⟩))
    clear f1 f2
    have HZ:=Lib.hid (show (Lib.compareInt (zb.id l[i]!) x == 0)=decide (zb.id l[i]! = x) by
     rw [Bool.eq_iff_iff,beq_iff_eq,decide_eq_true_iff]
     exact zct.zero _ _)
    generalize l[i]! = y at *
    have HC:=Lib.hid (fun W=>zs6 y.id A' B' y.labels.length c' y.props.length d' x W)
    have hz2:(Lib.compareInt y.id x == 0)=R:=by rw [HT.out];exact HZ.out
    generalize Lib.compareInt y.id x=z at *
    clear HT HZ HR HB HM
    go_wp2_with (go_at_call 133;((with_reducible refine (HC.out _).mono ?_);rintro e w8 ⟨rfl,hx8⟩))
    go_ret2
    exact ⟨rfl,hE.trans hx8⟩
   ·have HT:=Lib.hid (show R=false by
     rw [←HB.out]
     exact decide_eq_false (fun h=>hin (HM.out.1 h).1))
    clear HB HM
    go_wp2_with fail
    go_ret2
    exact ⟨by rw [HT.out];rfl,hE⟩
theorem zs2 (n f t:Int) (s:ByteArray) (A:Option Addr) (na c:Nat) (m:Int) (w:World) :
  Calls Tryz.prog 135 #[.agg #[.int .i64 n, .int .i64 f, .int .i64 t, .string s, .slice A na c], .int .i64 m] w fun e w'=>e= .returned (.int .i64 (Lib.compareInt n m))∧Ext w w':=by
 go_enter Tryz.func135,Tryz.ntmps135
 go_wp2_with (go_at_call 82;((with_reducible refine (zdi _ _ _).mono ?_);rintro e w' ⟨rfl,rfl⟩))
 go_ret
 exact ⟨rfl,(Ext.refl _).alloc _⟩
theorem zop {w:World} {base:Nat} {ev:Int→Value} {l:List zf} {g c:Nat} (h:w.ownsRow base 59 5 (.slice (some ⟨g,0,none⟩) l.length c) l.length (l.flatMap (zb0 ev))) (i:Nat) (hi:i < l.length) (j:Nat) (hj:j < 5) (u:Value) (hu:(zb0 ev l[i]!)[j]? = some u):w.cell? ⟨g,i*5+j,none⟩=some u:=by
 have h1:(i+1)*5≤l.length*5:=Nat.mul_le_mul_right _ hi
 rw [World.ownsRow.cellAt h (i*5+j) Qk,zce (zb0 ev) 5 (fun _=>rfl) l i j hi hj,←getElem!_pos l i hi]
 exact hu
theorem zyw (ev:Int→Value) (l:List zf) (base:Nat) (V:Value) (x:Int) (w:World) (hV:w.ownsRow base 59 5 V l.length (l.flatMap (zb0 ev))) (hf:∀ n ∈ l,∃ A c,ev n.id= .slice A n.props.length c) (hs:za0 cI zf.id l) (hl:l.length≤100000) :
  Calls Tryz.prog 134 #[V, .int .i64 x, .func (.func 135) #[] #[]] w fun e w'=>e= .returned (.tuple #[.int .i64 ((zg cI zf.id l x:Nat):Int), .bool (decide (∃ a ∈ l,zf.id a=x))])∧Ext w w':=by
 obtain ⟨A,c,rfl⟩:=zao hV
 have HA:=Lib.hid (fun (h:0 < l.length)=>(by
  obtain ⟨g,cap,cur,e,-⟩:=zbp hV h
  injection e with e1 e2 e3
  exact ⟨g,e1⟩:∃ g,A=some ⟨g,0,none⟩))
 have HV:=Lib.hid hV
 have HF:=Lib.hid hf
 clear hf
 have HI:=Lib.hid (fun (i:Nat) (h:i < l.length)=>(by rw [getElem!_pos l i h];exact ziz zct hs x h:cI (zf.id l[i]!) x < 0 ↔ i < zg cI zf.id l x))
 have HM:=Lib.hid (zu zct hs x)
 have hlo:=zcm (c:=cI) (k:=zf.id) l x
 have HD:=Lib.hid (rfl:decide (∃ a ∈ l,zf.id a=x)=decide (∃ a ∈ l,zf.id a=x))
 generalize hL:zg cI zf.id l x=L at *
 clear hV hs hL HD
 generalize hR:decide (∃ a ∈ l,zf.id a=x)=R
 have HB:=Lib.hid hR
 clear hR
 go_enter Tryz.func134,Tryz.ntmps134
 go_wp2_with fail
 go_loopw [9,10] (fun u v W => ∃ i j:Nat,u= .int .i64 i∧v= .int .i64 j∧i≤L∧L≤j∧j≤l.length∧Ext w W) (fun u v _=>(intOf v - intOf u).toNat)
 case atStart=>exact ⟨0,l.length,rfl,rfl,Nat.zero_le _,hlo,Nat.le_refl _,Ext.refl _⟩
 case round =>
  obtain ⟨i,j,rfl,rfl,hi,hj,hjl,hE⟩:=hrel
  by_cases hlt:i < j
  ·have hm1:(i+j) / 2 < l.length:=by omega
   obtain ⟨g,rfl⟩:=HA.out Qk
   have HR:=Lib.hid (zop HV.out)
   obtain ⟨A',c',f1⟩:=HF.out _ (ze9 hm1)
   have d0:=hE.cell (HR.out ((i+j) / 2) hm1 0 Qk (.int .i64 (l[(i+j) / 2]!).id) rfl)
   have d1:=hE.cell (HR.out ((i+j) / 2) hm1 1 Qk (.int .i64 (l[(i+j) / 2]!).frm) rfl)
   have d2:=hE.cell (HR.out ((i+j) / 2) hm1 2 Qk (.int .i64 (l[(i+j) / 2]!).to_) rfl)
   have d3:=hE.cell (HR.out ((i+j) / 2) hm1 3 Qk (.string (l[(i+j) / 2]!).typ) rfl)
   have d4:=hE.cell (HR.out ((i+j) / 2) hm1 4 Qk ((.slice A' (l[(i+j) / 2]!).props.length c')) (by rw [←f1];rfl))
   simp only [Nat.add_zero] at d0
   have HX:=Lib.hid (HI.out ((i+j) / 2) hm1)
   clear f1
   generalize l[(i+j) / 2]! = y at *
   have q1:(0:Int)≤((i:Int)+(j:Int)) / 2:=by omega
   have q2:((i:Int)+(j:Int)) / 2 < (l.length:Int):=by omega
   have q3:(((i:Int)+(j:Int)) / 2).toNat=(i+j) / 2:=by omega
   have HC:=Lib.hid (fun W=>zs2 y.id y.frm y.to_ y.typ A' y.props.length c' x W)
   have HX2:Hid (cI y.id x < 0 ↔ (i+j) / 2 < L):=HX
   clear HX HR
   skip
   generalize hz:Lib.compareInt y.id x=z at *
   by_cases ho:z < 0
   ·have HY:=Lib.hid ((by have h2:=HX2.out;rw [←h2];first|exact ho|(show Lib.compareInt y.id x < 0;rw [hz];exact ho)):(i+j) / 2 < L)
    have ho':decide (z < 0)=true:=decide_eq_true ho
    clear ho HX2 hz
    go_wp2_with (go_at_call 135;((with_reducible refine (HC.out _).mono ?_);rintro e w8 ⟨rfl,hx8⟩))
    have hy:=HY.out
    go_roundw
    case rel=>exact ⟨(i+j) / 2+1,j,congrArg (Value.int .i64) Qk,rfl,by omega,hj,hjl,hE.trans hx8⟩
    case measure=>simp [intOf];omega
   ·have HY:=Lib.hid ((by have h2:=HX2.out;refine Nat.le_of_not_lt (fun h3=>ho ?_);first|exact h2.2 h3|(have h4:=h2.2 h3;rw [←hz];exact h4)):L≤(i+j) / 2)
    have ho':decide (z < 0)=false:=decide_eq_false ho
    clear ho HX2 hz
    go_wp2_with (go_at_call 135;((with_reducible refine (HC.out _).mono ?_);rintro e w8 ⟨rfl,hx8⟩))
    have hy:=HY.out
    go_roundw
    case rel=>exact ⟨i,(i+j) / 2,rfl,congrArg (Value.int .i64) Qk,hi,hy,by omega,hE.trans hx8⟩
    case measure=>simp [intOf];omega
  ·obtain rfl:i=j:=by omega
   obtain rfl:i=L:=by omega
   by_cases hin:i < l.length
   ·obtain ⟨g,rfl⟩:=HA.out Qk
    have HR:=Lib.hid (zop HV.out)
    obtain ⟨A',c',f1⟩:=HF.out _ (ze9 hin)
    have d0:=hE.cell (HR.out (i) hin 0 Qk (.int .i64 (l[i]!).id) rfl)
    have d1:=hE.cell (HR.out (i) hin 1 Qk (.int .i64 (l[i]!).frm) rfl)
    have d2:=hE.cell (HR.out (i) hin 2 Qk (.int .i64 (l[i]!).to_) rfl)
    have d3:=hE.cell (HR.out (i) hin 3 Qk (.string (l[i]!).typ) rfl)
    have d4:=hE.cell (HR.out (i) hin 4 Qk ((.slice A' (l[i]!).props.length c')) (by rw [←f1];rfl))
    simp only [Nat.add_zero] at d0
    have HT:=Lib.hid (show R=decide (zf.id l[i]! = x) by
     rw [←HB.out]
     exact decide_eq_decide.2 (HM.out.trans ⟨fun h=>h.2,fun h=>⟨hin,h⟩⟩))
    clear f1
    have HZ:=Lib.hid (show (Lib.compareInt (zf.id l[i]!) x == 0)=decide (zf.id l[i]! = x) by
     rw [Bool.eq_iff_iff,beq_iff_eq,decide_eq_true_iff]
     exact zct.zero _ _)
    generalize l[i]! = y at *
    have HC:=Lib.hid (fun W=>zs2 y.id y.frm y.to_ y.typ A' y.props.length c' x W)
    have hz2:(Lib.compareInt y.id x == 0)=R:=by rw [HT.out];exact HZ.out
    generalize Lib.compareInt y.id x=z at *
    clear HT HZ HR HB HM
    go_wp2_with (go_at_call 135;((with_reducible refine (HC.out _).mono ?_);rintro e w8 ⟨rfl,hx8⟩))
    go_ret2
    exact ⟨rfl,hE.trans hx8⟩
   ·have HT:=Lib.hid (show R=false by
     rw [←HB.out]
     exact decide_eq_false (fun h=>hin (HM.out.1 h).1))
    clear HB HM
    go_wp2_with fail
    go_ret2
    exact ⟨by rw [HT.out];rfl,hE⟩
theorem zsm (s:ByteArray) (k n d:Int) (s2:ByteArray) (A:Option Addr) (na c:Nat) (m:ByteArray) (w:World) :
  Calls Tryz.prog 175 #[.agg #[.string s, .int .i64 k, .int .i64 n, .int .i64 d, .string s2, .slice A na c], .string m] w fun e w'=>e= .returned (.int .i64 (zn s m))∧Ext w w':=by
 go_enter Tryz.func175,Tryz.ntmps175
 go_wp2_with (go_at_call 106;((with_reducible refine (zi9 _ _ _).mono ?_);rintro e w' ⟨rfl,rfl⟩))
 go_ret
 exact ⟨rfl,(Ext.refl _).alloc _⟩
theorem zrc {w:World} {base:Nat} {l:List HP} {g c:Nat} (h:w.ownsRow base 54 6 (.slice (some ⟨g,0,none⟩) l.length c) l.length (l.flatMap (HP.enc))) (i:Nat) (hi:i < l.length) (j:Nat) (hj:j < 6) (u:Value) (hu:(HP.enc l[i]!)[j]? = some u):w.cell? ⟨g,i*6+j,none⟩=some u:=by
 have h1:(i+1)*6≤l.length*6:=Nat.mul_le_mul_right _ hi
 rw [World.ownsRow.cellAt h (i*6+j) Qk,zce (HP.enc) 6 (fun _=>rfl) l i j hi hj,←getElem!_pos l i hi]
 exact hu
theorem zig (l:List HP) (base:Nat) (V:Value) (x:ByteArray) (w:World) (hV:w.ownsRow base 54 6 V l.length (l.flatMap (HP.enc))) (hs:za0 zn zbr l) (hl:l.length≤100000) :
  Calls Tryz.prog 174 #[V, .string x, .func (.func 175) #[] #[]] w fun e w'=>e= .returned (.tuple #[.int .i64 ((zg zn zbr l x:Nat):Int), .bool (decide (∃ a ∈ l,zbr a=x))])∧Ext w w':=by
 obtain ⟨A,c,rfl⟩:=zao hV
 have HA:=Lib.hid (fun (h:0 < l.length)=>(by
  obtain ⟨g,cap,cur,e,-⟩:=zbp hV h
  injection e with e1 e2 e3
  exact ⟨g,e1⟩:∃ g,A=some ⟨g,0,none⟩))
 have HV:=Lib.hid hV
 have HI:=Lib.hid (fun (i:Nat) (h:i < l.length)=>(by rw [getElem!_pos l i h];exact ziz zae.str hs x h:zn (zbr l[i]!) x < 0 ↔ i < zg zn zbr l x))
 have HM:=Lib.hid (zu zae.str hs x)
 have hlo:=zcm (c:=zn) (k:=zbr) l x
 have HD:=Lib.hid (rfl:decide (∃ a ∈ l,zbr a=x)=decide (∃ a ∈ l,zbr a=x))
 generalize hL:zg zn zbr l x=L at *
 clear hV hs hL HD
 generalize hR:decide (∃ a ∈ l,zbr a=x)=R
 have HB:=Lib.hid hR
 clear hR
 go_enter Tryz.func174,Tryz.ntmps174
 go_wp2_with fail
 go_loopw [9,10] (fun u v W => ∃ i j:Nat,u= .int .i64 i∧v= .int .i64 j∧i≤L∧L≤j∧j≤l.length∧Ext w W) (fun u v _=>(intOf v - intOf u).toNat)
 case atStart=>exact ⟨0,l.length,rfl,rfl,Nat.zero_le _,hlo,Nat.le_refl _,Ext.refl _⟩
 case round =>
  obtain ⟨i,j,rfl,rfl,hi,hj,hjl,hE⟩:=hrel
  by_cases hlt:i < j
  ·have hm1:(i+j) / 2 < l.length:=by omega
   obtain ⟨g,rfl⟩:=HA.out Qk
   have HR:=Lib.hid (zrc HV.out)
   have d0:=hE.cell (HR.out ((i+j) / 2) hm1 0 Qk (.string (l[(i+j) / 2]!).p.key) rfl)
   have d1:=hE.cell (HR.out ((i+j) / 2) hm1 1 Qk (.int .i64 (l[(i+j) / 2]!).p.v.kind) rfl)
   have d2:=hE.cell (HR.out ((i+j) / 2) hm1 2 Qk (.int .i64 (l[(i+j) / 2]!).p.v.n) rfl)
   have d3:=hE.cell (HR.out ((i+j) / 2) hm1 3 Qk (.int .i64 (l[(i+j) / 2]!).p.v.d) rfl)
   have d4:=hE.cell (HR.out ((i+j) / 2) hm1 4 Qk (.string (l[(i+j) / 2]!).p.v.s) rfl)
   have d5:=hE.cell (HR.out ((i+j) / 2) hm1 5 Qk (.slice (l[(i+j) / 2]!).A 0 (l[(i+j) / 2]!).c) rfl)
   simp only [Nat.add_zero] at d0
   have HX:=Lib.hid (HI.out ((i+j) / 2) hm1)
   skip
   generalize l[(i+j) / 2]! = y at *
   have q1:(0:Int)≤((i:Int)+(j:Int)) / 2:=by omega
   have q2:((i:Int)+(j:Int)) / 2 < (l.length:Int):=by omega
   have q3:(((i:Int)+(j:Int)) / 2).toNat=(i+j) / 2:=by omega
   have HC:=Lib.hid (fun W=>zsm y.p.key y.p.v.kind y.p.v.n y.p.v.d y.p.v.s y.A 0 y.c x W)
   have HX2:Hid (zn y.p.key x < 0 ↔ (i+j) / 2 < L):=HX
   clear HX HR
   skip
   generalize hz:zn y.p.key x=z at *
   by_cases ho:z < 0
   ·have HY:=Lib.hid ((by have h2:=HX2.out;rw [←h2];first|exact ho|(show zn y.p.key x < 0;rw [hz];exact ho)):(i+j) / 2 < L)
    have ho':decide (z < 0)=true:=decide_eq_true ho
    clear ho HX2 hz
    go_wp2_with (go_at_call 175;((with_reducible refine (HC.out _).mono ?_);rintro e w8 ⟨rfl,hx8⟩))
    have hy:=HY.out
    go_roundw
    case rel=>exact ⟨(i+j) / 2+1,j,congrArg (Value.int .i64) Qk,rfl,by omega,hj,hjl,hE.trans hx8⟩
    case measure=>simp [intOf];omega
   ·have HY:=Lib.hid ((by have h2:=HX2.out;refine Nat.le_of_not_lt (fun h3=>ho ?_);first|exact h2.2 h3|(have h4:=h2.2 h3;rw [←hz];exact h4)):L≤(i+j) / 2)
    have ho':decide (z < 0)=false:=decide_eq_false ho
    clear ho HX2 hz
    go_wp2_with (go_at_call 175;((with_reducible refine (HC.out _).mono ?_);rintro e w8 ⟨rfl,hx8⟩))
    have hy:=HY.out
    go_roundw
    case rel=>exact ⟨i,(i+j) / 2,rfl,congrArg (Value.int .i64) Qk,hi,hy,by omega,hE.trans hx8⟩
    case measure=>simp [intOf];omega
  ·obtain rfl:i=j:=by omega
   obtain rfl:i=L:=by omega
   by_cases hin:i < l.length
   ·obtain ⟨g,rfl⟩:=HA.out Qk
    have HR:=Lib.hid (zrc HV.out)
    have d0:=hE.cell (HR.out (i) hin 0 Qk (.string (l[i]!).p.key) rfl)
    have d1:=hE.cell (HR.out (i) hin 1 Qk (.int .i64 (l[i]!).p.v.kind) rfl)
    have d2:=hE.cell (HR.out (i) hin 2 Qk (.int .i64 (l[i]!).p.v.n) rfl)
    have d3:=hE.cell (HR.out (i) hin 3 Qk (.int .i64 (l[i]!).p.v.d) rfl)
    have d4:=hE.cell (HR.out (i) hin 4 Qk (.string (l[i]!).p.v.s) rfl)
    have d5:=hE.cell (HR.out (i) hin 5 Qk (.slice (l[i]!).A 0 (l[i]!).c) rfl)
    simp only [Nat.add_zero] at d0
    have HT:=Lib.hid (show R=decide (zbr l[i]! = x) by
     rw [←HB.out]
     exact decide_eq_decide.2 (HM.out.trans ⟨fun h=>h.2,fun h=>⟨hin,h⟩⟩))
    skip
    have HZ:=Lib.hid (show (zn (zbr l[i]!) x == 0)=decide (zbr l[i]! = x) by
     rw [Bool.eq_iff_iff,beq_iff_eq,decide_eq_true_iff]
     exact zae.str.zero _ _)
    generalize l[i]! = y at *
    have HC:=Lib.hid (fun W=>zsm y.p.key y.p.v.kind y.p.v.n y.p.v.d y.p.v.s y.A 0 y.c x W)
    have hz2:(zn y.p.key x == 0)=R:=by rw [HT.out];exact HZ.out
    generalize zn y.p.key x=z at *
    clear HT HZ HR HB HM
    go_wp2_with (go_at_call 175;((with_reducible refine (HC.out _).mono ?_);rintro e w8 ⟨rfl,hx8⟩))
    go_ret2
    exact ⟨rfl,hE.trans hx8⟩
   ·have HT:=Lib.hid (show R=false by
     rw [←HB.out]
     exact decide_eq_false (fun h=>hin (HM.out.1 h).1))
    clear HB HM
    go_wp2_with fail
    go_ret2
    exact ⟨by rw [HT.out];rfl,hE⟩
end Go.Proofs.YtfhekbacigoblaaGreatDoor
