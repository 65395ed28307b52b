import Derived.Test.YtfhekbacigoblaaGreatDoorWT01
import Derived.Deep.RegionHeld3
import Derived.Deep.CutBlock
import Derived.Deep.DeepCutAuto
import Derived.Lib.BitFns
import Derived.Test.YtfhekbacigoblaaGreatDoorShelf
import Derived.Shelf.Spec.BitsCarry
namespace Go.Proofs.YtfhekbacigoblaaGreatDoor
set_option maxRecDepth 100000
def noSp (c:UInt8):Bool:=c != 32
theorem split32:∀ {a b r r':List UInt8},(∀ x ∈ a,noSp x=true)→(∀ x ∈ b,noSp x=true)→a ++ 32 :: r=b ++ 32 :: r'→a=b∧r=r'
 | [],[],r,r',_,_,h=>⟨rfl,(List.cons.inj h).2⟩
 | [],y :: b,r,r',_,hb,h=>by
  have:=(List.cons.inj h).1
  have h2:=hb y (by simp)
  rw [←this] at h2;cases h2
 | x :: a,[],r,r',ha,_,h=>by
  have:=(List.cons.inj h).1
  have h2:=ha x (by simp)
  rw [this] at h2;cases h2
 | x :: a,y :: b,r,r',ha,hb,h=>by
  obtain ⟨h1,h2⟩:=List.cons.inj h
  obtain ⟨h3,h4⟩:=split32 (fun z hz=>ha z (by simp [hz])) (fun z hz=>hb z (by simp [hz])) h2
  exact ⟨by rw [h1,h3],h4⟩
theorem itoa_noSp (n:Int):∀ c ∈ Lib.itoa n,noSp c=true:=by
 have hd:∀ u,∀ c ∈ Lib.decDigits u,noSp c=true:=fun u c h=>by
  have h2:=decDigits_all u c h
  unfold noSp
  rw [bne_iff_ne]
  rintro rfl
  exact absurd h2 Qj
 unfold Lib.itoa
 split
 ·intro c h
  rcases List.mem_cons.1 h with h|h
  ·rw [h];decide
  ·exact hd _ c h
 ·exact hd _
theorem itoa_inj' {m n:Int} (h:Lib.itoa m=Lib.itoa n):m=n:=by rw [←numOf_itoa m,h,numOf_itoa]
theorem name_noSp {s:ByteArray} (h:zbk s=true):∀ c ∈ s.data.toList,noSp c=true:=by
 unfold zbk at h
 generalize s.data.toList=l at h
 cases l with
 | nil=>cases h
 | cons a r =>
  simp only [zxd,Bool.and_eq_true,decide_eq_true_iff] at h
  intro c hc
  unfold noSp
  rw [bne_iff_ne]
  rintro rfl
  rcases List.mem_cons.1 hc with hc|hc
  ·rw [←hc] at h;exact absurd h.1.2 Qj
  ·exact absurd (List.all_eq_true.1 h.2 _ hc) Qj
theorem word_noSp (op:Int):∀ c ∈ zd3 op,noSp c=true:=by
 unfold zd3
 repeat' split
 all_goals decide
theorem word_inj {a b:Int} (ha:1≤a∧a≤8) (hb:1≤b∧b≤8) (h:zd3 a=zd3 b):a=b:=by
 have h1:a=1∨a=2∨a=3∨a=4∨a=5∨a=6∨a=7∨a=8:=by omega
 have h2:b=1∨b=2∨b=3∨b=4∨b=5∨b=6∨b=7∨b=8:=by omega
 rcases h1 with rfl|rfl|rfl|rfl|rfl|rfl|rfl|rfl <;> rcases h2 with rfl|rfl|rfl|rfl|rfl|rfl|rfl|rfl <;> first|rfl|(exact absurd h Qj)
theorem dbl_inj:∀ {a b:List UInt8},zh1 a=zh1 b→a=b
 | [],[],_=>rfl
 | [],y :: b,h=>by unfold zh1 at h;split at h <;> cases h
 | x :: a,[],h=>by unfold zh1 at h;split at h <;> cases h
 | x :: a,y :: b,h=>by
  unfold zh1 at h
  split at h
  ·rename_i hx
   split at h
   ·rename_i hy
    rw [hx,hy,dbl_inj (List.cons.inj (List.cons.inj h).2).2]
   ·rename_i hy
    exact absurd (List.cons.inj h).1.symm hy
  ·rename_i hx
   split at h
   ·exact absurd (List.cons.inj h).1 hx
   ·obtain ⟨h1,h2⟩:=List.cons.inj h
    rw [h1,dbl_inj h2]
theorem dig_first (u:Nat):∃ c r,Lib.decDigits u=c :: r∧isDig c=true:=by
 have h0:=decDigits_ne u
 have h1:=decDigits_all u
 cases hd:Lib.decDigits u with
 | nil=>exact absurd hd h0
 | cons c r=>exact ⟨c,r,rfl,h1 c (by rw [hd];simp)⟩
theorem itoa_first (n:Int):∃ c r,Lib.itoa n=c :: r∧(c=45∨isDig c=true):=by
 unfold Lib.itoa
 split
 ·exact ⟨_,_,rfl, .inl rfl⟩
 ·obtain ⟨c,r,h1,h2⟩:=dig_first n.toNat
  exact ⟨c,r,h1, .inr h2⟩
theorem dbl_ba {s t:ByteArray} (h:zh1 s.data.toList=zh1 t.data.toList):s=t:=ByteArray.ext (Array.toList_inj.1 (dbl_inj h))
theorem valT_head {v:Val} (h:okV v):∃ c r,zmn v=c :: r∧((v.kind=0∧c=110)∨(v.kind=1∧((c=116∧v.n=1)∨(c=102∧v.n=0)))∨(v.kind=2∧(c=45∨isDig c=true))∨(v.kind=4∧c=39)):=by
 rcases zvw h with ⟨hk,rfl⟩|h
 ·exact ⟨110,_,rfl, .inl ⟨rfl,rfl⟩⟩
 ·obtain ⟨-,-,⟨hk,hn,-⟩|⟨hk,-⟩|⟨hk,-⟩⟩:=zfc h
  ·rcases hn with hn|hn
   ·exact ⟨102,[97,108,115,101],by unfold zmn;rw [if_pos hk,if_neg Qk], .inr (.inl ⟨hk, .inr ⟨rfl,hn⟩⟩)⟩
   ·exact ⟨116,[114,117,101],by unfold zmn;rw [if_pos hk,if_pos hn], .inr (.inl ⟨hk, .inl ⟨rfl,hn⟩⟩)⟩
  ·obtain ⟨c,r,e,hc⟩:=itoa_first v.n
   exact ⟨c,r,by unfold zmn;rw [if_neg Qk,if_pos hk,e], .inr (.inr (.inl ⟨hk,hc⟩))⟩
  ·exact ⟨39,_,by unfold zmn;rw [if_neg Qk,if_neg Qk,if_pos hk], .inr (.inr (.inr ⟨hk,rfl⟩))⟩
theorem valT_inj {a b:Val} (ha:okV a) (hb:okV b) (h:zmn a=zmn b):a=b:=by
 obtain ⟨c,r,ea,fa⟩:=valT_head ha
 obtain ⟨c',r',eb,fb⟩:=valT_head hb
 have hc:c=c':=by rw [ea,eb] at h;exact (List.cons.inj h).1
 subst hc
 have hd:∀ x:UInt8,isDig x=true→x ≠ 110∧x ≠ 116∧x ≠ 102∧x ≠ 39:=fun x hx=>by
  refine ⟨?_,?_,?_,?_⟩ <;> (rintro rfl;exact absurd hx Qj)
 have hk:a.kind=b.kind∧(a.kind=1→a.n=b.n):=by
  rcases fa with ⟨k,e⟩|⟨k,⟨e,n⟩|⟨e,n⟩⟩|⟨k,e|e⟩|⟨k,e⟩ <;> rcases fb with ⟨k',e'⟩|⟨k',⟨e',n'⟩|⟨e',n'⟩⟩|⟨k',e'|e'⟩|⟨k',e'⟩ <;>
   first
    | exact ⟨by omega,by omega⟩
    | (exfalso;subst e;exact absurd e' Qj)
    | (exfalso;subst e;have:=hd _ e';simp at this;done)
    | (exfalso;subst e';have:=hd _ e;simp at this;done)
 rcases zvw ha with ⟨ka,rfl⟩|pa
 ·rcases zvw hb with ⟨kb,rfl⟩|pb
  ·rfl
  ·have:=zfc pb;exfalso;obtain ⟨-,-,h1⟩:=this;omega
 ·obtain ⟨d1,l1,h1⟩:=zfc pa
  rcases zvw hb with ⟨kb,rfl⟩|pb
  ·exfalso;omega
  ·obtain ⟨d2,l2,h2⟩:=zfc pb
   refine Val.ext' hk.1 ?_ (d1.trans d2.symm) ?_ (l1.trans l2.symm)
   ·rcases h1 with ⟨k1,n1,-⟩|⟨k1,-⟩|⟨k1,n1⟩
    ·exact hk.2 k1
    ·have k2:b.kind=2:=by omega
     unfold zmn at h
     rw [if_neg Qk,if_pos k1,if_neg Qk,if_pos k2] at h
     exact itoa_inj' h
    ·rcases h2 with ⟨k2,-,-⟩|⟨k2,-⟩|⟨k2,n2⟩
     ·omega
     ·omega
     ·rw [n1,n2]
   ·rcases h1 with ⟨k1,n1,s1⟩|⟨k1,s1⟩|⟨k1,n1⟩ <;> rcases h2 with ⟨k2,n2,s2⟩|⟨k2,s2⟩|⟨k2,n2⟩ <;> first|(exfalso;omega)|(rw [s1,s2];done)|skip
    unfold zmn at h
    rw [if_neg Qk,if_neg Qk,if_pos k1,if_neg Qk,if_neg Qk,if_pos k2] at h
    exact dbl_ba (List.append_cancel_right (List.cons.inj h).2)
theorem name_ba {s t:ByteArray} (h:s.data.toList=t.data.toList):s=t:=ByteArray.ext (Array.toList_inj.1 h)
theorem textC_inj {a b:ChG} (ha:zcn a=0) (hb:zcn b=0) (h:zar a=zar b):a=b:=by
 unfold zar at h
 rw [if_pos ha,if_pos hb] at h
 obtain ⟨h1,h2⟩:=split32 (word_noSp _) (word_noSp _) h
 obtain ⟨a1,a2,a3,a4,a5,a6⟩:=zgd ha
 obtain ⟨b1,b2,b3,b4,b5,b6⟩:=zgd hb
 have hop:=word_inj a1 b1 h1
 obtain ⟨o,i,f,t,nm,v⟩:=a
 obtain ⟨o',i',f',t',nm',v'⟩:=b
 dsimp only at hop a1 a2 a3 a4 a5 a6 b1 b2 b3 b4 b5 b6
 subst hop
 unfold zee at h2
 dsimp only at h2
 by_cases h6:o=6
 ·subst h6
  rw [if_pos rfl,if_pos rfl,if_pos (show za3 6=true from rfl),if_pos (show za3 6=true from rfl),if_neg (show ¬zaq 6=true by decide),if_neg (show ¬zaq 6=true by decide)] at h2
  simp only [List.append_nil,List.cons_append,List.append_assoc] at h2
  obtain ⟨e1,h2⟩:=split32 (itoa_noSp _) (itoa_noSp _) h2
  obtain ⟨e2,h2⟩:=split32 (itoa_noSp _) (itoa_noSp _) h2
  obtain ⟨e3,h2⟩:=split32 (itoa_noSp _) (itoa_noSp _) h2
  have q1:=itoa_inj' e1
  have q2:=itoa_inj' e2
  have q3:=itoa_inj' e3
  have q4:=name_ba h2
  have q5:=(a6 Qj).trans (b6 Qj).symm
  subst q1;subst q2;subst q3;subst q4;subst q5
  rfl
 ·rw [if_neg h6,if_neg h6,List.nil_append,List.nil_append] at h2
  obtain ⟨f1,f2⟩:=a2 h6
  obtain ⟨f3,f4⟩:=b2 h6
  cases hn:za3 o with
  | false =>
   have hv:zaq o=false:=by
    unfold za3 at hn;unfold zaq
    rw [decide_eq_false_iff_not] at hn ⊢;omega
   rw [hn,hv,if_neg Bool.false_ne_true,if_neg Bool.false_ne_true,if_neg Bool.false_ne_true,if_neg Bool.false_ne_true] at h2
   simp only [List.append_nil] at h2
   have q1:=itoa_inj' h2
   have q4:=(a4 hn).trans (b4 hn).symm
   have q5:=(a6 hv).trans (b6 hv).symm
   subst q1;subst q4;subst q5;subst f1;subst f2;subst f3;subst f4
   rfl
  | true =>
   rw [hn,if_pos rfl,if_pos rfl] at h2
   simp only [List.cons_append] at h2
   obtain ⟨e1,h2⟩:=split32 (itoa_noSp _) (itoa_noSp _) h2
   have q1:=itoa_inj' e1
   cases hv:zaq o with
   | false =>
    rw [hv,if_neg Bool.false_ne_true,if_neg Bool.false_ne_true] at h2
    simp only [List.append_nil] at h2
    have q4:=name_ba h2
    have q5:=(a6 hv).trans (b6 hv).symm
    subst q1;subst q4;subst q5;subst f1;subst f2;subst f3;subst f4
    rfl
   | true =>
    rw [hv,if_pos rfl,if_pos rfl] at h2
    obtain ⟨e2,h2⟩:=split32 (name_noSp (a3 hn)) (name_noSp (b3 hn)) h2
    have q4:=name_ba e2
    have q5:=valT_inj (a5 hv) (b5 hv) h2
    subst q1;subst q4;subst q5;subst f1;subst f2;subst f3;subst f4
    rfl
open Go.RowKit
theorem str_eq {a b:ByteArray} (h:a=b):(a.toList == b.toList)=true:=by rw [h];simp
theorem r4_Plain (v:Val) (ok:Nat→Prop) (A:Option Addr) (c:Nat) (w:World) (hv:zk w ok A v.l) (hs:szV v) :
  Calls Tryz.prog 42 #[.agg #[.int .i64 v.kind, .int .i64 v.n, .int .i64 v.d, .string v.s, .slice A v.l.length c]] w fun e w'=>e= .returned (.bool (za9 v))∧Ext w w':=by
 obtain ⟨g,w1,hg,hw1,⟨p0,p1,p2,p3,p4⟩,hx,-⟩:=zbt w v A c 28
 have HC:=Lib.hid (zgw v ok A c w1 (hv.ext hx) hs)
 have HW1:=Lib.hid hw1
 have HG:=Lib.hid hg
 have HQ:=Lib.hid (show za9 v=((decide (v.kind=1) || decide (v.kind=2) || decide (v.kind=4)) && zab v) from rfl)
 generalize za9 v=R at *
 generalize zab v=q at *
 generalize v.kind=K at *
 clear hw1 hg hv
 by_cases h1:K=1
 ·subst h1
  cases q
  all_goals
   go_enter Tryz.func42,Tryz.ntmps42
   go_upto_region 1 with (fail)
   rw [←HW1.out,←HG.out]
   clear HW1 HG
   go_wp2_with (go_at_call 75;((with_reducible refine (HC.out).mono ?_);rintro e w' ⟨rfl,hb⟩;have:=hb.cell p0))
   go_ret
   exact ⟨ze (by rw [HQ.out];rfl),hx.trans (by first|assumption|exact Ext.refl _)⟩
 ·by_cases h2:K=2
  ·subst h2
   cases q
   all_goals
    go_enter Tryz.func42,Tryz.ntmps42
    go_upto_region 1 with (fail)
    rw [←HW1.out,←HG.out]
    clear HW1 HG
    go_wp2_with (go_at_call 75;((with_reducible refine (HC.out).mono ?_);rintro e w' ⟨rfl,hb⟩;have:=hb.cell p0))
    go_ret
    exact ⟨ze (by rw [HQ.out];rfl),hx.trans (by first|assumption|exact Ext.refl _)⟩
  ·by_cases h4:K=4
   ·subst h4
    cases q
    all_goals
     go_enter Tryz.func42,Tryz.ntmps42
     go_upto_region 1 with (fail)
     rw [←HW1.out,←HG.out]
     clear HW1 HG
     go_wp2_with (go_at_call 75;((with_reducible refine (HC.out).mono ?_);rintro e w' ⟨rfl,hb⟩;have:=hb.cell p0))
     go_ret
     exact ⟨ze (by rw [HQ.out];rfl),hx.trans (by first|assumption|exact Ext.refl _)⟩
   ·have HR:=Lib.hid (show R=false by rw [HQ.out,decide_eq_false h1,decide_eq_false h2,decide_eq_false h4];rfl)
    have k1:(K == 1)=false:=beq_eq_false_iff_ne.2 h1
    have k2:(K == 2)=false:=beq_eq_false_iff_ne.2 h2
    have k4:(K == 4)=false:=beq_eq_false_iff_ne.2 h4
    clear h1 h2 h4 HQ
    cases q
    all_goals
     go_enter Tryz.func42,Tryz.ntmps42
     go_upto_region 1 with (fail)
     rw [←HW1.out,←HG.out]
     clear HW1 HG
     go_wp2_with (go_at_call 75;((with_reducible refine (HC.out).mono ?_);rintro e w' ⟨rfl,hb⟩;have:=hb.cell p0))
     go_ret
     exact ⟨ze HR.out.symm,hx.trans (by first|assumption|exact Ext.refl _)⟩
end Go.Proofs.YtfhekbacigoblaaGreatDoor
