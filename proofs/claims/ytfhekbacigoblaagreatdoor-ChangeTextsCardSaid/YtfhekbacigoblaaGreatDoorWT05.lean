import Derived.Test.YtfhekbacigoblaaGreatDoorWT04
namespace Go.Proofs.YtfhekbacigoblaaGreatDoor
set_option maxRecDepth 100000
set_option maxHeartbeats 6400000
open Go.RowKit
theorem r8_Same (a b:ChG) (ok ok':Nat→Prop) (A B:Option Addr) (k m:Nat) (w:World) (hsa:szV a.v) (hsb:szV b.v) (ha:zk w ok A a.v.l) (hb:zk w ok' B b.v.l) :
  Calls Tryz.prog 27 #[.agg #[.int .i64 a.op, .int .i64 a.id, .int .i64 a.frm, .int .i64 a.to_, .string a.name, .int .i64 a.v.kind, .int .i64 a.v.n, .int .i64 a.v.d, .string a.v.s, .slice A a.v.l.length k], .agg #[.int .i64 b.op, .int .i64 b.id, .int .i64 b.frm, .int .i64 b.to_, .string b.name, .int .i64 b.v.kind, .int .i64 b.v.n, .int .i64 b.v.d, .string b.v.s, .slice B b.v.l.length m]] w fun e w'=>e= .returned (.bool (sameC a b))∧Ext w w':=by
 obtain ⟨q1,w1,hq1,hw1,hca,hx1⟩:=zy w a A k 30
 obtain ⟨q2,w2,hq2,hw2,⟨b0,b1,b2,b3,b4,b5,b6,b7,b8,b9⟩,hx2⟩:=zy w1 b B m 30
 obtain ⟨a0,a1,a2,a3,a4,a5,a6,a7,a8,a9⟩:=hca.ext hx2
 have hx:Ext w w2:=hx1.trans hx2
 have HWQ:Hid (w2=(w.alloc (.cells #[.int .i64 a.op, .int .i64 a.id, .int .i64 a.frm, .int .i64 a.to_, .string a.name, .int .i64 a.v.kind, .int .i64 a.v.n, .int .i64 a.v.d, .string a.v.s, .slice A a.v.l.length k] 30)).alloc (.cells #[.int .i64 b.op, .int .i64 b.id, .int .i64 b.frm, .int .i64 b.to_, .string b.name, .int .i64 b.v.kind, .int .i64 b.v.n, .int .i64 b.v.d, .string b.v.s, .slice B b.v.l.length m] 30)):=Lib.hid (by rw [hw2,hw1])
 have HQ1:=Lib.hid hq1
 have HQ2:Hid (q2=w.heap.size+1):=Lib.hid (by rw [hq2,hw1];simp)
 have HOR:=Lib.hid (fun W (e:Ext w W)=>zwy a.v b.v ok ok' A B k m W (ha.ext e) (hb.ext e) hsa hsb)
 have HR:Hid (sameC a b=decide (a.op=b.op∧a.id=b.id∧a.frm=b.frm∧a.to_=b.to_∧a.name=b.name∧zbw a.v b.v=0)):=Lib.hid rfl
 have HX:=Lib.hid hx
 generalize sameC a b=R at *
 clear hsa hsb ha hb hq1 hq2 hw1 hw2 hca hx hx1 hx2
 go_enter Tryz.func27,Tryz.ntmps27
 go_upto_region 1 with (fail)
 rw [←HWQ.out,←HQ2.out,←HQ1.out]
 by_cases h0:a.op=b.op
 case neg =>
  have g0:(a.op == b.op)=false:=beq_eq_false_iff_ne.2 h0
  have HF:Hid (R=false):=Lib.hid (by rw [HR.out];exact decide_eq_false (fun h=>h0 h.1))
  clear h0 HR
  go_wp2_with fail
  rw [HF.out]
  go_ret
  exact ⟨rfl,HX.out.trans Qg⟩
 have g0:(a.op == b.op)=true:=beq_iff_eq.2 h0
 by_cases h1:a.id=b.id
 case neg =>
  have g1:(a.id == b.id)=false:=beq_eq_false_iff_ne.2 h1
  have HF:Hid (R=false):=Lib.hid (by rw [HR.out];exact decide_eq_false (fun h=>h1 h.2.1))
  clear h1 HR
  go_wp2_with fail
  rw [HF.out]
  go_ret
  exact ⟨rfl,HX.out.trans Qg⟩
 have g1:(a.id == b.id)=true:=beq_iff_eq.2 h1
 by_cases h2:a.frm=b.frm
 case neg =>
  have g2:(a.frm == b.frm)=false:=beq_eq_false_iff_ne.2 h2
  have HF:Hid (R=false):=Lib.hid (by rw [HR.out];exact decide_eq_false (fun h=>h2 h.2.2.1))
  clear h2 HR
  go_wp2_with fail
  rw [HF.out]
  go_ret
  exact ⟨rfl,HX.out.trans Qg⟩
 have g2:(a.frm == b.frm)=true:=beq_iff_eq.2 h2
 by_cases h3:a.to_=b.to_
 case neg =>
  have g3:(a.to_ == b.to_)=false:=beq_eq_false_iff_ne.2 h3
  have HF:Hid (R=false):=Lib.hid (by rw [HR.out];exact decide_eq_false (fun h=>h3 h.2.2.2.1))
  clear h3 HR
  go_wp2_with fail
  rw [HF.out]
  go_ret
  exact ⟨rfl,HX.out.trans Qg⟩
 have g3:(a.to_ == b.to_)=true:=beq_iff_eq.2 h3
 by_cases h4:a.name=b.name
 case neg =>
  have g4:(a.name.toList == b.name.toList)=false:=zv8 h4
  have HF:Hid (R=false):=Lib.hid (by rw [HR.out];exact decide_eq_false (fun h=>h4 h.2.2.2.2.1))
  clear h4 HR
  go_wp2_with fail
  rw [HF.out]
  go_ret
  exact ⟨rfl,HX.out.trans Qg⟩
 have g4:(a.name.toList == b.name.toList)=true:=str_eq h4
 have HF:Hid (R=decide (zbw a.v b.v=0)):=Lib.hid (by rw [HR.out];simp only [h0,h1,h2,h3,h4,true_and])
 clear h0 h1 h2 h3 h4 HR
 generalize zbw a.v b.v=z at *
 have HZ:Hid ((z == 0)=R):=Lib.hid (by rw [HF.out];rfl)
 go_wp2_with ((go_at_call 62;((with_reducible refine (HOR.out _ (HX.out.trans Qg)).mono ?_);rintro e w5 ⟨rfl,hx5⟩)))
 rw [←HZ.out]
 go_ret
 exact ⟨rfl,HX.out.trans (Ext.trans Qg hx5)⟩
theorem dbl_app:∀ a b:List UInt8,zh1 (a ++ b)=zh1 a ++ zh1 b
 | [],b=>rfl
 | c :: r,b=>by
  show (if c=39 then 39 :: 39 :: zh1 (r ++ b) else c :: zh1 (r ++ b))=(if c=39 then 39 :: 39 :: zh1 r else c :: zh1 r) ++ zh1 b
  rw [dbl_app r b]
  split <;> rfl
theorem dbl_at {s:ByteArray} {k:Nat} (h:k < s.size):zh1 (s.data.toList.take (k+1))=zh1 (s.data.toList.take k) ++ (if s[k]=39 then [39,39] else [s[k]]):=by
 have hl:k < s.data.toList.length:=by rw [Array.length_toList];exact h
 rw [List.take_succ_eq_append_getElem hl,dbl_app]
 have e:s.data.toList[k]=s[k]:=by rw [Array.getElem_toList];rfl
 rw [e]
 show _ ++ (if s[k]=39 then [39,39] else [s[k]])=_
 rfl
theorem cut_one {s:ByteArray} {k:Nat} (h:k < s.size):(s.extract k (k+1)).data.toList=[s[k]]:=by
 have hl:k < s.data.toList.length:=by rw [Array.length_toList];exact h
 rw [ByteArray.data_extract,Array.toList_extract,List.extract_eq_take_drop,Nat.add_sub_cancel_left,List.drop_eq_getElem_cons hl]
 show [s.data.toList[k]]=_
 rw [Array.getElem_toList];rfl
theorem app_list (a b:ByteArray):(a ++ b).data.toList=a.data.toList ++ b.data.toList:=by rw [ByteArray.data_append,Array.toList_append]
theorem size_list (a:ByteArray):a.size=a.data.toList.length:=by rw [Array.length_toList];rfl
theorem r4_doubled (s S:ByteArray) (hS:S=⟨(zh1 s.data.toList).toArray⟩) (w:World) (hs:s.size≤100):Calls Tryz.prog 102 #[.string s] w fun e w'=>e= .returned (.string S)∧Ext w w':=by
 have HS:=Lib.hid hS
 clear hS
 go_enter Tryz.func102,Tryz.ntmps102
 go_wp2_with fail
 go_loopw [3,4] (fun v u W => ∃ (k:Nat) (X:ByteArray),v= .string X∧u= .int .i64 k∧k≤s.size∧X.size≤2*k∧Hid (X.data.toList=zh1 (s.data.toList.take k))∧Ext w W) (fun _ u _=>s.size - (intOf u).toNat)
 case atStart=>exact ⟨0,_,rfl,rfl,Nat.zero_le _,Nat.le_refl _,Lib.hid rfl,Ext.refl _⟩
 case round =>
  obtain ⟨k,X,rfl,rfl,hk,hX,hD,hE⟩:=hrel
  by_cases hlt:k < s.size
  ·have HT:=Lib.hid (dbl_at hlt)
   have HC:=Lib.hid (cut_one hlt)
   have hc1:(s.extract k (k+1)).size=1:=by rw [size_list,cut_one hlt];rfl
   have hw1:wrap64 ((k:Int)+1)=((k+1:Nat):Int):=by unfold wrap64;omega
   have n1:¬9223372036854775807 < X.size+1:=by omega
   have n2:¬9223372036854775807 < X.size+1+1:=by omega
   have p1:(k:Int) < (s.size:Int):=by omega
   by_cases h39:s[k]=39
   ·have g:((s[k].toNat:Int) == 39)=true:=by rw [h39];rfl
    have HF:Hid ((X ++ s.extract k (k+1) ++ ⟨#[39]⟩).data.toList=zh1 (s.data.toList.take (k+1))):=Lib.hid (by rw [app_list,app_list,HC.out,HT.out,hD.out,if_pos h39,h39,List.append_assoc];rfl)
    have HZ:Hid ((X ++ s.extract k (k+1) ++ ⟨#[39]⟩).size≤2*(k+1)):=Lib.hid (by rw [ByteArray.size_append,ByteArray.size_append,hc1];show X.size+1+1≤_;omega)
    clear h39 HT HC
    go_wp2_with fail
    go_roundw
    case rel=>exact ⟨k+1,_,rfl,by go_num,by omega,HZ.out,HF,hE⟩
    case measure=>simp [intOf];omega
   ·have g:((s[k].toNat:Int) == 39)=false:=by
     rw [beq_eq_false_iff_ne]
     intro h
     apply h39
     apply UInt8.toNat_inj.1
     show s[k].toNat=39
     omega
    have HF:Hid ((X ++ s.extract k (k+1)).data.toList=zh1 (s.data.toList.take (k+1))):=Lib.hid (by rw [app_list,HC.out,HT.out,hD.out,if_neg h39])
    have HZ:Hid ((X ++ s.extract k (k+1)).size≤2*(k+1)):=Lib.hid (by rw [ByteArray.size_append,hc1];omega)
    clear h39 HT HC
    go_wp2_with fail
    go_roundw
    case rel=>exact ⟨k+1,_,rfl,by go_num,by omega,HZ.out,HF,hE⟩
    case measure=>simp [intOf];omega
  ·have p1:¬ (k:Int) < (s.size:Int):=by omega
   have HR:Hid (X=S):=Lib.hid (by
    rw [HS.out]
    have h1:s.data.toList.take k=s.data.toList:=List.take_of_length_le (by rw [Array.length_toList];show s.data.size≤k;have e:s.data.size=s.size:=rfl;omega)
    have h2:=hD.out
    rw [h1] at h2
    exact zfi h2)
   go_wp2_with fail
   rw [HR.out]
   go_ret
   exact ⟨rfl,hE⟩
theorem r1_TextE (n:Int) (w:World) (h : -9223372036854775808≤n∧n≤9223372036854775807):Calls Tryz.prog 59 #[.int .i64 n] w fun e w'=>e= .returned (.string ⟨(Lib.itoa n).toArray⟩)∧Ext w w':=ref_Text n w h.1 h.2
theorem r4_Text (v:Val) (A:Option Addr) (k:Nat) (w:World) (ho:okV v):Calls Tryz.prog 60 #[.agg #[.int .i64 v.kind, .int .i64 v.n, .int .i64 v.d, .string v.s, .slice A v.l.length k]] w fun e w'=>e= .returned (.string ⟨(zmn v).toArray⟩)∧Ext w w':=by
 have hl:v.l=[]:=by
  rcases ho with rfl|hp
  ·rfl
  ·exact (zfc hp).2.1
 have hva:zab v=true:=by
  rcases ho with rfl|hp
  ·decide +kernel
  ·unfold za9 at hp;simp only [Bool.and_eq_true] at hp;exact hp.2
 have hs:v.s.size≤100:=by
  rcases ho with rfl|hp
  ·decide
  ·exact zqs hp
 have hsz:szV v:=zd7.2 ⟨by omega,by rw [hl,szL];trivial⟩
 obtain ⟨g,w1,hg,hw1,⟨p0,p1,p2,p3,p4⟩,hx,-⟩:=zbt w v A k 28
 have HW:=Lib.hid hw1
 have HG:=Lib.hid hg
 have HV:=Lib.hid (zgw v (fun _=>True) A k w1 (zkp hl) hsz)
 rw [hva] at HV
 have HX:=Lib.hid hx
 have hn : -9223372036854775808≤v.n∧v.n≤9223372036854775807∨v.kind ≠ 2:=by
  by_cases h2:v.kind=2
  ·have:=(zax hva).num (.inl h2)
   have h3:=this.2.2.1
   rw [if_neg Qk] at h3
   have:=(zb1.1 h3).2.2.1
   omega
  ·exact .inr h2
 have HI:=Lib.hid (fun W (h : -9223372036854775808≤v.n∧v.n≤9223372036854775807)=>r1_TextE v.n W h)
 obtain ⟨S,hS⟩:∃ S:ByteArray,S=⟨(zh1 v.s.data.toList).toArray⟩:=⟨_,rfl⟩
 have HD:=Lib.hid (fun W=>r4_doubled v.s S hS W hs)
 have hSl:S.size≤200:=by
  have h1:=zn0 v.s.data.toList
  have h2:v.s.data.toList.length=v.s.size:=Array.length_toList
  rw [hS]
  show (zh1 v.s.data.toList).toArray.size≤200
  rw [List.size_toArray];omega
 have HS:=Lib.hid hS
 have hk:v.kind=0∨v.kind=1∨v.kind=2∨v.kind=4:=by
  rcases ho with rfl|hp
  ·exact .inl rfl
  ·rcases (zfc hp).2.2 with h|h|h
   ·exact .inr (.inl h.1)
   ·exact .inr (.inr (.inl h.1))
   ·exact .inr (.inr (.inr h.1))
 have HT:Hid (zmn v=if v.kind=1 then (if v.n=1 then [116,114,117,101] else [102,97,108,115,101]) else if v.kind=2 then Lib.itoa v.n else if v.kind=4 then 39 :: (zh1 v.s.data.toList ++ [39]) else [110,117,108,108]):=Lib.hid rfl
 generalize zmn v=R at *
 clear hw1 hg hx ho hl hva hs hS hsz
 go_enter Tryz.func60,Tryz.ntmps60
 go_upto_region 1 with (fail)
 rw [←HW.out,←HG.out]
 go_upto_region 3 with ((go_at_call 75;((with_reducible refine (HV.out).mono ?_);rintro e w2 ⟨rfl,hx2⟩)))
 have hE2:Ext w w2:=HX.out.trans hx2
 replace p0:=hx2.cell p0
 replace p1:=hx2.cell p1
 replace p3:=hx2.cell p3
 clear p2 p4
 rcases hk with h|h|h|h
 ·have f1:(v.kind == 1)=false:=beq_eq_false_iff_ne.2 Qk
  have f2:(v.kind == 2)=false:=beq_eq_false_iff_ne.2 Qk
  have f3:(v.kind == 3)=false:=beq_eq_false_iff_ne.2 Qk
  have f4:(v.kind == 4)=false:=beq_eq_false_iff_ne.2 Qk
  have f5:(v.kind == 5)=false:=beq_eq_false_iff_ne.2 Qk
  have f6:(v.kind == 6)=false:=beq_eq_false_iff_ne.2 Qk
  have f7:(v.kind == 7)=false:=beq_eq_false_iff_ne.2 Qk
  have f8:(v.kind == 8)=false:=beq_eq_false_iff_ne.2 Qk
  have HR:Hid (R=[110,117,108,108]):=Lib.hid (by rw [HT.out,if_neg Qk,if_neg Qk,if_neg Qk])
  clear h hn HT
  go_wp2_with fail
  (try simp only [Exit.inBlock,Exit.then])
  rw [HR.out]
  go_ret
  exact ⟨rfl,Qg⟩
 ·have f1:(v.kind == 1)=true:=beq_iff_eq.2 h
  by_cases h1:v.n=1
  ·have g1:(v.n == 1)=true:=beq_iff_eq.2 h1
   have HR:Hid (R=[116,114,117,101]):=Lib.hid (by rw [HT.out,if_pos h,if_pos h1])
   clear h hn HT h1
   go_wp2_with fail
   (try simp only [Exit.inBlock,Exit.then])
   rw [HR.out]
   go_ret
   exact ⟨rfl,Qg⟩
  ·have g1:(v.n == 1)=false:=beq_eq_false_iff_ne.2 h1
   have HR:Hid (R=[102,97,108,115,101]):=Lib.hid (by rw [HT.out,if_pos h,if_neg h1])
   clear h hn HT h1
   go_wp2_with fail
   (try simp only [Exit.inBlock,Exit.then])
   rw [HR.out]
   go_ret
   exact ⟨rfl,Qg⟩
 ·have f1:(v.kind == 1)=false:=beq_eq_false_iff_ne.2 Qk
  have f2:(v.kind == 2)=true:=beq_iff_eq.2 h
  have HR:Hid (R=Lib.itoa v.n):=Lib.hid (by rw [HT.out,if_neg Qk,if_pos h])
  have HN:=Lib.hid (hn.resolve_right Qk)
  clear h hn HT
  go_wp2_with ((go_at_call 59;((with_reducible refine (HI.out _ HN.out).mono ?_);rintro e w5 ⟨rfl,hx5⟩)))
  (try simp only [Exit.inBlock,Exit.then])
  rw [HR.out]
  go_ret
  exact ⟨rfl,Ext.trans Qg hx5⟩
 ·have f1:(v.kind == 1)=false:=beq_eq_false_iff_ne.2 Qk
  have f2:(v.kind == 2)=false:=beq_eq_false_iff_ne.2 Qk
  have f3:(v.kind == 3)=false:=beq_eq_false_iff_ne.2 Qk
  have f4:(v.kind == 4)=true:=beq_iff_eq.2 h
  have HR:Hid ((⟨R.toArray⟩:ByteArray)=⟨#[39]⟩ ++ S ++ ⟨#[39]⟩):=Lib.hid (by rw [HT.out,if_neg Qk,if_neg Qk,if_pos h,HS.out];exact (zvt ([39] ++ zh1 v.s.data.toList) [39]).symm.trans (by rw [←zvt [39]]))
  have n1:¬9223372036854775807 < 1+S.size:=by omega
  have n2:¬9223372036854775807 < 1+S.size+1:=by omega
  clear h hn HT
  go_wp2_with ((go_at_call 102;((with_reducible refine (HD.out _).mono ?_);rintro e w5 ⟨rfl,hx5⟩)))
  (try simp only [Exit.inBlock,Exit.then])
  rw [HR.out]
  go_ret
  exact ⟨rfl,Ext.trans Qg hx5⟩
theorem r8_Text_1 (x f t:Int) (nm:ByteArray) (v:Val) (ok:Nat→Prop) (A:Option Addr) (k:Nat) (w:World) (hv:zk w ok A v.l) (hs:szV v) (hc:zcn ⟨1,x,f,t,nm,v⟩=0) :
  Calls Tryz.prog 25 #[.agg #[.int .i64 1, .int .i64 x, .int .i64 f, .int .i64 t, .string nm, .int .i64 v.kind, .int .i64 v.n, .int .i64 v.d, .string v.s, .slice A v.l.length k]] w fun e w'=>e= .returned (.string ⟨(zar ⟨1,x,f,t,nm,v⟩).toArray⟩)∧Ext w w':=by
 obtain ⟨q1,w1,hq1,hw1,⟨a0,a1,a2,a3,a4,a5,a6,a7,a8,a9⟩,hx⟩:=zy w ⟨1,x,f,t,nm,v⟩ A k 30
 dsimp only at a0 a1 a2 a3 a4 a5 a6 a7 a8 a9 hw1
 have HW1:=Lib.hid hw1
 have HG:=Lib.hid hq1
 have HX:=Lib.hid hx
 have hck:=r8_Check ⟨1,x,f,t,nm,v⟩ ok A k w1 (hv.ext hx) hs
 rw [hc] at hck
 dsimp only at hck
 have HCK:=Lib.hid hck
 obtain ⟨h0,h1,h2,h3,h4⟩:=zc3 hc
 have hok:=zgd hc
 dsimp only at h0 h2 h3 h4 hok
 have HTX:Hid (zar ⟨1,x,f,t,nm,v⟩=zd3 1 ++ 32 :: zee ⟨1,x,f,t,nm,v⟩):=Lib.hid (by unfold zar;rw [if_pos hc])
 obtain ⟨S2,hS2⟩:∃ S:ByteArray,S=⟨(Lib.itoa x).toArray⟩:=⟨_,rfl⟩
 have l2:S2.size≤17:=by rw [hS2];show (Lib.itoa x).toArray.size≤17;rw [List.size_toArray];exact zfn (zbb.2 Qk)
 have HIX:=Lib.hid (fun W=>r1_TextE x W ⟨by omega,by omega⟩)
 rw [←hS2] at HIX
 have HRS:Hid ((⟨(zar ⟨1,x,f,t,nm,v⟩).toArray⟩:ByteArray)=(⟨#[43,110,111,100,101]⟩ ++ (⟨#[32]⟩ ++ S2))):=Lib.hid (by
  rw [HTX.out]
  apply zfi
  subst hS2
  unfold zee
  simp [za3,zaq,zd3])
 have n0:¬9223372036854775807 < 1+S2.size:=by omega
 have n1:¬9223372036854775807 < 5+(1+S2.size):=by omega
 generalize zar ⟨1,x,f,t,nm,v⟩=R at *
 clear hv hs hc hx hw1 hq1 hck h0 h1 h2 h3 h4 hok HTX hS2
 rw [HRS.out]
 go_enter Tryz.func25,Tryz.ntmps25
 go_upto_region 1 with (fail)
 rw [←HW1.out,←HG.out]
 go_upto_region 3 with ((go_at_call 14;((with_reducible refine (HCK.out).mono ?_);rintro e w2 ⟨rfl,hx2⟩)))
 have hE2:Ext w w2:=HX.out.trans hx2
 replace a0:=hx2.cell a0
 replace a1:=hx2.cell a1
 go_wp2_with ((go_at_call 59;((with_reducible refine (HIX.out _).mono ?_);rintro e w3 ⟨rfl,hx3⟩;have hE23:Ext w2 w3:=Ext.trans Qg hx3;replace a0:=hE23.cell a0)))
 (try simp only [Exit.inBlock,Exit.then])
 go_ret
 exact ⟨rfl,hE2.trans (hE23.trans Qg)⟩
theorem r8_Text_2 (x f t:Int) (nm:ByteArray) (v:Val) (ok:Nat→Prop) (A:Option Addr) (k:Nat) (w:World) (hv:zk w ok A v.l) (hs:szV v) (hc:zcn ⟨2,x,f,t,nm,v⟩=0) :
  Calls Tryz.prog 25 #[.agg #[.int .i64 2, .int .i64 x, .int .i64 f, .int .i64 t, .string nm, .int .i64 v.kind, .int .i64 v.n, .int .i64 v.d, .string v.s, .slice A v.l.length k]] w fun e w'=>e= .returned (.string ⟨(zar ⟨2,x,f,t,nm,v⟩).toArray⟩)∧Ext w w':=by
 obtain ⟨q1,w1,hq1,hw1,⟨a0,a1,a2,a3,a4,a5,a6,a7,a8,a9⟩,hx⟩:=zy w ⟨2,x,f,t,nm,v⟩ A k 30
 dsimp only at a0 a1 a2 a3 a4 a5 a6 a7 a8 a9 hw1
 have HW1:=Lib.hid hw1
 have HG:=Lib.hid hq1
 have HX:=Lib.hid hx
 have hck:=r8_Check ⟨2,x,f,t,nm,v⟩ ok A k w1 (hv.ext hx) hs
 rw [hc] at hck
 dsimp only at hck
 have HCK:=Lib.hid hck
 obtain ⟨h0,h1,h2,h3,h4⟩:=zc3 hc
 have hok:=zgd hc
 dsimp only at h0 h2 h3 h4 hok
 have HTX:Hid (zar ⟨2,x,f,t,nm,v⟩=zd3 2 ++ 32 :: zee ⟨2,x,f,t,nm,v⟩):=Lib.hid (by unfold zar;rw [if_pos hc])
 obtain ⟨S2,hS2⟩:∃ S:ByteArray,S=⟨(Lib.itoa x).toArray⟩:=⟨_,rfl⟩
 have l2:S2.size≤17:=by rw [hS2];show (Lib.itoa x).toArray.size≤17;rw [List.size_toArray];exact zfn (zbb.2 Qk)
 have HIX:=Lib.hid (fun W=>r1_TextE x W ⟨by omega,by omega⟩)
 rw [←hS2] at HIX
 have HRS:Hid ((⟨(zar ⟨2,x,f,t,nm,v⟩).toArray⟩:ByteArray)=(⟨#[45,110,111,100,101]⟩ ++ (⟨#[32]⟩ ++ S2))):=Lib.hid (by
  rw [HTX.out]
  apply zfi
  subst hS2
  unfold zee
  simp [za3,zaq,zd3])
 have n0:¬9223372036854775807 < 1+S2.size:=by omega
 have n1:¬9223372036854775807 < 5+(1+S2.size):=by omega
 generalize zar ⟨2,x,f,t,nm,v⟩=R at *
 clear hv hs hc hx hw1 hq1 hck h0 h1 h2 h3 h4 hok HTX hS2
 rw [HRS.out]
 go_enter Tryz.func25,Tryz.ntmps25
 go_upto_region 1 with (fail)
 rw [←HW1.out,←HG.out]
 go_upto_region 3 with ((go_at_call 14;((with_reducible refine (HCK.out).mono ?_);rintro e w2 ⟨rfl,hx2⟩)))
 have hE2:Ext w w2:=HX.out.trans hx2
 replace a0:=hx2.cell a0
 replace a1:=hx2.cell a1
 go_wp2_with ((go_at_call 59;((with_reducible refine (HIX.out _).mono ?_);rintro e w3 ⟨rfl,hx3⟩;have hE23:Ext w2 w3:=Ext.trans Qg hx3;replace a0:=hE23.cell a0)))
 (try simp only [Exit.inBlock,Exit.then])
 go_ret
 exact ⟨rfl,hE2.trans (hE23.trans Qg)⟩
theorem r8_Text_3 (x f t:Int) (nm:ByteArray) (v:Val) (ok:Nat→Prop) (A:Option Addr) (k:Nat) (w:World) (hv:zk w ok A v.l) (hs:szV v) (hc:zcn ⟨3,x,f,t,nm,v⟩=0) :
  Calls Tryz.prog 25 #[.agg #[.int .i64 3, .int .i64 x, .int .i64 f, .int .i64 t, .string nm, .int .i64 v.kind, .int .i64 v.n, .int .i64 v.d, .string v.s, .slice A v.l.length k]] w fun e w'=>e= .returned (.string ⟨(zar ⟨3,x,f,t,nm,v⟩).toArray⟩)∧Ext w w':=by
 obtain ⟨q1,w1,hq1,hw1,⟨a0,a1,a2,a3,a4,a5,a6,a7,a8,a9⟩,hx⟩:=zy w ⟨3,x,f,t,nm,v⟩ A k 30
 dsimp only at a0 a1 a2 a3 a4 a5 a6 a7 a8 a9 hw1
 have HW1:=Lib.hid hw1
 have HG:=Lib.hid hq1
 have HX:=Lib.hid hx
 have hck:=r8_Check ⟨3,x,f,t,nm,v⟩ ok A k w1 (hv.ext hx) hs
 rw [hc] at hck
 dsimp only at hck
 have HCK:=Lib.hid hck
 obtain ⟨h0,h1,h2,h3,h4⟩:=zc3 hc
 have hok:=zgd hc
 dsimp only at h0 h2 h3 h4 hok
 have HTX:Hid (zar ⟨3,x,f,t,nm,v⟩=zd3 3 ++ 32 :: zee ⟨3,x,f,t,nm,v⟩):=Lib.hid (by unfold zar;rw [if_pos hc])
 obtain ⟨S2,hS2⟩:∃ S:ByteArray,S=⟨(Lib.itoa x).toArray⟩:=⟨_,rfl⟩
 have l2:S2.size≤17:=by rw [hS2];show (Lib.itoa x).toArray.size≤17;rw [List.size_toArray];exact zfn (zbb.2 Qk)
 have HIX:=Lib.hid (fun W=>r1_TextE x W ⟨by omega,by omega⟩)
 rw [←hS2] at HIX
 have l5:nm.size≤20:=zfq (h2 rfl)
 have HRS:Hid ((⟨(zar ⟨3,x,f,t,nm,v⟩).toArray⟩:ByteArray)=(((⟨#[43,108,97,98,101,108]⟩ ++ (⟨#[32]⟩ ++ S2)) ++ ⟨#[32]⟩) ++ nm)):=Lib.hid (by
  rw [HTX.out]
  apply zfi
  subst hS2
  unfold zee
  simp [za3,zaq,zd3])
 have n0:¬9223372036854775807 < 1+S2.size:=by omega
 have n1:¬9223372036854775807 < 6+(1+S2.size):=by omega
 have n2:¬9223372036854775807 < 6+(1+S2.size)+1:=by omega
 have n3:¬9223372036854775807 < 6+(1+S2.size)+1+nm.size:=by omega
 generalize zar ⟨3,x,f,t,nm,v⟩=R at *
 clear hv hs hc hx hw1 hq1 hck h0 h1 h2 h3 h4 hok HTX hS2
 rw [HRS.out]
 go_enter Tryz.func25,Tryz.ntmps25
 go_upto_region 1 with (fail)
 rw [←HW1.out,←HG.out]
 go_upto_region 3 with ((go_at_call 14;((with_reducible refine (HCK.out).mono ?_);rintro e w2 ⟨rfl,hx2⟩)))
 have hE2:Ext w w2:=HX.out.trans hx2
 replace a0:=hx2.cell a0
 replace a1:=hx2.cell a1
 replace a4:=hx2.cell a4
 go_wp2_with ((go_at_call 59;((with_reducible refine (HIX.out _).mono ?_);rintro e w3 ⟨rfl,hx3⟩;have hE23:Ext w2 w3:=Ext.trans Qg hx3;replace a0:=hE23.cell a0;replace a4:=hE23.cell a4)))
 (try simp only [Exit.inBlock,Exit.then])
 go_ret
 exact ⟨rfl,hE2.trans (hE23.trans Qg)⟩
theorem r8_Text_4 (x f t:Int) (nm:ByteArray) (v:Val) (ok:Nat→Prop) (A:Option Addr) (k:Nat) (w:World) (hv:zk w ok A v.l) (hs:szV v) (hc:zcn ⟨4,x,f,t,nm,v⟩=0) :
  Calls Tryz.prog 25 #[.agg #[.int .i64 4, .int .i64 x, .int .i64 f, .int .i64 t, .string nm, .int .i64 v.kind, .int .i64 v.n, .int .i64 v.d, .string v.s, .slice A v.l.length k]] w fun e w'=>e= .returned (.string ⟨(zar ⟨4,x,f,t,nm,v⟩).toArray⟩)∧Ext w w':=by
 obtain ⟨q1,w1,hq1,hw1,⟨a0,a1,a2,a3,a4,a5,a6,a7,a8,a9⟩,hx⟩:=zy w ⟨4,x,f,t,nm,v⟩ A k 30
 dsimp only at a0 a1 a2 a3 a4 a5 a6 a7 a8 a9 hw1
 have HW1:=Lib.hid hw1
 have HG:=Lib.hid hq1
 have HX:=Lib.hid hx
 have hck:=r8_Check ⟨4,x,f,t,nm,v⟩ ok A k w1 (hv.ext hx) hs
 rw [hc] at hck
 dsimp only at hck
 have HCK:=Lib.hid hck
 obtain ⟨h0,h1,h2,h3,h4⟩:=zc3 hc
 have hok:=zgd hc
 dsimp only at h0 h2 h3 h4 hok
 have HTX:Hid (zar ⟨4,x,f,t,nm,v⟩=zd3 4 ++ 32 :: zee ⟨4,x,f,t,nm,v⟩):=Lib.hid (by unfold zar;rw [if_pos hc])
 obtain ⟨S2,hS2⟩:∃ S:ByteArray,S=⟨(Lib.itoa x).toArray⟩:=⟨_,rfl⟩
 have l2:S2.size≤17:=by rw [hS2];show (Lib.itoa x).toArray.size≤17;rw [List.size_toArray];exact zfn (zbb.2 Qk)
 have HIX:=Lib.hid (fun W=>r1_TextE x W ⟨by omega,by omega⟩)
 rw [←hS2] at HIX
 have l5:nm.size≤20:=zfq (h2 rfl)
 have HRS:Hid ((⟨(zar ⟨4,x,f,t,nm,v⟩).toArray⟩:ByteArray)=(((⟨#[45,108,97,98,101,108]⟩ ++ (⟨#[32]⟩ ++ S2)) ++ ⟨#[32]⟩) ++ nm)):=Lib.hid (by
  rw [HTX.out]
  apply zfi
  subst hS2
  unfold zee
  simp [za3,zaq,zd3])
 have n0:¬9223372036854775807 < 1+S2.size:=by omega
 have n1:¬9223372036854775807 < 6+(1+S2.size):=by omega
 have n2:¬9223372036854775807 < 6+(1+S2.size)+1:=by omega
 have n3:¬9223372036854775807 < 6+(1+S2.size)+1+nm.size:=by omega
 generalize zar ⟨4,x,f,t,nm,v⟩=R at *
 clear hv hs hc hx hw1 hq1 hck h0 h1 h2 h3 h4 hok HTX hS2
 rw [HRS.out]
 go_enter Tryz.func25,Tryz.ntmps25
 go_upto_region 1 with (fail)
 rw [←HW1.out,←HG.out]
 go_upto_region 3 with ((go_at_call 14;((with_reducible refine (HCK.out).mono ?_);rintro e w2 ⟨rfl,hx2⟩)))
 have hE2:Ext w w2:=HX.out.trans hx2
 replace a0:=hx2.cell a0
 replace a1:=hx2.cell a1
 replace a4:=hx2.cell a4
 go_wp2_with ((go_at_call 59;((with_reducible refine (HIX.out _).mono ?_);rintro e w3 ⟨rfl,hx3⟩;have hE23:Ext w2 w3:=Ext.trans Qg hx3;replace a0:=hE23.cell a0;replace a4:=hE23.cell a4)))
 (try simp only [Exit.inBlock,Exit.then])
 go_ret
 exact ⟨rfl,hE2.trans (hE23.trans Qg)⟩
theorem r8_Text_5 (x f t:Int) (nm:ByteArray) (v:Val) (ok:Nat→Prop) (A:Option Addr) (k:Nat) (w:World) (hv:zk w ok A v.l) (hs:szV v) (hc:zcn ⟨5,x,f,t,nm,v⟩=0) :
  Calls Tryz.prog 25 #[.agg #[.int .i64 5, .int .i64 x, .int .i64 f, .int .i64 t, .string nm, .int .i64 v.kind, .int .i64 v.n, .int .i64 v.d, .string v.s, .slice A v.l.length k]] w fun e w'=>e= .returned (.string ⟨(zar ⟨5,x,f,t,nm,v⟩).toArray⟩)∧Ext w w':=by
 obtain ⟨q1,w1,hq1,hw1,⟨a0,a1,a2,a3,a4,a5,a6,a7,a8,a9⟩,hx⟩:=zy w ⟨5,x,f,t,nm,v⟩ A k 30
 dsimp only at a0 a1 a2 a3 a4 a5 a6 a7 a8 a9 hw1
 have HW1:=Lib.hid hw1
 have HG:=Lib.hid hq1
 have HX:=Lib.hid hx
 have hck:=r8_Check ⟨5,x,f,t,nm,v⟩ ok A k w1 (hv.ext hx) hs
 rw [hc] at hck
 dsimp only at hck
 have HCK:=Lib.hid hck
 obtain ⟨h0,h1,h2,h3,h4⟩:=zc3 hc
 have hok:=zgd hc
 dsimp only at h0 h2 h3 h4 hok
 have HTX:Hid (zar ⟨5,x,f,t,nm,v⟩=zd3 5 ++ 32 :: zee ⟨5,x,f,t,nm,v⟩):=Lib.hid (by unfold zar;rw [if_pos hc])
 obtain ⟨S2,hS2⟩:∃ S:ByteArray,S=⟨(Lib.itoa x).toArray⟩:=⟨_,rfl⟩
 have l2:S2.size≤17:=by rw [hS2];show (Lib.itoa x).toArray.size≤17;rw [List.size_toArray];exact zfn (zbb.2 Qk)
 have HIX:=Lib.hid (fun W=>r1_TextE x W ⟨by omega,by omega⟩)
 rw [←hS2] at HIX
 have l5:nm.size≤20:=zfq (h2 rfl)
 have hov:okV v:=hok.2.2.2.2.1 rfl
 obtain ⟨S6,hS6⟩:∃ S:ByteArray,S=⟨(zmn v).toArray⟩:=⟨_,rfl⟩
 have l6:S6.size≤300:=by rw [hS6];show (zmn v).toArray.size≤300;rw [List.size_toArray];exact zp3 hov
 have HVT:=Lib.hid (fun W=>r4_Text v A k W hov)
 rw [←hS6] at HVT
 have HRS:Hid ((⟨(zar ⟨5,x,f,t,nm,v⟩).toArray⟩:ByteArray)=(((((⟨#[115,101,116]⟩ ++ (⟨#[32]⟩ ++ S2)) ++ ⟨#[32]⟩) ++ nm) ++ ⟨#[32]⟩) ++ S6)):=Lib.hid (by
  rw [HTX.out]
  apply zfi
  subst hS2 hS6
  unfold zee
  simp [za3,zaq,zd3])
 have n0:¬9223372036854775807 < 1+S2.size:=by omega
 have n1:¬9223372036854775807 < 3+(1+S2.size):=by omega
 have n2:¬9223372036854775807 < 3+(1+S2.size)+1:=by omega
 have n3:¬9223372036854775807 < 3+(1+S2.size)+1+nm.size:=by omega
 have n4:¬9223372036854775807 < 3+(1+S2.size)+1+nm.size+1:=by omega
 have n5:¬9223372036854775807 < 3+(1+S2.size)+1+nm.size+1+S6.size:=by omega
 generalize zar ⟨5,x,f,t,nm,v⟩=R at *
 clear hv hs hc hx hw1 hq1 hck h0 h1 h2 h3 h4 hok HTX hS2 hS6 hov
 rw [HRS.out]
 go_enter Tryz.func25,Tryz.ntmps25
 go_upto_region 1 with (fail)
 rw [←HW1.out,←HG.out]
 go_upto_region 3 with ((go_at_call 14;((with_reducible refine (HCK.out).mono ?_);rintro e w2 ⟨rfl,hx2⟩)))
 have hE2:Ext w w2:=HX.out.trans hx2
 replace a0:=hx2.cell a0
 replace a1:=hx2.cell a1
 replace a4:=hx2.cell a4
 replace a5:=hx2.cell a5
 replace a6:=hx2.cell a6
 replace a7:=hx2.cell a7
 replace a8:=hx2.cell a8
 replace a9:=hx2.cell a9
 go_upto_region 14 with ((go_at_call 59;((with_reducible refine (HIX.out _).mono ?_);rintro e w3 ⟨rfl,hx3⟩;have hE23:Ext w2 w3:=Ext.trans Qg hx3;replace a0:=hE23.cell a0;replace a4:=hE23.cell a4;replace a5:=hE23.cell a5;replace a6:=hE23.cell a6;replace a7:=hE23.cell a7;replace a8:=hE23.cell a8;replace a9:=hE23.cell a9)))
 have hE3:Ext w w3:=hE2.trans hE23
 have MKR1:=Lib.hid (fun V (e:Ext w3 V)=>(⟨e.cell a4,e.cell a5,e.cell a6,e.cell a7,e.cell a8,e.cell a9,e⟩:V.cell? ⟨q1,0+4,none⟩=some (.string nm)∧V.cell? ⟨q1,0+5,none⟩=some (.int .i64 v.kind)∧V.cell? ⟨q1,0+6,none⟩=some (.int .i64 v.n)∧V.cell? ⟨q1,0+7,none⟩=some (.int .i64 v.d)∧V.cell? ⟨q1,0+8,none⟩=some (.string v.s)∧V.cell? ⟨q1,0+9,none⟩=some (.slice A v.l.length k)∧Ext w3 V))
 refine wp_region_held_drew (S:=(fun V=>V.cell? ⟨q1,0+4,none⟩=some (.string nm)∧V.cell? ⟨q1,0+5,none⟩=some (.int .i64 v.kind)∧V.cell? ⟨q1,0+6,none⟩=some (.int .i64 v.n)∧V.cell? ⟨q1,0+7,none⟩=some (.int .i64 v.d)∧V.cell? ⟨q1,0+8,none⟩=some (.string v.s)∧V.cell? ⟨q1,0+9,none⟩=some (.slice A v.l.length k)∧Ext w3 V)) (by kernel_rfl) ?hs1 (fun hHeld=>?go1)
 case hs1=>(exact MKR1.out _ Qg)
 refine KA 0 hHeld ?_;simp only [PU]
 refine KA 1 hHeld ?_;simp only [PU]
 refine KA 2 hHeld ?_;simp only [PU]
 refine KA 3 hHeld ?_;simp only [PU]
 refine KA 4 hHeld ?_;simp only [PU]
 refine KA 5 hHeld ?_;simp only [PU]
 refine KA 6 hHeld ?_;simp only [PU]
 refine KA 7 hHeld ?_;simp only [PU]
 refine KA 8 hHeld ?_;simp only [PU]
 refine wpAnyH_ready (rs:=[9]) (by kernel_rfl) (by simp) ?_
 refine AllReadyH.cons (o:=⟨_,_,_,_,_,_⟩) rfl (fun K hK=>?step11x0) ?more11x0
 case more11x0=>exact AllReadyH.nil
 go_simp
 ((go_at_call 60;((with_reducible refine (HVT.out _).mono ?_);rintro e w4 ⟨rfl,hx4⟩;have hE4:Ext w3 w4:=Ext.trans Qg hx4)))
 refine hK.out _ _ ?hS11x0 (fun H11=>?_)
 case hS11x0=>first|(exact MKR1.out _ Qg)|((try dsimp only);(exact MKR1.out _ Qg))
 clear hK K
 clear hHeld
 (try simp only [PU])
 refine KA 10 H11 ?_;simp only [PU]
 refine KA 11 H11 ?_;simp only [PU]
 refine wpAnyH_done (by kernel_rfl) ?_ _
 clear H11
 clear MKR1
 go_wp2_with fail
 (try simp only [Exit.inBlock,Exit.then])
 go_ret
 exact ⟨rfl,hE3.trans (hE4.trans Qg)⟩
theorem r8_Text_6 (x f t:Int) (nm:ByteArray) (v:Val) (ok:Nat→Prop) (A:Option Addr) (k:Nat) (w:World) (hv:zk w ok A v.l) (hs:szV v) (hc:zcn ⟨6,x,f,t,nm,v⟩=0) :
  Calls Tryz.prog 25 #[.agg #[.int .i64 6, .int .i64 x, .int .i64 f, .int .i64 t, .string nm, .int .i64 v.kind, .int .i64 v.n, .int .i64 v.d, .string v.s, .slice A v.l.length k]] w fun e w'=>e= .returned (.string ⟨(zar ⟨6,x,f,t,nm,v⟩).toArray⟩)∧Ext w w':=by
 obtain ⟨q1,w1,hq1,hw1,⟨a0,a1,a2,a3,a4,a5,a6,a7,a8,a9⟩,hx⟩:=zy w ⟨6,x,f,t,nm,v⟩ A k 30
 dsimp only at a0 a1 a2 a3 a4 a5 a6 a7 a8 a9 hw1
 have HW1:=Lib.hid hw1
 have HG:=Lib.hid hq1
 have HX:=Lib.hid hx
 have hck:=r8_Check ⟨6,x,f,t,nm,v⟩ ok A k w1 (hv.ext hx) hs
 rw [hc] at hck
 dsimp only at hck
 have HCK:=Lib.hid hck
 obtain ⟨h0,h1,h2,h3,h4⟩:=zc3 hc
 have hok:=zgd hc
 dsimp only at h0 h2 h3 h4 hok
 have HTX:Hid (zar ⟨6,x,f,t,nm,v⟩=zd3 6 ++ 32 :: zee ⟨6,x,f,t,nm,v⟩):=Lib.hid (by unfold zar;rw [if_pos hc])
 obtain ⟨S2,hS2⟩:∃ S:ByteArray,S=⟨(Lib.itoa x).toArray⟩:=⟨_,rfl⟩
 have l2:S2.size≤17:=by rw [hS2];show (Lib.itoa x).toArray.size≤17;rw [List.size_toArray];exact zfn (zbb.2 Qk)
 have HIX:=Lib.hid (fun W=>r1_TextE x W ⟨by omega,by omega⟩)
 rw [←hS2] at HIX
 obtain ⟨hf,ht⟩:=h4 rfl
 obtain ⟨S3,hS3⟩:∃ S:ByteArray,S=⟨(Lib.itoa f).toArray⟩:=⟨_,rfl⟩
 obtain ⟨S4,hS4⟩:∃ S:ByteArray,S=⟨(Lib.itoa t).toArray⟩:=⟨_,rfl⟩
 have l3:S3.size≤17:=by rw [hS3];show (Lib.itoa f).toArray.size≤17;rw [List.size_toArray];exact zfn (zbb.2 Qk)
 have l4:S4.size≤17:=by rw [hS4];show (Lib.itoa t).toArray.size≤17;rw [List.size_toArray];exact zfn (zbb.2 Qk)
 have HIF:=Lib.hid (fun W=>r1_TextE f W ⟨by omega,by omega⟩)
 have HIT:=Lib.hid (fun W=>r1_TextE t W ⟨by omega,by omega⟩)
 rw [←hS3] at HIF
 rw [←hS4] at HIT
 have l5:nm.size≤20:=zfq (h2 rfl)
 have HRS:Hid ((⟨(zar ⟨6,x,f,t,nm,v⟩).toArray⟩:ByteArray)=(((((((⟨#[43,101,100,103,101]⟩ ++ (⟨#[32]⟩ ++ S2)) ++ ⟨#[32]⟩) ++ S3) ++ ⟨#[32]⟩) ++ S4) ++ ⟨#[32]⟩) ++ nm)):=Lib.hid (by
  rw [HTX.out]
  apply zfi
  subst hS2 hS3 hS4
  unfold zee
  simp [za3,zaq,zd3])
 have n0:¬9223372036854775807 < 1+S2.size:=by omega
 have n1:¬9223372036854775807 < 5+(1+S2.size):=by omega
 have n2:¬9223372036854775807 < 5+(1+S2.size)+1:=by omega
 have n3:¬9223372036854775807 < 5+(1+S2.size)+1+S3.size:=by omega
 have n4:¬9223372036854775807 < 5+(1+S2.size)+1+S3.size+1:=by omega
 have n5:¬9223372036854775807 < 5+(1+S2.size)+1+S3.size+1+S4.size:=by omega
 have n6:¬9223372036854775807 < 5+(1+S2.size)+1+S3.size+1+S4.size+1:=by omega
 have n7:¬9223372036854775807 < 5+(1+S2.size)+1+S3.size+1+S4.size+1+nm.size:=by omega
 generalize zar ⟨6,x,f,t,nm,v⟩=R at *
 clear hv hs hc hx hw1 hq1 hck h0 h1 h2 h3 h4 hok HTX hS2 hS3 hS4 hf ht
 rw [HRS.out]
 go_enter Tryz.func25,Tryz.ntmps25
 go_upto_region 1 with (fail)
 rw [←HW1.out,←HG.out]
 go_upto_region 3 with ((go_at_call 14;((with_reducible refine (HCK.out).mono ?_);rintro e w2 ⟨rfl,hx2⟩)))
 have hE2:Ext w w2:=HX.out.trans hx2
 replace a0:=hx2.cell a0
 replace a1:=hx2.cell a1
 replace a2:=hx2.cell a2
 replace a3:=hx2.cell a3
 replace a4:=hx2.cell a4
 go_upto_region 16 with ((go_at_call 59;((with_reducible refine (HIX.out _).mono ?_);rintro e w3 ⟨rfl,hx3⟩;have hE23:Ext w2 w3:=Ext.trans Qg hx3;replace a0:=hE23.cell a0;replace a2:=hE23.cell a2;replace a3:=hE23.cell a3;replace a4:=hE23.cell a4)))
 have hE3:Ext w w3:=hE2.trans hE23
 have MKR2:=Lib.hid (fun V (e:Ext w3 V)=>(⟨e.cell a2,e.cell a3,e.cell a4,e⟩:V.cell? ⟨q1,0+2,none⟩=some (.int .i64 f)∧V.cell? ⟨q1,0+3,none⟩=some (.int .i64 t)∧V.cell? ⟨q1,0+4,none⟩=some (.string nm)∧Ext w3 V))
 refine wp_region_held_drew (S:=(fun V=>V.cell? ⟨q1,0+2,none⟩=some (.int .i64 f)∧V.cell? ⟨q1,0+3,none⟩=some (.int .i64 t)∧V.cell? ⟨q1,0+4,none⟩=some (.string nm)∧Ext w3 V)) (by kernel_rfl) ?hs14 (fun hHeld=>?go14)
 case hs14=>(exact MKR2.out _ Qg)
 refine KA 0 hHeld ?_;simp only [PU]
 refine KA 1 hHeld ?_;simp only [PU]
 refine KA 2 hHeld ?_;simp only [PU]
 refine KA 3 hHeld ?_;simp only [PU]
 refine KA 4 hHeld ?_;simp only [PU]
 refine KA 8 hHeld ?_;simp only [PU]
 refine KA 9 hHeld ?_;simp only [PU]
 refine KA 13 hHeld ?_;simp only [PU]
 refine KA 14 hHeld ?_;simp only [PU]
 refine wpAnyH_ready (rs:=[5]) (by kernel_rfl) (by simp) ?_
 refine AllReadyH.cons (o:=⟨_,_,_,_,_,_⟩) rfl (fun K hK=>?step24x0) ?more24x0
 case more24x0=>exact AllReadyH.nil
 go_simp
 ((go_at_call 59;((with_reducible refine (HIF.out _).mono ?_);rintro e w4 ⟨rfl,hx4⟩;have hE4:Ext w3 w4:=Ext.trans Qg hx4)))
 refine hK.out _ _ ?hS24x0 (fun H24=>?_)
 case hS24x0=>first|(exact MKR2.out _ Qg)|((try dsimp only);(exact MKR2.out _ Qg))
 clear hK K
 clear hHeld
 (try simp only [PU])
 refine KA 6 H24 ?_;simp only [PU]
 refine KA 7 H24 ?_;simp only [PU]
 refine wpAnyH_ready (rs:=[10]) (by kernel_rfl) (by simp) ?_
 refine AllReadyH.cons (o:=⟨_,_,_,_,_,_⟩) rfl (fun K hK=>?step27x0) ?more27x0
 case more27x0=>exact AllReadyH.nil
 go_simp
 ((go_at_call 59;((with_reducible refine (HIT.out _).mono ?_);rintro e w5 ⟨rfl,hx5⟩;have hE5:Ext w3 w5:=Ext.trans Qg hx5)))
 refine hK.out _ _ ?hS27x0 (fun H27=>?_)
 case hS27x0=>first|(exact MKR2.out _ Qg)|((try dsimp only);(exact MKR2.out _ Qg))
 clear hK K
 clear H24
 (try simp only [PU])
 refine KA 11 H27 ?_;simp only [PU]
 refine KA 12 H27 ?_;simp only [PU]
 refine KA 15 H27 ?_;simp only [PU]
 refine KA 16 H27 ?_;simp only [PU]
 refine wpAnyH_done (by kernel_rfl) ?_ _
 clear H27
 clear MKR2
 go_wp2_with fail
 (try simp only [Exit.inBlock,Exit.then])
 go_ret
 exact ⟨rfl,hE3.trans (hE5.trans Qg)⟩
theorem r8_Text_7 (x f t:Int) (nm:ByteArray) (v:Val) (ok:Nat→Prop) (A:Option Addr) (k:Nat) (w:World) (hv:zk w ok A v.l) (hs:szV v) (hc:zcn ⟨7,x,f,t,nm,v⟩=0) :
  Calls Tryz.prog 25 #[.agg #[.int .i64 7, .int .i64 x, .int .i64 f, .int .i64 t, .string nm, .int .i64 v.kind, .int .i64 v.n, .int .i64 v.d, .string v.s, .slice A v.l.length k]] w fun e w'=>e= .returned (.string ⟨(zar ⟨7,x,f,t,nm,v⟩).toArray⟩)∧Ext w w':=by
 obtain ⟨q1,w1,hq1,hw1,⟨a0,a1,a2,a3,a4,a5,a6,a7,a8,a9⟩,hx⟩:=zy w ⟨7,x,f,t,nm,v⟩ A k 30
 dsimp only at a0 a1 a2 a3 a4 a5 a6 a7 a8 a9 hw1
 have HW1:=Lib.hid hw1
 have HG:=Lib.hid hq1
 have HX:=Lib.hid hx
 have hck:=r8_Check ⟨7,x,f,t,nm,v⟩ ok A k w1 (hv.ext hx) hs
 rw [hc] at hck
 dsimp only at hck
 have HCK:=Lib.hid hck
 obtain ⟨h0,h1,h2,h3,h4⟩:=zc3 hc
 have hok:=zgd hc
 dsimp only at h0 h2 h3 h4 hok
 have HTX:Hid (zar ⟨7,x,f,t,nm,v⟩=zd3 7 ++ 32 :: zee ⟨7,x,f,t,nm,v⟩):=Lib.hid (by unfold zar;rw [if_pos hc])
 obtain ⟨S2,hS2⟩:∃ S:ByteArray,S=⟨(Lib.itoa x).toArray⟩:=⟨_,rfl⟩
 have l2:S2.size≤17:=by rw [hS2];show (Lib.itoa x).toArray.size≤17;rw [List.size_toArray];exact zfn (zbb.2 Qk)
 have HIX:=Lib.hid (fun W=>r1_TextE x W ⟨by omega,by omega⟩)
 rw [←hS2] at HIX
 have HRS:Hid ((⟨(zar ⟨7,x,f,t,nm,v⟩).toArray⟩:ByteArray)=(⟨#[45,101,100,103,101]⟩ ++ (⟨#[32]⟩ ++ S2))):=Lib.hid (by
  rw [HTX.out]
  apply zfi
  subst hS2
  unfold zee
  simp [za3,zaq,zd3])
 have n0:¬9223372036854775807 < 1+S2.size:=by omega
 have n1:¬9223372036854775807 < 5+(1+S2.size):=by omega
 generalize zar ⟨7,x,f,t,nm,v⟩=R at *
 clear hv hs hc hx hw1 hq1 hck h0 h1 h2 h3 h4 hok HTX hS2
 rw [HRS.out]
 go_enter Tryz.func25,Tryz.ntmps25
 go_upto_region 1 with (fail)
 rw [←HW1.out,←HG.out]
 go_upto_region 3 with ((go_at_call 14;((with_reducible refine (HCK.out).mono ?_);rintro e w2 ⟨rfl,hx2⟩)))
 have hE2:Ext w w2:=HX.out.trans hx2
 replace a0:=hx2.cell a0
 replace a1:=hx2.cell a1
 go_wp2_with ((go_at_call 59;((with_reducible refine (HIX.out _).mono ?_);rintro e w3 ⟨rfl,hx3⟩;have hE23:Ext w2 w3:=Ext.trans Qg hx3;replace a0:=hE23.cell a0)))
 (try simp only [Exit.inBlock,Exit.then])
 go_ret
 exact ⟨rfl,hE2.trans (hE23.trans Qg)⟩
theorem r8_Text_8 (x f t:Int) (nm:ByteArray) (v:Val) (ok:Nat→Prop) (A:Option Addr) (k:Nat) (w:World) (hv:zk w ok A v.l) (hs:szV v) (hc:zcn ⟨8,x,f,t,nm,v⟩=0) :
  Calls Tryz.prog 25 #[.agg #[.int .i64 8, .int .i64 x, .int .i64 f, .int .i64 t, .string nm, .int .i64 v.kind, .int .i64 v.n, .int .i64 v.d, .string v.s, .slice A v.l.length k]] w fun e w'=>e= .returned (.string ⟨(zar ⟨8,x,f,t,nm,v⟩).toArray⟩)∧Ext w w':=by
 obtain ⟨q1,w1,hq1,hw1,⟨a0,a1,a2,a3,a4,a5,a6,a7,a8,a9⟩,hx⟩:=zy w ⟨8,x,f,t,nm,v⟩ A k 30
 dsimp only at a0 a1 a2 a3 a4 a5 a6 a7 a8 a9 hw1
 have HW1:=Lib.hid hw1
 have HG:=Lib.hid hq1
 have HX:=Lib.hid hx
 have hck:=r8_Check ⟨8,x,f,t,nm,v⟩ ok A k w1 (hv.ext hx) hs
 rw [hc] at hck
 dsimp only at hck
 have HCK:=Lib.hid hck
 obtain ⟨h0,h1,h2,h3,h4⟩:=zc3 hc
 have hok:=zgd hc
 dsimp only at h0 h2 h3 h4 hok
 have HTX:Hid (zar ⟨8,x,f,t,nm,v⟩=zd3 8 ++ 32 :: zee ⟨8,x,f,t,nm,v⟩):=Lib.hid (by unfold zar;rw [if_pos hc])
 obtain ⟨S2,hS2⟩:∃ S:ByteArray,S=⟨(Lib.itoa x).toArray⟩:=⟨_,rfl⟩
 have l2:S2.size≤17:=by rw [hS2];show (Lib.itoa x).toArray.size≤17;rw [List.size_toArray];exact zfn (zbb.2 Qk)
 have HIX:=Lib.hid (fun W=>r1_TextE x W ⟨by omega,by omega⟩)
 rw [←hS2] at HIX
 have l5:nm.size≤20:=zfq (h2 rfl)
 have hov:okV v:=hok.2.2.2.2.1 rfl
 obtain ⟨S6,hS6⟩:∃ S:ByteArray,S=⟨(zmn v).toArray⟩:=⟨_,rfl⟩
 have l6:S6.size≤300:=by rw [hS6];show (zmn v).toArray.size≤300;rw [List.size_toArray];exact zp3 hov
 have HVT:=Lib.hid (fun W=>r4_Text v A k W hov)
 rw [←hS6] at HVT
 have HRS:Hid ((⟨(zar ⟨8,x,f,t,nm,v⟩).toArray⟩:ByteArray)=(((((⟨#[101,115,101,116]⟩ ++ (⟨#[32]⟩ ++ S2)) ++ ⟨#[32]⟩) ++ nm) ++ ⟨#[32]⟩) ++ S6)):=Lib.hid (by
  rw [HTX.out]
  apply zfi
  subst hS2 hS6
  unfold zee
  simp [za3,zaq,zd3])
 have n0:¬9223372036854775807 < 1+S2.size:=by omega
 have n1:¬9223372036854775807 < 4+(1+S2.size):=by omega
 have n2:¬9223372036854775807 < 4+(1+S2.size)+1:=by omega
 have n3:¬9223372036854775807 < 4+(1+S2.size)+1+nm.size:=by omega
 have n4:¬9223372036854775807 < 4+(1+S2.size)+1+nm.size+1:=by omega
 have n5:¬9223372036854775807 < 4+(1+S2.size)+1+nm.size+1+S6.size:=by omega
 generalize zar ⟨8,x,f,t,nm,v⟩=R at *
 clear hv hs hc hx hw1 hq1 hck h0 h1 h2 h3 h4 hok HTX hS2 hS6 hov
 rw [HRS.out]
 go_enter Tryz.func25,Tryz.ntmps25
 go_upto_region 1 with (fail)
 rw [←HW1.out,←HG.out]
 go_upto_region 3 with ((go_at_call 14;((with_reducible refine (HCK.out).mono ?_);rintro e w2 ⟨rfl,hx2⟩)))
 have hE2:Ext w w2:=HX.out.trans hx2
 replace a0:=hx2.cell a0
 replace a1:=hx2.cell a1
 replace a4:=hx2.cell a4
 replace a5:=hx2.cell a5
 replace a6:=hx2.cell a6
 replace a7:=hx2.cell a7
 replace a8:=hx2.cell a8
 replace a9:=hx2.cell a9
 go_upto_region 19 with ((go_at_call 59;((with_reducible refine (HIX.out _).mono ?_);rintro e w3 ⟨rfl,hx3⟩;have hE23:Ext w2 w3:=Ext.trans Qg hx3;replace a0:=hE23.cell a0;replace a4:=hE23.cell a4;replace a5:=hE23.cell a5;replace a6:=hE23.cell a6;replace a7:=hE23.cell a7;replace a8:=hE23.cell a8;replace a9:=hE23.cell a9)))
 have hE3:Ext w w3:=hE2.trans hE23
 have MKR3:=Lib.hid (fun V (e:Ext w3 V)=>(⟨e.cell a4,e.cell a5,e.cell a6,e.cell a7,e.cell a8,e.cell a9,e⟩:V.cell? ⟨q1,0+4,none⟩=some (.string nm)∧V.cell? ⟨q1,0+5,none⟩=some (.int .i64 v.kind)∧V.cell? ⟨q1,0+6,none⟩=some (.int .i64 v.n)∧V.cell? ⟨q1,0+7,none⟩=some (.int .i64 v.d)∧V.cell? ⟨q1,0+8,none⟩=some (.string v.s)∧V.cell? ⟨q1,0+9,none⟩=some (.slice A v.l.length k)∧Ext w3 V))
 refine wp_region_held_drew (S:=(fun V=>V.cell? ⟨q1,0+4,none⟩=some (.string nm)∧V.cell? ⟨q1,0+5,none⟩=some (.int .i64 v.kind)∧V.cell? ⟨q1,0+6,none⟩=some (.int .i64 v.n)∧V.cell? ⟨q1,0+7,none⟩=some (.int .i64 v.d)∧V.cell? ⟨q1,0+8,none⟩=some (.string v.s)∧V.cell? ⟨q1,0+9,none⟩=some (.slice A v.l.length k)∧Ext w3 V)) (by kernel_rfl) ?hs32 (fun hHeld=>?go32)
 case hs32=>(exact MKR3.out _ Qg)
 refine KA 0 hHeld ?_;simp only [PU]
 refine KA 1 hHeld ?_;simp only [PU]
 refine KA 2 hHeld ?_;simp only [PU]
 refine KA 3 hHeld ?_;simp only [PU]
 refine KA 4 hHeld ?_;simp only [PU]
 refine KA 5 hHeld ?_;simp only [PU]
 refine KA 6 hHeld ?_;simp only [PU]
 refine KA 7 hHeld ?_;simp only [PU]
 refine KA 8 hHeld ?_;simp only [PU]
 refine wpAnyH_ready (rs:=[9]) (by kernel_rfl) (by simp) ?_
 refine AllReadyH.cons (o:=⟨_,_,_,_,_,_⟩) rfl (fun K hK=>?step42x0) ?more42x0
 case more42x0=>exact AllReadyH.nil
 go_simp
 ((go_at_call 60;((with_reducible refine (HVT.out _).mono ?_);rintro e w4 ⟨rfl,hx4⟩;have hE4:Ext w3 w4:=Ext.trans Qg hx4)))
 refine hK.out _ _ ?hS42x0 (fun H42=>?_)
 case hS42x0=>first|(exact MKR3.out _ Qg)|((try dsimp only);(exact MKR3.out _ Qg))
 clear hK K
 clear hHeld
 (try simp only [PU])
 refine KA 10 H42 ?_;simp only [PU]
 refine KA 11 H42 ?_;simp only [PU]
 refine wpAnyH_done (by kernel_rfl) ?_ _
 clear H42
 clear MKR3
 go_wp2_with fail
 (try simp only [Exit.inBlock,Exit.then])
 go_ret
 exact ⟨rfl,hE3.trans (hE4.trans Qg)⟩
theorem r8_Text_no (c:ChG) (ok:Nat→Prop) (A:Option Addr) (k:Nat) (w:World) (hv:zk w ok A c.v.l) (hs:szV c.v) (hc:zcn c ≠ 0) :
  Calls Tryz.prog 25 #[.agg #[.int .i64 c.op, .int .i64 c.id, .int .i64 c.frm, .int .i64 c.to_, .string c.name, .int .i64 c.v.kind, .int .i64 c.v.n, .int .i64 c.v.d, .string c.v.s, .slice A c.v.l.length k]] w fun e w'=>e= .returned (.string ⟨#[]⟩)∧Ext w w':=by
 obtain ⟨q1,w1,hq1,hw1,⟨a0,a1,a2,a3,a4,a5,a6,a7,a8,a9⟩,hx⟩:=zy w c A k 30
 have HW1:=Lib.hid hw1
 have HG:=Lib.hid hq1
 have HX:=Lib.hid hx
 have HCK:=Lib.hid (r8_Check c ok A k w1 (hv.ext hx) hs)
 have hne:(zcn c != 0)=true:=by simpa using hc
 clear hv hs hx hw1 hq1 hc
 generalize zcn c=R at *
 go_enter Tryz.func25,Tryz.ntmps25
 go_upto_region 1 with (fail)
 rw [←HW1.out,←HG.out]
 go_wp2_with ((go_at_call 14;((with_reducible refine (HCK.out).mono ?_);rintro e w2 ⟨rfl,hx2⟩)))
 go_ret
 exact ⟨rfl,HX.out.trans hx2⟩
theorem r8_Text (c:ChG) (ok:Nat→Prop) (A:Option Addr) (k:Nat) (w:World) (hv:zk w ok A c.v.l) (hs:szV c.v) :
  Calls Tryz.prog 25 #[.agg #[.int .i64 c.op, .int .i64 c.id, .int .i64 c.frm, .int .i64 c.to_, .string c.name, .int .i64 c.v.kind, .int .i64 c.v.n, .int .i64 c.v.d, .string c.v.s, .slice A c.v.l.length k]] w fun e w'=>e= .returned (.string ⟨(zar c).toArray⟩)∧Ext w w':=by
 by_cases hc:zcn c=0
 ·have hop:=(zc3 hc).2.1
  obtain ⟨op,x,f,t,nm,v⟩:=c
  dsimp only at hop
  have h8:op=1∨op=2∨op=3∨op=4∨op=5∨op=6∨op=7∨op=8:=by omega
  rcases h8 with rfl|rfl|rfl|rfl|rfl|rfl|rfl|rfl
  ·exact r8_Text_1 x f t nm v ok A k w hv hs hc
  ·exact r8_Text_2 x f t nm v ok A k w hv hs hc
  ·exact r8_Text_3 x f t nm v ok A k w hv hs hc
  ·exact r8_Text_4 x f t nm v ok A k w hv hs hc
  ·exact r8_Text_5 x f t nm v ok A k w hv hs hc
  ·exact r8_Text_6 x f t nm v ok A k w hv hs hc
  ·exact r8_Text_7 x f t nm v ok A k w hv hs hc
  ·exact r8_Text_8 x f t nm v ok A k w hv hs hc
 ·have h:=r8_Text_no c ok A k w hv hs hc
  unfold zar
  rw [if_neg hc]
  exact h
theorem chs_two {w:World} {ok ok':Nat→Prop} {A B:Option Addr} {k m:Nat} {a b:ChG} (ha:zk w ok A a.v.l) (hb:zk w ok' B b.v.l) (hk:a.v.l.length≤k) (hm:b.v.l.length≤m) (t:TypeId):Chs (w.alloc (.cells #[.int .i64 a.op, .int .i64 a.id, .int .i64 a.frm, .int .i64 a.to_, .string a.name, .int .i64 a.v.kind, .int .i64 a.v.n, .int .i64 a.v.d, .string a.v.s, .slice A a.v.l.length k, .int .i64 b.op, .int .i64 b.id, .int .i64 b.frm, .int .i64 b.to_, .string b.name, .int .i64 b.v.kind, .int .i64 b.v.n, .int .i64 b.v.d, .string b.v.s, .slice B b.v.l.length m] t)) (fun _=>True) (some ⟨w.heap.size,0,none⟩) [a,b]:=by
 have hx:Ext w (w.alloc (.cells #[.int .i64 a.op, .int .i64 a.id, .int .i64 a.frm, .int .i64 a.to_, .string a.name, .int .i64 a.v.kind, .int .i64 a.v.n, .int .i64 a.v.d, .string a.v.s, .slice A a.v.l.length k, .int .i64 b.op, .int .i64 b.id, .int .i64 b.frm, .int .i64 b.to_, .string b.name, .int .i64 b.v.kind, .int .i64 b.v.n, .int .i64 b.v.d, .string b.v.s, .slice B b.v.l.length m] t)):=(Ext.refl _).alloc _
 refine ⟨by simp,fun _=>⟨w.heap.size,0,rfl,fun j hj=>?_⟩⟩
 have h2:j=0∨j=1:=by simp at hj;omega
 rcases h2 with rfl|rfl
 ·exact ⟨trivial,A,k,⟨by go_simp,by go_simp,by go_simp,by go_simp,by go_simp,by go_simp,by go_simp,by go_simp,by go_simp,by go_simp⟩,hk,(ha.ext hx).to (fun _ _=>trivial)⟩
 ·exact ⟨trivial,B,m,⟨by go_simp,by go_simp,by go_simp,by go_simp,by go_simp,by go_simp,by go_simp,by go_simp,by go_simp,by go_simp⟩,hm,(hb.ext hx).to (fun _ _=>trivial)⟩
theorem chk_text {c:ChG} (h:zar c ≠ []):zcn c=0:=by
 by_cases hc:zcn c=0
 ·exact hc
 ·exfalso;apply h;unfold zar;rw [if_neg hc]
theorem txt_eq {a b:ChG} (h:(⟨(zar a).toArray⟩:ByteArray)=⟨(zar b).toArray⟩):zar a=zar b:=by
 have:=congrArg (fun s:ByteArray=>s.data.toList) h
 simpa using this
theorem l_ChangeTexts (a b:ChG) (ok ok':Nat→Prop) (A B:Option Addr) (k m:Nat) (w:World) (hz:zq w) (hp:zgc w) (hb:BrW w) (hva:zk w ok A a.v.l) (hka:a.v.l.length≤k) (hsa:SzC a) (hvb:zk w ok' B b.v.l) (hkb:b.v.l.length≤m) (hsb:SzC b) :
  Calls Tryz.prog 8 #[.agg #[.int .i64 a.op, .int .i64 a.id, .int .i64 a.frm, .int .i64 a.to_, .string a.name, .int .i64 a.v.kind, .int .i64 a.v.n, .int .i64 a.v.d, .string a.v.s, .slice A a.v.l.length k], .agg #[.int .i64 b.op, .int .i64 b.id, .int .i64 b.frm, .int .i64 b.to_, .string b.name, .int .i64 b.v.kind, .int .i64 b.v.n, .int .i64 b.v.d, .string b.v.s, .slice B b.v.l.length m]] w fun e w'=>e= .returned (.bool true)∧Ext w w':=by
 obtain ⟨q1,w1,hq1,hw1,hca,hx1⟩:=zy w a A k 30
 obtain ⟨q2,w2,hq2,hw2,⟨b0,b1,b2,b3,b4,b5,b6,b7,b8,b9⟩,hx2⟩:=zy w1 b B m 30
 obtain ⟨a0,a1,a2,a3,a4,a5,a6,a7,a8,a9⟩:=hca.ext hx2
 have hx:Ext w w2:=hx1.trans hx2
 have HWQ:Hid (w2=(w.alloc (.cells #[.int .i64 a.op, .int .i64 a.id, .int .i64 a.frm, .int .i64 a.to_, .string a.name, .int .i64 a.v.kind, .int .i64 a.v.n, .int .i64 a.v.d, .string a.v.s, .slice A a.v.l.length k] 30)).alloc (.cells #[.int .i64 b.op, .int .i64 b.id, .int .i64 b.frm, .int .i64 b.to_, .string b.name, .int .i64 b.v.kind, .int .i64 b.v.n, .int .i64 b.v.d, .string b.v.s, .slice B b.v.l.length m] 30)):=Lib.hid (by rw [hw2,hw1])
 have HQ1:=Lib.hid hq1
 have HQ2:Hid (q2=w.heap.size+1):=Lib.hid (by rw [hq2,hw1];simp)
 have HX:=Lib.hid hx
 have HAL:=Lib.hid (fun W (e:Ext w2 W)=>z1i W (hz.ext (hx.trans e)) (hp.ext (hx.trans e)) (hb.ext (hx.trans e)))
 have HFW:=Lib.hid (fun W (e:Ext (w2.alloc (.cells #[.int .i64 a.op, .int .i64 a.id, .int .i64 a.frm, .int .i64 a.to_, .string a.name, .int .i64 a.v.kind, .int .i64 a.v.n, .int .i64 a.v.d, .string a.v.s, .slice A a.v.l.length k, .int .i64 b.op, .int .i64 b.id, .int .i64 b.frm, .int .i64 b.to_, .string b.name, .int .i64 b.v.kind, .int .i64 b.v.n, .int .i64 b.v.d, .string b.v.s, .slice B b.v.l.length m] 30)) W)=>(show Calls Tryz.prog 23 #[.slice (some ⟨w2.heap.size,0,none⟩) 2 2, .int .i64 2] W (z09 2 2 W) from z0p [a,b] (fun _=>True) (some ⟨w2.heap.size,0,none⟩) 2 2 W ((chs_two (hva.ext hx) (hvb.ext hx) hka hkb _).ext e) (fun c hc=>(List.mem_cons.1 hc).elim (fun h=>by rw [h];exact hsa) (fun h=>by rw [List.mem_singleton.1 h];exact hsb)) Qj))
 have HTA:=Lib.hid (fun W (e:Ext w2 W)=>zyb a ok A k W (hz.ext (hx.trans e)) (hp.ext (hx.trans e)) (hb.ext (hx.trans e)) (hva.ext (hx.trans e)))
 have HTB:=Lib.hid (fun W (e:Ext w2 W)=>zyb b ok' B m W (hz.ext (hx.trans e)) (hp.ext (hx.trans e)) (hb.ext (hx.trans e)) (hvb.ext (hx.trans e)))
 have HRA:=Lib.hid (fun W (e:Ext w2 W)=>r8_Text a ok A k W (hva.ext (hx.trans e)) hsa.1)
 have HSB:=Lib.hid (fun W (e:Ext w2 W)=>ch_Same a b ok ok' A B k m W (hz.ext (hx.trans e)) (hva.ext (hx.trans e)) (hvb.ext (hx.trans e)))
 have HSR:=Lib.hid (fun W (e:Ext w2 W)=>r8_Same a b ok ok' A B k m W hsa.1 hsb.1 (hva.ext (hx.trans e)) (hvb.ext (hx.trans e)))
 have HSA:=Lib.hid (fun W (e:Ext w2 W)=>ch_Same a a ok ok A A k k W (hz.ext (hx.trans e)) (hva.ext (hx.trans e)) (hva.ext (hx.trans e)))
 rw [same_iff.2 (show a=a from rfl)] at HSA
 obtain ⟨TA,hTA⟩:∃ S:ByteArray,S=⟨(zar a).toArray⟩:=⟨_,rfl⟩
 obtain ⟨TB,hTB⟩:∃ S:ByteArray,S=⟨(zar b).toArray⟩:=⟨_,rfl⟩
 rw [←hTA] at HTA HRA
 rw [←hTB] at HTB
 have HEQ:Hid (TA.toList ≠ []→TA=TB→sameC a b=true):=Lib.hid (fun h1 h2=>by
  have h3:zar a=zar b:=txt_eq (by rw [←hTA,←hTB,h2])
  have h4:zar a ≠ []:=fun h=>h1 (by rw [hTA,h,ByteArray.toList_eq])
  exact same_iff.2 (textC_inj (chk_text h4) (chk_text (h3 ▸ h4)) h3))
 generalize sameC a b=sab at *
 clear hq1 hq2 hw1 hw2 hca hx1 hx2 hx hz hp hb hva hka hsa hvb hkb hsb hTA hTB
 go_enter Tryz.func8,Tryz.ntmps8
 go_upto_region 1 with (fail)
 rw [←HWQ.out,←HQ2.out,←HQ1.out]
 clear HWQ HQ1 HQ2
 go_upto_if 9 with ((go_at_call 23;((with_reducible refine (HFW.out _ Qg).mono ?_);rintro e w3 ⟨b,rfl,-,hx3⟩)))
 have hE3:Ext w2 w3:=Ext.trans ((Ext.refl _).alloc _) hx3
 replace a0:=hE3.cell a0
 replace a1:=hE3.cell a1
 replace a2:=hE3.cell a2
 replace a3:=hE3.cell a3
 replace a4:=hE3.cell a4
 replace a5:=hE3.cell a5
 replace a6:=hE3.cell a6
 replace a7:=hE3.cell a7
 replace a8:=hE3.cell a8
 replace a9:=hE3.cell a9
 replace b0:=hE3.cell b0
 replace b1:=hE3.cell b1
 replace b2:=hE3.cell b2
 replace b3:=hE3.cell b3
 replace b4:=hE3.cell b4
 replace b5:=hE3.cell b5
 replace b6:=hE3.cell b6
 replace b7:=hE3.cell b7
 replace b8:=hE3.cell b8
 replace b9:=hE3.cell b9
 clear hx3 HFW
 cases b
 case false =>
  go_wp2_with ((go_at_call 10;((with_reducible refine (HAL.out _ hE3).mono ?_);rintro e w4 ⟨rfl,hx4⟩)))
  go_ret
  exact ⟨rfl,HX.out.trans (hE3.trans hx4)⟩
 go_upto_region 3 with (fail)
 have MKR1:=Lib.hid (fun V (e:Ext w3 V)=>(⟨e.cell a0,e.cell a1,e.cell a2,e.cell a3,e.cell a4,e.cell a5,e.cell a6,e.cell a7,e.cell a8,e.cell a9,e.cell b0,e.cell b1,e.cell b2,e.cell b3,e.cell b4,e.cell b5,e.cell b6,e.cell b7,e.cell b8,e.cell b9,e⟩:V.cell? ⟨q1,0,none⟩=some (.int .i64 a.op)∧V.cell? ⟨q1,0+1,none⟩=some (.int .i64 a.id)∧V.cell? ⟨q1,0+2,none⟩=some (.int .i64 a.frm)∧V.cell? ⟨q1,0+3,none⟩=some (.int .i64 a.to_)∧V.cell? ⟨q1,0+4,none⟩=some (.string a.name)∧V.cell? ⟨q1,0+5,none⟩=some (.int .i64 a.v.kind)∧V.cell? ⟨q1,0+6,none⟩=some (.int .i64 a.v.n)∧V.cell? ⟨q1,0+7,none⟩=some (.int .i64 a.v.d)∧V.cell? ⟨q1,0+8,none⟩=some (.string a.v.s)∧V.cell? ⟨q1,0+9,none⟩=some (.slice A a.v.l.length k)∧V.cell? ⟨q2,0,none⟩=some (.int .i64 b.op)∧V.cell? ⟨q2,0+1,none⟩=some (.int .i64 b.id)∧V.cell? ⟨q2,0+2,none⟩=some (.int .i64 b.frm)∧V.cell? ⟨q2,0+3,none⟩=some (.int .i64 b.to_)∧V.cell? ⟨q2,0+4,none⟩=some (.string b.name)∧V.cell? ⟨q2,0+5,none⟩=some (.int .i64 b.v.kind)∧V.cell? ⟨q2,0+6,none⟩=some (.int .i64 b.v.n)∧V.cell? ⟨q2,0+7,none⟩=some (.int .i64 b.v.d)∧V.cell? ⟨q2,0+8,none⟩=some (.string b.v.s)∧V.cell? ⟨q2,0+9,none⟩=some (.slice B b.v.l.length m)∧Ext w3 V))
 refine wp_region_held_drew (S:=(fun V=>V.cell? ⟨q1,0,none⟩=some (.int .i64 a.op)∧V.cell? ⟨q1,0+1,none⟩=some (.int .i64 a.id)∧V.cell? ⟨q1,0+2,none⟩=some (.int .i64 a.frm)∧V.cell? ⟨q1,0+3,none⟩=some (.int .i64 a.to_)∧V.cell? ⟨q1,0+4,none⟩=some (.string a.name)∧V.cell? ⟨q1,0+5,none⟩=some (.int .i64 a.v.kind)∧V.cell? ⟨q1,0+6,none⟩=some (.int .i64 a.v.n)∧V.cell? ⟨q1,0+7,none⟩=some (.int .i64 a.v.d)∧V.cell? ⟨q1,0+8,none⟩=some (.string a.v.s)∧V.cell? ⟨q1,0+9,none⟩=some (.slice A a.v.l.length k)∧V.cell? ⟨q2,0,none⟩=some (.int .i64 b.op)∧V.cell? ⟨q2,0+1,none⟩=some (.int .i64 b.id)∧V.cell? ⟨q2,0+2,none⟩=some (.int .i64 b.frm)∧V.cell? ⟨q2,0+3,none⟩=some (.int .i64 b.to_)∧V.cell? ⟨q2,0+4,none⟩=some (.string b.name)∧V.cell? ⟨q2,0+5,none⟩=some (.int .i64 b.v.kind)∧V.cell? ⟨q2,0+6,none⟩=some (.int .i64 b.v.n)∧V.cell? ⟨q2,0+7,none⟩=some (.int .i64 b.v.d)∧V.cell? ⟨q2,0+8,none⟩=some (.string b.v.s)∧V.cell? ⟨q2,0+9,none⟩=some (.slice B b.v.l.length m)∧Ext w3 V)) (by kernel_rfl) ?hs1 (fun hHeld=>?go1)
 case hs1=>(exact MKR1.out _ Qg)
 refine KA 0 hHeld ?_;simp only [PU]
 refine KA 2 hHeld ?_;simp only [PU]
 refine wpAnyH_ready (rs:=[1]) (by kernel_rfl) (by simp) ?_
 refine AllReadyH.cons (o:=⟨_,_,_,_,_,_⟩) rfl (fun K hK=>?step4x0) ?more4x0
 case more4x0=>exact AllReadyH.nil
 go_simp
 ((go_at_call 24;((with_reducible refine (HTA.out _ (hE3.trans Qg)).mono ?_);rintro e w4 ⟨rfl,hx4⟩;have hE4:Ext w3 w4:=Ext.trans Qg hx4)))
 refine hK.out _ _ ?hS4x0 (fun H4=>?_)
 case hS4x0=>first|(exact MKR1.out _ Qg)|((try dsimp only);(exact MKR1.out _ Qg))
 clear hK K
 clear hHeld
 (try simp only [PU])
 refine wpAnyH_ready (rs:=[3]) (by kernel_rfl) (by simp) ?_
 refine AllReadyH.cons (o:=⟨_,_,_,_,_,_⟩) rfl (fun K hK=>?step5x0) ?more5x0
 case more5x0=>exact AllReadyH.nil
 go_simp
 ((go_at_call 25;((with_reducible refine (HRA.out _ (hE3.trans Qg)).mono ?_);rintro e w5 ⟨rfl,hx5⟩;have hE5:Ext w3 w5:=Ext.trans Qg hx5)))
 refine hK.out _ _ ?hS5x0 (fun H5=>?_)
 case hS5x0=>first|(exact MKR1.out _ Qg)|((try dsimp only);(exact MKR1.out _ Qg))
 clear hK K
 clear H4
 (try simp only [PU])
 refine KA 4 H5 ?_;simp only [PU]
 refine KA 5 H5 ?_;simp only [PU]
 refine KA 6 H5 ?_;simp only [PU]
 refine KA 7 H5 ?_;simp only [PU]
 refine KA 9 H5 ?_;simp only [PU]
 refine KA 10 H5 ?_;simp only [PU]
 refine wpAnyH_ready (rs:=[8]) (by kernel_rfl) (by simp) ?_
 refine AllReadyH.cons (o:=⟨_,_,_,_,_,_⟩) rfl (fun K hK=>?step12x0) ?more12x0
 case more12x0=>exact AllReadyH.nil
 go_simp
 ((go_at_call 26;((with_reducible refine (HSB.out _ (hE3.trans Qg)).mono ?_);rintro e w6 ⟨rfl,hx6⟩;have hE6:Ext w3 w6:=Ext.trans Qg hx6)))
 refine hK.out _ _ ?hS12x0 (fun H12=>?_)
 case hS12x0=>first|(exact MKR1.out _ Qg)|((try dsimp only);(exact MKR1.out _ Qg))
 clear hK K
 clear H5
 (try simp only [PU])
 refine wpAnyH_ready (rs:=[11]) (by kernel_rfl) (by simp) ?_
 refine AllReadyH.cons (o:=⟨_,_,_,_,_,_⟩) rfl (fun K hK=>?step13x0) ?more13x0
 case more13x0=>exact AllReadyH.nil
 go_simp
 ((go_at_call 27;((with_reducible refine (HSR.out _ (hE3.trans Qg)).mono ?_);rintro e w7 ⟨rfl,hx7⟩;have hE7:Ext w3 w7:=Ext.trans Qg hx7)))
 refine hK.out _ _ ?hS13x0 (fun H13=>?_)
 case hS13x0=>first|(exact MKR1.out _ Qg)|((try dsimp only);(exact MKR1.out _ Qg))
 clear hK K
 clear H12
 (try simp only [PU])
 refine KA 12 H13 ?_;simp only [PU]
 refine KA 13 H13 ?_;simp only [PU]
 refine KA 14 H13 ?_;simp only [PU]
 refine KA 15 H13 ?_;simp only [PU]
 refine KA 16 H13 ?_;simp only [PU]
 refine wpAnyH_ready (rs:=[17]) (by kernel_rfl) (by simp) ?_
 refine AllReadyH.cons (o:=⟨_,_,_,_,_,_⟩) rfl (fun K hK=>?step19x0) ?more19x0
 case more19x0=>exact AllReadyH.nil
 go_simp
 ((go_at_call 26;((with_reducible refine (HSA.out _ (hE3.trans Qg)).mono ?_);rintro e w8 ⟨rfl,hx8⟩;have hE8:Ext w3 w8:=Ext.trans Qg hx8)))
 refine hK.out _ _ ?hS19x0 (fun H19=>?_)
 case hS19x0=>first|(exact MKR1.out _ Qg)|((try dsimp only);(exact MKR1.out _ Qg))
 clear hK K
 clear H13
 (try simp only [PU])
 refine KA 18 H19 ?_;simp only [PU]
 refine KA 19 H19 ?_;simp only [PU]
 refine wpAnyH_done (by kernel_rfl) ?_ _
 clear H19
 clear MKR1
 go_upto_region 5 with (fail)
 by_cases h1:TA.toList=[]
 ·have g1:(TA.toList == [])=true:=by rw [h1];rfl
  have g2:TA.toList.isEmpty=true:=by rw [h1];rfl
  have MKR2:=Lib.hid (fun V (e:Ext w3 V)=>(⟨e.cell a0,e.cell a1,e.cell a2,e.cell a3,e.cell a4,e.cell a5,e.cell a6,e.cell a7,e.cell a8,e.cell a9,e⟩:V.cell? ⟨q1,0,none⟩=some (.int .i64 a.op)∧V.cell? ⟨q1,0+1,none⟩=some (.int .i64 a.id)∧V.cell? ⟨q1,0+2,none⟩=some (.int .i64 a.frm)∧V.cell? ⟨q1,0+3,none⟩=some (.int .i64 a.to_)∧V.cell? ⟨q1,0+4,none⟩=some (.string a.name)∧V.cell? ⟨q1,0+5,none⟩=some (.int .i64 a.v.kind)∧V.cell? ⟨q1,0+6,none⟩=some (.int .i64 a.v.n)∧V.cell? ⟨q1,0+7,none⟩=some (.int .i64 a.v.d)∧V.cell? ⟨q1,0+8,none⟩=some (.string a.v.s)∧V.cell? ⟨q1,0+9,none⟩=some (.slice A a.v.l.length k)∧Ext w3 V))
  refine wp_region_held_drew (S:=(fun V=>V.cell? ⟨q1,0,none⟩=some (.int .i64 a.op)∧V.cell? ⟨q1,0+1,none⟩=some (.int .i64 a.id)∧V.cell? ⟨q1,0+2,none⟩=some (.int .i64 a.frm)∧V.cell? ⟨q1,0+3,none⟩=some (.int .i64 a.to_)∧V.cell? ⟨q1,0+4,none⟩=some (.string a.name)∧V.cell? ⟨q1,0+5,none⟩=some (.int .i64 a.v.kind)∧V.cell? ⟨q1,0+6,none⟩=some (.int .i64 a.v.n)∧V.cell? ⟨q1,0+7,none⟩=some (.int .i64 a.v.d)∧V.cell? ⟨q1,0+8,none⟩=some (.string a.v.s)∧V.cell? ⟨q1,0+9,none⟩=some (.slice A a.v.l.length k)∧Ext w3 V)) (by kernel_rfl) ?hs22 (fun hHeld=>?go22)
  case hs22=>(exact MKR2.out _ Qg)
  refine KA 0 hHeld ?_;simp only [PU]
  refine wpAnyH_ready (rs:=[1]) (by kernel_rfl) (by simp) ?_
  refine AllReadyH.cons (o:=⟨_,_,_,_,_,_⟩) rfl (fun K hK=>?step24x0) ?more24x0
  case more24x0=>exact AllReadyH.nil
  go_simp
  ((go_at_call 24;((with_reducible refine (HTA.out _ (hE3.trans Qg)).mono ?_);rintro e w9 ⟨rfl,hx9⟩;have hE9:Ext w3 w9:=Ext.trans Qg hx9)))
  refine hK.out _ _ ?hS24x0 (fun H24=>?_)
  case hS24x0=>first|(exact MKR2.out _ Qg)|((try dsimp only);(exact MKR2.out _ Qg))
  clear hK K
  clear hHeld
  (try simp only [PU])
  refine KA 2 H24 ?_;simp only [PU]
  refine KA 3 H24 ?_;simp only [PU]
  refine TN 4 H24 ?_
  (try simp only [PU])
  refine TN 5 H24 ?_
  (try simp only [PU])
  refine TN 6 H24 ?_
  (try simp only [PU])
  refine TN 7 H24 ?_
  (try simp only [PU])
  refine TN 8 H24 ?_
  (try simp only [PU])
  refine KA 9 H24 ?_;simp only [PU]
  refine KA 10 H24 ?_;simp only [PU]
  refine TN 11 H24 ?_
  (try simp only [PU])
  refine TN 12 H24 ?_
  (try simp only [PU])
  refine TN 13 H24 ?_
  (try simp only [PU])
  refine KA 14 H24 ?_;simp only [PU]
  refine KA 15 H24 ?_;simp only [PU]
  refine wpAnyH_ready (rs:=[16]) (by kernel_rfl) (by simp) ?_
  refine AllReadyH.cons (o:=⟨_,_,_,_,_,_⟩) rfl (fun K hK=>?step39x0) ?more39x0
  case more39x0=>exact AllReadyH.nil
  go_simp
  ((go_at_call 10;((with_reducible refine (HAL.out _ (hE3.trans Qg)).mono ?_);rintro e w10 ⟨rfl,hx10⟩;have hE10:Ext w3 w10:=Ext.trans Qg hx10)))
  refine hK.out _ _ ?hS39x0 (fun H39=>?_)
  case hS39x0=>first|(exact MKR2.out _ Qg)|((try dsimp only);(exact MKR2.out _ Qg))
  clear hK K
  clear H24
  (try simp only [PU])
  refine KA 17 H39 ?_;simp only [PU]
  refine KA 18 H39 ?_;simp only [PU]
  refine wpAnyH_done (by kernel_rfl) ?_ _
  clear H39
  clear MKR2
  go_wp2_with fail
  go_ret
  exact ⟨rfl,HX.out.trans (hE3.trans (hE10.trans Qg))⟩
 have g1:(TA.toList == [])=false:=beq_eq_false_iff_ne.2 h1
 have g2:TA.toList.isEmpty=false:=by cases h:TA.toList with|nil=>exact absurd h h1|cons _ _=>rfl
 by_cases h2:TA=TB
 ·have h3:=HEQ.out h1 h2
  have g3:(TA.toList == TB.toList)=true:=str_eq h2
  subst h3
  clear h1 h2
  have MKR3:=Lib.hid (fun V (e:Ext w3 V)=>(⟨e.cell a0,e.cell a1,e.cell a2,e.cell a3,e.cell a4,e.cell a5,e.cell a6,e.cell a7,e.cell a8,e.cell a9,e.cell b0,e.cell b1,e.cell b2,e.cell b3,e.cell b4,e.cell b5,e.cell b6,e.cell b7,e.cell b8,e.cell b9,e⟩:V.cell? ⟨q1,0,none⟩=some (.int .i64 a.op)∧V.cell? ⟨q1,0+1,none⟩=some (.int .i64 a.id)∧V.cell? ⟨q1,0+2,none⟩=some (.int .i64 a.frm)∧V.cell? ⟨q1,0+3,none⟩=some (.int .i64 a.to_)∧V.cell? ⟨q1,0+4,none⟩=some (.string a.name)∧V.cell? ⟨q1,0+5,none⟩=some (.int .i64 a.v.kind)∧V.cell? ⟨q1,0+6,none⟩=some (.int .i64 a.v.n)∧V.cell? ⟨q1,0+7,none⟩=some (.int .i64 a.v.d)∧V.cell? ⟨q1,0+8,none⟩=some (.string a.v.s)∧V.cell? ⟨q1,0+9,none⟩=some (.slice A a.v.l.length k)∧V.cell? ⟨q2,0,none⟩=some (.int .i64 b.op)∧V.cell? ⟨q2,0+1,none⟩=some (.int .i64 b.id)∧V.cell? ⟨q2,0+2,none⟩=some (.int .i64 b.frm)∧V.cell? ⟨q2,0+3,none⟩=some (.int .i64 b.to_)∧V.cell? ⟨q2,0+4,none⟩=some (.string b.name)∧V.cell? ⟨q2,0+5,none⟩=some (.int .i64 b.v.kind)∧V.cell? ⟨q2,0+6,none⟩=some (.int .i64 b.v.n)∧V.cell? ⟨q2,0+7,none⟩=some (.int .i64 b.v.d)∧V.cell? ⟨q2,0+8,none⟩=some (.string b.v.s)∧V.cell? ⟨q2,0+9,none⟩=some (.slice B b.v.l.length m)∧Ext w3 V))
  refine wp_region_held_drew (S:=(fun V=>V.cell? ⟨q1,0,none⟩=some (.int .i64 a.op)∧V.cell? ⟨q1,0+1,none⟩=some (.int .i64 a.id)∧V.cell? ⟨q1,0+2,none⟩=some (.int .i64 a.frm)∧V.cell? ⟨q1,0+3,none⟩=some (.int .i64 a.to_)∧V.cell? ⟨q1,0+4,none⟩=some (.string a.name)∧V.cell? ⟨q1,0+5,none⟩=some (.int .i64 a.v.kind)∧V.cell? ⟨q1,0+6,none⟩=some (.int .i64 a.v.n)∧V.cell? ⟨q1,0+7,none⟩=some (.int .i64 a.v.d)∧V.cell? ⟨q1,0+8,none⟩=some (.string a.v.s)∧V.cell? ⟨q1,0+9,none⟩=some (.slice A a.v.l.length k)∧V.cell? ⟨q2,0,none⟩=some (.int .i64 b.op)∧V.cell? ⟨q2,0+1,none⟩=some (.int .i64 b.id)∧V.cell? ⟨q2,0+2,none⟩=some (.int .i64 b.frm)∧V.cell? ⟨q2,0+3,none⟩=some (.int .i64 b.to_)∧V.cell? ⟨q2,0+4,none⟩=some (.string b.name)∧V.cell? ⟨q2,0+5,none⟩=some (.int .i64 b.v.kind)∧V.cell? ⟨q2,0+6,none⟩=some (.int .i64 b.v.n)∧V.cell? ⟨q2,0+7,none⟩=some (.int .i64 b.v.d)∧V.cell? ⟨q2,0+8,none⟩=some (.string b.v.s)∧V.cell? ⟨q2,0+9,none⟩=some (.slice B b.v.l.length m)∧Ext w3 V)) (by kernel_rfl) ?hs42 (fun hHeld=>?go42)
  case hs42=>(exact MKR3.out _ Qg)
  refine KA 0 hHeld ?_;simp only [PU]
  refine wpAnyH_ready (rs:=[1]) (by kernel_rfl) (by simp) ?_
  refine AllReadyH.cons (o:=⟨_,_,_,_,_,_⟩) rfl (fun K hK=>?step44x0) ?more44x0
  case more44x0=>exact AllReadyH.nil
  go_simp
  ((go_at_call 24;((with_reducible refine (HTA.out _ (hE3.trans Qg)).mono ?_);rintro e w9 ⟨rfl,hx9⟩;have hE9:Ext w3 w9:=Ext.trans Qg hx9)))
  refine hK.out _ _ ?hS44x0 (fun H44=>?_)
  case hS44x0=>first|(exact MKR3.out _ Qg)|((try dsimp only);(exact MKR3.out _ Qg))
  clear hK K
  clear hHeld
  (try simp only [PU])
  refine KA 2 H44 ?_;simp only [PU]
  refine KA 3 H44 ?_;simp only [PU]
  refine KA 4 H44 ?_;simp only [PU]
  refine KA 6 H44 ?_;simp only [PU]
  refine wpAnyH_ready (rs:=[5]) (by kernel_rfl) (by simp) ?_
  refine AllReadyH.cons (o:=⟨_,_,_,_,_,_⟩) rfl (fun K hK=>?step49x0) ?more49x0
  case more49x0=>exact AllReadyH.nil
  go_simp
  ((go_at_call 24;((with_reducible refine (HTA.out _ (hE3.trans Qg)).mono ?_);rintro e w10 ⟨rfl,hx10⟩;have hE10:Ext w3 w10:=Ext.trans Qg hx10)))
  refine hK.out _ _ ?hS49x0 (fun H49=>?_)
  case hS49x0=>first|(exact MKR3.out _ Qg)|((try dsimp only);(exact MKR3.out _ Qg))
  clear hK K
  clear H44
  (try simp only [PU])
  refine wpAnyH_ready (rs:=[7]) (by kernel_rfl) (by simp) ?_
  refine AllReadyH.cons (o:=⟨_,_,_,_,_,_⟩) rfl (fun K hK=>?step50x0) ?more50x0
  case more50x0=>exact AllReadyH.nil
  go_simp
  ((go_at_call 24;((with_reducible refine (HTB.out _ (hE3.trans Qg)).mono ?_);rintro e w11 ⟨rfl,hx11⟩;have hE11:Ext w3 w11:=Ext.trans Qg hx11)))
  refine hK.out _ _ ?hS50x0 (fun H50=>?_)
  case hS50x0=>first|(exact MKR3.out _ Qg)|((try dsimp only);(exact MKR3.out _ Qg))
  clear hK K
  clear H49
  (try simp only [PU])
  refine KA 8 H50 ?_;simp only [PU]
  refine KA 9 H50 ?_;simp only [PU]
  refine KA 10 H50 ?_;simp only [PU]
  refine KA 11 H50 ?_;simp only [PU]
  refine KA 12 H50 ?_;simp only [PU]
  refine wpAnyH_ready (rs:=[13]) (by kernel_rfl) (by simp) ?_
  refine AllReadyH.cons (o:=⟨_,_,_,_,_,_⟩) rfl (fun K hK=>?step56x0) ?more56x0
  case more56x0=>exact AllReadyH.nil
  go_simp
  ((go_at_call 26;((with_reducible refine (HSB.out _ (hE3.trans Qg)).mono ?_);rintro e w12 ⟨rfl,hx12⟩;have hE12:Ext w3 w12:=Ext.trans Qg hx12)))
  refine hK.out _ _ ?hS56x0 (fun H56=>?_)
  case hS56x0=>first|(exact MKR3.out _ Qg)|((try dsimp only);(exact MKR3.out _ Qg))
  clear hK K
  clear H50
  (try simp only [PU])
  refine KA 14 H56 ?_;simp only [PU]
  refine KA 15 H56 ?_;simp only [PU]
  refine wpAnyH_ready (rs:=[16]) (by kernel_rfl) (by simp) ?_
  refine AllReadyH.cons (o:=⟨_,_,_,_,_,_⟩) rfl (fun K hK=>?step59x0) ?more59x0
  case more59x0=>exact AllReadyH.nil
  go_simp
  ((go_at_call 10;((with_reducible refine (HAL.out _ (hE3.trans Qg)).mono ?_);rintro e w13 ⟨rfl,hx13⟩;have hE13:Ext w3 w13:=Ext.trans Qg hx13)))
  refine hK.out _ _ ?hS59x0 (fun H59=>?_)
  case hS59x0=>first|(exact MKR3.out _ Qg)|((try dsimp only);(exact MKR3.out _ Qg))
  clear hK K
  clear H56
  (try simp only [PU])
  refine KA 17 H59 ?_;simp only [PU]
  refine KA 18 H59 ?_;simp only [PU]
  refine wpAnyH_done (by kernel_rfl) ?_ _
  clear H59
  clear MKR3
  go_wp2_with fail
  go_ret
  exact ⟨rfl,HX.out.trans (hE3.trans (hE13.trans Qg))⟩
 ·have g3:(TA.toList == TB.toList)=false:=zv8 h2
  clear h1 h2
  have MKR4:=Lib.hid (fun V (e:Ext w3 V)=>(⟨e.cell a0,e.cell a1,e.cell a2,e.cell a3,e.cell a4,e.cell a5,e.cell a6,e.cell a7,e.cell a8,e.cell a9,e.cell b0,e.cell b1,e.cell b2,e.cell b3,e.cell b4,e.cell b5,e.cell b6,e.cell b7,e.cell b8,e.cell b9,e⟩:V.cell? ⟨q1,0,none⟩=some (.int .i64 a.op)∧V.cell? ⟨q1,0+1,none⟩=some (.int .i64 a.id)∧V.cell? ⟨q1,0+2,none⟩=some (.int .i64 a.frm)∧V.cell? ⟨q1,0+3,none⟩=some (.int .i64 a.to_)∧V.cell? ⟨q1,0+4,none⟩=some (.string a.name)∧V.cell? ⟨q1,0+5,none⟩=some (.int .i64 a.v.kind)∧V.cell? ⟨q1,0+6,none⟩=some (.int .i64 a.v.n)∧V.cell? ⟨q1,0+7,none⟩=some (.int .i64 a.v.d)∧V.cell? ⟨q1,0+8,none⟩=some (.string a.v.s)∧V.cell? ⟨q1,0+9,none⟩=some (.slice A a.v.l.length k)∧V.cell? ⟨q2,0,none⟩=some (.int .i64 b.op)∧V.cell? ⟨q2,0+1,none⟩=some (.int .i64 b.id)∧V.cell? ⟨q2,0+2,none⟩=some (.int .i64 b.frm)∧V.cell? ⟨q2,0+3,none⟩=some (.int .i64 b.to_)∧V.cell? ⟨q2,0+4,none⟩=some (.string b.name)∧V.cell? ⟨q2,0+5,none⟩=some (.int .i64 b.v.kind)∧V.cell? ⟨q2,0+6,none⟩=some (.int .i64 b.v.n)∧V.cell? ⟨q2,0+7,none⟩=some (.int .i64 b.v.d)∧V.cell? ⟨q2,0+8,none⟩=some (.string b.v.s)∧V.cell? ⟨q2,0+9,none⟩=some (.slice B b.v.l.length m)∧Ext w3 V))
  refine wp_region_held_drew (S:=(fun V=>V.cell? ⟨q1,0,none⟩=some (.int .i64 a.op)∧V.cell? ⟨q1,0+1,none⟩=some (.int .i64 a.id)∧V.cell? ⟨q1,0+2,none⟩=some (.int .i64 a.frm)∧V.cell? ⟨q1,0+3,none⟩=some (.int .i64 a.to_)∧V.cell? ⟨q1,0+4,none⟩=some (.string a.name)∧V.cell? ⟨q1,0+5,none⟩=some (.int .i64 a.v.kind)∧V.cell? ⟨q1,0+6,none⟩=some (.int .i64 a.v.n)∧V.cell? ⟨q1,0+7,none⟩=some (.int .i64 a.v.d)∧V.cell? ⟨q1,0+8,none⟩=some (.string a.v.s)∧V.cell? ⟨q1,0+9,none⟩=some (.slice A a.v.l.length k)∧V.cell? ⟨q2,0,none⟩=some (.int .i64 b.op)∧V.cell? ⟨q2,0+1,none⟩=some (.int .i64 b.id)∧V.cell? ⟨q2,0+2,none⟩=some (.int .i64 b.frm)∧V.cell? ⟨q2,0+3,none⟩=some (.int .i64 b.to_)∧V.cell? ⟨q2,0+4,none⟩=some (.string b.name)∧V.cell? ⟨q2,0+5,none⟩=some (.int .i64 b.v.kind)∧V.cell? ⟨q2,0+6,none⟩=some (.int .i64 b.v.n)∧V.cell? ⟨q2,0+7,none⟩=some (.int .i64 b.v.d)∧V.cell? ⟨q2,0+8,none⟩=some (.string b.v.s)∧V.cell? ⟨q2,0+9,none⟩=some (.slice B b.v.l.length m)∧Ext w3 V)) (by kernel_rfl) ?hs62 (fun hHeld=>?go62)
  case hs62=>(exact MKR4.out _ Qg)
  refine KA 0 hHeld ?_;simp only [PU]
  refine wpAnyH_ready (rs:=[1]) (by kernel_rfl) (by simp) ?_
  refine AllReadyH.cons (o:=⟨_,_,_,_,_,_⟩) rfl (fun K hK=>?step64x0) ?more64x0
  case more64x0=>exact AllReadyH.nil
  go_simp
  ((go_at_call 24;((with_reducible refine (HTA.out _ (hE3.trans Qg)).mono ?_);rintro e w9 ⟨rfl,hx9⟩;have hE9:Ext w3 w9:=Ext.trans Qg hx9)))
  refine hK.out _ _ ?hS64x0 (fun H64=>?_)
  case hS64x0=>first|(exact MKR4.out _ Qg)|((try dsimp only);(exact MKR4.out _ Qg))
  clear hK K
  clear hHeld
  (try simp only [PU])
  refine KA 2 H64 ?_;simp only [PU]
  refine KA 3 H64 ?_;simp only [PU]
  refine KA 4 H64 ?_;simp only [PU]
  refine KA 6 H64 ?_;simp only [PU]
  refine wpAnyH_ready (rs:=[5]) (by kernel_rfl) (by simp) ?_
  refine AllReadyH.cons (o:=⟨_,_,_,_,_,_⟩) rfl (fun K hK=>?step69x0) ?more69x0
  case more69x0=>exact AllReadyH.nil
  go_simp
  ((go_at_call 24;((with_reducible refine (HTA.out _ (hE3.trans Qg)).mono ?_);rintro e w10 ⟨rfl,hx10⟩;have hE10:Ext w3 w10:=Ext.trans Qg hx10)))
  refine hK.out _ _ ?hS69x0 (fun H69=>?_)
  case hS69x0=>first|(exact MKR4.out _ Qg)|((try dsimp only);(exact MKR4.out _ Qg))
  clear hK K
  clear H64
  (try simp only [PU])
  refine wpAnyH_ready (rs:=[7]) (by kernel_rfl) (by simp) ?_
  refine AllReadyH.cons (o:=⟨_,_,_,_,_,_⟩) rfl (fun K hK=>?step70x0) ?more70x0
  case more70x0=>exact AllReadyH.nil
  go_simp
  ((go_at_call 24;((with_reducible refine (HTB.out _ (hE3.trans Qg)).mono ?_);rintro e w11 ⟨rfl,hx11⟩;have hE11:Ext w3 w11:=Ext.trans Qg hx11)))
  refine hK.out _ _ ?hS70x0 (fun H70=>?_)
  case hS70x0=>first|(exact MKR4.out _ Qg)|((try dsimp only);(exact MKR4.out _ Qg))
  clear hK K
  clear H69
  (try simp only [PU])
  refine KA 8 H70 ?_;simp only [PU]
  refine KA 9 H70 ?_;simp only [PU]
  refine KA 10 H70 ?_;simp only [PU]
  refine TN 11 H70 ?_
  (try simp only [PU])
  refine TN 12 H70 ?_
  (try simp only [PU])
  refine TN 13 H70 ?_
  (try simp only [PU])
  refine KA 14 H70 ?_;simp only [PU]
  refine KA 15 H70 ?_;simp only [PU]
  refine wpAnyH_ready (rs:=[16]) (by kernel_rfl) (by simp) ?_
  refine AllReadyH.cons (o:=⟨_,_,_,_,_,_⟩) rfl (fun K hK=>?step79x0) ?more79x0
  case more79x0=>exact AllReadyH.nil
  go_simp
  ((go_at_call 10;((with_reducible refine (HAL.out _ (hE3.trans Qg)).mono ?_);rintro e w13 ⟨rfl,hx13⟩;have hE13:Ext w3 w13:=Ext.trans Qg hx13)))
  refine hK.out _ _ ?hS79x0 (fun H79=>?_)
  case hS79x0=>first|(exact MKR4.out _ Qg)|((try dsimp only);(exact MKR4.out _ Qg))
  clear hK K
  clear H70
  (try simp only [PU])
  refine KA 17 H79 ?_;simp only [PU]
  refine KA 18 H79 ?_;simp only [PU]
  refine wpAnyH_done (by kernel_rfl) ?_ _
  clear H79
  clear MKR4
  go_wp2_with fail
  go_ret
  exact ⟨rfl,HX.out.trans (hE3.trans (hE13.trans Qg))⟩
end Go.Proofs.YtfhekbacigoblaaGreatDoor
