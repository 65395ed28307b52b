import Derived.Test.YtfhekbacigoblaaGreatDoorV13
import Derived.Test.YtfhekbacigoblaaGreatDoorV10
import Derived.Test.YtfhekbacigoblaaGreatDoorV08
import Derived.Test.YtfhekbacigoblaaGreatDoorV02
import Derived.Test.YtfhekbacigoblaaGreatDoorV09
import Derived.Test.YtfhekbacigoblaaGreatDoorV00
namespace Go.Proofs.YtfhekbacigoblaaGreatDoor
set_option maxRecDepth 100000
set_option maxHeartbeats 3200000
open Go.RowKit
noncomputable def zie (E N V:Bool) (c:ChG):Int :=
  if idC c.id=true then
    (if (if E then !(idC c.frm) || !(idC c.to_) else !(decide (c.frm=0)) || !(decide (c.to_=0)))=true then 1
     else if ((!N && !(decide (c.name=ByteArray.empty))) || (!V && !(zby c.v)))=true then 1
     else if (N && !(zbk c.name))=true then 6
     else if (V && !(zby c.v) && !(za9 c.v))=true then 8 else 0)
  else 1
theorem zzo (c:ChG) (h:1≤c.op∧c.op≤8):zcn c=zie (decide (c.op=6)) (za3 c.op) (zaq c.op) c:=by
  unfold zcn zie
  cases h1:idC c.id with
  | false=>rw [if_pos (.inr (.inr rfl)),if_neg Bool.false_ne_true]
  | true =>
    rw [if_neg (by rintro (h|h|h) <;> first|omega|cases h),if_pos rfl]
    by_cases h6:c.op=6
    · have e1:decide (c.op=6)=true:=decide_eq_true h6
      have e2:za3 c.op=true:=decide_eq_true Qk
      have e3:zaq c.op=false:=decide_eq_false Qk
      rw [e1,e2,e3]
      cases idC c.frm <;> cases idC c.to_ <;> cases zby c.v <;> cases zbk c.name <;> simp [h6]
    · have e1:decide (c.op=6)=false:=decide_eq_false h6
      rw [e1]
      by_cases f0:c.frm=0 <;> by_cases t0:c.to_=0 <;> by_cases s0:c.name=ByteArray.empty <;> cases za3 c.op <;> cases zaq c.op <;> cases zby c.v <;> cases zbk c.name <;> cases za9 c.v <;> simp [h6,f0,t0,s0]
theorem zt9 {s:ByteArray}:(s=ByteArray.empty) ↔ s.toList=[]:=⟨fun h=>by rw [h,ByteArray.toList_eq];rfl,fun h=>by rw [ByteArray.toList_eq] at h;exact zfi h⟩
theorem zt3:(ByteArray.empty).toList=([]:List UInt8):=by rw [ByteArray.toList_eq];rfl
theorem zn6 (op i f t:Int) (nm:ByteArray) (v:Val) (ok:Nat→Prop) (A:Option Addr) (k:Nat) (w:World) (hz:zq w) (hv:zk w ok A v.l) (hop:1≤op∧op≤8) (hE:decide (op=6)=false) (hN:za3 op=false) (hV:zaq op=false) :
    Calls Tryz.prog 13 #[.agg #[.int .i64 op, .int .i64 i, .int .i64 f, .int .i64 t, .string nm, .int .i64 v.kind, .int .i64 v.n, .int .i64 v.d, .string v.s, .slice A v.l.length k]] w fun e w'=>e= .returned (.int .i64 (zie false false false ⟨op,i,f,t,nm,v⟩))∧Ext w w':=by
  obtain ⟨g,w1,hg,hw1,hc,hx⟩:=zy w ⟨op,i,f,t,nm,v⟩ A k 30
  obtain ⟨a0,a1,a2,a3,a4,a5,a6,a7,a8,a9⟩:=hc
  have HF0:=zf3 op
  have e4:decide (1≤op∧op≤8)=true:=decide_eq_true hop
  rw [hE,hN,hV,e4] at HF0
  have HFD:=Lib.hid HF0
  have HNU:=Lib.hid (fun W (e:Ext w W)=>zeu v ok A k W (hz.ext e) (hv.ext e))
  have HPL:=Lib.hid (fun W (e:Ext w W)=>zih v ok A k W (hv.ext e))
  have HW1:=Lib.hid hw1
  have HG:=Lib.hid hg
  obtain ⟨R,hR⟩:∃ R,R=zie false false false ⟨op,i,f,t,nm,v⟩:=⟨_,rfl⟩
  rw [←hR]
  have HR:=Lib.hid hR
  unfold zie at HR
  clear hR
  dsimp only at HR a0 a1 a2 a3 a4 a5 a6 a7 a8 a9 hw1 HW1
  clear hw1 hg hz hv HF0 e4 hE hN hV hop
  cases hi0:idC i with
  | false =>
    go_enter Tryz.func13,Tryz.ntmps13
    go_upto_region 1 with (fail)
    rw [←HW1.out,←HG.out]
    go_upto_region 2 with ((go_at_call 32;((with_reducible refine (HFD.out _).mono ?_);rintro e w2 ⟨rfl,hx2⟩)))
    obtain ⟨q,w3,hq,hw3,u0,u1,u2,-,-,-,hx3⟩:=zr w2 false false false 61
    rw [←hw3,←hq]
    clear hw3 hq
    have hE3:=hx2.trans hx3
    have d0:=hE3.cell a0
    have d1:=hE3.cell a1
    have d2:=hE3.cell a2
    have d3:=hE3.cell a3
    have d4:=hE3.cell a4
    have d5:=hE3.cell a5
    have d6:=hE3.cell a6
    have d7:=hE3.cell a7
    have d8:=hE3.cell a8
    have d9:=hE3.cell a9
    have hEw:=hx.trans hE3
    clear a0 a1 a2 a3 a4 a5 a6 a7 a8 a9 hx2 hx3 hE3 hx
    go_wp2_with (first|(go_at_call 33;((with_reducible refine (zcp _ _).mono ?_);rintro e w' ⟨rfl,rfl⟩))|(go_at_call 35;((with_reducible refine (zbm _ _).mono ?_);rintro e w' ⟨rfl,rfl⟩))|(go_at_call 34;((with_reducible refine (HNU.out _ Qg).mono ?_);rintro e w4 ⟨rfl,hx4⟩;have hE4:Ext w w4:=Ext.trans Qg hx4;have m4:=hx4.cell d4;have m5:=hx4.cell d5;have m6:=hx4.cell d6;have m7:=hx4.cell d7;have m8:=hx4.cell d8;have m9:=hx4.cell d9;have y0:=hx4.cell u0;have y1:=hx4.cell u1;have y2:=hx4.cell u2))|(go_at_call 36;((with_reducible refine (HPL.out _ Qg).mono ?_);rintro e w5 ⟨rfl,hx5⟩;have hE5:Ext w w5:=Ext.trans Qg hx5)))
    go_ret
    exact ⟨by rw [show R=1 by rw [HR.out];simp [hi0]];rfl,Qg⟩
  | true =>
    by_cases hf0:f=0
    · subst hf0
      by_cases ht0:t=0
      · subst ht0
        by_cases hs0:nm=ByteArray.empty
        · subst hs0
          have hs1:=zt3
          have hs2:(ByteArray.empty).toList.isEmpty=true:=by rw [hs1];rfl
          cases hnl:zby v with
          | false =>
            go_enter Tryz.func13,Tryz.ntmps13
            go_upto_region 1 with (fail)
            rw [←HW1.out,←HG.out]
            go_upto_region 2 with ((go_at_call 32;((with_reducible refine (HFD.out _).mono ?_);rintro e w2 ⟨rfl,hx2⟩)))
            obtain ⟨q,w3,hq,hw3,u0,u1,u2,-,-,-,hx3⟩:=zr w2 false false false 61
            rw [←hw3,←hq]
            clear hw3 hq
            have hE3:=hx2.trans hx3
            have d0:=hE3.cell a0
            have d1:=hE3.cell a1
            have d2:=hE3.cell a2
            have d3:=hE3.cell a3
            have d4:=hE3.cell a4
            have d5:=hE3.cell a5
            have d6:=hE3.cell a6
            have d7:=hE3.cell a7
            have d8:=hE3.cell a8
            have d9:=hE3.cell a9
            have hEw:=hx.trans hE3
            clear a0 a1 a2 a3 a4 a5 a6 a7 a8 a9 hx2 hx3 hE3 hx
            go_wp2_with (first|(go_at_call 33;((with_reducible refine (zcp _ _).mono ?_);rintro e w' ⟨rfl,rfl⟩))|(go_at_call 35;((with_reducible refine (zbm _ _).mono ?_);rintro e w' ⟨rfl,rfl⟩))|(go_at_call 34;((with_reducible refine (HNU.out _ Qg).mono ?_);rintro e w4 ⟨rfl,hx4⟩;have hE4:Ext w w4:=Ext.trans Qg hx4;have m4:=hx4.cell d4;have m5:=hx4.cell d5;have m6:=hx4.cell d6;have m7:=hx4.cell d7;have m8:=hx4.cell d8;have m9:=hx4.cell d9;have y0:=hx4.cell u0;have y1:=hx4.cell u1;have y2:=hx4.cell u2))|(go_at_call 36;((with_reducible refine (HPL.out _ Qg).mono ?_);rintro e w5 ⟨rfl,hx5⟩;have hE5:Ext w w5:=Ext.trans Qg hx5)))
            go_ret
            exact ⟨by rw [show R=1 by rw [HR.out];simp [hi0,hnl]];rfl,Qg⟩
          | true =>
            go_enter Tryz.func13,Tryz.ntmps13
            go_upto_region 1 with (fail)
            rw [←HW1.out,←HG.out]
            go_upto_region 2 with ((go_at_call 32;((with_reducible refine (HFD.out _).mono ?_);rintro e w2 ⟨rfl,hx2⟩)))
            obtain ⟨q,w3,hq,hw3,u0,u1,u2,-,-,-,hx3⟩:=zr w2 false false false 61
            rw [←hw3,←hq]
            clear hw3 hq
            have hE3:=hx2.trans hx3
            have d0:=hE3.cell a0
            have d1:=hE3.cell a1
            have d2:=hE3.cell a2
            have d3:=hE3.cell a3
            have d4:=hE3.cell a4
            have d5:=hE3.cell a5
            have d6:=hE3.cell a6
            have d7:=hE3.cell a7
            have d8:=hE3.cell a8
            have d9:=hE3.cell a9
            have hEw:=hx.trans hE3
            clear a0 a1 a2 a3 a4 a5 a6 a7 a8 a9 hx2 hx3 hE3 hx
            go_wp2_with (first|(go_at_call 33;((with_reducible refine (zcp _ _).mono ?_);rintro e w' ⟨rfl,rfl⟩))|(go_at_call 35;((with_reducible refine (zbm _ _).mono ?_);rintro e w' ⟨rfl,rfl⟩))|(go_at_call 34;((with_reducible refine (HNU.out _ Qg).mono ?_);rintro e w4 ⟨rfl,hx4⟩;have hE4:Ext w w4:=Ext.trans Qg hx4;have m4:=hx4.cell d4;have m5:=hx4.cell d5;have m6:=hx4.cell d6;have m7:=hx4.cell d7;have m8:=hx4.cell d8;have m9:=hx4.cell d9;have y0:=hx4.cell u0;have y1:=hx4.cell u1;have y2:=hx4.cell u2))|(go_at_call 36;((with_reducible refine (HPL.out _ Qg).mono ?_);rintro e w5 ⟨rfl,hx5⟩;have hE5:Ext w w5:=Ext.trans Qg hx5)))
            go_ret
            exact ⟨by rw [show R=0 by rw [HR.out];simp [hi0,hnl]];rfl,Qg⟩
        · have hs1:¬nm.toList=[]:=fun h=>hs0 (zt9.2 h)
          have hs2:nm.toList.isEmpty=false:=by cases hl:nm.toList with|nil=>exact absurd hl hs1|cons a l=>rfl
          go_enter Tryz.func13,Tryz.ntmps13
          go_upto_region 1 with (fail)
          rw [←HW1.out,←HG.out]
          go_upto_region 2 with ((go_at_call 32;((with_reducible refine (HFD.out _).mono ?_);rintro e w2 ⟨rfl,hx2⟩)))
          obtain ⟨q,w3,hq,hw3,u0,u1,u2,-,-,-,hx3⟩:=zr w2 false false false 61
          rw [←hw3,←hq]
          clear hw3 hq
          have hE3:=hx2.trans hx3
          have d0:=hE3.cell a0
          have d1:=hE3.cell a1
          have d2:=hE3.cell a2
          have d3:=hE3.cell a3
          have d4:=hE3.cell a4
          have d5:=hE3.cell a5
          have d6:=hE3.cell a6
          have d7:=hE3.cell a7
          have d8:=hE3.cell a8
          have d9:=hE3.cell a9
          have hEw:=hx.trans hE3
          clear a0 a1 a2 a3 a4 a5 a6 a7 a8 a9 hx2 hx3 hE3 hx
          go_wp2_with (first|(go_at_call 33;((with_reducible refine (zcp _ _).mono ?_);rintro e w' ⟨rfl,rfl⟩))|(go_at_call 35;((with_reducible refine (zbm _ _).mono ?_);rintro e w' ⟨rfl,rfl⟩))|(go_at_call 34;((with_reducible refine (HNU.out _ Qg).mono ?_);rintro e w4 ⟨rfl,hx4⟩;have hE4:Ext w w4:=Ext.trans Qg hx4;have m4:=hx4.cell d4;have m5:=hx4.cell d5;have m6:=hx4.cell d6;have m7:=hx4.cell d7;have m8:=hx4.cell d8;have m9:=hx4.cell d9;have y0:=hx4.cell u0;have y1:=hx4.cell u1;have y2:=hx4.cell u2))|(go_at_call 36;((with_reducible refine (HPL.out _ Qg).mono ?_);rintro e w5 ⟨rfl,hx5⟩;have hE5:Ext w w5:=Ext.trans Qg hx5)))
          go_ret
          exact ⟨by rw [show R=1 by rw [HR.out];simp [hi0,hs0]];rfl,Qg⟩
      · have ht01:(t != 0)=true:=bne_iff_ne.2 ht0
        have ht02:(t == 0)=false:=beq_eq_false_iff_ne.2 ht0
        go_enter Tryz.func13,Tryz.ntmps13
        go_upto_region 1 with (fail)
        rw [←HW1.out,←HG.out]
        go_upto_region 2 with ((go_at_call 32;((with_reducible refine (HFD.out _).mono ?_);rintro e w2 ⟨rfl,hx2⟩)))
        obtain ⟨q,w3,hq,hw3,u0,u1,u2,-,-,-,hx3⟩:=zr w2 false false false 61
        rw [←hw3,←hq]
        clear hw3 hq
        have hE3:=hx2.trans hx3
        have d0:=hE3.cell a0
        have d1:=hE3.cell a1
        have d2:=hE3.cell a2
        have d3:=hE3.cell a3
        have d4:=hE3.cell a4
        have d5:=hE3.cell a5
        have d6:=hE3.cell a6
        have d7:=hE3.cell a7
        have d8:=hE3.cell a8
        have d9:=hE3.cell a9
        have hEw:=hx.trans hE3
        clear a0 a1 a2 a3 a4 a5 a6 a7 a8 a9 hx2 hx3 hE3 hx
        go_wp2_with (first|(go_at_call 33;((with_reducible refine (zcp _ _).mono ?_);rintro e w' ⟨rfl,rfl⟩))|(go_at_call 35;((with_reducible refine (zbm _ _).mono ?_);rintro e w' ⟨rfl,rfl⟩))|(go_at_call 34;((with_reducible refine (HNU.out _ Qg).mono ?_);rintro e w4 ⟨rfl,hx4⟩;have hE4:Ext w w4:=Ext.trans Qg hx4;have m4:=hx4.cell d4;have m5:=hx4.cell d5;have m6:=hx4.cell d6;have m7:=hx4.cell d7;have m8:=hx4.cell d8;have m9:=hx4.cell d9;have y0:=hx4.cell u0;have y1:=hx4.cell u1;have y2:=hx4.cell u2))|(go_at_call 36;((with_reducible refine (HPL.out _ Qg).mono ?_);rintro e w5 ⟨rfl,hx5⟩;have hE5:Ext w w5:=Ext.trans Qg hx5)))
        go_ret
        exact ⟨by rw [show R=1 by rw [HR.out];simp [hi0,ht0]];rfl,Qg⟩
    · have hf01:(f != 0)=true:=bne_iff_ne.2 hf0
      have hf02:(f == 0)=false:=beq_eq_false_iff_ne.2 hf0
      go_enter Tryz.func13,Tryz.ntmps13
      go_upto_region 1 with (fail)
      rw [←HW1.out,←HG.out]
      go_upto_region 2 with ((go_at_call 32;((with_reducible refine (HFD.out _).mono ?_);rintro e w2 ⟨rfl,hx2⟩)))
      obtain ⟨q,w3,hq,hw3,u0,u1,u2,-,-,-,hx3⟩:=zr w2 false false false 61
      rw [←hw3,←hq]
      clear hw3 hq
      have hE3:=hx2.trans hx3
      have d0:=hE3.cell a0
      have d1:=hE3.cell a1
      have d2:=hE3.cell a2
      have d3:=hE3.cell a3
      have d4:=hE3.cell a4
      have d5:=hE3.cell a5
      have d6:=hE3.cell a6
      have d7:=hE3.cell a7
      have d8:=hE3.cell a8
      have d9:=hE3.cell a9
      have hEw:=hx.trans hE3
      clear a0 a1 a2 a3 a4 a5 a6 a7 a8 a9 hx2 hx3 hE3 hx
      go_wp2_with (first|(go_at_call 33;((with_reducible refine (zcp _ _).mono ?_);rintro e w' ⟨rfl,rfl⟩))|(go_at_call 35;((with_reducible refine (zbm _ _).mono ?_);rintro e w' ⟨rfl,rfl⟩))|(go_at_call 34;((with_reducible refine (HNU.out _ Qg).mono ?_);rintro e w4 ⟨rfl,hx4⟩;have hE4:Ext w w4:=Ext.trans Qg hx4;have m4:=hx4.cell d4;have m5:=hx4.cell d5;have m6:=hx4.cell d6;have m7:=hx4.cell d7;have m8:=hx4.cell d8;have m9:=hx4.cell d9;have y0:=hx4.cell u0;have y1:=hx4.cell u1;have y2:=hx4.cell u2))|(go_at_call 36;((with_reducible refine (HPL.out _ Qg).mono ?_);rintro e w5 ⟨rfl,hx5⟩;have hE5:Ext w w5:=Ext.trans Qg hx5)))
      go_ret
      exact ⟨by rw [show R=1 by rw [HR.out];simp [hi0,hf0]];rfl,Qg⟩
theorem zor (op i f t:Int) (nm:ByteArray) (v:Val) (ok:Nat→Prop) (A:Option Addr) (k:Nat) (w:World) (hz:zq w) (hv:zk w ok A v.l) (hop:1≤op∧op≤8) (hE:decide (op=6)=false) (hN:za3 op=true) (hV:zaq op=false) :
    Calls Tryz.prog 13 #[.agg #[.int .i64 op, .int .i64 i, .int .i64 f, .int .i64 t, .string nm, .int .i64 v.kind, .int .i64 v.n, .int .i64 v.d, .string v.s, .slice A v.l.length k]] w fun e w'=>e= .returned (.int .i64 (zie false true false ⟨op,i,f,t,nm,v⟩))∧Ext w w':=by
  obtain ⟨g,w1,hg,hw1,hc,hx⟩:=zy w ⟨op,i,f,t,nm,v⟩ A k 30
  obtain ⟨a0,a1,a2,a3,a4,a5,a6,a7,a8,a9⟩:=hc
  have HF0:=zf3 op
  have e4:decide (1≤op∧op≤8)=true:=decide_eq_true hop
  rw [hE,hN,hV,e4] at HF0
  have HFD:=Lib.hid HF0
  have HNU:=Lib.hid (fun W (e:Ext w W)=>zeu v ok A k W (hz.ext e) (hv.ext e))
  have HPL:=Lib.hid (fun W (e:Ext w W)=>zih v ok A k W (hv.ext e))
  have HW1:=Lib.hid hw1
  have HG:=Lib.hid hg
  obtain ⟨R,hR⟩:∃ R,R=zie false true false ⟨op,i,f,t,nm,v⟩:=⟨_,rfl⟩
  rw [←hR]
  have HR:=Lib.hid hR
  unfold zie at HR
  clear hR
  dsimp only at HR a0 a1 a2 a3 a4 a5 a6 a7 a8 a9 hw1 HW1
  clear hw1 hg hz hv HF0 e4 hE hN hV hop
  cases hi0:idC i with
  | false =>
    go_enter Tryz.func13,Tryz.ntmps13
    go_upto_region 1 with (fail)
    rw [←HW1.out,←HG.out]
    go_upto_region 2 with ((go_at_call 32;((with_reducible refine (HFD.out _).mono ?_);rintro e w2 ⟨rfl,hx2⟩)))
    obtain ⟨q,w3,hq,hw3,u0,u1,u2,-,-,-,hx3⟩:=zr w2 false true false 61
    rw [←hw3,←hq]
    clear hw3 hq
    have hE3:=hx2.trans hx3
    have d0:=hE3.cell a0
    have d1:=hE3.cell a1
    have d2:=hE3.cell a2
    have d3:=hE3.cell a3
    have d4:=hE3.cell a4
    have d5:=hE3.cell a5
    have d6:=hE3.cell a6
    have d7:=hE3.cell a7
    have d8:=hE3.cell a8
    have d9:=hE3.cell a9
    have hEw:=hx.trans hE3
    clear a0 a1 a2 a3 a4 a5 a6 a7 a8 a9 hx2 hx3 hE3 hx
    go_wp2_with (first|(go_at_call 33;((with_reducible refine (zcp _ _).mono ?_);rintro e w' ⟨rfl,rfl⟩))|(go_at_call 35;((with_reducible refine (zbm _ _).mono ?_);rintro e w' ⟨rfl,rfl⟩))|(go_at_call 34;((with_reducible refine (HNU.out _ Qg).mono ?_);rintro e w4 ⟨rfl,hx4⟩;have hE4:Ext w w4:=Ext.trans Qg hx4;have m4:=hx4.cell d4;have m5:=hx4.cell d5;have m6:=hx4.cell d6;have m7:=hx4.cell d7;have m8:=hx4.cell d8;have m9:=hx4.cell d9;have y0:=hx4.cell u0;have y1:=hx4.cell u1;have y2:=hx4.cell u2))|(go_at_call 36;((with_reducible refine (HPL.out _ Qg).mono ?_);rintro e w5 ⟨rfl,hx5⟩;have hE5:Ext w w5:=Ext.trans Qg hx5)))
    go_ret
    exact ⟨by rw [show R=1 by rw [HR.out];simp [hi0]];rfl,Qg⟩
  | true =>
    by_cases hf0:f=0
    · subst hf0
      by_cases ht0:t=0
      · subst ht0
        cases hnl:zby v with
        | false =>
          go_enter Tryz.func13,Tryz.ntmps13
          go_upto_region 1 with (fail)
          rw [←HW1.out,←HG.out]
          go_upto_region 2 with ((go_at_call 32;((with_reducible refine (HFD.out _).mono ?_);rintro e w2 ⟨rfl,hx2⟩)))
          obtain ⟨q,w3,hq,hw3,u0,u1,u2,-,-,-,hx3⟩:=zr w2 false true false 61
          rw [←hw3,←hq]
          clear hw3 hq
          have hE3:=hx2.trans hx3
          have d0:=hE3.cell a0
          have d1:=hE3.cell a1
          have d2:=hE3.cell a2
          have d3:=hE3.cell a3
          have d4:=hE3.cell a4
          have d5:=hE3.cell a5
          have d6:=hE3.cell a6
          have d7:=hE3.cell a7
          have d8:=hE3.cell a8
          have d9:=hE3.cell a9
          have hEw:=hx.trans hE3
          clear a0 a1 a2 a3 a4 a5 a6 a7 a8 a9 hx2 hx3 hE3 hx
          go_wp2_with (first|(go_at_call 33;((with_reducible refine (zcp _ _).mono ?_);rintro e w' ⟨rfl,rfl⟩))|(go_at_call 35;((with_reducible refine (zbm _ _).mono ?_);rintro e w' ⟨rfl,rfl⟩))|(go_at_call 34;((with_reducible refine (HNU.out _ Qg).mono ?_);rintro e w4 ⟨rfl,hx4⟩;have hE4:Ext w w4:=Ext.trans Qg hx4;have m4:=hx4.cell d4;have m5:=hx4.cell d5;have m6:=hx4.cell d6;have m7:=hx4.cell d7;have m8:=hx4.cell d8;have m9:=hx4.cell d9;have y0:=hx4.cell u0;have y1:=hx4.cell u1;have y2:=hx4.cell u2))|(go_at_call 36;((with_reducible refine (HPL.out _ Qg).mono ?_);rintro e w5 ⟨rfl,hx5⟩;have hE5:Ext w w5:=Ext.trans Qg hx5)))
          go_ret
          exact ⟨by rw [show R=1 by rw [HR.out];simp [hi0,hnl]];rfl,Qg⟩
        | true =>
          cases hnb:zbk nm with
          | false =>
            go_enter Tryz.func13,Tryz.ntmps13
            go_upto_region 1 with (fail)
            rw [←HW1.out,←HG.out]
            go_upto_region 2 with ((go_at_call 32;((with_reducible refine (HFD.out _).mono ?_);rintro e w2 ⟨rfl,hx2⟩)))
            obtain ⟨q,w3,hq,hw3,u0,u1,u2,-,-,-,hx3⟩:=zr w2 false true false 61
            rw [←hw3,←hq]
            clear hw3 hq
            have hE3:=hx2.trans hx3
            have d0:=hE3.cell a0
            have d1:=hE3.cell a1
            have d2:=hE3.cell a2
            have d3:=hE3.cell a3
            have d4:=hE3.cell a4
            have d5:=hE3.cell a5
            have d6:=hE3.cell a6
            have d7:=hE3.cell a7
            have d8:=hE3.cell a8
            have d9:=hE3.cell a9
            have hEw:=hx.trans hE3
            clear a0 a1 a2 a3 a4 a5 a6 a7 a8 a9 hx2 hx3 hE3 hx
            go_wp2_with (first|(go_at_call 33;((with_reducible refine (zcp _ _).mono ?_);rintro e w' ⟨rfl,rfl⟩))|(go_at_call 35;((with_reducible refine (zbm _ _).mono ?_);rintro e w' ⟨rfl,rfl⟩))|(go_at_call 34;((with_reducible refine (HNU.out _ Qg).mono ?_);rintro e w4 ⟨rfl,hx4⟩;have hE4:Ext w w4:=Ext.trans Qg hx4;have m4:=hx4.cell d4;have m5:=hx4.cell d5;have m6:=hx4.cell d6;have m7:=hx4.cell d7;have m8:=hx4.cell d8;have m9:=hx4.cell d9;have y0:=hx4.cell u0;have y1:=hx4.cell u1;have y2:=hx4.cell u2))|(go_at_call 36;((with_reducible refine (HPL.out _ Qg).mono ?_);rintro e w5 ⟨rfl,hx5⟩;have hE5:Ext w w5:=Ext.trans Qg hx5)))
            go_ret
            exact ⟨by rw [show R=6 by rw [HR.out];simp [hi0,hnl,hnb]];rfl,Qg⟩
          | true =>
            go_enter Tryz.func13,Tryz.ntmps13
            go_upto_region 1 with (fail)
            rw [←HW1.out,←HG.out]
            go_upto_region 2 with ((go_at_call 32;((with_reducible refine (HFD.out _).mono ?_);rintro e w2 ⟨rfl,hx2⟩)))
            obtain ⟨q,w3,hq,hw3,u0,u1,u2,-,-,-,hx3⟩:=zr w2 false true false 61
            rw [←hw3,←hq]
            clear hw3 hq
            have hE3:=hx2.trans hx3
            have d0:=hE3.cell a0
            have d1:=hE3.cell a1
            have d2:=hE3.cell a2
            have d3:=hE3.cell a3
            have d4:=hE3.cell a4
            have d5:=hE3.cell a5
            have d6:=hE3.cell a6
            have d7:=hE3.cell a7
            have d8:=hE3.cell a8
            have d9:=hE3.cell a9
            have hEw:=hx.trans hE3
            clear a0 a1 a2 a3 a4 a5 a6 a7 a8 a9 hx2 hx3 hE3 hx
            go_wp2_with (first|(go_at_call 33;((with_reducible refine (zcp _ _).mono ?_);rintro e w' ⟨rfl,rfl⟩))|(go_at_call 35;((with_reducible refine (zbm _ _).mono ?_);rintro e w' ⟨rfl,rfl⟩))|(go_at_call 34;((with_reducible refine (HNU.out _ Qg).mono ?_);rintro e w4 ⟨rfl,hx4⟩;have hE4:Ext w w4:=Ext.trans Qg hx4;have m4:=hx4.cell d4;have m5:=hx4.cell d5;have m6:=hx4.cell d6;have m7:=hx4.cell d7;have m8:=hx4.cell d8;have m9:=hx4.cell d9;have y0:=hx4.cell u0;have y1:=hx4.cell u1;have y2:=hx4.cell u2))|(go_at_call 36;((with_reducible refine (HPL.out _ Qg).mono ?_);rintro e w5 ⟨rfl,hx5⟩;have hE5:Ext w w5:=Ext.trans Qg hx5)))
            go_ret
            exact ⟨by rw [show R=0 by rw [HR.out];simp [hi0,hnl,hnb]];rfl,Qg⟩
      · have ht01:(t != 0)=true:=bne_iff_ne.2 ht0
        have ht02:(t == 0)=false:=beq_eq_false_iff_ne.2 ht0
        go_enter Tryz.func13,Tryz.ntmps13
        go_upto_region 1 with (fail)
        rw [←HW1.out,←HG.out]
        go_upto_region 2 with ((go_at_call 32;((with_reducible refine (HFD.out _).mono ?_);rintro e w2 ⟨rfl,hx2⟩)))
        obtain ⟨q,w3,hq,hw3,u0,u1,u2,-,-,-,hx3⟩:=zr w2 false true false 61
        rw [←hw3,←hq]
        clear hw3 hq
        have hE3:=hx2.trans hx3
        have d0:=hE3.cell a0
        have d1:=hE3.cell a1
        have d2:=hE3.cell a2
        have d3:=hE3.cell a3
        have d4:=hE3.cell a4
        have d5:=hE3.cell a5
        have d6:=hE3.cell a6
        have d7:=hE3.cell a7
        have d8:=hE3.cell a8
        have d9:=hE3.cell a9
        have hEw:=hx.trans hE3
        clear a0 a1 a2 a3 a4 a5 a6 a7 a8 a9 hx2 hx3 hE3 hx
        go_wp2_with (first|(go_at_call 33;((with_reducible refine (zcp _ _).mono ?_);rintro e w' ⟨rfl,rfl⟩))|(go_at_call 35;((with_reducible refine (zbm _ _).mono ?_);rintro e w' ⟨rfl,rfl⟩))|(go_at_call 34;((with_reducible refine (HNU.out _ Qg).mono ?_);rintro e w4 ⟨rfl,hx4⟩;have hE4:Ext w w4:=Ext.trans Qg hx4;have m4:=hx4.cell d4;have m5:=hx4.cell d5;have m6:=hx4.cell d6;have m7:=hx4.cell d7;have m8:=hx4.cell d8;have m9:=hx4.cell d9;have y0:=hx4.cell u0;have y1:=hx4.cell u1;have y2:=hx4.cell u2))|(go_at_call 36;((with_reducible refine (HPL.out _ Qg).mono ?_);rintro e w5 ⟨rfl,hx5⟩;have hE5:Ext w w5:=Ext.trans Qg hx5)))
        go_ret
        exact ⟨by rw [show R=1 by rw [HR.out];simp [hi0,ht0]];rfl,Qg⟩
    · have hf01:(f != 0)=true:=bne_iff_ne.2 hf0
      have hf02:(f == 0)=false:=beq_eq_false_iff_ne.2 hf0
      go_enter Tryz.func13,Tryz.ntmps13
      go_upto_region 1 with (fail)
      rw [←HW1.out,←HG.out]
      go_upto_region 2 with ((go_at_call 32;((with_reducible refine (HFD.out _).mono ?_);rintro e w2 ⟨rfl,hx2⟩)))
      obtain ⟨q,w3,hq,hw3,u0,u1,u2,-,-,-,hx3⟩:=zr w2 false true false 61
      rw [←hw3,←hq]
      clear hw3 hq
      have hE3:=hx2.trans hx3
      have d0:=hE3.cell a0
      have d1:=hE3.cell a1
      have d2:=hE3.cell a2
      have d3:=hE3.cell a3
      have d4:=hE3.cell a4
      have d5:=hE3.cell a5
      have d6:=hE3.cell a6
      have d7:=hE3.cell a7
      have d8:=hE3.cell a8
      have d9:=hE3.cell a9
      have hEw:=hx.trans hE3
      clear a0 a1 a2 a3 a4 a5 a6 a7 a8 a9 hx2 hx3 hE3 hx
      go_wp2_with (first|(go_at_call 33;((with_reducible refine (zcp _ _).mono ?_);rintro e w' ⟨rfl,rfl⟩))|(go_at_call 35;((with_reducible refine (zbm _ _).mono ?_);rintro e w' ⟨rfl,rfl⟩))|(go_at_call 34;((with_reducible refine (HNU.out _ Qg).mono ?_);rintro e w4 ⟨rfl,hx4⟩;have hE4:Ext w w4:=Ext.trans Qg hx4;have m4:=hx4.cell d4;have m5:=hx4.cell d5;have m6:=hx4.cell d6;have m7:=hx4.cell d7;have m8:=hx4.cell d8;have m9:=hx4.cell d9;have y0:=hx4.cell u0;have y1:=hx4.cell u1;have y2:=hx4.cell u2))|(go_at_call 36;((with_reducible refine (HPL.out _ Qg).mono ?_);rintro e w5 ⟨rfl,hx5⟩;have hE5:Ext w w5:=Ext.trans Qg hx5)))
      go_ret
      exact ⟨by rw [show R=1 by rw [HR.out];simp [hi0,hf0]];rfl,Qg⟩
theorem zn7 (op i f t:Int) (nm:ByteArray) (v:Val) (ok:Nat→Prop) (A:Option Addr) (k:Nat) (w:World) (hz:zq w) (hv:zk w ok A v.l) (hop:1≤op∧op≤8) (hE:decide (op=6)=false) (hN:za3 op=true) (hV:zaq op=true) :
    Calls Tryz.prog 13 #[.agg #[.int .i64 op, .int .i64 i, .int .i64 f, .int .i64 t, .string nm, .int .i64 v.kind, .int .i64 v.n, .int .i64 v.d, .string v.s, .slice A v.l.length k]] w fun e w'=>e= .returned (.int .i64 (zie false true true ⟨op,i,f,t,nm,v⟩))∧Ext w w':=by
  obtain ⟨g,w1,hg,hw1,hc,hx⟩:=zy w ⟨op,i,f,t,nm,v⟩ A k 30
  obtain ⟨a0,a1,a2,a3,a4,a5,a6,a7,a8,a9⟩:=hc
  have HF0:=zf3 op
  have e4:decide (1≤op∧op≤8)=true:=decide_eq_true hop
  rw [hE,hN,hV,e4] at HF0
  have HFD:=Lib.hid HF0
  have HNU:=Lib.hid (fun W (e:Ext w W)=>zeu v ok A k W (hz.ext e) (hv.ext e))
  have HPL:=Lib.hid (fun W (e:Ext w W)=>zih v ok A k W (hv.ext e))
  have HW1:=Lib.hid hw1
  have HG:=Lib.hid hg
  obtain ⟨R,hR⟩:∃ R,R=zie false true true ⟨op,i,f,t,nm,v⟩:=⟨_,rfl⟩
  rw [←hR]
  have HR:=Lib.hid hR
  unfold zie at HR
  clear hR
  dsimp only at HR a0 a1 a2 a3 a4 a5 a6 a7 a8 a9 hw1 HW1
  clear hw1 hg hz hv HF0 e4 hE hN hV hop
  cases hi0:idC i with
  | false =>
    go_enter Tryz.func13,Tryz.ntmps13
    go_upto_region 1 with (fail)
    rw [←HW1.out,←HG.out]
    go_upto_region 2 with ((go_at_call 32;((with_reducible refine (HFD.out _).mono ?_);rintro e w2 ⟨rfl,hx2⟩)))
    obtain ⟨q,w3,hq,hw3,u0,u1,u2,-,-,-,hx3⟩:=zr w2 false true true 61
    rw [←hw3,←hq]
    clear hw3 hq
    have hE3:=hx2.trans hx3
    have d0:=hE3.cell a0
    have d1:=hE3.cell a1
    have d2:=hE3.cell a2
    have d3:=hE3.cell a3
    have d4:=hE3.cell a4
    have d5:=hE3.cell a5
    have d6:=hE3.cell a6
    have d7:=hE3.cell a7
    have d8:=hE3.cell a8
    have d9:=hE3.cell a9
    have hEw:=hx.trans hE3
    clear a0 a1 a2 a3 a4 a5 a6 a7 a8 a9 hx2 hx3 hE3 hx
    go_wp2_with (first|(go_at_call 33;((with_reducible refine (zcp _ _).mono ?_);rintro e w' ⟨rfl,rfl⟩))|(go_at_call 35;((with_reducible refine (zbm _ _).mono ?_);rintro e w' ⟨rfl,rfl⟩))|(go_at_call 34;((with_reducible refine (HNU.out _ Qg).mono ?_);rintro e w4 ⟨rfl,hx4⟩;have hE4:Ext w w4:=Ext.trans Qg hx4;have m4:=hx4.cell d4;have m5:=hx4.cell d5;have m6:=hx4.cell d6;have m7:=hx4.cell d7;have m8:=hx4.cell d8;have m9:=hx4.cell d9;have y0:=hx4.cell u0;have y1:=hx4.cell u1;have y2:=hx4.cell u2))|(go_at_call 36;((with_reducible refine (HPL.out _ Qg).mono ?_);rintro e w5 ⟨rfl,hx5⟩;have hE5:Ext w w5:=Ext.trans Qg hx5)))
    go_ret
    exact ⟨by rw [show R=1 by rw [HR.out];simp [hi0]];rfl,Qg⟩
  | true =>
    by_cases hf0:f=0
    · subst hf0
      by_cases ht0:t=0
      · subst ht0
        cases hnb:zbk nm with
        | false =>
          go_enter Tryz.func13,Tryz.ntmps13
          go_upto_region 1 with (fail)
          rw [←HW1.out,←HG.out]
          go_upto_region 2 with ((go_at_call 32;((with_reducible refine (HFD.out _).mono ?_);rintro e w2 ⟨rfl,hx2⟩)))
          obtain ⟨q,w3,hq,hw3,u0,u1,u2,-,-,-,hx3⟩:=zr w2 false true true 61
          rw [←hw3,←hq]
          clear hw3 hq
          have hE3:=hx2.trans hx3
          have d0:=hE3.cell a0
          have d1:=hE3.cell a1
          have d2:=hE3.cell a2
          have d3:=hE3.cell a3
          have d4:=hE3.cell a4
          have d5:=hE3.cell a5
          have d6:=hE3.cell a6
          have d7:=hE3.cell a7
          have d8:=hE3.cell a8
          have d9:=hE3.cell a9
          have hEw:=hx.trans hE3
          clear a0 a1 a2 a3 a4 a5 a6 a7 a8 a9 hx2 hx3 hE3 hx
          go_wp2_with (first|(go_at_call 33;((with_reducible refine (zcp _ _).mono ?_);rintro e w' ⟨rfl,rfl⟩))|(go_at_call 35;((with_reducible refine (zbm _ _).mono ?_);rintro e w' ⟨rfl,rfl⟩))|(go_at_call 34;((with_reducible refine (HNU.out _ Qg).mono ?_);rintro e w4 ⟨rfl,hx4⟩;have hE4:Ext w w4:=Ext.trans Qg hx4;have m4:=hx4.cell d4;have m5:=hx4.cell d5;have m6:=hx4.cell d6;have m7:=hx4.cell d7;have m8:=hx4.cell d8;have m9:=hx4.cell d9;have y0:=hx4.cell u0;have y1:=hx4.cell u1;have y2:=hx4.cell u2))|(go_at_call 36;((with_reducible refine (HPL.out _ Qg).mono ?_);rintro e w5 ⟨rfl,hx5⟩;have hE5:Ext w w5:=Ext.trans Qg hx5)))
          go_ret
          exact ⟨by rw [show R=6 by rw [HR.out];simp [hi0,hnb]];rfl,Qg⟩
        | true =>
          cases hnl:zby v with
          | false =>
            cases hpl:za9 v with
            | false =>
              go_enter Tryz.func13,Tryz.ntmps13
              go_upto_region 1 with (fail)
              rw [←HW1.out,←HG.out]
              go_upto_region 2 with ((go_at_call 32;((with_reducible refine (HFD.out _).mono ?_);rintro e w2 ⟨rfl,hx2⟩)))
              obtain ⟨q,w3,hq,hw3,u0,u1,u2,-,-,-,hx3⟩:=zr w2 false true true 61
              rw [←hw3,←hq]
              clear hw3 hq
              have hE3:=hx2.trans hx3
              have d0:=hE3.cell a0
              have d1:=hE3.cell a1
              have d2:=hE3.cell a2
              have d3:=hE3.cell a3
              have d4:=hE3.cell a4
              have d5:=hE3.cell a5
              have d6:=hE3.cell a6
              have d7:=hE3.cell a7
              have d8:=hE3.cell a8
              have d9:=hE3.cell a9
              have hEw:=hx.trans hE3
              clear a0 a1 a2 a3 a4 a5 a6 a7 a8 a9 hx2 hx3 hE3 hx
              go_wp2_with (first|(go_at_call 33;((with_reducible refine (zcp _ _).mono ?_);rintro e w' ⟨rfl,rfl⟩))|(go_at_call 35;((with_reducible refine (zbm _ _).mono ?_);rintro e w' ⟨rfl,rfl⟩))|(go_at_call 34;((with_reducible refine (HNU.out _ Qg).mono ?_);rintro e w4 ⟨rfl,hx4⟩;have hE4:Ext w w4:=Ext.trans Qg hx4;have m4:=hx4.cell d4;have m5:=hx4.cell d5;have m6:=hx4.cell d6;have m7:=hx4.cell d7;have m8:=hx4.cell d8;have m9:=hx4.cell d9;have y0:=hx4.cell u0;have y1:=hx4.cell u1;have y2:=hx4.cell u2))|(go_at_call 36;((with_reducible refine (HPL.out _ Qg).mono ?_);rintro e w5 ⟨rfl,hx5⟩;have hE5:Ext w w5:=Ext.trans Qg hx5)))
              go_ret
              exact ⟨by rw [show R=8 by rw [HR.out];simp [hi0,hnb,hnl,hpl]];rfl,Qg⟩
            | true =>
              go_enter Tryz.func13,Tryz.ntmps13
              go_upto_region 1 with (fail)
              rw [←HW1.out,←HG.out]
              go_upto_region 2 with ((go_at_call 32;((with_reducible refine (HFD.out _).mono ?_);rintro e w2 ⟨rfl,hx2⟩)))
              obtain ⟨q,w3,hq,hw3,u0,u1,u2,-,-,-,hx3⟩:=zr w2 false true true 61
              rw [←hw3,←hq]
              clear hw3 hq
              have hE3:=hx2.trans hx3
              have d0:=hE3.cell a0
              have d1:=hE3.cell a1
              have d2:=hE3.cell a2
              have d3:=hE3.cell a3
              have d4:=hE3.cell a4
              have d5:=hE3.cell a5
              have d6:=hE3.cell a6
              have d7:=hE3.cell a7
              have d8:=hE3.cell a8
              have d9:=hE3.cell a9
              have hEw:=hx.trans hE3
              clear a0 a1 a2 a3 a4 a5 a6 a7 a8 a9 hx2 hx3 hE3 hx
              go_wp2_with (first|(go_at_call 33;((with_reducible refine (zcp _ _).mono ?_);rintro e w' ⟨rfl,rfl⟩))|(go_at_call 35;((with_reducible refine (zbm _ _).mono ?_);rintro e w' ⟨rfl,rfl⟩))|(go_at_call 34;((with_reducible refine (HNU.out _ Qg).mono ?_);rintro e w4 ⟨rfl,hx4⟩;have hE4:Ext w w4:=Ext.trans Qg hx4;have m4:=hx4.cell d4;have m5:=hx4.cell d5;have m6:=hx4.cell d6;have m7:=hx4.cell d7;have m8:=hx4.cell d8;have m9:=hx4.cell d9;have y0:=hx4.cell u0;have y1:=hx4.cell u1;have y2:=hx4.cell u2))|(go_at_call 36;((with_reducible refine (HPL.out _ Qg).mono ?_);rintro e w5 ⟨rfl,hx5⟩;have hE5:Ext w w5:=Ext.trans Qg hx5)))
              go_ret
              exact ⟨by rw [show R=0 by rw [HR.out];simp [hi0,hnb,hnl,hpl]];rfl,Qg⟩
          | true =>
            go_enter Tryz.func13,Tryz.ntmps13
            go_upto_region 1 with (fail)
            rw [←HW1.out,←HG.out]
            go_upto_region 2 with ((go_at_call 32;((with_reducible refine (HFD.out _).mono ?_);rintro e w2 ⟨rfl,hx2⟩)))
            obtain ⟨q,w3,hq,hw3,u0,u1,u2,-,-,-,hx3⟩:=zr w2 false true true 61
            rw [←hw3,←hq]
            clear hw3 hq
            have hE3:=hx2.trans hx3
            have d0:=hE3.cell a0
            have d1:=hE3.cell a1
            have d2:=hE3.cell a2
            have d3:=hE3.cell a3
            have d4:=hE3.cell a4
            have d5:=hE3.cell a5
            have d6:=hE3.cell a6
            have d7:=hE3.cell a7
            have d8:=hE3.cell a8
            have d9:=hE3.cell a9
            have hEw:=hx.trans hE3
            clear a0 a1 a2 a3 a4 a5 a6 a7 a8 a9 hx2 hx3 hE3 hx
            go_wp2_with (first|(go_at_call 33;((with_reducible refine (zcp _ _).mono ?_);rintro e w' ⟨rfl,rfl⟩))|(go_at_call 35;((with_reducible refine (zbm _ _).mono ?_);rintro e w' ⟨rfl,rfl⟩))|(go_at_call 34;((with_reducible refine (HNU.out _ Qg).mono ?_);rintro e w4 ⟨rfl,hx4⟩;have hE4:Ext w w4:=Ext.trans Qg hx4;have m4:=hx4.cell d4;have m5:=hx4.cell d5;have m6:=hx4.cell d6;have m7:=hx4.cell d7;have m8:=hx4.cell d8;have m9:=hx4.cell d9;have y0:=hx4.cell u0;have y1:=hx4.cell u1;have y2:=hx4.cell u2))|(go_at_call 36;((with_reducible refine (HPL.out _ Qg).mono ?_);rintro e w5 ⟨rfl,hx5⟩;have hE5:Ext w w5:=Ext.trans Qg hx5)))
            go_ret
            exact ⟨by rw [show R=0 by rw [HR.out];simp [hi0,hnb,hnl]];rfl,Qg⟩
      · have ht01:(t != 0)=true:=bne_iff_ne.2 ht0
        have ht02:(t == 0)=false:=beq_eq_false_iff_ne.2 ht0
        go_enter Tryz.func13,Tryz.ntmps13
        go_upto_region 1 with (fail)
        rw [←HW1.out,←HG.out]
        go_upto_region 2 with ((go_at_call 32;((with_reducible refine (HFD.out _).mono ?_);rintro e w2 ⟨rfl,hx2⟩)))
        obtain ⟨q,w3,hq,hw3,u0,u1,u2,-,-,-,hx3⟩:=zr w2 false true true 61
        rw [←hw3,←hq]
        clear hw3 hq
        have hE3:=hx2.trans hx3
        have d0:=hE3.cell a0
        have d1:=hE3.cell a1
        have d2:=hE3.cell a2
        have d3:=hE3.cell a3
        have d4:=hE3.cell a4
        have d5:=hE3.cell a5
        have d6:=hE3.cell a6
        have d7:=hE3.cell a7
        have d8:=hE3.cell a8
        have d9:=hE3.cell a9
        have hEw:=hx.trans hE3
        clear a0 a1 a2 a3 a4 a5 a6 a7 a8 a9 hx2 hx3 hE3 hx
        go_wp2_with (first|(go_at_call 33;((with_reducible refine (zcp _ _).mono ?_);rintro e w' ⟨rfl,rfl⟩))|(go_at_call 35;((with_reducible refine (zbm _ _).mono ?_);rintro e w' ⟨rfl,rfl⟩))|(go_at_call 34;((with_reducible refine (HNU.out _ Qg).mono ?_);rintro e w4 ⟨rfl,hx4⟩;have hE4:Ext w w4:=Ext.trans Qg hx4;have m4:=hx4.cell d4;have m5:=hx4.cell d5;have m6:=hx4.cell d6;have m7:=hx4.cell d7;have m8:=hx4.cell d8;have m9:=hx4.cell d9;have y0:=hx4.cell u0;have y1:=hx4.cell u1;have y2:=hx4.cell u2))|(go_at_call 36;((with_reducible refine (HPL.out _ Qg).mono ?_);rintro e w5 ⟨rfl,hx5⟩;have hE5:Ext w w5:=Ext.trans Qg hx5)))
        go_ret
        exact ⟨by rw [show R=1 by rw [HR.out];simp [hi0,ht0]];rfl,Qg⟩
    · have hf01:(f != 0)=true:=bne_iff_ne.2 hf0
      have hf02:(f == 0)=false:=beq_eq_false_iff_ne.2 hf0
      go_enter Tryz.func13,Tryz.ntmps13
      go_upto_region 1 with (fail)
      rw [←HW1.out,←HG.out]
      go_upto_region 2 with ((go_at_call 32;((with_reducible refine (HFD.out _).mono ?_);rintro e w2 ⟨rfl,hx2⟩)))
      obtain ⟨q,w3,hq,hw3,u0,u1,u2,-,-,-,hx3⟩:=zr w2 false true true 61
      rw [←hw3,←hq]
      clear hw3 hq
      have hE3:=hx2.trans hx3
      have d0:=hE3.cell a0
      have d1:=hE3.cell a1
      have d2:=hE3.cell a2
      have d3:=hE3.cell a3
      have d4:=hE3.cell a4
      have d5:=hE3.cell a5
      have d6:=hE3.cell a6
      have d7:=hE3.cell a7
      have d8:=hE3.cell a8
      have d9:=hE3.cell a9
      have hEw:=hx.trans hE3
      clear a0 a1 a2 a3 a4 a5 a6 a7 a8 a9 hx2 hx3 hE3 hx
      go_wp2_with (first|(go_at_call 33;((with_reducible refine (zcp _ _).mono ?_);rintro e w' ⟨rfl,rfl⟩))|(go_at_call 35;((with_reducible refine (zbm _ _).mono ?_);rintro e w' ⟨rfl,rfl⟩))|(go_at_call 34;((with_reducible refine (HNU.out _ Qg).mono ?_);rintro e w4 ⟨rfl,hx4⟩;have hE4:Ext w w4:=Ext.trans Qg hx4;have m4:=hx4.cell d4;have m5:=hx4.cell d5;have m6:=hx4.cell d6;have m7:=hx4.cell d7;have m8:=hx4.cell d8;have m9:=hx4.cell d9;have y0:=hx4.cell u0;have y1:=hx4.cell u1;have y2:=hx4.cell u2))|(go_at_call 36;((with_reducible refine (HPL.out _ Qg).mono ?_);rintro e w5 ⟨rfl,hx5⟩;have hE5:Ext w w5:=Ext.trans Qg hx5)))
      go_ret
      exact ⟨by rw [show R=1 by rw [HR.out];simp [hi0,hf0]];rfl,Qg⟩
theorem zoy (op i f t:Int) (nm:ByteArray) (v:Val) (ok:Nat→Prop) (A:Option Addr) (k:Nat) (w:World) (hz:zq w) (hv:zk w ok A v.l) (hop:1≤op∧op≤8) (hE:decide (op=6)=true) (hN:za3 op=true) (hV:zaq op=false) :
    Calls Tryz.prog 13 #[.agg #[.int .i64 op, .int .i64 i, .int .i64 f, .int .i64 t, .string nm, .int .i64 v.kind, .int .i64 v.n, .int .i64 v.d, .string v.s, .slice A v.l.length k]] w fun e w'=>e= .returned (.int .i64 (zie true true false ⟨op,i,f,t,nm,v⟩))∧Ext w w':=by
  obtain ⟨g,w1,hg,hw1,hc,hx⟩:=zy w ⟨op,i,f,t,nm,v⟩ A k 30
  obtain ⟨a0,a1,a2,a3,a4,a5,a6,a7,a8,a9⟩:=hc
  have HF0:=zf3 op
  have e4:decide (1≤op∧op≤8)=true:=decide_eq_true hop
  rw [hE,hN,hV,e4] at HF0
  have HFD:=Lib.hid HF0
  have HNU:=Lib.hid (fun W (e:Ext w W)=>zeu v ok A k W (hz.ext e) (hv.ext e))
  have HPL:=Lib.hid (fun W (e:Ext w W)=>zih v ok A k W (hv.ext e))
  have HW1:=Lib.hid hw1
  have HG:=Lib.hid hg
  obtain ⟨R,hR⟩:∃ R,R=zie true true false ⟨op,i,f,t,nm,v⟩:=⟨_,rfl⟩
  rw [←hR]
  have HR:=Lib.hid hR
  unfold zie at HR
  clear hR
  dsimp only at HR a0 a1 a2 a3 a4 a5 a6 a7 a8 a9 hw1 HW1
  clear hw1 hg hz hv HF0 e4 hE hN hV hop
  cases hi0:idC i with
  | false =>
    go_enter Tryz.func13,Tryz.ntmps13
    go_upto_region 1 with (fail)
    rw [←HW1.out,←HG.out]
    go_upto_region 2 with ((go_at_call 32;((with_reducible refine (HFD.out _).mono ?_);rintro e w2 ⟨rfl,hx2⟩)))
    obtain ⟨q,w3,hq,hw3,u0,u1,u2,-,-,-,hx3⟩:=zr w2 true true false 61
    rw [←hw3,←hq]
    clear hw3 hq
    have hE3:=hx2.trans hx3
    have d0:=hE3.cell a0
    have d1:=hE3.cell a1
    have d2:=hE3.cell a2
    have d3:=hE3.cell a3
    have d4:=hE3.cell a4
    have d5:=hE3.cell a5
    have d6:=hE3.cell a6
    have d7:=hE3.cell a7
    have d8:=hE3.cell a8
    have d9:=hE3.cell a9
    have hEw:=hx.trans hE3
    clear a0 a1 a2 a3 a4 a5 a6 a7 a8 a9 hx2 hx3 hE3 hx
    go_wp2_with (first|(go_at_call 33;((with_reducible refine (zcp _ _).mono ?_);rintro e w' ⟨rfl,rfl⟩))|(go_at_call 35;((with_reducible refine (zbm _ _).mono ?_);rintro e w' ⟨rfl,rfl⟩))|(go_at_call 34;((with_reducible refine (HNU.out _ Qg).mono ?_);rintro e w4 ⟨rfl,hx4⟩;have hE4:Ext w w4:=Ext.trans Qg hx4;have m4:=hx4.cell d4;have m5:=hx4.cell d5;have m6:=hx4.cell d6;have m7:=hx4.cell d7;have m8:=hx4.cell d8;have m9:=hx4.cell d9;have y0:=hx4.cell u0;have y1:=hx4.cell u1;have y2:=hx4.cell u2))|(go_at_call 36;((with_reducible refine (HPL.out _ Qg).mono ?_);rintro e w5 ⟨rfl,hx5⟩;have hE5:Ext w w5:=Ext.trans Qg hx5)))
    go_ret
    exact ⟨by rw [show R=1 by rw [HR.out];simp [hi0]];rfl,Qg⟩
  | true =>
    cases hbf:idC f with
    | false =>
      go_enter Tryz.func13,Tryz.ntmps13
      go_upto_region 1 with (fail)
      rw [←HW1.out,←HG.out]
      go_upto_region 2 with ((go_at_call 32;((with_reducible refine (HFD.out _).mono ?_);rintro e w2 ⟨rfl,hx2⟩)))
      obtain ⟨q,w3,hq,hw3,u0,u1,u2,-,-,-,hx3⟩:=zr w2 true true false 61
      rw [←hw3,←hq]
      clear hw3 hq
      have hE3:=hx2.trans hx3
      have d0:=hE3.cell a0
      have d1:=hE3.cell a1
      have d2:=hE3.cell a2
      have d3:=hE3.cell a3
      have d4:=hE3.cell a4
      have d5:=hE3.cell a5
      have d6:=hE3.cell a6
      have d7:=hE3.cell a7
      have d8:=hE3.cell a8
      have d9:=hE3.cell a9
      have hEw:=hx.trans hE3
      clear a0 a1 a2 a3 a4 a5 a6 a7 a8 a9 hx2 hx3 hE3 hx
      go_wp2_with (first|(go_at_call 33;((with_reducible refine (zcp _ _).mono ?_);rintro e w' ⟨rfl,rfl⟩))|(go_at_call 35;((with_reducible refine (zbm _ _).mono ?_);rintro e w' ⟨rfl,rfl⟩))|(go_at_call 34;((with_reducible refine (HNU.out _ Qg).mono ?_);rintro e w4 ⟨rfl,hx4⟩;have hE4:Ext w w4:=Ext.trans Qg hx4;have m4:=hx4.cell d4;have m5:=hx4.cell d5;have m6:=hx4.cell d6;have m7:=hx4.cell d7;have m8:=hx4.cell d8;have m9:=hx4.cell d9;have y0:=hx4.cell u0;have y1:=hx4.cell u1;have y2:=hx4.cell u2))|(go_at_call 36;((with_reducible refine (HPL.out _ Qg).mono ?_);rintro e w5 ⟨rfl,hx5⟩;have hE5:Ext w w5:=Ext.trans Qg hx5)))
      go_ret
      exact ⟨by rw [show R=1 by rw [HR.out];simp [hi0,hbf]];rfl,Qg⟩
    | true =>
      cases hbt:idC t with
      | false =>
        go_enter Tryz.func13,Tryz.ntmps13
        go_upto_region 1 with (fail)
        rw [←HW1.out,←HG.out]
        go_upto_region 2 with ((go_at_call 32;((with_reducible refine (HFD.out _).mono ?_);rintro e w2 ⟨rfl,hx2⟩)))
        obtain ⟨q,w3,hq,hw3,u0,u1,u2,-,-,-,hx3⟩:=zr w2 true true false 61
        rw [←hw3,←hq]
        clear hw3 hq
        have hE3:=hx2.trans hx3
        have d0:=hE3.cell a0
        have d1:=hE3.cell a1
        have d2:=hE3.cell a2
        have d3:=hE3.cell a3
        have d4:=hE3.cell a4
        have d5:=hE3.cell a5
        have d6:=hE3.cell a6
        have d7:=hE3.cell a7
        have d8:=hE3.cell a8
        have d9:=hE3.cell a9
        have hEw:=hx.trans hE3
        clear a0 a1 a2 a3 a4 a5 a6 a7 a8 a9 hx2 hx3 hE3 hx
        go_wp2_with (first|(go_at_call 33;((with_reducible refine (zcp _ _).mono ?_);rintro e w' ⟨rfl,rfl⟩))|(go_at_call 35;((with_reducible refine (zbm _ _).mono ?_);rintro e w' ⟨rfl,rfl⟩))|(go_at_call 34;((with_reducible refine (HNU.out _ Qg).mono ?_);rintro e w4 ⟨rfl,hx4⟩;have hE4:Ext w w4:=Ext.trans Qg hx4;have m4:=hx4.cell d4;have m5:=hx4.cell d5;have m6:=hx4.cell d6;have m7:=hx4.cell d7;have m8:=hx4.cell d8;have m9:=hx4.cell d9;have y0:=hx4.cell u0;have y1:=hx4.cell u1;have y2:=hx4.cell u2))|(go_at_call 36;((with_reducible refine (HPL.out _ Qg).mono ?_);rintro e w5 ⟨rfl,hx5⟩;have hE5:Ext w w5:=Ext.trans Qg hx5)))
        go_ret
        exact ⟨by rw [show R=1 by rw [HR.out];simp [hi0,hbf,hbt]];rfl,Qg⟩
      | true =>
        cases hnl:zby v with
        | false =>
          go_enter Tryz.func13,Tryz.ntmps13
          go_upto_region 1 with (fail)
          rw [←HW1.out,←HG.out]
          go_upto_region 2 with ((go_at_call 32;((with_reducible refine (HFD.out _).mono ?_);rintro e w2 ⟨rfl,hx2⟩)))
          obtain ⟨q,w3,hq,hw3,u0,u1,u2,-,-,-,hx3⟩:=zr w2 true true false 61
          rw [←hw3,←hq]
          clear hw3 hq
          have hE3:=hx2.trans hx3
          have d0:=hE3.cell a0
          have d1:=hE3.cell a1
          have d2:=hE3.cell a2
          have d3:=hE3.cell a3
          have d4:=hE3.cell a4
          have d5:=hE3.cell a5
          have d6:=hE3.cell a6
          have d7:=hE3.cell a7
          have d8:=hE3.cell a8
          have d9:=hE3.cell a9
          have hEw:=hx.trans hE3
          clear a0 a1 a2 a3 a4 a5 a6 a7 a8 a9 hx2 hx3 hE3 hx
          go_wp2_with (first|(go_at_call 33;((with_reducible refine (zcp _ _).mono ?_);rintro e w' ⟨rfl,rfl⟩))|(go_at_call 35;((with_reducible refine (zbm _ _).mono ?_);rintro e w' ⟨rfl,rfl⟩))|(go_at_call 34;((with_reducible refine (HNU.out _ Qg).mono ?_);rintro e w4 ⟨rfl,hx4⟩;have hE4:Ext w w4:=Ext.trans Qg hx4;have m4:=hx4.cell d4;have m5:=hx4.cell d5;have m6:=hx4.cell d6;have m7:=hx4.cell d7;have m8:=hx4.cell d8;have m9:=hx4.cell d9;have y0:=hx4.cell u0;have y1:=hx4.cell u1;have y2:=hx4.cell u2))|(go_at_call 36;((with_reducible refine (HPL.out _ Qg).mono ?_);rintro e w5 ⟨rfl,hx5⟩;have hE5:Ext w w5:=Ext.trans Qg hx5)))
          go_ret
          exact ⟨by rw [show R=1 by rw [HR.out];simp [hi0,hbf,hbt,hnl]];rfl,Qg⟩
        | true =>
          cases hnb:zbk nm with
          | false =>
            go_enter Tryz.func13,Tryz.ntmps13
            go_upto_region 1 with (fail)
            rw [←HW1.out,←HG.out]
            go_upto_region 2 with ((go_at_call 32;((with_reducible refine (HFD.out _).mono ?_);rintro e w2 ⟨rfl,hx2⟩)))
            obtain ⟨q,w3,hq,hw3,u0,u1,u2,-,-,-,hx3⟩:=zr w2 true true false 61
            rw [←hw3,←hq]
            clear hw3 hq
            have hE3:=hx2.trans hx3
            have d0:=hE3.cell a0
            have d1:=hE3.cell a1
            have d2:=hE3.cell a2
            have d3:=hE3.cell a3
            have d4:=hE3.cell a4
            have d5:=hE3.cell a5
            have d6:=hE3.cell a6
            have d7:=hE3.cell a7
            have d8:=hE3.cell a8
            have d9:=hE3.cell a9
            have hEw:=hx.trans hE3
            clear a0 a1 a2 a3 a4 a5 a6 a7 a8 a9 hx2 hx3 hE3 hx
            go_wp2_with (first|(go_at_call 33;((with_reducible refine (zcp _ _).mono ?_);rintro e w' ⟨rfl,rfl⟩))|(go_at_call 35;((with_reducible refine (zbm _ _).mono ?_);rintro e w' ⟨rfl,rfl⟩))|(go_at_call 34;((with_reducible refine (HNU.out _ Qg).mono ?_);rintro e w4 ⟨rfl,hx4⟩;have hE4:Ext w w4:=Ext.trans Qg hx4;have m4:=hx4.cell d4;have m5:=hx4.cell d5;have m6:=hx4.cell d6;have m7:=hx4.cell d7;have m8:=hx4.cell d8;have m9:=hx4.cell d9;have y0:=hx4.cell u0;have y1:=hx4.cell u1;have y2:=hx4.cell u2))|(go_at_call 36;((with_reducible refine (HPL.out _ Qg).mono ?_);rintro e w5 ⟨rfl,hx5⟩;have hE5:Ext w w5:=Ext.trans Qg hx5)))
            go_ret
            exact ⟨by rw [show R=6 by rw [HR.out];simp [hi0,hbf,hbt,hnl,hnb]];rfl,Qg⟩
          | true =>
            go_enter Tryz.func13,Tryz.ntmps13
            go_upto_region 1 with (fail)
            rw [←HW1.out,←HG.out]
            go_upto_region 2 with ((go_at_call 32;((with_reducible refine (HFD.out _).mono ?_);rintro e w2 ⟨rfl,hx2⟩)))
            obtain ⟨q,w3,hq,hw3,u0,u1,u2,-,-,-,hx3⟩:=zr w2 true true false 61
            rw [←hw3,←hq]
            clear hw3 hq
            have hE3:=hx2.trans hx3
            have d0:=hE3.cell a0
            have d1:=hE3.cell a1
            have d2:=hE3.cell a2
            have d3:=hE3.cell a3
            have d4:=hE3.cell a4
            have d5:=hE3.cell a5
            have d6:=hE3.cell a6
            have d7:=hE3.cell a7
            have d8:=hE3.cell a8
            have d9:=hE3.cell a9
            have hEw:=hx.trans hE3
            clear a0 a1 a2 a3 a4 a5 a6 a7 a8 a9 hx2 hx3 hE3 hx
            go_wp2_with (first|(go_at_call 33;((with_reducible refine (zcp _ _).mono ?_);rintro e w' ⟨rfl,rfl⟩))|(go_at_call 35;((with_reducible refine (zbm _ _).mono ?_);rintro e w' ⟨rfl,rfl⟩))|(go_at_call 34;((with_reducible refine (HNU.out _ Qg).mono ?_);rintro e w4 ⟨rfl,hx4⟩;have hE4:Ext w w4:=Ext.trans Qg hx4;have m4:=hx4.cell d4;have m5:=hx4.cell d5;have m6:=hx4.cell d6;have m7:=hx4.cell d7;have m8:=hx4.cell d8;have m9:=hx4.cell d9;have y0:=hx4.cell u0;have y1:=hx4.cell u1;have y2:=hx4.cell u2))|(go_at_call 36;((with_reducible refine (HPL.out _ Qg).mono ?_);rintro e w5 ⟨rfl,hx5⟩;have hE5:Ext w w5:=Ext.trans Qg hx5)))
            go_ret
            exact ⟨by rw [show R=0 by rw [HR.out];simp [hi0,hbf,hbt,hnl,hnb]];rfl,Qg⟩
theorem zmp (op i f t:Int) (nm:ByteArray) (v:Val) (A:Option Addr) (k:Nat) (w:World) (hop:¬ (1≤op∧op≤8)) :
    Calls Tryz.prog 13 #[.agg #[.int .i64 op, .int .i64 i, .int .i64 f, .int .i64 t, .string nm, .int .i64 v.kind, .int .i64 v.n, .int .i64 v.d, .string v.s, .slice A v.l.length k]] w fun e w'=>e= .returned (.int .i64 1)∧Ext w w':=by
  obtain ⟨g,w1,hg,hw1,hc,hx⟩:=zy w ⟨op,i,f,t,nm,v⟩ A k 30
  obtain ⟨a0,a1,a2,a3,a4,a5,a6,a7,a8,a9⟩:=hc
  have HF0:=zf3 op
  have e4:decide (1≤op∧op≤8)=false:=decide_eq_false hop
  rw [e4] at HF0
  have HFD:=Lib.hid HF0
  have HW1:=Lib.hid hw1
  have HG:=Lib.hid hg
  generalize decide (op=6)=E at *
  generalize za3 op=N at *
  generalize zaq op=V at *
  dsimp only at a0 HW1
  clear hw1 hg HF0 e4 hop a1 a2 a3 a4 a5 a6 a7 a8 a9
  go_enter Tryz.func13,Tryz.ntmps13
  go_upto_region 1 with (fail)
  rw [←HW1.out,←HG.out]
  go_wp2_with ((go_at_call 32;((with_reducible refine (HFD.out _).mono ?_);rintro e w2 ⟨rfl,hx2⟩)))
  go_ret
  exact ⟨rfl,hx.trans (Ext.trans hx2 Qg)⟩
theorem zcd (c:ChG) (ok:Nat→Prop) (A:Option Addr) (k:Nat) (w:World) (hz:zq w) (hv:zk w ok A c.v.l) :
    Calls Tryz.prog 13 #[.agg #[.int .i64 c.op, .int .i64 c.id, .int .i64 c.frm, .int .i64 c.to_, .string c.name, .int .i64 c.v.kind, .int .i64 c.v.n, .int .i64 c.v.d, .string c.v.s, .slice A c.v.l.length k]] w fun e w'=>e= .returned (.int .i64 (zcn c))∧Ext w w':=by
  obtain ⟨op,i,f,t,nm,v⟩:=c
  by_cases hop:1≤op∧op≤8
  · rw [zzo _ hop]
    dsimp only
    by_cases h6:op=6
    · have e1:decide (op=6)=true:=decide_eq_true h6
      have e2:za3 op=true:=decide_eq_true Qk
      have e3:zaq op=false:=decide_eq_false Qk
      rw [e1,e2,e3]
      exact zoy op i f t nm v ok A k w hz hv hop e1 e2 e3
    · have e1:decide (op=6)=false:=decide_eq_false h6
      by_cases h5:op=5∨op=8
      · have e2:za3 op=true:=decide_eq_true Qk
        have e3:zaq op=true:=decide_eq_true Qk
        rw [e1,e2,e3]
        exact zn7 op i f t nm v ok A k w hz hv hop e1 e2 e3
      · have e3:zaq op=false:=decide_eq_false Qk
        by_cases h3:op=3∨op=4
        · have e2:za3 op=true:=decide_eq_true Qk
          rw [e1,e2,e3]
          exact zor op i f t nm v ok A k w hz hv hop e1 e2 e3
        · have e2:za3 op=false:=decide_eq_false Qk
          rw [e1,e2,e3]
          exact zn6 op i f t nm v ok A k w hz hv hop e1 e2 e3
  · have hc:zcn ⟨op,i,f,t,nm,v⟩=1:=by
      unfold zcn;rw [if_pos]
      dsimp only;omega
    rw [hc]
    exact zmp op i f t nm v A k w hop
section
variable {w:World} {base D:Nat} {τ:Nat→Tg} {V E:Value} {lv pv ev:Int→Value} {hp he:Int→List HP} {g:za}
theorem zah.cells (h:zah w base D τ V E lv pv ev hp he g):w.cell? ⟨D,0,none⟩=some V∧w.cell? ⟨D,1,none⟩=some E∧w.cell? ⟨D,2,none⟩=some (.int .i64 g.nn)∧w.cell? ⟨D,3,none⟩=some (.int .i64 g.ne) :=
  ⟨(h.self.cell (j:=0) Qj).trans rfl,(h.self.cell (j:=1) Qj).trans rfl,(h.self.cell (j:=2) Qj).trans rfl,(h.self.cell (j:=3) Qj).trans rfl⟩
theorem zyu {l:List zb} {x:Int}:zav l x=decide (∃ a ∈ l,zb.id a=x):=by
  rw [Bool.eq_iff_iff,decide_eq_true_iff];exact zb2
theorem zwv {l:List zf} {x:Int}:zcl l x=decide (∃ a ∈ l,zf.id a=x):=by
  rw [Bool.eq_iff_iff,decide_eq_true_iff];exact zei
theorem zah.formN (h:zah w base D τ V E lv pv ev hp he g):∀ n ∈ g.nodes,∃ A c B d,lv n.id= .slice A n.labels.length c∧pv n.id= .slice B n.props.length d:=fun n hn=>by
  obtain ⟨A,c,e1⟩:=(h.labs n hn).form
  obtain ⟨B,d,e2⟩:=(h.prps n hn).1.form
  have hl:(hp n.id).length=n.props.length:=by rw [← (h.prps n hn).2,List.length_map]
  exact ⟨A,c,B,d,e1,by rw [e2,hl]⟩
theorem zah.formE (h:zah w base D τ V E lv pv ev hp he g):∀ n ∈ g.edges,∃ A c,ev n.id= .slice A n.props.length c:=fun n hn=>by
  obtain ⟨B,d,e2⟩:=(h.eprs n hn).1.form
  have hl:(he n.id).length=n.props.length:=by rw [← (h.eprs n hn).2,List.length_map]
  exact ⟨B,d,by rw [e2,hl]⟩
theorem zap (h:zah w base D τ V E lv pv ev hp he g) (hs:zpl g.nodes) (hl:g.nodes.length≤2000) (x:Int) :
    Calls Tryz.prog 90 #[.pointer (some ⟨D,0,none⟩), .int .i64 x] w fun e w'=>e= .returned (.tuple #[.int .i64 ((zg cI zb.id g.nodes x:Nat):Int), .bool (zav g.nodes x)])∧Ext w w':=by
  obtain ⟨c0,-,-,-⟩:=h.cells
  have HC:=Lib.hid (zy5 lv pv g.nodes base V x w h.nodes.own h.formN hs Qk)
  rw [←zyu] at HC
  generalize zav g.nodes x=R at *
  generalize ((zg cI zb.id g.nodes x:Nat):Int)=L at *
  clear h hs hl
  go_enter Tryz.func90,Tryz.ntmps90
  go_wp2_with ((go_at_call 80;((with_reducible refine (HC.out).mono ?_);rintro e w2 ⟨rfl,hx2⟩)))
  go_ret2
  exact ⟨rfl,hx2⟩
theorem zbo (h:zah w base D τ V E lv pv ev hp he g) (hs:zqe g.edges) (hl:g.edges.length≤4000) (x:Int) :
    Calls Tryz.prog 91 #[.pointer (some ⟨D,0,none⟩), .int .i64 x] w fun e w'=>e= .returned (.tuple #[.int .i64 ((zg cI zf.id g.edges x:Nat):Int), .bool (zcl g.edges x)])∧Ext w w':=by
  obtain ⟨-,c1,-,-⟩:=h.cells
  have HC:=Lib.hid (zyw ev g.edges base E x w h.edges.own h.formE hs Qk)
  rw [←zwv] at HC
  generalize zcl g.edges x=R at *
  generalize ((zg cI zf.id g.edges x:Nat):Int)=L at *
  clear h hs hl
  go_enter Tryz.func91,Tryz.ntmps91
  go_wp2_with ((go_at_call 134;((with_reducible refine (HC.out).mono ?_);rintro e w2 ⟨rfl,hx2⟩)))
  go_ret2
  exact ⟨rfl,hx2⟩
end
theorem zaa.pre {base:Nat} {e:TypeId} {K:Nat} {w wx w':World} {v v':Value} {n:Nat} {xs:List Value} (x:Ext w wx) (R:zaa base e K wx v w' v' n xs):zaa base e K w v w' v' n xs :=
  ⟨R.own,zj (x.gr _) R.grown,R.blk.imp id (fun ⟨b,h1,h2⟩=>⟨b,h1,Nat.le_trans x.le h2⟩)⟩
theorem zaa.post {base:Nat} {e:TypeId} {K:Nat} {w wx w':World} {v v':Value} {n:Nat} {xs:List Value} (R:zaa base e K w v wx v' n xs) (x:Ext wx w'):zaa base e K w v w' v' n xs :=
  ⟨zag R.own x,zj R.grown (x.gr _),R.blk⟩
theorem zaa.same {base:Nat} {e:TypeId} {K:Nat} {w w':World} {v:Value} {n:Nat} {xs:List Value} (h:w.ownsRow base e K v n xs) (x:Ext w w'):zaa base e K w v w' v n xs:=⟨zag h x,x.gr _, .inl rfl⟩
theorem zhg {H:List HP}:za0 zn zbr H ↔ za0 zn zaf.key (H.map HP.p):=by
  rw [zeb,zeb,List.map_map];rfl
theorem zlf {H:List HP} (x:ByteArray):zg zn zaf.key (H.map HP.p) x=zg zn zbr H x:=by
  induction H with
  | nil=>rfl
  | cons a t ih=>rw [List.map_cons,zd6,zd6,ih]
theorem ziw {H:List HP} (x:ByteArray):(∃ p ∈ H.map HP.p,p.key=x) ↔ ∃ h ∈ H,zbr h=x:=by
  constructor
  · rintro ⟨p,hp,e⟩
    obtain ⟨h,hh,rfl⟩:=List.mem_map.1 hp
    exact ⟨h,hh,e⟩
  · rintro ⟨h,hh,e⟩
    exact ⟨h.p,List.mem_map.2 ⟨h,hh,rfl⟩,e⟩
theorem zwb {H:List HP} (x:ByteArray):(H.take (zg zn zbr H x) ++ H.drop (zg zn zbr H x+1)).map HP.p=zcv zn zaf.key (H.map HP.p) x:=by
  unfold zcv;rw [zlf,List.map_append,List.map_take,List.map_drop]
theorem zv3 {H:List HP} (y:HP):(H.take (zg zn zbr H y.p.key) ++ y :: H.drop (zg zn zbr H y.p.key)).map HP.p=zc6 zn zaf.key (H.map HP.p) y.p:=by
  unfold zc6;rw [zlf,List.map_append,List.map_cons,List.map_take,List.map_drop]
theorem zxc {H:List HP} (y:HP):(H.set (zg zn zbr H y.p.key) y).map HP.p=zcc zn zaf.key (H.map HP.p) y.p:=by
  unfold zcc;rw [zlf,List.map_set]
theorem zle:∀ (l:List HP) (i:Nat) (y:HP) (hi:i < l.length),y.p.key=l[i].p.key→(l.set i y).flatMap HP.enc=(((((l.flatMap HP.enc).set (i*6+1) (.int .i64 y.p.v.kind)).set (i*6+2) (.int .i64 y.p.v.n)).set (i*6+3) (.int .i64 y.p.v.d)).set (i*6+4) (.string y.p.v.s)).set (i*6+5) (.slice y.A 0 y.c)
  | [],i,y,hi,_=>absurd hi (by simp)
  | x :: l,0,y,_,hy=>by
    rw [List.set_cons_zero,List.flatMap_cons,List.flatMap_cons]
    have hk:HP.enc y=[.string x.p.key, .int .i64 y.p.v.kind, .int .i64 y.p.v.n, .int .i64 y.p.v.d, .string y.p.v.s, .slice y.A 0 y.c]:=by unfold HP.enc;rw [hy];rfl
    rw [hk]
    rfl
  | x :: l,i+1,y,hi,hy=>by
    have ih:=zle l i y (by simpa using hi) hy
    have S:∀ (m:List Value) (j:Nat) (u:Value),(x.enc ++ m).set (6+j) u=x.enc ++ m.set j u:=fun m j u=>by
      rw [List.set_append_right _ _ (by rw [HP.enc_len];omega),HP.enc_len,Nat.add_sub_cancel_left]
    rw [List.set_cons_succ,List.flatMap_cons,List.flatMap_cons,ih]
    rw [show (i+1)*6+1=6+(i*6+1) by omega,show (i+1)*6+2=6+(i*6+2) by omega,show (i+1)*6+3=6+(i*6+3) by omega,show (i+1)*6+4=6+(i*6+4) by omega,show (i+1)*6+5=6+(i*6+5) by omega,S,S,S,S,S]
theorem zw9 {w:World} {base g c n:Nat} {H:List HP} (h:w.ownsRow base 54 6 (.slice (some ⟨g,0,none⟩) n c) H.length (H.flatMap HP.enc)) (i:Nat) (y:HP) (hi:i < H.length) (hy:y.p.key=H[i].p.key) :
    zaa base 54 6 w (.slice (some ⟨g,0,none⟩) n c) (((((w.setCell ⟨g,i*6+1,none⟩ (.int .i64 y.p.v.kind)).setCell ⟨g,i*6+2,none⟩ (.int .i64 y.p.v.n)).setCell ⟨g,i*6+3,none⟩ (.int .i64 y.p.v.d)).setCell ⟨g,i*6+4,none⟩ (.string y.p.v.s)).setCell ⟨g,i*6+5,none⟩ (.slice y.A 0 y.c)) (.slice (some ⟨g,0,none⟩) n c) (H.set i y).length ((H.set i y).flatMap HP.enc):=by
  obtain ⟨A,c',hv⟩:=zao h
  injection hv with h1 h2 h3
  subst h2
  obtain ⟨k1,g1⟩:=World.ownsRow.stored h (i*6+1) (.int .i64 y.p.v.kind)
  obtain ⟨k2,g2⟩:=World.ownsRow.stored k1 (i*6+2) (.int .i64 y.p.v.n)
  obtain ⟨k3,g3⟩:=World.ownsRow.stored k2 (i*6+3) (.int .i64 y.p.v.d)
  obtain ⟨k4,g4⟩:=World.ownsRow.stored k3 (i*6+4) (.string y.p.v.s)
  obtain ⟨k5,g5⟩:=World.ownsRow.stored k4 (i*6+5) (.slice y.A 0 y.c)
  refine ⟨?_,zj (zj (zj (zj g1 g2) g3) g4) g5, .inl rfl⟩
  rw [List.length_set,zle H i y hi hy]
  exact k5
theorem zd0 {w:World} {base:Nat} {e:TypeId} {K n:Nat} {v:Value} {xs:List Value} (h:w.ownsRow base e K v n xs) {b:Nat} (hb:w.heap.size≤b):v.ownBlock ≠ some b:=fun e2=>by
  have:=World.ownsRow.lt h b e2
  omega
theorem zq5 (H:List HP) (base:Nat) (V:Value) (key:ByteArray) (v:Val) (A:Option Addr) (k:Nat) (w:World) (hz:zq w) (hown:w.ownsRow base 54 6 V H.length (H.flatMap HP.enc)) (hs:za0 zn zbr H) (hl:H.length≤100) (hv:v.l=[]) (hn:zby v=true) (hx:∃ h ∈ H,zbr h=key) :
    Calls Tryz.prog 130 #[V, .string key, .agg #[.int .i64 v.kind, .int .i64 v.n, .int .i64 v.d, .string v.s, .slice A 0 k]] w fun e w' => ∃ (v':Value) (H':List HP),e= .returned v'∧H'.map HP.p=zcv zn zaf.key (H.map HP.p) key∧zaa base 54 6 w V w' v' H'.length (H'.flatMap HP.enc):=by
  obtain ⟨q,w1,hq,hw1,hc,hx1,-⟩:=zbt w v A k 28
  obtain ⟨p0,p1,p2,p3,p4⟩:=hc
  rw [show v.l.length=0 by rw [hv];rfl] at p4 hw1
  have HB:=Lib.hid (zig H base V key w1 (zag hown hx1) hs Qk)
  rw [show decide (∃ a ∈ H,zbr a=key)=true from decide_eq_true hx] at HB
  have HNU:=Lib.hid (fun W (e:Ext w W)=>(by have h:=zeu v (fun _=>True) A k W (hz.ext e) (by rw [hv];exact zo.nil _ _ _);rw [hn,show v.l.length=0 by rw [hv];rfl] at h;exact h:Calls Tryz.prog 34 #[.agg #[.int .i64 v.kind, .int .i64 v.n, .int .i64 v.d, .string v.s, .slice A 0 k]] W fun e w'=>e= .returned (.bool true)∧Ext W w'))
  have hlow:=zcm (c:=zn) (k:=zbr) H key
  have HD:=Lib.hid (zwb (H:=H) key)
  have hlt:=((zu zae.str hs key).1 hx).1
  generalize zg zn zbr H key=L at *
  have HDEL:=Lib.hid (fun W (e:Ext w W)=>zsa base W (H.flatMap HP.enc) H.length V L (zag hown e) (zid H) hlt Qk)
  have HFL:=Lib.hid (zh5 HP.enc 6 (fun _=>rfl) H L)
  have HLN:=Lib.hid (show (H.take L ++ H.drop (L+1)).length=H.length - 1 by rw [List.length_append,List.length_take,List.length_drop];omega)
  have hwr:IntKind.i64.wrap ((L:Int)+1)=(L:Int)+1:=IntWalk.i64_in _ Qk
  have HW1:=Lib.hid hw1
  have HQ:=Lib.hid hq
  have HBD:Hid (w.heap.size≤q):=Lib.hid Qk
  have HO:=Lib.hid hown
  clear hw1 hq hz hown hs hv hn hx
  go_enter Tryz.func130,Tryz.ntmps130
  go_upto_region 1 with (fail)
  rw [←HW1.out,←HQ.out]
  go_upto_region 2 with ((go_at_call 174;((with_reducible refine (HB.out).mono ?_);rintro e w2 ⟨rfl,hx2⟩)))
  have hE2:=hx1.trans hx2
  have r0:=hx2.cell p0
  have r1:=hx2.cell p1
  have r2:=hx2.cell p2
  have r3:=hx2.cell p3
  have r4:=hx2.cell p4
  clear p0 p1 p2 p3 p4 hx1 hx2
  go_upto_region 3 with ((go_at_call 34;((with_reducible refine (HNU.out _ Qg).mono ?_);rintro e w4 ⟨rfl,hx4⟩;have hE4:Ext w w4:=Ext.trans Qg hx4;have m0:=hx4.cell r0;have m1:=hx4.cell r1;have m2:=hx4.cell r2;have m3:=hx4.cell r3;have m4:=hx4.cell r4)))
  go_wp2_with ((go_at_call 176;((with_reducible refine (HDEL.out _ Qg).mono ?_);rintro e w6 ⟨v6,rfl,hR⟩)))
  go_ret
  rw [←HLN.out,←HFL.out] at hR
  exact ⟨v6,H.take L ++ H.drop (L+1),rfl,HD.out,zaa.pre Qg hR⟩
theorem zpg (H:List HP) (base:Nat) (V:Value) (key:ByteArray) (v:Val) (A:Option Addr) (k:Nat) (w:World) (hz:zq w) (hown:w.ownsRow base 54 6 V H.length (H.flatMap HP.enc)) (hs:za0 zn zbr H) (hl:H.length≤100) (hv:v.l=[]) (hn:zby v=true) (hx:¬ ∃ h ∈ H,zbr h=key) :
    Calls Tryz.prog 130 #[V, .string key, .agg #[.int .i64 v.kind, .int .i64 v.n, .int .i64 v.d, .string v.s, .slice A 0 k]] w fun e w' => ∃ (v':Value) (H':List HP),e= .returned v'∧H'.map HP.p=H.map HP.p∧zaa base 54 6 w V w' v' H'.length (H'.flatMap HP.enc):=by
  obtain ⟨q,w1,hq,hw1,hc,hx1,-⟩:=zbt w v A k 28
  obtain ⟨p0,p1,p2,p3,p4⟩:=hc
  rw [show v.l.length=0 by rw [hv];rfl] at p4 hw1
  have HB:=Lib.hid (zig H base V key w1 (zag hown hx1) hs Qk)
  rw [show decide (∃ a ∈ H,zbr a=key)=false from decide_eq_false hx] at HB
  have HNU:=Lib.hid (fun W (e:Ext w W)=>(by have h:=zeu v (fun _=>True) A k W (hz.ext e) (by rw [hv];exact zo.nil _ _ _);rw [hn,show v.l.length=0 by rw [hv];rfl] at h;exact h:Calls Tryz.prog 34 #[.agg #[.int .i64 v.kind, .int .i64 v.n, .int .i64 v.d, .string v.s, .slice A 0 k]] W fun e w'=>e= .returned (.bool true)∧Ext W w'))
  have hlow:=zcm (c:=zn) (k:=zbr) H key
  generalize zg zn zbr H key=L at *
  have HW1:=Lib.hid hw1
  have HQ:=Lib.hid hq
  have HBD:Hid (w.heap.size≤q):=Lib.hid Qk
  have HO:=Lib.hid hown
  clear hw1 hq hz hown hs hv hn hx
  go_enter Tryz.func130,Tryz.ntmps130
  go_upto_region 1 with (fail)
  rw [←HW1.out,←HQ.out]
  go_upto_region 2 with ((go_at_call 174;((with_reducible refine (HB.out).mono ?_);rintro e w2 ⟨rfl,hx2⟩)))
  have hE2:=hx1.trans hx2
  have r0:=hx2.cell p0
  have r1:=hx2.cell p1
  have r2:=hx2.cell p2
  have r3:=hx2.cell p3
  have r4:=hx2.cell p4
  clear p0 p1 p2 p3 p4 hx1 hx2
  go_upto_region 4 with ((go_at_call 34;((with_reducible refine (HNU.out _ Qg).mono ?_);rintro e w4 ⟨rfl,hx4⟩;have hE4:Ext w w4:=Ext.trans Qg hx4;have m0:=hx4.cell r0;have m1:=hx4.cell r1;have m2:=hx4.cell r2;have m3:=hx4.cell r3;have m4:=hx4.cell r4)))
  go_upto_region 5 with ((go_at_call 34;((with_reducible refine (HNU.out _ Qg).mono ?_);rintro e w5 ⟨rfl,hx5⟩;have hE5:Ext w w5:=Ext.trans Qg hx5;have n0:=hx5.cell m0;have n1:=hx5.cell m1;have n2:=hx5.cell m2;have n3:=hx5.cell m3;have n4:=hx5.cell m4)))
  go_wp2_with fail
  go_ret
  exact ⟨V,H,rfl,rfl,zaa.same HO.out Qg⟩
theorem zr3 (H:List HP) (base:Nat) (V:Value) (key:ByteArray) (v:Val) (A:Option Addr) (k:Nat) (w:World) (hz:zq w) (hown:w.ownsRow base 54 6 V H.length (H.flatMap HP.enc)) (hs:za0 zn zbr H) (hl:H.length≤100) (hv:v.l=[]) (hn:zby v=false) (hx:∃ h ∈ H,zbr h=key) :
    Calls Tryz.prog 130 #[V, .string key, .agg #[.int .i64 v.kind, .int .i64 v.n, .int .i64 v.d, .string v.s, .slice A 0 k]] w fun e w' => ∃ (v':Value) (H':List HP),e= .returned v'∧H'.map HP.p=zcc zn zaf.key (H.map HP.p) ⟨key,v⟩∧zaa base 54 6 w V w' v' H'.length (H'.flatMap HP.enc):=by
  obtain ⟨q,w1,hq,hw1,hc,hx1,-⟩:=zbt w v A k 28
  obtain ⟨p0,p1,p2,p3,p4⟩:=hc
  rw [show v.l.length=0 by rw [hv];rfl] at p4 hw1
  have HB:=Lib.hid (zig H base V key w1 (zag hown hx1) hs Qk)
  rw [show decide (∃ a ∈ H,zbr a=key)=true from decide_eq_true hx] at HB
  have HNU:=Lib.hid (fun W (e:Ext w W)=>(by have h:=zeu v (fun _=>True) A k W (hz.ext e) (by rw [hv];exact zo.nil _ _ _);rw [hn,show v.l.length=0 by rw [hv];rfl] at h;exact h:Calls Tryz.prog 34 #[.agg #[.int .i64 v.kind, .int .i64 v.n, .int .i64 v.d, .string v.s, .slice A 0 k]] W fun e w'=>e= .returned (.bool false)∧Ext W w'))
  have hlow:=zcm (c:=zn) (k:=zbr) H key
  have HD:=Lib.hid (zxc (H:=H) ⟨⟨key,v⟩,A,k⟩)
  have hlt:=((zu zae.str hs key).1 hx).1
  have hkey:=((zu zae.str hs key).1 hx).2
  dsimp only at HD
  generalize zg zn zbr H key=L at *
  rw [getElem!_pos H L hlt] at hkey
  obtain ⟨gV,cV,cur,hVe,-⟩:=zbp hown Qk
  subst hVe
  have HP5:=Lib.hid (fun W (e:Ext w W)=>zw9 (zag hown e) L ⟨⟨key,v⟩,A,k⟩ hlt hkey.symm)
  have q1:(0:Int)≤(L:Int):=by omega
  have q2:(L:Int) < (H.length:Int):=by omega
  have HZ5:=Lib.hid (fun W (e:Ext w W) o=>(za5.frz (τ:=fun _=>Tg.self) (T:=Tg.self) ⟨zag hown e,fun _ _=>rfl⟩ o:W.frozen? ⟨gV,o,none⟩=false))
  have HC5:=Lib.hid (fun W (e:Ext w W)=>zrc (zag hown e) L hlt)
  clear hkey
  have HW1:=Lib.hid hw1
  have HQ:=Lib.hid hq
  have HBD:Hid (w.heap.size≤q):=Lib.hid Qk
  have HO:=Lib.hid hown
  clear hw1 hq hz hown hs hv hn hx
  go_enter Tryz.func130,Tryz.ntmps130
  go_upto_region 1 with (fail)
  rw [←HW1.out,←HQ.out]
  go_upto_region 2 with ((go_at_call 174;((with_reducible refine (HB.out).mono ?_);rintro e w2 ⟨rfl,hx2⟩)))
  have hE2:=hx1.trans hx2
  have r0:=hx2.cell p0
  have r1:=hx2.cell p1
  have r2:=hx2.cell p2
  have r3:=hx2.cell p3
  have r4:=hx2.cell p4
  clear p0 p1 p2 p3 p4 hx1 hx2
  go_upto_region 4 with ((go_at_call 34;((with_reducible refine (HNU.out _ Qg).mono ?_);rintro e w4 ⟨rfl,hx4⟩;have hE4:Ext w w4:=Ext.trans Qg hx4;have m0:=hx4.cell r0;have m1:=hx4.cell r1;have m2:=hx4.cell r2;have m3:=hx4.cell r3;have m4:=hx4.cell r4)))
  go_upto_region 6 with ((go_at_call 34;((with_reducible refine (HNU.out _ Qg).mono ?_);rintro e w5 ⟨rfl,hx5⟩;have hE5:Ext w w5:=Ext.trans Qg hx5;have n0:=hx5.cell m0;have n1:=hx5.cell m1;have n2:=hx5.cell m2;have n3:=hx5.cell m3;have n4:=hx5.cell m4)))
  have k1:w5.cell? ⟨gV,L*6+1,none⟩=some (.int .i64 H[L]!.p.v.kind):=HC5.out w5 hE5 1 Qj _ rfl
  have k2:w5.cell? ⟨gV,L*6+1+1,none⟩=some (.int .i64 H[L]!.p.v.n):=HC5.out w5 hE5 2 Qj _ rfl
  have k3:w5.cell? ⟨gV,L*6+1+2,none⟩=some (.int .i64 H[L]!.p.v.d):=HC5.out w5 hE5 3 Qj _ rfl
  have k4:w5.cell? ⟨gV,L*6+1+3,none⟩=some (.string H[L]!.p.v.s):=HC5.out w5 hE5 4 Qj _ rfl
  have k5:w5.cell? ⟨gV,L*6+1+4,none⟩=some (.slice H[L]!.A 0 H[L]!.c):=HC5.out w5 hE5 5 Qj _ rfl
  have f1:=HZ5.out w5 hE5 (L*6+1)
  have f2:=HZ5.out w5 hE5 (L*6+1+1)
  have f3:=HZ5.out w5 hE5 (L*6+1+2)
  have f4:=HZ5.out w5 hE5 (L*6+1+3)
  have f5:=HZ5.out w5 hE5 (L*6+1+4)
  go_wp2_with fail
  go_ret
  exact ⟨_,H.set L ⟨⟨key,v⟩,A,k⟩,rfl,HD.out,zaa.pre hE5 (HP5.out w5 hE5)⟩
theorem zq9 (H:List HP) (base:Nat) (V:Value) (key:ByteArray) (v:Val) (A:Option Addr) (k:Nat) (w:World) (hz:zq w) (hown:w.ownsRow base 54 6 V H.length (H.flatMap HP.enc)) (hs:za0 zn zbr H) (hl:H.length≤100) (hv:v.l=[]) (hn:zby v=false) (hx:¬ ∃ h ∈ H,zbr h=key) (hb:base≤w.heap.size) (h16:H.length < 16) :
    Calls Tryz.prog 130 #[V, .string key, .agg #[.int .i64 v.kind, .int .i64 v.n, .int .i64 v.d, .string v.s, .slice A 0 k]] w fun e w' => ∃ (v':Value) (H':List HP),e= .returned v'∧H'.map HP.p=zc6 zn zaf.key (H.map HP.p) ⟨key,v⟩∧zaa base 54 6 w V w' v' H'.length (H'.flatMap HP.enc):=by
  obtain ⟨q,w1,hq,hw1,hc,hx1,-⟩:=zbt w v A k 28
  obtain ⟨p0,p1,p2,p3,p4⟩:=hc
  rw [show v.l.length=0 by rw [hv];rfl] at p4 hw1
  have HB:=Lib.hid (zig H base V key w1 (zag hown hx1) hs Qk)
  rw [show decide (∃ a ∈ H,zbr a=key)=false from decide_eq_false hx] at HB
  have HNU:=Lib.hid (fun W (e:Ext w W)=>(by have h:=zeu v (fun _=>True) A k W (hz.ext e) (by rw [hv];exact zo.nil _ _ _);rw [hn,show v.l.length=0 by rw [hv];rfl] at h;exact h:Calls Tryz.prog 34 #[.agg #[.int .i64 v.kind, .int .i64 v.n, .int .i64 v.d, .string v.s, .slice A 0 k]] W fun e w'=>e= .returned (.bool false)∧Ext W w'))
  have hlow:=zcm (c:=zn) (k:=zbr) H key
  have HD:=Lib.hid (zv3 (H:=H) ⟨⟨key,v⟩,A,k⟩)
  dsimp only at HD
  generalize zg zn zbr H key=L at *
  have HINS:=Lib.hid (fun W (e:Ext w W)=>zre base (W.alloc (.cells #[.string key, .int .i64 v.kind, .int .i64 v.n, .int .i64 v.d, .string v.s, .slice A 0 k] 54)) (H.flatMap HP.enc) (HP.enc ⟨⟨key,v⟩,A,k⟩) H.length V W.heap.size L (zag hown (e.alloc _)) (Nat.le_trans hb (e.alloc _).le) (heap_alloc_new W _) (zd0 (zag hown e) (Nat.le_refl _)) (zil H) (zid H) rfl (HP.enc_one _) hlow Qk)
  have HFL:=Lib.hid (zh6 HP.enc 6 (fun _=>rfl) H ⟨⟨key,v⟩,A,k⟩ L)
  have HLN:=Lib.hid (show (H.take L ++ (⟨⟨key,v⟩,A,k⟩:HP) :: H.drop L).length=H.length+1 by rw [List.length_append,List.length_cons,List.length_take,List.length_drop];omega)
  obtain ⟨AV,cV,hVe⟩:=zao hown
  subst hVe
  have q16:decide ((H.length:Int) < 16)=true:=decide_eq_true Qk
  have HW1:=Lib.hid hw1
  have HQ:=Lib.hid hq
  have HBD:Hid (w.heap.size≤q):=Lib.hid Qk
  have HO:=Lib.hid hown
  clear hw1 hq hz hown hs hv hn hx
  go_enter Tryz.func130,Tryz.ntmps130
  go_upto_region 1 with (fail)
  rw [←HW1.out,←HQ.out]
  go_upto_region 2 with ((go_at_call 174;((with_reducible refine (HB.out).mono ?_);rintro e w2 ⟨rfl,hx2⟩)))
  have hE2:=hx1.trans hx2
  have r0:=hx2.cell p0
  have r1:=hx2.cell p1
  have r2:=hx2.cell p2
  have r3:=hx2.cell p3
  have r4:=hx2.cell p4
  clear p0 p1 p2 p3 p4 hx1 hx2
  go_upto_region 4 with ((go_at_call 34;((with_reducible refine (HNU.out _ Qg).mono ?_);rintro e w4 ⟨rfl,hx4⟩;have hE4:Ext w w4:=Ext.trans Qg hx4;have m0:=hx4.cell r0;have m1:=hx4.cell r1;have m2:=hx4.cell r2;have m3:=hx4.cell r3;have m4:=hx4.cell r4)))
  go_upto_region 6 with ((go_at_call 34;((with_reducible refine (HNU.out _ Qg).mono ?_);rintro e w5 ⟨rfl,hx5⟩;have hE5:Ext w w5:=Ext.trans Qg hx5;have n0:=hx5.cell m0;have n1:=hx5.cell m1;have n2:=hx5.cell m2;have n3:=hx5.cell m3;have n4:=hx5.cell m4)))
  go_upto_region 10 with ((go_at_call 124;((with_reducible refine (zv _ _).mono ?_);rintro e w6 ⟨rfl,rfl⟩)))
  go_wp2_with ((go_at_call 177;((with_reducible refine (HINS.out _ Qg).mono ?_);rintro e w7 ⟨v7,rfl,hR⟩)))
  go_ret
  rw [←HLN.out,←HFL.out] at hR
  exact ⟨v7,_,rfl,HD.out,zaa.pre Qg hR⟩
theorem zo4 (H:List HP) (base:Nat) (V:Value) (key:ByteArray) (v:Val) (A:Option Addr) (k:Nat) (w:World) (hz:zq w) (hown:w.ownsRow base 54 6 V H.length (H.flatMap HP.enc)) (hs:za0 zn zbr H) (hl:H.length≤100) (hv:v.l=[]) (hn:zby v=false) (hx:¬ ∃ h ∈ H,zbr h=key) (h16:16≤H.length) :
    Calls Tryz.prog 130 #[V, .string key, .agg #[.int .i64 v.kind, .int .i64 v.n, .int .i64 v.d, .string v.s, .slice A 0 k]] w fun e w'=>e= .panicked [{ v:= .iface 105 (.int .i64 20),recovered:=false }]∧Ext w w':=by
  obtain ⟨q,w1,hq,hw1,hc,hx1,-⟩:=zbt w v A k 28
  obtain ⟨p0,p1,p2,p3,p4⟩:=hc
  rw [show v.l.length=0 by rw [hv];rfl] at p4 hw1
  have HB:=Lib.hid (zig H base V key w1 (zag hown hx1) hs Qk)
  rw [show decide (∃ a ∈ H,zbr a=key)=false from decide_eq_false hx] at HB
  have HNU:=Lib.hid (fun W (e:Ext w W)=>(by have h:=zeu v (fun _=>True) A k W (hz.ext e) (by rw [hv];exact zo.nil _ _ _);rw [hn,show v.l.length=0 by rw [hv];rfl] at h;exact h:Calls Tryz.prog 34 #[.agg #[.int .i64 v.kind, .int .i64 v.n, .int .i64 v.d, .string v.s, .slice A 0 k]] W fun e w'=>e= .returned (.bool false)∧Ext W w'))
  have hlow:=zcm (c:=zn) (k:=zbr) H key
  generalize zg zn zbr H key=L at *
  obtain ⟨AV,cV,hVe⟩:=zao hown
  subst hVe
  have q16:decide ((H.length:Int) < 16)=false:=decide_eq_false Qk
  have HW1:=Lib.hid hw1
  have HQ:=Lib.hid hq
  have HBD:Hid (w.heap.size≤q):=Lib.hid Qk
  have HO:=Lib.hid hown
  clear hw1 hq hz hown hs hv hn hx
  go_enter Tryz.func130,Tryz.ntmps130
  go_upto_region 1 with (fail)
  rw [←HW1.out,←HQ.out]
  go_upto_region 2 with ((go_at_call 174;((with_reducible refine (HB.out).mono ?_);rintro e w2 ⟨rfl,hx2⟩)))
  have hE2:=hx1.trans hx2
  have r0:=hx2.cell p0
  have r1:=hx2.cell p1
  have r2:=hx2.cell p2
  have r3:=hx2.cell p3
  have r4:=hx2.cell p4
  clear p0 p1 p2 p3 p4 hx1 hx2
  go_upto_region 4 with ((go_at_call 34;((with_reducible refine (HNU.out _ Qg).mono ?_);rintro e w4 ⟨rfl,hx4⟩;have hE4:Ext w w4:=Ext.trans Qg hx4;have m0:=hx4.cell r0;have m1:=hx4.cell r1;have m2:=hx4.cell r2;have m3:=hx4.cell r3;have m4:=hx4.cell r4)))
  go_upto_region 6 with ((go_at_call 34;((with_reducible refine (HNU.out _ Qg).mono ?_);rintro e w5 ⟨rfl,hx5⟩;have hE5:Ext w w5:=Ext.trans Qg hx5;have n0:=hx5.cell m0;have n1:=hx5.cell m1;have n2:=hx5.cell m2;have n3:=hx5.cell m3;have n4:=hx5.cell m4)))
  go_wp2_with ((go_at_call 124;((with_reducible refine (zba _ _).mono ?_);rintro e w6 ⟨rfl,rfl⟩)))
  exact ⟨rfl,rfl,Qg⟩
theorem zx2 (a b:ByteArray):Op.bytesLess a.toList b.toList=decide (zn a b < 0):=by
  unfold zn
  cases h1:Op.bytesLess a.toList b.toList
  · cases h2:(a.toList == b.toList) <;> rfl
  · rfl
theorem zyd (a b:ByteArray):(a.toList == b.toList)=decide (a=b):=by
  rw [Bool.eq_iff_iff,beq_iff_eq,decide_eq_true_iff,ByteArray.toList_eq,ByteArray.toList_eq]
  exact ⟨fun h=>ByteArray.ext (Array.toList_inj.1 h),fun h=>by rw [h]⟩
theorem znp (x:ByteArray) (w:World):Calls Tryz.prog 171 #[.string x] w fun e w'=>e= .returned (.bool false)∧w'=w:=by
  go_enter Tryz.func171,Tryz.ntmps171
  go_wp2_with fail
  go_ret
  exact ⟨rfl,rfl⟩
theorem zk7 (a b:ByteArray) (w:World):Calls Tryz.prog 170 #[.string a, .string b] w fun e w'=>e= .returned (.bool (decide (zn a b < 0)))∧w'=w:=by
  rw [←zx2]
  go_enter Tryz.func170,Tryz.ntmps170
  go_wp2_with ((go_at_call 146;((with_reducible refine (zhi _ _).mono ?_);rintro e w' ⟨rfl,rfl⟩)))
  go_ret
  exact ⟨rfl,rfl⟩
theorem zqx (l:List ByteArray) (base:Nat) (V:Value) (x:ByteArray) (w:World) (hV:w.ownsRow base 9 1 V l.length (zdn l)) (hs:za0 zn (fun s:ByteArray=>s) l) (hl:l.length≤100000) :
    Calls Tryz.prog 127 #[V, .string x] w fun e w'=>e= .returned (.tuple #[.int .i64 ((zg zn (fun s:ByteArray=>s) l x:Nat):Int), .bool (decide (∃ a ∈ l,a=x))])∧Ext w w':=by
  obtain ⟨A,c,rfl⟩:=zao hV
  have HA:=Lib.hid (fun (h:0 < l.length)=>(by
    obtain ⟨g,cap,cur,e,-⟩:=zbp hV h
    injection e with e1 e2 e3
    exact ⟨g,e1⟩:∃ g,A=some ⟨g,0,none⟩))
  have HR:=Lib.hid (fun (g:Nat) (hA:A=some ⟨g,0,none⟩) (i:Nat) (h:i < l.length)=>(by
    subst hA
    rw [World.ownsRow.cellAt hV i Qk]
    unfold zdn
    rw [List.getElem?_map,List.getElem?_eq_getElem h,getElem!_pos l i h];rfl:w.cell? ⟨g,i,none⟩=some (.string l[i]!)))
  have HI:=Lib.hid (fun (i:Nat) (h:i < l.length)=>(by rw [getElem!_pos l i h];exact ziz (k:=fun s:ByteArray=>s) zae.str hs x h:zn l[i]! x < 0 ↔ i < zg zn (fun s:ByteArray=>s) l x))
  have HM:=Lib.hid (zu (k:=fun s:ByteArray=>s) zae.str hs x)
  have hlo:=zcm (c:=zn) (k:=fun s:ByteArray=>s) l x
  generalize hL:zg zn (fun s:ByteArray=>s) l x=L at *
  clear hV hs hL
  generalize hR:decide (∃ a ∈ l,a=x)=R
  have HB:=Lib.hid hR
  clear hR
  go_enter Tryz.func127,Tryz.ntmps127
  go_wp2_with fail
  go_loopw [7,8] (fun u v W => ∃ i j:Nat,u= .int .i64 i∧v= .int .i64 j∧i≤L∧L≤j∧j≤l.length∧Ext w W) (fun u v _=>(intOf v - intOf u).toNat)
  case atStart=>exact ⟨0,l.length,rfl,rfl,Nat.zero_le _,hlo,Nat.le_refl _,Ext.refl _⟩
  case round =>
    obtain ⟨i,j,rfl,rfl,hi,hj,hjl,hE⟩:=hrel
    by_cases hlt:i < j
    · have hm1:(i+j) / 2 < l.length:=by omega
      obtain ⟨g,rfl⟩:=HA.out Qk
      have d0:=hE.cell (HR.out g rfl ((i+j) / 2) hm1)
      have HX:=Lib.hid (HI.out ((i+j) / 2) hm1)
      generalize l[(i+j) / 2]! = y at *
      have q1:(0:Int)≤((i:Int)+(j:Int)) / 2:=by omega
      have q2:((i:Int)+(j:Int)) / 2 < (l.length:Int):=by omega
      have q3:(((i:Int)+(j:Int)) / 2).toNat=(i+j) / 2:=by omega
      by_cases ho:zn y x < 0
      · have HC:=Lib.hid (fun W=>zk7 y x W)
        rw [decide_eq_true ho] at HC
        have HY:=Lib.hid (HX.out.1 ho)
        clear ho HX
        go_wp2_with ((go_at_call 170;((with_reducible refine (HC.out _).mono ?_);rintro e w8 ⟨rfl,rfl⟩)))
        have hy:=HY.out
        go_roundw
        case rel=>exact ⟨(i+j) / 2+1,j,congrArg (Value.int .i64) Qk,rfl,by omega,hj,hjl,hE⟩
        case measure=>simp [intOf];omega
      · have HC:=Lib.hid (fun W=>zk7 y x W)
        rw [decide_eq_false ho] at HC
        have HY:=Lib.hid ((by refine Nat.le_of_not_lt (fun h3=>ho (HX.out.2 h3))):L≤(i+j) / 2)
        clear ho HX
        go_wp2_with ((go_at_call 170;((with_reducible refine (HC.out _).mono ?_);rintro e w8 ⟨rfl,rfl⟩)))
        have hy:=HY.out
        go_roundw
        case rel=>exact ⟨i,(i+j) / 2,rfl,congrArg (Value.int .i64) Qk,hi,hy,by omega,hE⟩
        case measure=>simp [intOf];omega
    · obtain rfl:i=j:=by omega
      obtain rfl:i=L:=by omega
      by_cases hin:i < l.length
      · obtain ⟨g,rfl⟩:=HA.out Qk
        have d0:=hE.cell (HR.out g rfl i hin)
        have HT:=Lib.hid (show R=decide (l[i]! = x) by
          rw [←HB.out]
          exact decide_eq_decide.2 (HM.out.trans ⟨fun h=>h.2,fun h=>⟨hin,h⟩⟩))
        have HZ:=Lib.hid (zyd l[i]! x)
        generalize l[i]! = y at *
        have q1:(i:Int) < (l.length:Int):=by omega
        cases he:decide (y=x) with
        | true =>
          have hz1:(y.toList == x.toList)=true:=HZ.out.trans he
          have hz2:decide (y.toList=x.toList)=true:=by rw [←hz1];rw [Bool.eq_iff_iff,decide_eq_true_iff,beq_iff_eq]
          clear HR HB HM HZ
          go_wp2_with ((go_at_call 171;((with_reducible refine (znp _ _).mono ?_);rintro e w8 ⟨rfl,rfl⟩)))
          go_ret2
          exact ⟨by rw [HT.out,he];rfl,hE⟩
        | false =>
          have hz1:(y.toList == x.toList)=false:=HZ.out.trans he
          have hz2:decide (y.toList=x.toList)=false:=by rw [←hz1];rw [Bool.eq_iff_iff,decide_eq_true_iff,beq_iff_eq]
          clear HR HB HM HZ
          go_wp2_with ((go_at_call 171;((with_reducible refine (znp _ _).mono ?_);rintro e w8 ⟨rfl,rfl⟩)))
          go_ret2
          exact ⟨by rw [HT.out,he];rfl,hE⟩
      · have HT:=Lib.hid (show R=false by
          rw [←HB.out]
          exact decide_eq_false (fun h=>hin (HM.out.1 h).1))
        have q1:¬ (i:Int) < (l.length:Int):=by omega
        clear HB HM
        go_wp2_with fail
        go_ret2
        exact ⟨by rw [HT.out];rfl,hE⟩
theorem zmj (wb w0 w:World) (D:Nat) (g:za) (x f t:Int) (nm:ByteArray) (v:Val) (A:Option Addr) (k:Nat) (h:zt w0 wb.heap.size D g) (hw0:Ext w0 w) (hE:Ext wb w) (hv:VG g) (hhas:zav g.nodes x=true) :
    Calls Tryz.prog 88 #[.pointer (some ⟨D,0,none⟩), .agg #[.int .i64 1, .int .i64 x, .int .i64 f, .int .i64 t, .string nm, .int .i64 v.kind, .int .i64 v.n, .int .i64 v.d, .string v.s, .slice A v.l.length k]] w fun e w'=>e= .panicked [{ v:= .iface 105 (.int .i64 7),recovered:=false }]∧Ext w w':=by
  obtain ⟨τ,V,E,lv,pv,ev,hp,he,h0⟩:=h
  have h:=h0.ext hw0
  obtain ⟨AV,cV,hVe⟩:=h.nodes.form
  subst hVe
  obtain ⟨q,w1,hq,hw1,hc,hx1⟩:=zy w ⟨1,x,f,t,nm,v⟩ A k 30
  obtain ⟨a0,a1,a2,a3,a4,a5,a6,a7,a8,a9⟩:=hc
  dsimp only at a0 a1 a2 a3 a4 a5 a6 a7 a8 a9 hw1
  have HND:=Lib.hid (zap (h.ext hx1) hv.ns hv.nl x)
  rw [hhas] at HND
  have hlow:=zcm (c:=cI) (k:=zb.id) g.nodes x
  have hqs:w.heap.size≤q:=by omega
  have hDs:D < w.heap.size:=(h.self.lt rfl).2
  generalize ((zg cI zb.id g.nodes x:Nat):Int)=L at *
  have HX0:=Lib.hid (hE.trans hx1)
  have HW1:=Lib.hid hw1
  have HQ:=Lib.hid hq
  clear hw1 hq
  clear h h0 hw0 hE hv hhas hlow hqs hDs
  go_enter Tryz.func88,Tryz.ntmps88
  go_upto_region 1 with (fail)
  rw [←HW1.out,←HQ.out]
  go_upto_region 2 with ((go_at_call 90;((with_reducible refine (HND.out).mono ?_);rintro e w2 ⟨rfl,hx2⟩)))
  have hE2:Ext w w2:=hx1.trans hx2
  have b0:=hx2.cell a0
  have b1:=hx2.cell a1
  go_wp2_with ((go_at_call 124;((with_reducible refine (zba _ _).mono ?_);rintro e w6 ⟨rfl,hw6⟩;obtain rfl:=hw6.symm)))
  exact ⟨rfl,rfl,Qg⟩
theorem zl8 (wb w0 w:World) (D:Nat) (g:za) (x f t:Int) (nm:ByteArray) (v:Val) (A:Option Addr) (k:Nat) (h:zt w0 wb.heap.size D g) (hw0:Ext w0 w) (hE:Ext wb w) (hv:VG g) (hhas:zav g.nodes x=false) (hl:2000≤g.nodes.length) :
    Calls Tryz.prog 88 #[.pointer (some ⟨D,0,none⟩), .agg #[.int .i64 1, .int .i64 x, .int .i64 f, .int .i64 t, .string nm, .int .i64 v.kind, .int .i64 v.n, .int .i64 v.d, .string v.s, .slice A v.l.length k]] w fun e w'=>e= .panicked [{ v:= .iface 105 (.int .i64 20),recovered:=false }]∧Ext w w':=by
  obtain ⟨τ,V,E,lv,pv,ev,hp,he,h0⟩:=h
  have h:=h0.ext hw0
  obtain ⟨AV,cV,hVe⟩:=h.nodes.form
  subst hVe
  obtain ⟨q,w1,hq,hw1,hc,hx1⟩:=zy w ⟨1,x,f,t,nm,v⟩ A k 30
  obtain ⟨a0,a1,a2,a3,a4,a5,a6,a7,a8,a9⟩:=hc
  dsimp only at a0 a1 a2 a3 a4 a5 a6 a7 a8 a9 hw1
  have HND:=Lib.hid (zap (h.ext hx1) hv.ns hv.nl x)
  rw [hhas] at HND
  have hlow:=zcm (c:=cI) (k:=zb.id) g.nodes x
  have hqs:w.heap.size≤q:=by omega
  have hDs:D < w.heap.size:=(h.self.lt rfl).2
  have c0:=hx1.cell h.cells.1
  generalize ((zg cI zb.id g.nodes x:Nat):Int)=L at *
  have HX0:=Lib.hid (hE.trans hx1)
  have q20:decide ((g.nodes.length:Int) < 2000)=false:=decide_eq_false Qk
  have HW1:=Lib.hid hw1
  have HQ:=Lib.hid hq
  clear hw1 hq
  clear h h0 hw0 hE hv hhas hlow hqs hDs hl
  go_enter Tryz.func88,Tryz.ntmps88
  go_upto_region 1 with (fail)
  rw [←HW1.out,←HQ.out]
  go_upto_region 2 with ((go_at_call 90;((with_reducible refine (HND.out).mono ?_);rintro e w2 ⟨rfl,hx2⟩)))
  have hE2:Ext w w2:=hx1.trans hx2
  have b0:=hx2.cell a0
  have b1:=hx2.cell a1
  have d0:=hx2.cell c0
  go_upto_region 4 with ((go_at_call 124;((with_reducible refine (zv _ _).mono ?_);rintro e w6 ⟨rfl,hw6⟩;obtain rfl:=hw6.symm)))
  go_wp2_with ((go_at_call 124;((with_reducible refine (zba _ _).mono ?_);rintro e w6 ⟨rfl,hw6⟩;obtain rfl:=hw6.symm)))
  exact ⟨rfl,rfl,Qg⟩
theorem zoo (wb w0 w:World) (D:Nat) (g:za) (x f t:Int) (nm:ByteArray) (v:Val) (A:Option Addr) (k:Nat) (h:zt w0 wb.heap.size D g) (hw0:Ext w0 w) (hE:Ext wb w) (hv:VG g) (hhas:zav g.nodes x=false) (hl:g.nodes.length < 2000) (hx:1≤x∧x≤1000000) :
    Calls Tryz.prog 88 #[.pointer (some ⟨D,0,none⟩), .agg #[.int .i64 1, .int .i64 x, .int .i64 f, .int .i64 t, .string nm, .int .i64 v.kind, .int .i64 v.n, .int .i64 v.d, .string v.s, .slice A v.l.length k]] w fun e w'=>e= .returned (.tuple #[])∧zt w' wb.heap.size D ⟨zc6 cI zb.id g.nodes ⟨x,[],[]⟩,g.edges,max g.nn (x+1),g.ne⟩∧Ext wb w'∧zb3 w0 w w':=by
  obtain ⟨τ,V,E,lv,pv,ev,hp,he,h0⟩:=h
  have h:=h0.ext hw0
  obtain ⟨AV,cV,hVe⟩:=h.nodes.form
  subst hVe
  obtain ⟨q,w1,hq,hw1,hc,hx1⟩:=zy w ⟨1,x,f,t,nm,v⟩ A k 30
  obtain ⟨a0,a1,a2,a3,a4,a5,a6,a7,a8,a9⟩:=hc
  dsimp only at a0 a1 a2 a3 a4 a5 a6 a7 a8 a9 hw1
  have HND:=Lib.hid (zap (h.ext hx1) hv.ns hv.nl x)
  rw [hhas] at HND
  have hlow:=zcm (c:=cI) (k:=zb.id) g.nodes x
  have hqs:w.heap.size≤q:=by omega
  have hDs:D < w.heap.size:=(h.self.lt rfl).2
  have hno:¬ ∃ n ∈ g.nodes,n.id=x:=fun hx=>by rw [zb2.2 hx] at hhas;cases hhas
  have c0:=hx1.cell h.cells.1
  have HADD:=Lib.hid (fun W (e:Ext w W) w7 v7=>(h.ext e).addNode (w':=w7) (v':=v7) x hno)
  generalize zg cI zb.id g.nodes x=L at *
  have HX0:=Lib.hid hE
  have hb0:wb.heap.size≤w.heap.size:=hE.le
  have HINS:=Lib.hid (fun W (e:Ext w W)=>zrl wb.heap.size ((W.alloc (.cells #[.int .i64 x, .slice none 0 0, .slice none 0 0] 57)).drew) (g.nodes.flatMap (zbj lv pv)) [.int .i64 x, .slice none 0 0, .slice none 0 0] g.nodes.length (.slice AV g.nodes.length cV) W.heap.size L (zag h.nodes.own (e.alloc _).drew) (Nat.le_trans hb0 (e.alloc _).drew.le) (heap_alloc_new W _) (zd0 (zag h.nodes.own e) (Nat.le_refl _)) (zli lv pv g.nodes) h.oneN rfl (by simp [Value.oneCell']) hlow Qk)
  have HSELF:=Lib.hid (fun W (e:Ext w W) w7 hg=>(h.ext e).selfK (w':=w7) hg (h.ext e).tagN)
  have HNB:=Lib.hid (zd0 h.nodes.own hqs)
  have HRB:=Lib.hid (fun b (hb:(Value.slice AV g.nodes.length cV).ownBlock=some b)=>h0.nodes.edb zdc hw0 hb)
  have HDB:Hid (EdB w0 w D):=Lib.hid (h0.self.edb zgl hw0 rfl)
  have HDQ:Hid (D ≠ q):=Lib.hid Qk
  have q20:decide ((g.nodes.length:Int) < 2000)=true:=decide_eq_true Qk
  have hwr:IntKind.i64.wrap (x+1)=x+1:=IntWalk.i64_in _ Qk
  have HW1:=Lib.hid hw1
  have HQ:=Lib.hid hq
  clear hw1 hq
  clear h h0 hw0 hE hv hhas hlow hqs hDs hno hx hb0 hl
  go_enter Tryz.func88,Tryz.ntmps88
  go_upto_region 1 with (fail)
  rw [←HW1.out,←HQ.out]
  go_upto_region 2 with ((go_at_call 90;((with_reducible refine (HND.out).mono ?_);rintro e w2 ⟨rfl,hx2⟩)))
  have hE2:Ext w w2:=hx1.trans hx2
  have b0:=hx2.cell a0
  have b1:=hx2.cell a1
  have d0:=hx2.cell c0
  clear a0 a1 a2 a3 a4 a5 a6 a7 a8 a9 c0 hx1 hx2
  go_upto_region 4 with ((go_at_call 124;((with_reducible refine (zv _ _).mono ?_);rintro e w6 ⟨rfl,hw6⟩;obtain rfl:=hw6.symm)))
  go_upto_region 5 with ((go_at_call 124;((with_reducible refine (zv _ _).mono ?_);rintro e w6 ⟨rfl,hw6⟩;obtain rfl:=hw6.symm)))
  have MKS:=Lib.hid (fun V (e:Ext w2 V)=>e.cell d0)
  have MKT:=Lib.hid (fun V (e:Ext w2 V)=>e.cell b1)
  have MKW:=Lib.hid (fun W (e:Ext w2 W) w7 (hg:W.grownBy w7 (Value.slice AV g.nodes.length cV).ownBlock) u=>(⟨hg.cell (e.cell b1) (fun e=>HNB.out e.symm),(World.cell?_setCell_other _ _ _ _ (fun e=>HDQ.out (by injection e))).trans (hg.cell (e.cell b1) (fun e=>HNB.out e.symm))⟩:w7.cell? ⟨q,1,none⟩=some (.int .i64 x)∧(w7.setCell ⟨D,0,none⟩ u).cell? ⟨q,1,none⟩=some (.int .i64 x)))
  refine za1.start (S:=(fun V=>V.cell? ⟨D,0,none⟩=some (.slice AV g.nodes.length cV))) (T:=(fun V=>V.cell? ⟨q,1,none⟩=some (.int .i64 x))) (E:=11) (by kernel_rfl) ?hs7001 (fun hHeld=>?go7001)
  case hs7001=>exact ⟨by (exact MKS.out _ Qg),by (first|assumption|exact MKT.out _ Qg)⟩
  refine KU 0 ⟨fun _=>hHeld.1,hHeld.2⟩ ?_;simp only [PU]
  refine KU 1 ⟨fun _=>hHeld.1,hHeld.2⟩ ?_;simp only [PU]
  refine KU 2 ⟨fun _=>hHeld.1,hHeld.2⟩ ?_;simp only [PU]
  refine KU 3 ⟨fun _=>hHeld.1,hHeld.2⟩ ?_;simp only [PU]
  refine KU 4 ⟨fun _=>hHeld.1,hHeld.2⟩ ?_;simp only [PU]
  refine KT 5 hHeld ?_;simp only [PU]
  refine KU 6 ⟨fun _=>hHeld.1,hHeld.2⟩ ?_;simp only [PU]
  refine KU 7 ⟨fun _=>hHeld.1,hHeld.2⟩ ?_;simp only [PU]
  refine KU 8 ⟨fun _=>hHeld.1,hHeld.2⟩ ?_;simp only [PU]
  refine KU 9 ⟨fun _=>hHeld.1,hHeld.2⟩ ?_;simp only [PU]
  refine za1.ready (rs:=[10]) (by kernel_rfl) (by simp) ?_
  refine zci.cons (o:=⟨_,_,_,_,_,_⟩) rfl (fun K hK=>?step7012x0) ?more7012x0
  case more7012x0=>exact zci.nil
  go_simp
  refine hK.out _ _ ?hS7012x0 (fun H7012=>?_)
  case hS7012x0=>exact ⟨fun _=>by (exact MKS.out _ Qg),by (first|assumption|exact MKT.out _ Qg)⟩
  clear hK K
  clear hHeld
  (try simp only [PU])
  refine za1.ready (rs:=[11]) (by kernel_rfl) (by simp) ?_
  refine zci.cons (o:=⟨_,_,_,_,_,_⟩) rfl (fun K hK=>?step7013x0) ?more7013x0
  case more7013x0=>exact zci.nil
  go_simp
  (go_at_call 125;((with_reducible refine (HINS.out _ Qg).mono ?_);rintro e w7 ⟨v7,rfl,hR⟩;obtain ⟨A7,c7,rfl⟩:=zao hR.own;obtain ⟨s0,-,-,-,sf⟩:=HSELF.out _ Qg w7 hR.grown;have sf0:=sf 0;clear sf;obtain ⟨b7,b8⟩:=MKW.out _ Qg w7 hR.grown (.slice A7 (g.nodes.length+1) c7)))
  refine hK.out _ _ ?hS7013x0 (fun H7013=>?_)
  case hS7013x0=>exact ⟨fun h=>(by first|exact absurd h Qj|simp at h),by (first|assumption|exact MKT.out _ Qg)⟩
  clear hK K
  clear H7012
  (try simp only [PU])
  refine KU 12 H7013 ?_;simp only [PU]
  refine KU 13 H7013 ?_;simp only [PU]
  refine KU 14 H7013 ?_;simp only [PU]
  refine za1.ready (rs:=[15]) (by kernel_rfl) (by simp) ?_
  refine zci.cons (o:=⟨_,_,_,_,_,_⟩) rfl (fun K hK=>?step7017x0) ?more7017x0
  case more7017x0=>exact zci.nil
  go_simp
  refine hK.out _ _ ?hS7017x0 (fun H7017=>?_)
  case hS7017x0=>exact ⟨fun h=>(by first|exact absurd h Qj|simp at h),by (first|assumption|exact MKT.out _ Qg)⟩
  clear hK K
  clear H7013
  refine za1.done (by kernel_rfl) ?_ _
  clear H7017
  obtain ⟨w8,hw8⟩:∃ W,W=w7.setCell ⟨D,0,none⟩ (.slice A7 (g.nodes.length+1) c7):=⟨_,rfl⟩
  obtain ⟨hO,hX⟩:=HADD.out _ Qg w7 _ hR
  have HSY:=Lib.hid (zb3.row (w:=w) Qg hR.grown HRB.out HDB.out 0 (.slice A7 (g.nodes.length+1) c7))
  rw [←hw8] at b8 HSY
  rw [←hw8] at hO hX
  have hX8:=hX wb rfl (Ext.trans HX0.out Qg)
  obtain ⟨hO2,hX2,e2,f2⟩:=(hO.ext (Ext.drew (Ext.refl w8))).putNN (max g.nn (x+1))
  have HO2:=Lib.hid hO2
  have HX2:=Lib.hid (hX2 wb rfl (hX8.drew))
  have e2':w8.cell? ⟨D,2,none⟩=some (.int .i64 g.nn):=e2
  have f2':w8.frozen? ⟨D,2,none⟩=false:=f2
  clear hO hX hO2 hX2 e2 f2 hR s0 sf0 b7 MKS MKT MKW
  try rw [←hw8]
  clear hw8
  go_upto_region 6 with (fail)
  have MKR1:=Lib.hid (fun V (e:Ext w8 V)=>(⟨e.cell e2',e.cell b8,e⟩:V.cell? ⟨D,2,none⟩=some (.int .i64 g.nn)∧V.cell? ⟨q,1,none⟩=some (.int .i64 x)∧Ext w8 V))
  refine zac.start (S:=(fun V=>V.cell? ⟨D,2,none⟩=some (.int .i64 g.nn)∧V.cell? ⟨q,1,none⟩=some (.int .i64 x)∧Ext w8 V)) (E:=13) (by kernel_rfl) ?hs1 (fun hHeld=>?go1)
  case hs1=>(exact MKR1.out _ Qg)
  refine KP 0 (fun _=>hHeld) ?_;simp only [PU]
  refine KP 1 (fun _=>hHeld) ?_;simp only [PU]
  refine KP 2 (fun _=>hHeld) ?_;simp only [PU]
  refine KP 3 (fun _=>hHeld) ?_;simp only [PU]
  refine KP 4 (fun _=>hHeld) ?_;simp only [PU]
  refine KE 5 hHeld ?_;simp only [PU]
  refine KP 6 (fun _=>hHeld) ?_;simp only [PU]
  refine KE 7 hHeld ?_;simp only [PU]
  refine KP 8 (fun _=>hHeld) ?_;simp only [PU]
  refine KP 9 (fun _=>hHeld) ?_;simp only [PU]
  refine KP 10 (fun _=>hHeld) ?_;simp only [PU]
  refine KP 11 (fun _=>hHeld) ?_;simp only [PU]
  refine KP 12 (fun _=>hHeld) ?_;simp only [PU]
  refine zac.ready (rs:=[13]) (by kernel_rfl) (by simp) ?_
  refine zal.cons (o:=⟨_,_,_,_,_,_⟩) rfl (fun K hK=>?step15x0) ?more15x0
  case more15x0=>exact zal.nil
  go_simp
  refine hK.out _ _ ?hS15x0 (fun H15=>?_)
  case hS15x0=>first|(intro h;exact absurd h Qj)|(intro h;simp at h)
  clear hK K
  clear hHeld
  refine zac.done (by kernel_rfl) ?_ _
  clear H15
  clear MKR1
  go_wp2_with fail
  refine bodyPost_ret (results_none rfl _ _ _) rfl ?_
  exact ⟨rfl,HO2.out,HX2.out,HSY.out.drew.set HDB.out 2 _⟩
end Go.Proofs.YtfhekbacigoblaaGreatDoor
