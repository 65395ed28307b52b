import Derived.Test.YtfhekbacigoblaaGreatDoorWT03
import Derived.Lib.AppendIntMem
import Derived.Shelf.Vars
import Derived.Lib.SplitLaws
import Derived.Lib.IndexBytes
import Derived.Defers
import Derived.Lib.AtoiErrMem
namespace Go.Proofs.YtfhekbacigoblaaGreatDoor
set_option maxRecDepth 100000
set_option maxHeartbeats 3200000
open Go.RowKit
noncomputable def sameC (a b:ChG):Bool:=decide (a.op=b.op∧a.id=b.id∧a.frm=b.frm∧a.to_=b.to_∧a.name=b.name∧zbw a.v b.v=0)
theorem same_iff {a b:ChG}:sameC a b=true ↔ a=b:=by
 unfold sameC
 rw [decide_eq_true_iff,zae.val.zero]
 obtain ⟨a0,a1,a2,a3,a4,a5⟩:=a
 obtain ⟨b0,b1,b2,b3,b4,b5⟩:=b
 simp
theorem ch_Same (a b:ChG) (ok ok':Nat→Prop) (A B:Option Addr) (k m:Nat) (w:World) (hz:zq w) (ha:zk w ok A a.v.l) (hb:zk w ok' B b.v.l) :
  Calls Tryz.prog 26 #[.agg #[.int .i64 a.op, .int .i64 a.id, .int .i64 a.frm, .int .i64 a.to_, .string a.name, .int .i64 a.v.kind, .int .i64 a.v.n, .int .i64 a.v.d, .string a.v.s, .slice A a.v.l.length k], .agg #[.int .i64 b.op, .int .i64 b.id, .int .i64 b.frm, .int .i64 b.to_, .string b.name, .int .i64 b.v.kind, .int .i64 b.v.n, .int .i64 b.v.d, .string b.v.s, .slice B b.v.l.length m]] w fun e w'=>e= .returned (.bool (sameC a b))∧Ext w w':=by
 obtain ⟨q1,w1,hq1,hw1,hca,hx1⟩:=zy w a A k 30
 obtain ⟨q2,w2,hq2,hw2,⟨b0,b1,b2,b3,b4,b5,b6,b7,b8,b9⟩,hx2⟩:=zy w1 b B m 30
 obtain ⟨a0,a1,a2,a3,a4,a5,a6,a7,a8,a9⟩:=hca.ext hx2
 have hx:Ext w w2:=hx1.trans hx2
 have HWQ:Hid (w2=(w.alloc (.cells #[.int .i64 a.op, .int .i64 a.id, .int .i64 a.frm, .int .i64 a.to_, .string a.name, .int .i64 a.v.kind, .int .i64 a.v.n, .int .i64 a.v.d, .string a.v.s, .slice A a.v.l.length k] 30)).alloc (.cells #[.int .i64 b.op, .int .i64 b.id, .int .i64 b.frm, .int .i64 b.to_, .string b.name, .int .i64 b.v.kind, .int .i64 b.v.n, .int .i64 b.v.d, .string b.v.s, .slice B b.v.l.length m] 30)):=Lib.hid (by rw [hw2,hw1])
 have HQ1:=Lib.hid hq1
 have HQ2:Hid (q2=w.heap.size+1):=Lib.hid (by rw [hq2,hw1];simp)
 have HOR:=Lib.hid (fun W (e:Ext w W)=>zzi a.v b.v ok ok' A B k m W (hz.ext e) (ha.ext e) (hb.ext e))
 have HR:Hid (sameC a b=decide (a.op=b.op∧a.id=b.id∧a.frm=b.frm∧a.to_=b.to_∧a.name=b.name∧zbw a.v b.v=0)):=Lib.hid rfl
 have HX:=Lib.hid hx
 generalize sameC a b=R at *
 clear hz ha hb hq1 hq2 hw1 hw2 hca hx hx1 hx2
 go_enter Tryz.func26,Tryz.ntmps26
 go_upto_region 1 with (fail)
 rw [←HWQ.out,←HQ2.out,←HQ1.out]
 by_cases h0:a.op=b.op
 case neg =>
  have g0:(a.op == b.op)=false:=beq_eq_false_iff_ne.2 h0
  have HF:Hid (R=false):=Lib.hid (by rw [HR.out];exact decide_eq_false (fun h=>h0 h.1))
  clear h0 HR
  go_wp2_with fail
  rw [HF.out]
  go_ret
  exact ⟨rfl,HX.out.trans Qg⟩
 have g0:(a.op == b.op)=true:=beq_iff_eq.2 h0
 by_cases h1:a.id=b.id
 case neg =>
  have g1:(a.id == b.id)=false:=beq_eq_false_iff_ne.2 h1
  have HF:Hid (R=false):=Lib.hid (by rw [HR.out];exact decide_eq_false (fun h=>h1 h.2.1))
  clear h1 HR
  go_wp2_with fail
  rw [HF.out]
  go_ret
  exact ⟨rfl,HX.out.trans Qg⟩
 have g1:(a.id == b.id)=true:=beq_iff_eq.2 h1
 by_cases h2:a.frm=b.frm
 case neg =>
  have g2:(a.frm == b.frm)=false:=beq_eq_false_iff_ne.2 h2
  have HF:Hid (R=false):=Lib.hid (by rw [HR.out];exact decide_eq_false (fun h=>h2 h.2.2.1))
  clear h2 HR
  go_wp2_with fail
  rw [HF.out]
  go_ret
  exact ⟨rfl,HX.out.trans Qg⟩
 have g2:(a.frm == b.frm)=true:=beq_iff_eq.2 h2
 by_cases h3:a.to_=b.to_
 case neg =>
  have g3:(a.to_ == b.to_)=false:=beq_eq_false_iff_ne.2 h3
  have HF:Hid (R=false):=Lib.hid (by rw [HR.out];exact decide_eq_false (fun h=>h3 h.2.2.2.1))
  clear h3 HR
  go_wp2_with fail
  rw [HF.out]
  go_ret
  exact ⟨rfl,HX.out.trans Qg⟩
 have g3:(a.to_ == b.to_)=true:=beq_iff_eq.2 h3
 by_cases h4:a.name=b.name
 case neg =>
  have g4:(a.name.toList == b.name.toList)=false:=zv8 h4
  have HF:Hid (R=false):=Lib.hid (by rw [HR.out];exact decide_eq_false (fun h=>h4 h.2.2.2.2.1))
  clear h4 HR
  go_wp2_with fail
  rw [HF.out]
  go_ret
  exact ⟨rfl,HX.out.trans Qg⟩
 have g4:(a.name.toList == b.name.toList)=true:=str_eq h4
 have HF:Hid (R=decide (zbw a.v b.v=0)):=Lib.hid (by rw [HR.out];simp only [h0,h1,h2,h3,h4,true_and])
 clear h0 h1 h2 h3 h4 HR
 generalize zbw a.v b.v=z at *
 have HZ:Hid ((z == 0)=R):=Lib.hid (by rw [HF.out];rfl)
 go_wp2_with ((go_at_call 61;((with_reducible refine (HOR.out _ (HX.out.trans Qg)).mono ?_);rintro e w5 ⟨rfl,hx5⟩)))
 rw [←HZ.out]
 go_ret
 exact ⟨rfl,HX.out.trans (Ext.trans Qg hx5)⟩
theorem r8_Named (n:Int) (w:World):Calls Tryz.prog 38 #[.int .i64 n] w fun e w'=>e= .returned (.bool (za3 n))∧w'=w:=by
 by_cases h3:n=3
 ·subst h3
  go_enter Tryz.func38,Tryz.ntmps38
  go_wp2_with fail
  go_ret
  exact ⟨rfl,rfl⟩
 have g3:(n == 3)=false:=by simpa using h3
 by_cases h4:n=4
 ·subst h4
  go_enter Tryz.func38,Tryz.ntmps38
  go_wp2_with fail
  go_ret
  exact ⟨rfl,rfl⟩
 have g4:(n == 4)=false:=by simpa using h4
 by_cases h5:n=5
 ·subst h5
  go_enter Tryz.func38,Tryz.ntmps38
  go_wp2_with fail
  go_ret
  exact ⟨rfl,rfl⟩
 have g5:(n == 5)=false:=by simpa using h5
 by_cases h6:n=6
 ·subst h6
  go_enter Tryz.func38,Tryz.ntmps38
  go_wp2_with fail
  go_ret
  exact ⟨rfl,rfl⟩
 have g6:(n == 6)=false:=by simpa using h6
 by_cases h8:n=8
 ·subst h8
  go_enter Tryz.func38,Tryz.ntmps38
  go_wp2_with fail
  go_ret
  exact ⟨rfl,rfl⟩
 have g8:(n == 8)=false:=by simpa using h8
 have HR:=Lib.hid (show za3 n=false from decide_eq_false Qk)
 go_enter Tryz.func38,Tryz.ntmps38
 go_wp2_with fail
 go_ret
 exact ⟨by rw [HR.out];rfl,rfl⟩
theorem r8_Valued (n:Int) (w:World):Calls Tryz.prog 39 #[.int .i64 n] w fun e w'=>e= .returned (.bool (zaq n))∧w'=w:=by
 by_cases h5:n=5
 ·subst h5
  go_enter Tryz.func39,Tryz.ntmps39
  go_wp2_with fail
  go_ret
  exact ⟨rfl,rfl⟩
 have g5:(n == 5)=false:=by simpa using h5
 by_cases h8:n=8
 ·subst h8
  go_enter Tryz.func39,Tryz.ntmps39
  go_wp2_with fail
  go_ret
  exact ⟨rfl,rfl⟩
 have g8:(n == 8)=false:=by simpa using h8
 have HR:=Lib.hid (show zaq n=false from decide_eq_false Qk)
 go_enter Tryz.func39,Tryz.ntmps39
 go_wp2_with fail
 go_ret
 exact ⟨by rw [HR.out];rfl,rfl⟩
noncomputable def s1C (c:ChG):Bool:=decide (c.op < 1) || decide (8 < c.op) || !idC c.id || (!za3 c.op && !(c.name.toList.isEmpty)) || (!zaq c.op && !zby c.v)
def s2C (c:ChG):Bool:=((c.op == 6) && (!idC c.frm || !idC c.to_)) || ((c.op != 6) && ((c.frm != 0) || (c.to_ != 0)))
def s3C (c:ChG):Bool:=za3 c.op && !zbk c.name
noncomputable def s4C (c:ChG):Bool:=zaq c.op && !zby c.v && !za9 c.v
theorem empty_iff (s:ByteArray):s.toList.isEmpty=true ↔ s=ByteArray.empty:=by
 rw [List.isEmpty_iff]
 constructor
 ·intro h
  apply zfi
  rw [ByteArray.toList_eq] at h
  exact h
 ·rintro rfl;rw [ByteArray.toList_eq];rfl
theorem chk_st (c:ChG):zcn c=if s1C c=true then 1 else if s2C c=true then 1 else if s3C c=true then 6 else if s4C c=true then 8 else 0:=by
 have he:=empty_iff c.name
 unfold zcn s1C s2C s3C s4C
 cases h1:idC c.id <;> cases h2:za3 c.op <;> cases h3:c.name.toList.isEmpty <;> cases h4:zaq c.op <;> cases h5:zby c.v <;> cases h6:idC c.frm <;> cases h7:idC c.to_ <;> simp_all
theorem r8_Check (ch:ChG) (ok:Nat→Prop) (C:Option Addr) (k:Nat) (w:World) (hl:zk w ok C ch.v.l) (hs:szV ch.v) :
  Calls Tryz.prog 14 #[.agg #[.int .i64 ch.op, .int .i64 ch.id, .int .i64 ch.frm, .int .i64 ch.to_, .string ch.name, .int .i64 ch.v.kind, .int .i64 ch.v.n, .int .i64 ch.v.d, .string ch.v.s, .slice C ch.v.l.length k]] w fun e w'=>e= .returned (.int .i64 (zcn ch))∧Ext w w':=by
 obtain ⟨q,w1,hq,hw1,hc,hx⟩:=zy w ch C k 30
 have b0:w1.cell? ⟨q,0,none⟩=some (.int .i64 ch.op):=by have h:=hc.c0;simpa using h
 have b1:w1.cell? ⟨q,1,none⟩=some (.int .i64 ch.id):=by have h:=hc.c1;simpa using h
 have b2:w1.cell? ⟨q,2,none⟩=some (.int .i64 ch.frm):=by have h:=hc.c2;simpa using h
 have b3:w1.cell? ⟨q,3,none⟩=some (.int .i64 ch.to_):=by have h:=hc.c3;simpa using h
 have b4:w1.cell? ⟨q,4,none⟩=some (.string ch.name):=by have h:=hc.c4;simpa using h
 have b5:w1.cell? ⟨q,5,none⟩=some (.int .i64 ch.v.kind):=by have h:=hc.c5;simpa using h
 have b6:w1.cell? ⟨q,6,none⟩=some (.int .i64 ch.v.n):=by have h:=hc.c6;simpa using h
 have b7:w1.cell? ⟨q,7,none⟩=some (.int .i64 ch.v.d):=by have h:=hc.c7;simpa using h
 have b8:w1.cell? ⟨q,8,none⟩=some (.string ch.v.s):=by have h:=hc.c8;simpa using h
 have b9:w1.cell? ⟨q,9,none⟩=some (.slice C ch.v.l.length k):=by have h:=hc.c9;simpa using h
 have HW:=Lib.hid hw1
 have HQ:=Lib.hid hq
 have HX:=Lib.hid hx
 have HNU:=Lib.hid (fun W (e:Ext w1 W)=>r8_null ch.v ok C k W hs (hl.ext (hx.trans e)))
 have HPL:=Lib.hid (fun W (e:Ext w1 W)=>r4_Plain ch.v ok C k W (hl.ext (hx.trans e)) hs)
 clear hw1 hq hc hl hs hx
 have HR:=Lib.hid (chk_st ch)
 generalize zcn ch=R at *
 go_enter Tryz.func14,Tryz.ntmps14
 go_upto_region 1 with (fail)
 rw [←HW.out,←HQ.out]
 clear HW HQ
 go_cut [39] from 3 to 39 (fun t wx=>t= .bool (s1C ch)∧Ext w1 wx)
 case first =>
  by_cases c1:ch.op < 1
  ·go_wp2_with fail
   go_meet
   case rel=>exact ⟨by simp [s1C,c1],Ext.refl _⟩
  have d1:decide (ch.op < 1)=false:=decide_eq_false c1
  by_cases c2:8 < ch.op
  ·go_wp2_with fail
   go_meet
   case rel=>exact ⟨by simp [s1C,c2],Ext.refl _⟩
  have d2:decide (8 < ch.op)=false:=decide_eq_false c2
  have HID:=Lib.hid (fun W=>r8_id ch.id W)
  have HNA:=Lib.hid (fun W=>r8_Named ch.op W)
  have HVA:=Lib.hid (fun W=>r8_Valued ch.op W)
  cases hid:idC ch.id with
  | false =>
   rw [hid] at HID
   go_wp2_with ((go_at_call 37;((with_reducible refine (HID.out _).mono ?_);rintro e w2 ⟨rfl,rfl⟩)))
   go_meet
   case rel=>exact ⟨by simp [s1C,hid],Ext.refl _⟩
  | true =>
  rw [hid] at HID
  cases hna:za3 ch.op with
  | false =>
   rw [hna] at HNA
   cases hem:ch.name.toList.isEmpty with
   | false =>
    go_wp2_with (first|(go_at_call 37;((with_reducible refine (HID.out _).mono ?_);rintro e w2 ⟨rfl,rfl⟩))|(go_at_call 38;((with_reducible refine (HNA.out _).mono ?_);rintro e w2 ⟨rfl,rfl⟩)))
    go_meet
    case rel=>exact ⟨by simp [s1C,hna,hem],Ext.refl _⟩
   | true =>
   cases hva:zaq ch.op with
   | false =>
    rw [hva] at HVA
    have HZ:=Lib.hid (show s1C ch = !zby ch.v by simp [s1C,c1,c2,hid,hna,hem,hva])
    generalize zby ch.v=nb at *
    go_wp2_with (first|(go_at_call 37;((with_reducible refine (HID.out _).mono ?_);rintro e w2 ⟨rfl,rfl⟩))|(go_at_call 38;((with_reducible refine (HNA.out _).mono ?_);rintro e w2 ⟨rfl,rfl⟩))|(go_at_call 39;((with_reducible refine (HVA.out _).mono ?_);rintro e w2 ⟨rfl,rfl⟩))|(go_at_call 40;((with_reducible refine (HNU.out _ Qg).mono ?_);rintro e w3 ⟨rfl,hx3⟩)))
    go_meet
    case rel=>exact ⟨by rw [HZ.out],Ext.trans Qg hx3⟩
   | true =>
    rw [hva] at HVA
    go_wp2_with (first|(go_at_call 37;((with_reducible refine (HID.out _).mono ?_);rintro e w2 ⟨rfl,rfl⟩))|(go_at_call 38;((with_reducible refine (HNA.out _).mono ?_);rintro e w2 ⟨rfl,rfl⟩))|(go_at_call 39;((with_reducible refine (HVA.out _).mono ?_);rintro e w2 ⟨rfl,rfl⟩)))
    go_meet
    case rel=>exact ⟨by simp [s1C,c1,c2,hid,hna,hem,hva],Ext.refl _⟩
  | true =>
   rw [hna] at HNA
   cases hva:zaq ch.op with
   | false =>
    rw [hva] at HVA
    have HZ:=Lib.hid (show s1C ch = !zby ch.v by simp [s1C,c1,c2,hid,hna,hva])
    generalize zby ch.v=nb at *
    go_wp2_with (first|(go_at_call 37;((with_reducible refine (HID.out _).mono ?_);rintro e w2 ⟨rfl,rfl⟩))|(go_at_call 38;((with_reducible refine (HNA.out _).mono ?_);rintro e w2 ⟨rfl,rfl⟩))|(go_at_call 39;((with_reducible refine (HVA.out _).mono ?_);rintro e w2 ⟨rfl,rfl⟩))|(go_at_call 40;((with_reducible refine (HNU.out _ Qg).mono ?_);rintro e w3 ⟨rfl,hx3⟩)))
    go_meet
    case rel=>exact ⟨by rw [HZ.out],Ext.trans Qg hx3⟩
   | true =>
    rw [hva] at HVA
    go_wp2_with (first|(go_at_call 37;((with_reducible refine (HID.out _).mono ?_);rintro e w2 ⟨rfl,rfl⟩))|(go_at_call 38;((with_reducible refine (HNA.out _).mono ?_);rintro e w2 ⟨rfl,rfl⟩))|(go_at_call 39;((with_reducible refine (HVA.out _).mono ?_);rintro e w2 ⟨rfl,rfl⟩)))
    go_meet
    case rel=>exact ⟨by simp [s1C,c1,c2,hid,hna,hva],Ext.refl _⟩
 case rest =>
  obtain ⟨rfl,hE1⟩:=hcut
  have a0:=hE1.cell b0;have a2:=hE1.cell b2;have a3:=hE1.cell b3
  cases hs1:s1C ch with
  | true =>
   have HT:=Lib.hid (show R=1 by rw [HR.out,hs1];rfl)
   clear HR
   go_wp2_with fail
   go_ret
   exact ⟨by rw [HT.out];rfl,HX.out.trans hE1⟩
  | false =>
  have HR2:=Lib.hid (show R=if s2C ch=true then 1 else if s3C ch=true then 6 else if s4C ch=true then 8 else 0 by rw [HR.out,hs1];rfl)
  clear HR
  go_upto_region 3 with fail
  go_cut [69] from 40 to 69 (fun t wx=>t= .bool (s2C ch)∧Ext w1 wx)
  case first =>
   by_cases c6:ch.op=6
   ·have g6:(ch.op == 6)=true:=by simpa using c6
    have g6n:(ch.op != 6)=false:=by simp [c6]
    clear c6
    have HIF:=Lib.hid (fun W=>r8_id ch.frm W)
    have HIT:=Lib.hid (fun W=>r8_id ch.to_ W)
    cases hf:idC ch.frm with
    | false =>
     rw [hf] at HIF
     go_wp2_with ((go_at_call 37;((with_reducible refine (HIF.out _).mono ?_);rintro e w2 ⟨rfl,rfl⟩)))
     go_meet
     case rel=>exact ⟨by simp [s2C,g6,hf],hE1⟩
    | true =>
     rw [hf] at HIF
     have HZ:=Lib.hid (show s2C ch = !idC ch.to_ by simp [s2C,g6,g6n,hf])
     generalize idC ch.to_=tb at *
     cases tb with
     | false =>
      go_wp2_with (first|(go_at_call 37;((with_reducible refine (HIF.out _).mono ?_);rintro e w2 ⟨rfl,rfl⟩))|(go_at_call 37;((with_reducible refine (HIT.out _).mono ?_);rintro e w2 ⟨rfl,rfl⟩)))
      go_meet
      case rel=>exact ⟨by rw [HZ.out];rfl,hE1⟩
     | true =>
      go_wp2_with (first|(go_at_call 37;((with_reducible refine (HIF.out _).mono ?_);rintro e w2 ⟨rfl,rfl⟩))|(go_at_call 37;((with_reducible refine (HIT.out _).mono ?_);rintro e w2 ⟨rfl,rfl⟩)))
      go_meet
      case rel=>exact ⟨by rw [HZ.out];rfl,hE1⟩
   ·have g6:(ch.op == 6)=false:=by simpa using c6
    have g6n:(ch.op != 6)=true:=by simpa using c6
    clear c6
    by_cases cf:ch.frm=0
    ·have gf:(ch.frm != 0)=false:=by simp [cf]
     clear cf
     have HZ:=Lib.hid (show s2C ch=(ch.to_ != 0) by simp only [s2C,g6,g6n,gf,Bool.false_and,Bool.true_and,Bool.false_or])
     go_wp2_with fail
     go_meet
     case rel=>exact ⟨by rw [HZ.out],hE1⟩
    ·have gf:(ch.frm != 0)=true:=by simpa using cf
     clear cf
     go_wp2_with fail
     go_meet
     case rel=>exact ⟨by simp [s2C,g6n,gf],hE1⟩
  case rest =>
   clear hE1
   obtain ⟨rfl,hE1⟩:=hcut
   clear a0 a2 a3
   have a0:=hE1.cell b0;have a4:=hE1.cell b4
   cases hs2:s2C ch with
   | true =>
    have HT:=Lib.hid (show R=1 by rw [HR2.out,hs2];rfl)
    clear HR2
    go_wp2_with fail
    go_ret
    exact ⟨by rw [HT.out];rfl,HX.out.trans hE1⟩
   | false =>
   have HR3:=Lib.hid (show R=if s3C ch=true then 6 else if s4C ch=true then 8 else 0 by rw [HR2.out,hs2];rfl)
   clear HR2
   have HNA:=Lib.hid (fun W=>r8_Named ch.op W)
   have HVA:=Lib.hid (fun W=>r8_Valued ch.op W)
   have HNM:=Lib.hid (fun W=>r7_Name ch.name W)
   go_upto_region 5 with fail
   go_cut [78] from 70 to 78 (fun t wx=>t= .bool (s3C ch)∧Ext w1 wx)
   case first =>
    have HZ:=Lib.hid (show s3C ch=(za3 ch.op && !zbk ch.name) from rfl)
    generalize za3 ch.op=na at *
    generalize zbk ch.name=nm at *
    cases na with
    | false =>
     go_wp2_with ((go_at_call 38;((with_reducible refine (HNA.out _).mono ?_);rintro e w2 ⟨rfl,rfl⟩)))
     go_meet
     case rel=>exact ⟨by rw [HZ.out];rfl,hE1⟩
    | true =>
     go_wp2_with (first|(go_at_call 38;((with_reducible refine (HNA.out _).mono ?_);rintro e w2 ⟨rfl,rfl⟩))|(go_at_call 41;((with_reducible refine (HNM.out _).mono ?_);rintro e w2 ⟨rfl,rfl⟩)))
     go_meet
     case rel=>exact ⟨by rw [HZ.out];rfl,hE1⟩
   case rest =>
    clear hE1
    obtain ⟨rfl,hE1⟩:=hcut
    clear a0 a4
    have a0:=hE1.cell b0;have a5:=hE1.cell b5;have a6:=hE1.cell b6;have a7:=hE1.cell b7;have a8:=hE1.cell b8;have a9:=hE1.cell b9
    cases hs3:s3C ch with
    | true =>
     have HT:=Lib.hid (show R=6 by rw [HR3.out,hs3];rfl)
     clear HR3
     go_wp2_with fail
     go_ret
     exact ⟨by rw [HT.out];rfl,HX.out.trans hE1⟩
    | false =>
    have HR4:=Lib.hid (show R=if s4C ch=true then 8 else 0 by rw [HR3.out,hs3];rfl)
    clear HR3
    go_upto_region 7 with fail
    go_cut [93] from 79 to 93 (fun t wx=>t= .bool (s4C ch)∧Ext w1 wx)
    case first =>
     have HZ:=Lib.hid (show s4C ch=(zaq ch.op && !zby ch.v && !za9 ch.v) from rfl)
     generalize zaq ch.op=va at *
     generalize zby ch.v=nu at *
     generalize za9 ch.v=pl at *
     cases va with
     | false =>
      go_wp2_with ((go_at_call 39;((with_reducible refine (HVA.out _).mono ?_);rintro e w2 ⟨rfl,rfl⟩)))
      go_meet
      case rel=>exact ⟨by rw [HZ.out];rfl,hE1⟩
     | true =>
      cases nu with
      | true =>
       go_wp2_with (first|(go_at_call 39;((with_reducible refine (HVA.out _).mono ?_);rintro e w2 ⟨rfl,rfl⟩))|(go_at_call 40;((with_reducible refine (HNU.out _ (hE1.trans Qg)).mono ?_);rintro e w3 ⟨rfl,hx3⟩)))
       go_meet
       case rel=>exact ⟨by rw [HZ.out];rfl,hE1.trans (Ext.trans Qg hx3)⟩
      | false =>
       go_wp2_with (first|(go_at_call 39;((with_reducible refine (HVA.out _).mono ?_);rintro e w2 ⟨rfl,rfl⟩))|(go_at_call 40;((with_reducible refine (HNU.out _ (hE1.trans Qg)).mono ?_);rintro e w3 ⟨rfl,hx3⟩;have hE3:=hE1.trans (Ext.trans Qg hx3);have a5:=hE3.cell b5;have a6:=hE3.cell b6;have a7:=hE3.cell b7;have a8:=hE3.cell b8;have a9:=hE3.cell b9))|(go_at_call 42;((with_reducible refine (HPL.out _ (hE3.trans Qg)).mono ?_);rintro e w4 ⟨rfl,hx4⟩)))
       go_meet
       case rel=>exact ⟨by rw [HZ.out];rfl,hE3.trans (Ext.trans Qg hx4)⟩
    case rest =>
     clear hE1
     obtain ⟨rfl,hE1⟩:=hcut
     cases hs4:s4C ch with
     | true =>
      have HT:=Lib.hid (show R=8 by rw [HR4.out,hs4];rfl)
      clear HR4
      go_wp2_with fail
      go_ret
      exact ⟨by rw [HT.out];rfl,HX.out.trans hE1⟩
     | false =>
      have HT:=Lib.hid (show R=0 by rw [HR4.out,hs4];rfl)
      clear HR4
      go_wp2_with fail
      go_ret
      exact ⟨by rw [HT.out];rfl,HX.out.trans hE1⟩
theorem byte_cell (m:Nat):(Value.int .u8 (48+((m % 10:Nat):Int)))=Value.int .u8 ((digB m).toNat:Int):=by
 rw [digB_toNat];congr 1
theorem ret_str {a b:List UInt8} (h:a=b):Ending.returned (.string ⟨a.toArray⟩)= .returned (.string ⟨b.toArray⟩):=by rw [h]
theorem run_byte_string (w:World) (x:Int) (m:Nat) (hx:x=48+((m % 10:Nat):Int)) :
  (convert 119 9 (.slice (some ⟨w.heap.size,0,none⟩) 1 1)).run Tryz.prog (w.alloc (.cells #[.int .u8 x] 5))= .ok (.string ⟨#[digB m]⟩) (w.alloc (.cells #[.int .u8 x] 5)):=by
 subst hx
 rw [byte_cell m]
 refine run_convert_bytes_back (P:=Tryz.prog) _ 119 9 5 _ 1 [digB m] Tryz.underlying119 Tryz.underlying5 Tryz.underlying9 ?_
 intro j hj
 obtain rfl:j=0:=by simpa using hj
 exact World.cell?_alloc_mark _ _ _ _ 0
theorem str_cons (c:UInt8) (l:List UInt8):Value.string (⟨#[c]⟩ ++ ⟨l.toArray⟩)= .string ⟨(c :: l).toArray⟩:=by
 congr 1
theorem ref_Text_pos (n:Nat) (w:World) (h1:1≤n) (h2:(n:Int)≤9223372036854775807) :
  Calls Tryz.prog 59 #[.int .i64 ((n:Int))] w fun e w'=>e= .returned (.string ⟨(Lib.itoa ((n:Int))).toArray⟩)∧Below w.heap.size w w':=by
 have h0:(((n:Int)) == 0)=false:=by rw [beq_eq_false_iff_ne];omega
 have HL:=Lib.hid (digs_length (n:=n) Qk)
 have HZ:Hid (digs n=Lib.itoa ((n:Int))):=by unfold digs Lib.itoa;rw [if_neg Qk,if_neg Qk];rfl
 go_enter Tryz.func59,Tryz.ntmps59
 go_wp2
 go_loopw [3,4,5] (fun u v _ wr => ∃ (m:Nat) (l:List UInt8),u= .string ⟨l.toArray⟩∧v= .int .i64 ((m:Int))∧m≤n∧Hid (digs m ++ l=digs n)∧Below w.heap.size w wr) (fun _ v _ _=>(intOf v).natAbs)
 case atStart=>exact ⟨n,[],rfl,rfl,Nat.le_refl _,Lib.hid (by simp),Below.refl _ _⟩
 case round =>
  obtain ⟨m,l,rfl,rfl,hm,hd,hb⟩:=hrel
  have hl:l.length≤20:=by have h:=hd.out;have g:=congrArg List.length h;have k:=HL.out;rw [List.length_append] at g;omega
  by_cases hm0:m=0
  ·subst hm0
   go_wp2
   go_ret
   exact ⟨ret_str (by have:=hd.out;rw [digs_zero,List.nil_append] at this;rw [this,HZ.out]),hb⟩
  ·have hne:(((m:Int)) != 0)=true:=by rw [bne_iff_ne];omega
   have hne2:(((m:Int)) == 0)=false:=by rw [beq_eq_false_iff_ne];omega
   have HC:=run_byte_string wr (48+(m:Int) % 10) m Qk
   go_wp2
   go_roundw
   case rel=>exact ⟨m / 10,digB m :: l,by rw [str_cons],by go_num,by omega,Lib.hid (digs_step hm0 hd.out),hb.alloc hb.size _⟩
   case measure=>simp [intOf];omega
theorem ref_Text_neg (n:Nat) (w:World) (h1:1≤n) (h2:(n:Int)≤9223372036854775808) :
  Calls Tryz.prog 59 #[.int .i64 (-(n:Int))] w fun e w'=>e= .returned (.string ⟨(Lib.itoa (-(n:Int))).toArray⟩)∧Below w.heap.size w w':=by
 have h0:((-(n:Int)) == 0)=false:=by rw [beq_eq_false_iff_ne];omega
 have HL:=Lib.hid (digs_length (n:=n) Qk)
 have HZ:Hid (45 :: digs n=Lib.itoa (-(n:Int))):=by unfold digs Lib.itoa;rw [if_neg Qk,if_pos Qk];congr 2;omega
 go_enter Tryz.func59,Tryz.ntmps59
 go_wp2
 go_loopw [3,4,5] (fun u v _ wr => ∃ (m:Nat) (l:List UInt8),u= .string ⟨l.toArray⟩∧v= .int .i64 (-(m:Int))∧m≤n∧Hid (digs m ++ l=digs n)∧Below w.heap.size w wr) (fun _ v _ _=>(intOf v).natAbs)
 case atStart=>exact ⟨n,[],rfl,rfl,Nat.le_refl _,Lib.hid (by simp),Below.refl _ _⟩
 case round =>
  obtain ⟨m,l,rfl,rfl,hm,hd,hb⟩:=hrel
  have hl:l.length≤20:=by have h:=hd.out;have g:=congrArg List.length h;have k:=HL.out;rw [List.length_append] at g;omega
  by_cases hm0:m=0
  ·subst hm0
   go_wp2
   go_ret
   exact ⟨(by rw [str_cons];exact ret_str (by have:=hd.out;rw [digs_zero,List.nil_append] at this;rw [this,HZ.out])),hb⟩
  ·have hne:((-(m:Int)) != 0)=true:=by rw [bne_iff_ne];omega
   have hne2:((-(m:Int)) == 0)=false:=by rw [beq_eq_false_iff_ne];omega
   have hq:(-(m:Int)).tdiv 10 = -((m / 10:Nat):Int):=by rw [Int.neg_tdiv,Int.tdiv_eq_ediv_of_nonneg Qk];omega
   have hr:(-(m:Int)).tmod 10 = -((m % 10:Nat):Int):=by rw [Int.neg_tmod,Int.tmod_eq_emod_of_nonneg Qk];omega
   by_cases hz:(m:Int) % 10=0
   ·have HC:=run_byte_string wr 48 m Qk
    go_wp2
    go_roundw
    case rel=>exact ⟨m / 10,digB m :: l,by rw [str_cons],by go_num,by omega,Lib.hid (digs_step hm0 hd.out),hb.alloc hb.size _⟩
    case measure=>simp [intOf];omega
   ·have hz':0 < (m:Int) % 10:=by omega
    have HC:=run_byte_string wr (48+(m:Int) % 10) m Qk
    go_wp2
    go_roundw
    case rel=>exact ⟨m / 10,digB m :: l,by rw [str_cons],by go_num,by omega,Lib.hid (digs_step hm0 hd.out),hb.alloc hb.size _⟩
    case measure=>simp [intOf];omega
theorem ref_Text_zero (w:World) :
  Calls Tryz.prog 59 #[.int .i64 0] w fun e w'=>e= .returned (.string ⟨(Lib.itoa 0).toArray⟩)∧Below w.heap.size w w':=by
 have HZ:Hid (Lib.itoa 0=[48]):=by rw [Lib.itoa,if_neg Qk,zhk];rfl
 go_enter Tryz.func59,Tryz.ntmps59
 go_wp2
 go_ret
 exact ⟨by rw [HZ.out];rfl,Below.refl _ _⟩
theorem ref_Text (n:Int) (w:World) (h1 : -9223372036854775808≤n) (h2:n≤9223372036854775807) :
  Calls Tryz.prog 59 #[.int .i64 n] w fun e w'=>e= .returned (.string ⟨(Lib.itoa n).toArray⟩)∧Below w.heap.size w w':=by
 by_cases h0:n=0
 ·subst h0;exact ref_Text_zero w
 ·by_cases hp:0 < n
  ·have h:=ref_Text_pos n.toNat w Qk Qk
   rw [show ((n.toNat:Nat):Int)=n from by omega] at h;exact h
  ·have h:=ref_Text_neg n.natAbs w Qk Qk
   rw [show (-((n.natAbs:Nat):Int))=n from by omega] at h;exact h
end Go.Proofs.YtfhekbacigoblaaGreatDoor
