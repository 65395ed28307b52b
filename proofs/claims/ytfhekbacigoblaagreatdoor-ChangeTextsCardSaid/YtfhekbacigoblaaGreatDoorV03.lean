import Derived.Test.YtfhekbacigoblaaGreatDoorV02
import Derived.Test.YtfhekbacigoblaaGreatDoorShelf
import Derived.Shelf.Spec.BitsCarry
import Derived.Lib.BitFns
import Derived.Deep.CutBlock
import Derived.Deep.DeepCutAuto
import Derived.Deep.RegionHeld3
namespace Go.Proofs.YtfhekbacigoblaaGreatDoor
set_option maxRecDepth 100000
set_option maxHeartbeats 3200000
open Go.RowKit
theorem zw5 (j:Nat) (ih:ztb j) (lists n d:Int) (s:ByteArray) (l:List Val) (ok:Nat→Prop) (A:Option Addr) (c:Nat) (w:World) (hl0:0≤lists) (hj:lists+((j+1:Nat):Int)=8) (hv:zk w ok A l) :
  Calls Tryz.prog 120 #[.agg #[.int .i64 8, .int .i64 n, .int .i64 d, .string s, .slice A l.length c], .int .i64 lists] w fun e w'=>e= .returned (.bool (zak (j+1) (.mk 8 n d s l)))∧Ext w w':=by
 have hm:=hv.len
 have hl8:lists < 8:=by omega
 have HJ:=Lib.hid (show lists+1+(j:Int)=8 by omega)
 have HNO:=Lib.hid (fun h=>zwc (j:=j) (n:=n) (d:=d) (s:=s) (l:=l) h)
 obtain ⟨g,w1,hg,hw1,⟨c0,c1,c2,c3,c4⟩,hx,-⟩:=zc2 w 8 n d s A l.length c 28
 have HW1:=Lib.hid hw1
 have HG:=Lib.hid hg
 have HV:=Lib.hid (hv.ext hx)
 clear hw1 hg hv hj
 by_cases hd:d=0
 ·by_cases hs:s.size=0
  ·by_cases hn:n=0
   ·by_cases h64:l.length≤64
    ·have HY:=Lib.hid (fun h=>ztq (j:=j) hn hd hs h64 h)
     have HB:=Lib.hid (fun i (hi:i < l.length) h=>zup (j:=j) (n:=n) (d:=d) (s:=s) i hi h)
     obtain ⟨R,hR⟩:∃ R,R=zak (j+1) (.mk 8 n d s l):=⟨_,rfl⟩
     rw [←hR] at HY HB HNO ⊢
     have hs0:s=ByteArray.empty:=zfy hs
     clear hR HNO hs
     subst hs0 hn hd
     have he:(ByteArray.empty).toList=([]:List UInt8):=by rw [ByteArray.toList_eq];rfl
     have h64':decide ((64:Int) < (l.length:Int))=false:=by simp;omega
     have h8':decide ((8:Int)≤lists)=false:=by simp;omega
     go_enter Tryz.func120,Tryz.ntmps120
     go_upto_region 1 with (fail)
     rw [←HW1.out,←HG.out]
     clear HW1 HG
     go_wp2_with fail
     clear c0 c1 c2 c3 c4 he h64' h8' h64
     go_loopw [122] (fun u W => ∃ k:Nat,u= .int .i64 k∧k≤l.length∧Hid (∀ i (hi:i < l.length),i < k→zak j l[i]=true)∧Ext w1 W) (fun u _=>l.length - (intOf u).toNat)
     case atStart=>exact ⟨0,rfl,Nat.zero_le _,Lib.hid (fun i _ hi=>absurd hi (Nat.not_lt_zero _)),Ext.refl _⟩
     case round =>
      obtain ⟨k,rfl,hk,hgd,hE⟩:=hrel
      by_cases hlt:k < l.length
      ·obtain ⟨b,o,rfl,hc⟩:=HV.out.2 Qk
       obtain ⟨-,A',c',h5,-,hv'⟩:=zx.iff.1 (hc k hlt)
       obtain ⟨d0,d1,d2,d3,d4⟩:=h5.ext hE
       have hm':=hv'.len
       have HS:=Lib.hid (fun (h:zak j l[k]=true) i hi (hj:i < k+1)=>(if e:i=k then (by subst e;exact h) else hgd.out i hi Qk:zak j l[i]=true))
       have HB':=Lib.hid (HB.out k hlt)
       have HV':=Lib.hid (hv'.ext hE)
       clear hc h5 hv' HB
       generalize l[k]=x at d0 d1 d2 d3 d4 HS HB' HV' hm'
       obtain ⟨g,w2,hg,hw2,⟨c0,c1,c2,c3,c4⟩,hx2,-⟩:=zc2 wr x.kind x.n x.d x.s A' x.l.length c' 28
       have C:=ih (lists+1) x ok A' c' w2 Qk HJ.out (HV'.out.ext hx2)
       generalize zak j x=q at C HS HB'
       have HC:=Lib.hid C
       have HW2:=Lib.hid hw2
       have HGG:=Lib.hid hg
       clear hw2 hg C
       go_upto_region 23 with (fail)
       rw [←HW2.out,←HGG.out]
       clear HW2 HGG d0 d1 d2 d3 d4
       cases q
       ·have HF:=Lib.hid (HB'.out rfl)
        go_wp2_with (go_at_call 120;refine (HC.out).mono ?_;rintro e w' ⟨rfl,hb⟩;have hb':Ext w2 w':=hb)
        go_ret
        exact ⟨ze HF.out.symm,hx.trans (hE.trans (hx2.trans hb'))⟩
       ·have HT:=Lib.hid (HS.out rfl)
        go_wp2_with (go_at_call 120;refine (HC.out).mono ?_;rintro e w' ⟨rfl,hb⟩;have hb':Ext w2 w':=hb)
        go_roundw
        case rel=>exact ⟨k+1,by go_num,by omega,HT,hE.trans (hx2.trans hb')⟩
        case measure=>simp [intOf];omega
      ·have hk':k=l.length:=by omega
       have HF:=Lib.hid (HY.out (fun i hi=>hgd.out i hi Qk))
       go_wp2
       go_ret
       exact ⟨ze HF.out.symm,hx.trans hE⟩
    ·have HF:=Lib.hid (HNO.out (.inr (.inr (.inr Qk))))
     clear HNO hn hs hd
     rw [HF.out]
     go_enter Tryz.func120,Tryz.ntmps120
     go_upto_region 1 with (fail)
     rw [←HW1.out,←HG.out]
     clear HW1 HG HF
     go_wp2_with fail
     all_goals
      go_ret
      exact ⟨rfl,hx⟩
   ·have HF:=Lib.hid (HNO.out (.inl hn))
    clear HNO hs hd
    rw [HF.out]
    have hn':(n != 0)=true:=by simpa using hn
    clear hn
    go_enter Tryz.func120,Tryz.ntmps120
    go_upto_region 1 with (fail)
    rw [←HW1.out,←HG.out]
    clear HW1 HG HF
    go_wp2_with fail
    all_goals
     go_ret
     exact ⟨rfl,hx⟩
  ·have HF:=Lib.hid (HNO.out (.inr (.inr (.inl hs))))
   clear HNO hd
   rw [HF.out]
   have hs':¬s.toList=[]:=by rw [za7];exact hs
   clear hs
   go_enter Tryz.func120,Tryz.ntmps120
   go_upto_region 1 with (fail)
   rw [←HW1.out,←HG.out]
   clear HW1 HG HF
   go_wp2_with fail
   all_goals
    go_ret
    exact ⟨rfl,hx⟩
 ·have HF:=Lib.hid (HNO.out (.inr (.inl hd)))
  clear HNO
  rw [HF.out]
  have hd':(d != 0)=true:=by simpa using hd
  clear hd
  go_enter Tryz.func120,Tryz.ntmps120
  go_upto_region 1 with (fail)
  rw [←HW1.out,←HG.out]
  clear HW1 HG HF
  go_wp2_with fail
  all_goals
   go_ret
   exact ⟨rfl,hx⟩
theorem ztg:∀ j,ztb j
 | 0=>fun lists v ok A c w hl0 hj hv=>by
  obtain ⟨k,n,d,s,l⟩:=v
  simp only [Val.kind,Val.n,Val.d,Val.s,Val.l] at *
  obtain rfl:lists=8:=by omega
  by_cases h7:k=7
  ·subst h7
   rw [zc0 rfl]
   exact zp1 n d s l ok A c 8 w hv
  ·by_cases h8:k=8
   ·subst h8
    rw [zet rfl]
    exact zuv n d s l.length A c w hv.len
   ·rw [zbz (v:= .mk k n d s l) h7 h8,zf4]
    exact zoa k n d s l.length A c 8 w h7 h8 hv.len
 | j+1=>fun lists v ok A c w hl0 hj hv=>by
  have ih:=ztg j
  obtain ⟨k,n,d,s,l⟩:=v
  simp only [Val.kind,Val.n,Val.d,Val.s,Val.l] at *
  by_cases h7:k=7
  ·subst h7
   rw [zc0 rfl]
   exact zp1 n d s l ok A c lists w hv
  ·by_cases h8:k=8
   ·subst h8
    exact zw5 j ih lists n d s l ok A c w hl0 hj hv
   ·rw [zbz (v:= .mk k n d s l) h7 h8,zf4]
    exact zoa k n d s l.length A c lists w h7 h8 hv.len
theorem ziy (v:Val) (ok:Nat→Prop) (A:Option Addr) (c:Nat) (w:World) (hv:zk w ok A v.l) :
  Calls Tryz.prog 73 #[.agg #[.int .i64 v.kind, .int .i64 v.n, .int .i64 v.d, .string v.s, .slice A v.l.length c]] w fun e w'=>e= .returned (.bool (zab v))∧Ext w w':=by
 obtain ⟨g,w1,hg,hw1,⟨c0,c1,c2,c3,c4⟩,hx,-⟩:=zc2 w v.kind v.n v.d v.s A v.l.length c 28
 have C:=ztg 8 0 v ok A c w1 Qk rfl (hv.ext hx)
 rw [show zak 8 v=zab v from rfl] at C
 have HC:=Lib.hid C
 have HW1:=Lib.hid hw1
 have HG:=Lib.hid hg
 clear hw1 hg hv C
 go_enter Tryz.func73,Tryz.ntmps73
 go_upto_region 1 with (fail)
 rw [←HW1.out,←HG.out]
 clear HW1 HG
 go_wp2_with (go_at_call 120;refine (HC.out).mono ?_;rintro e w' ⟨rfl,hb⟩;have hb':Ext w1 w':=hb)
 go_ret
 exact ⟨rfl,hx.trans hb'⟩
theorem zvr (n:Int) (h1 : -1000000000000000≤n) (h2:n < 0):IntKind.u64.wrap (-(IntKind.u64.wrap n))=(n.natAbs:Int):=by
 simp [IntKind.wrap,IntKind.signed,IntKind.bits];omega
theorem zxl (n:Int) (h1:0≤n) (h2:n≤1000000000000000):IntKind.u64.wrap n=(n.natAbs:Int):=by
 simp [IntKind.wrap,IntKind.signed,IntKind.bits];omega
theorem zug (n:Int) (w:World) (h1 : -1000000000000000≤n) (h2:n≤1000000000000000) :
  Calls Tryz.prog 220 #[.int .i64 n] w fun e w'=>e= .returned (.int .u64 (n.natAbs:Int))∧w=w':=by
 by_cases h:n < 0
 ·have H:=zvr n h1 h
  go_enter Tryz.func220,Tryz.ntmps220
  go_wp2
  go_ret
  exact ⟨rfl,rfl⟩
 ·have H:=zxl n Qk h2
  go_enter Tryz.func220,Tryz.ntmps220
  go_wp2
  go_ret
  exact ⟨rfl,rfl⟩
theorem zch {W w1:World} (hb:Below W.heap.size W w1):(∀ b o,b < W.heap.size→w1.cell? ⟨b,o,none⟩=W.cell? ⟨b,o,none⟩)∧(∀ b o,b < W.heap.size→w1.frozen? ⟨b,o,none⟩=W.frozen? ⟨b,o,none⟩) :=
 ⟨fun b o h=>hb.cell (p:=⟨b,o,none⟩) h,fun b o h=>hb.frozen (p:=⟨b,o,none⟩) h⟩
theorem za2 {P:Program} {c:Code} {Q:Exit→Act→World→Prop} {a:Act} {W:World} (F:World→Prop) (h:F W) (k:∀ W',F W'→Code.wp P c Q a W'):Code.wp P c Q a W:=k W h
def WB (h l:Int) (m:Nat):Prop:=(0≤h∧h < 4611686018427387904)∧(0≤l∧l < 18446744073709551616)∧h*18446744073709551616+l=m
theorem z03 (m:Nat) (hm:m < 4611686018427387904*18446744073709551616):WB ((m / 18446744073709551616:Nat):Int) ((m % 18446744073709551616:Nat):Int) m:=by
 unfold WB;omega
def zhw (s:Bool) (m:Nat) (w:World) (e:Ending) (w':World):Prop := ∃ h l:Int,e= .returned (.agg #[.bool s, .int .u64 h, .int .u64 l])∧WB h l m∧Below w.heap.size w w'
theorem zef {a b:Int} (ha : -1000000000000000≤a∧a≤1000000000000000) (hb : -1000000000000000≤b∧b≤1000000000000000):a.natAbs*b.natAbs≤1000000000000000000000000000000:=by
 have:a.natAbs*b.natAbs≤1000000000000000*1000000000000000:=Nat.mul_le_mul Qk Qk
 omega
theorem zen (a b:Int) (w:World) (ha : -1000000000000000≤a∧a≤1000000000000000) (hb : -1000000000000000≤b∧b≤1000000000000000) :
  Calls Tryz.prog 192 #[.int .i64 a, .int .i64 b] w (zhw (decide (a < 0) != decide (b < 0)) (a.natAbs*b.natAbs) w):=by
 have hM:=Lib.hid (Tryz.bits_Mul64 a.natAbs b.natAbs Qk Qk)
 have hW:=Lib.hid (z03 (a.natAbs*b.natAbs) (by have:=zef ha hb;omega))
 generalize a.natAbs*b.natAbs=m at hM hW ⊢
 generalize hh:((m / 18446744073709551616:Nat):Int)=h at hM hW ⊢
 generalize hl:((m % 18446744073709551616:Nat):Int)=l at hM hW ⊢
 clear hh hl
 have a1:=ha.1
 have a2:=ha.2
 have b1:=hb.1
 have b2:=hb.2
 clear ha hb
 go_enter Tryz.func192,Tryz.ntmps192
 go_wp2_with (first|(go_at_call 220;refine (zug _ _ Qk Qk).mono ?_;rintro e w' ⟨rfl,rfl⟩)|(go_at_call 219;refine (hM.out _).mono ?_;rintro e w' ⟨rfl,rfl⟩))
 refine bodyPost_ret (v:= .agg #[.bool (decide (a < 0) != decide (b < 0)), .int .u64 h, .int .u64 l]) ?_ rfl ⟨h,l,rfl,hW.out,(Below.refl _ _).alloc (Nat.le_refl _) _⟩
 simp [results,Tryz.results192,go_sem]
 cases decide (a < 0) <;> cases decide (b < 0) <;> rfl
theorem zzv (x y c s k:Int) (hx:0≤x) (hy:0≤y) (hc:0≤c∧c≤1) (e:x+y+c=k*18446744073709551616+s) (hs:0≤s∧s < 18446744073709551616) (w:World) :
  (callFunc 221 #[.int .u64 x, .int .u64 y, .int .u64 c]).run Tryz.prog w= .ok (.value (.tuple #[.int .u64 s, .int .u64 k])) w:=by
 obtain ⟨x',rfl⟩:=Int.eq_ofNat_of_zero_le hx
 obtain ⟨y',rfl⟩:=Int.eq_ofNat_of_zero_le hy
 obtain ⟨c',rfl⟩:=Int.eq_ofNat_of_zero_le hc.1
 rw [run_callFunc_extern Tryz.func221 (by kernel_rfl) (by kernel_rfl) (by kernel_rfl) (e:=add64Entry) (by kernel_rfl),run_add64 x' y' c' Qk Qk Qk Qk]
 have e1:((x':Int)+y'+c') % 18446744073709551616=s:=by omega
 have e2:((x':Int)+y'+c') / 18446744073709551616=k:=by omega
 simp only [Result.andThen,e1,e2]
theorem zj3 (x y b s k:Int) (hx:0≤x∧x < 18446744073709551616) (hy:0≤y∧y < 18446744073709551616) (hb:0≤b∧b≤1) (e:x - y - b=s - k*18446744073709551616) (hs:0≤s∧s < 18446744073709551616) (w:World) :
  (callFunc 223 #[.int .u64 x, .int .u64 y, .int .u64 b]).run Tryz.prog w= .ok (.value (.tuple #[.int .u64 s, .int .u64 k])) w:=by
 obtain ⟨x',rfl⟩:=Int.eq_ofNat_of_zero_le hx.1
 obtain ⟨y',rfl⟩:=Int.eq_ofNat_of_zero_le hy.1
 obtain ⟨b',rfl⟩:=Int.eq_ofNat_of_zero_le hb.1
 rw [run_callFunc_extern Tryz.func223 (by kernel_rfl) (by kernel_rfl) (by kernel_rfl) (e:=sub64Entry) (by kernel_rfl),run_sub64 x' y' b' Qk]
 have e1:(((x'+18446744073709551616 - y' - b') % 18446744073709551616:Nat):Int)=s:=by omega
 have e2:((if x' < y'+b' then 1 else 0:Nat):Int)=k:=by split <;> omega
 rw [e1,e2]
 rfl
theorem zg0 (s1 s2:Bool) (h1 l1 h2 l2:Int) (m1 m2:Nat) (w:World) (W1:WB h1 l1 m1) (W2:WB h2 l2 m2) :
  Calls Tryz.prog 222 #[.agg #[.bool s1, .int .u64 h1, .int .u64 l1], .agg #[.bool s2, .int .u64 h2, .int .u64 l2]] w fun e w'=>e= .returned (.bool (decide (m1 < m2)))∧Below w.heap.size w w':=by
 have hb0:=((Below.refl w.heap.size w).alloc (Nat.le_refl _) (.cells #[.bool s1, .int .u64 h1, .int .u64 l1] 198)).alloc (by simp) (.cells #[.bool s2, .int .u64 h2, .int .u64 l2] 198)
 have HW:=Lib.hid (And.intro W1 W2)
 clear W1 W2
 by_cases g1:h1 < h2
 ·have HR:Hid (decide (m1 < m2)=true):=by have:=HW.out;unfold WB at this;exact decide_eq_true Qk
  go_enter Tryz.func222,Tryz.ntmps222
  go_wp2
  go_ret
  exact ⟨ze HR.out.symm,hb0⟩
 ·by_cases g2:h2 < h1
  ·have HR:Hid (decide (m1 < m2)=false):=by have:=HW.out;unfold WB at this;exact decide_eq_false Qk
   have g3:(h1 == h2)=false:=beq_eq_false_iff_ne.2 Qk
   go_enter Tryz.func222,Tryz.ntmps222
   go_wp2
   go_ret
   exact ⟨ze HR.out.symm,hb0⟩
  ·obtain rfl:h1=h2:=by omega
   have HR:Hid (decide (m1 < m2)=decide (l1 < l2)):=by
    have:=HW.out;unfold WB at this
    by_cases k:l1 < l2
    ·rw [decide_eq_true k];exact decide_eq_true Qk
    ·rw [decide_eq_false k];exact decide_eq_false Qk
   go_enter Tryz.func222,Tryz.ntmps222
   go_wp2
   go_ret
   exact ⟨ze HR.out.symm,hb0⟩
def znq (s1:Bool) (m1:Nat) (s2:Bool) (m2:Nat):Bool × Nat :=
 if s1=s2 then (s1,m1+m2) else if m1 < m2 then (s2,m2 - m1) else (s1,m1 - m2)
theorem zve {h1 l1 h2 l2:Int} {m1 m2:Nat} (W1:WB h1 l1 m1) (W2:WB h2 l2 m2) (hm:m1+m2 < 85070591730234615865843651857942052864) :
  ∃ lo c hi:Int,l1+l2+0=c*18446744073709551616+lo∧(0≤lo∧lo < 18446744073709551616)∧(0≤c∧c≤1)∧h1+h2+c=0*18446744073709551616+hi∧(0≤hi∧hi < 18446744073709551616)∧WB hi lo (m1+m2):=by
 unfold WB at *
 refine ⟨(l1+l2) % 18446744073709551616,(l1+l2) / 18446744073709551616,h1+h2+(l1+l2) / 18446744073709551616,?_,?_,?_,?_,?_,?_⟩ <;> omega
theorem zg9 {h1 l1 h2 l2:Int} {m1 m2:Nat} (W1:WB h1 l1 m1) (W2:WB h2 l2 m2) (hm:m2≤m1) :
  ∃ lo c hi:Int,l1 - l2 - 0=lo - c*18446744073709551616∧(0≤lo∧lo < 18446744073709551616)∧(0≤c∧c≤1)∧h1 - h2 - c=hi - 0*18446744073709551616∧(0≤hi∧hi < 18446744073709551616)∧WB hi lo (m1 - m2):=by
 unfold WB at *
 refine ⟨(l1 - l2) % 18446744073709551616,-((l1 - l2) / 18446744073709551616),h1 - h2+(l1 - l2) / 18446744073709551616,?_,?_,?_,?_,?_,?_⟩ <;> omega
theorem zlg (s:Bool) (h1 l1 h2 l2:Int) (m1 m2:Nat) (w:World) (W1:WB h1 l1 m1) (W2:WB h2 l2 m2) (hm:m1+m2 < 85070591730234615865843651857942052864) :
  Calls Tryz.prog 193 #[.agg #[.bool s, .int .u64 h1, .int .u64 l1], .agg #[.bool s, .int .u64 h2, .int .u64 l2]] w (zhw s (m1+m2) w):=by
 obtain ⟨lo,c,hi,e1,b1,b2,e2,b3,W⟩:=zve W1 W2 hm
 have A1:=zzv l1 l2 0 lo c W1.2.1.1 W2.2.1.1 Qk e1 b1
 have A2:=zzv h1 h2 c hi 0 W1.1.1 W2.1.1 b2 e2 b3
 have HW:=Lib.hid W
 clear e1 e2 b1 b2 b3 W W1 W2
 cases s
 ·go_enter Tryz.func193,Tryz.ntmps193
  go_wp2_with fail
  refine bodyPost_ret (v:= .agg #[.bool false, .int .u64 hi, .int .u64 lo]) (by simp [results,Tryz.results193,go_sem]) rfl ⟨hi,lo,rfl,HW.out,?_⟩
  exact Qa
 ·go_enter Tryz.func193,Tryz.ntmps193
  go_wp2_with fail
  refine bodyPost_ret (v:= .agg #[.bool true, .int .u64 hi, .int .u64 lo]) (by simp [results,Tryz.results193,go_sem]) rfl ⟨hi,lo,rfl,HW.out,?_⟩
  exact Qa
theorem zmo (h1 l1 h2 l2:Int) (m1 m2:Nat) (w:World) (W1:WB h1 l1 m1) (W2:WB h2 l2 m2) (hm:¬m1 < m2) :
  Calls Tryz.prog 193 #[.agg #[.bool true, .int .u64 h1, .int .u64 l1], .agg #[.bool false, .int .u64 h2, .int .u64 l2]] w (zhw true (m1 - m2) w):=by
 obtain ⟨lo,c,hi,e1,b1,b2,e2,b3,W⟩:=zg9 W1 W2 Qk
 have x1:0≤h1∧h1 < 18446744073709551616:=by have:=W1.1;omega
 have x2:0≤h2∧h2 < 18446744073709551616:=by have:=W2.1;omega
 have A1:=zj3 l1 l2 0 lo c W1.2.1 W2.2.1 Qk e1 b1
 have A2:=zj3 h1 h2 c hi 0 x1 x2 b2 e2 b3
 have HW:=Lib.hid W
 have HL:=fun w=>zg0 true false h1 l1 h2 l2 m1 m2 w W1 W2
 rw [decide_eq_false hm] at HL
 have HL':=Lib.hid HL
 clear e1 e2 b1 b2 b3 W W1 W2 HL x1 x2
 go_enter Tryz.func193,Tryz.ntmps193
 go_wp2_with fail
 refine (HL'.out _).mono ?_
 rintro e w2 ⟨rfl,hb2⟩
 obtain ⟨hc,hf⟩:=zch hb2
 have hz:w.heap.size+1+1 < w2.heap.size:=by have:=hb2.size;simp at this;omega
 have hbA:Below w.heap.size w w2:=Below.trans (b:=_) ?hpre (hb2.mono Qh)
 case hpre=>exact Qa
 go_wp2_with fail
 obtain ⟨hc,hf⟩:=zch hb2
 refine bodyPost_ret (v:= .agg #[.bool true, .int .u64 hi, .int .u64 lo]) (by simp [results,Tryz.results193,go_sem,hc]) rfl ⟨hi,lo,rfl,HW.out,?_⟩
 exact Qa
theorem zmm (h1 l1 h2 l2:Int) (m1 m2:Nat) (w:World) (W1:WB h1 l1 m1) (W2:WB h2 l2 m2) (hm:m1 < m2) :
  Calls Tryz.prog 193 #[.agg #[.bool true, .int .u64 h1, .int .u64 l1], .agg #[.bool false, .int .u64 h2, .int .u64 l2]] w (zhw false (m2 - m1) w):=by
 obtain ⟨lo,c,hi,e1,b1,b2,e2,b3,W⟩:=zg9 W2 W1 Qk
 have x1:0≤h1∧h1 < 18446744073709551616:=by have:=W1.1;omega
 have x2:0≤h2∧h2 < 18446744073709551616:=by have:=W2.1;omega
 have A1:=zj3 l2 l1 0 lo c W2.2.1 W1.2.1 Qk e1 b1
 have A2:=zj3 h2 h1 c hi 0 x2 x1 b2 e2 b3
 have HW:=Lib.hid W
 have HL:=fun w=>zg0 true false h1 l1 h2 l2 m1 m2 w W1 W2
 rw [decide_eq_true hm] at HL
 have HL':=Lib.hid HL
 clear e1 e2 b1 b2 b3 W W1 W2 HL x1 x2
 go_enter Tryz.func193,Tryz.ntmps193
 go_wp2_with fail
 refine (HL'.out _).mono ?_
 rintro e w2 ⟨rfl,hb2⟩
 obtain ⟨hc,hf⟩:=zch hb2
 have c00:w2.cell? ⟨w.heap.size,0,none⟩=some (.bool true):=by rw [hc _ _ Qh];go_simp
 have f00:w2.frozen? ⟨w.heap.size,0,none⟩=false:=by rw [hf _ _ Qh];go_simp
 have c01:w2.cell? ⟨w.heap.size,1,none⟩=some (.int .u64 h1):=by rw [hc _ _ Qh];go_simp
 have f01:w2.frozen? ⟨w.heap.size,1,none⟩=false:=by rw [hf _ _ Qh];go_simp
 have c02:w2.cell? ⟨w.heap.size,2,none⟩=some (.int .u64 l1):=by rw [hc _ _ Qh];go_simp
 have f02:w2.frozen? ⟨w.heap.size,2,none⟩=false:=by rw [hf _ _ Qh];go_simp
 have c10:w2.cell? ⟨w.heap.size+1,0,none⟩=some (.bool false):=by rw [hc _ _ Qh];go_simp
 have f10:w2.frozen? ⟨w.heap.size+1,0,none⟩=false:=by rw [hf _ _ Qh];go_simp
 have c11:w2.cell? ⟨w.heap.size+1,1,none⟩=some (.int .u64 h2):=by rw [hc _ _ Qh];go_simp
 have f11:w2.frozen? ⟨w.heap.size+1,1,none⟩=false:=by rw [hf _ _ Qh];go_simp
 have c12:w2.cell? ⟨w.heap.size+1,2,none⟩=some (.int .u64 l2):=by rw [hc _ _ Qh];go_simp
 have f12:w2.frozen? ⟨w.heap.size+1,2,none⟩=false:=by rw [hf _ _ Qh];go_simp
 have c20:w2.cell? ⟨w.heap.size+1+1,0,none⟩=some (.bool false):=by rw [hc _ _ Qh];go_simp
 have f20:w2.frozen? ⟨w.heap.size+1+1,0,none⟩=false:=by rw [hf _ _ Qh];go_simp
 have c21:w2.cell? ⟨w.heap.size+1+1,1,none⟩=some (.int .u64 0):=by rw [hc _ _ Qh];go_simp
 have f21:w2.frozen? ⟨w.heap.size+1+1,1,none⟩=false:=by rw [hf _ _ Qh];go_simp
 have c22:w2.cell? ⟨w.heap.size+1+1,2,none⟩=some (.int .u64 0):=by rw [hc _ _ Qh];go_simp
 have f22:w2.frozen? ⟨w.heap.size+1+1,2,none⟩=false:=by rw [hf _ _ Qh];go_simp
 have hz:w.heap.size+1+1 < w2.heap.size:=by have:=hb2.size;simp at this;omega
 have hbA:Below w.heap.size w w2:=Below.trans (b:=_) ?hpre (hb2.mono Qh)
 case hpre=>exact Qa
 clear hc hf hb2
 go_upto_region 7 with (fail)
 refine za2 (fun W=>(Below w.heap.size w W∧w.heap.size+1+1 < W.heap.size)∧(W.cell? ⟨w.heap.size,0,none⟩=some (.bool false)∧W.frozen? ⟨w.heap.size,0,none⟩=false)∧(W.cell? ⟨w.heap.size,1,none⟩=some (.int .u64 h2)∧W.frozen? ⟨w.heap.size,1,none⟩=false)∧(W.cell? ⟨w.heap.size,2,none⟩=some (.int .u64 l2)∧W.frozen? ⟨w.heap.size,2,none⟩=false)∧(W.cell? ⟨w.heap.size+1,0,none⟩=some (.bool true)∧W.frozen? ⟨w.heap.size+1,0,none⟩=false)∧(W.cell? ⟨w.heap.size+1,1,none⟩=some (.int .u64 h1)∧W.frozen? ⟨w.heap.size+1,1,none⟩=false)∧(W.cell? ⟨w.heap.size+1,2,none⟩=some (.int .u64 l1)∧W.frozen? ⟨w.heap.size+1,2,none⟩=false)∧(W.cell? ⟨w.heap.size+1+1,0,none⟩=some (.bool false)∧W.frozen? ⟨w.heap.size+1+1,0,none⟩=false)∧(W.cell? ⟨w.heap.size+1+1,1,none⟩=some (.int .u64 0)∧W.frozen? ⟨w.heap.size+1+1,1,none⟩=false)∧(W.cell? ⟨w.heap.size+1+1,2,none⟩=some (.int .u64 0)∧W.frozen? ⟨w.heap.size+1+1,2,none⟩=false)) ⟨⟨Qa,by go_simp⟩,⟨by go_simp,by go_simp⟩,⟨by go_simp,by go_simp⟩,⟨by go_simp,by go_simp⟩,⟨by go_simp,by go_simp⟩,⟨by go_simp,by go_simp⟩,⟨by go_simp,by go_simp⟩,⟨by go_simp,by go_simp⟩,⟨by go_simp,by go_simp⟩,⟨by go_simp,by go_simp⟩⟩ ?_
 rintro W ⟨⟨hbB,hzB⟩,⟨d00,g00⟩,⟨d01,g01⟩,⟨d02,g02⟩,⟨d10,g10⟩,⟨d11,g11⟩,⟨d12,g12⟩,⟨d20,g20⟩,⟨d21,g21⟩,⟨d22,g22⟩⟩
 clear hbA hz c00 c01 c02 c10 c11 c12 c20 c21 c22 f00 f01 f02 f10 f11 f12 f20 f21 f22
 go_wp2_with fail
 refine bodyPost_ret (v:= .agg #[.bool false, .int .u64 hi, .int .u64 lo]) (by simp [results,Tryz.results193,go_sem, *]) rfl ⟨hi,lo,rfl,HW.out,?_⟩
 exact Qa
theorem zmr (h1 l1 h2 l2:Int) (m1 m2:Nat) (w:World) (W1:WB h1 l1 m1) (W2:WB h2 l2 m2) (hm:¬m1 < m2) :
  Calls Tryz.prog 193 #[.agg #[.bool false, .int .u64 h1, .int .u64 l1], .agg #[.bool true, .int .u64 h2, .int .u64 l2]] w (zhw false (m1 - m2) w):=by
 obtain ⟨lo,c,hi,e1,b1,b2,e2,b3,W⟩:=zg9 W1 W2 Qk
 have x1:0≤h1∧h1 < 18446744073709551616:=by have:=W1.1;omega
 have x2:0≤h2∧h2 < 18446744073709551616:=by have:=W2.1;omega
 have A1:=zj3 l1 l2 0 lo c W1.2.1 W2.2.1 Qk e1 b1
 have A2:=zj3 h1 h2 c hi 0 x1 x2 b2 e2 b3
 have HW:=Lib.hid W
 have HL:=fun w=>zg0 false true h1 l1 h2 l2 m1 m2 w W1 W2
 rw [decide_eq_false hm] at HL
 have HL':=Lib.hid HL
 clear e1 e2 b1 b2 b3 W W1 W2 HL x1 x2
 go_enter Tryz.func193,Tryz.ntmps193
 go_wp2_with fail
 refine (HL'.out _).mono ?_
 rintro e w2 ⟨rfl,hb2⟩
 obtain ⟨hc,hf⟩:=zch hb2
 have hz:w.heap.size+1+1 < w2.heap.size:=by have:=hb2.size;simp at this;omega
 have hbA:Below w.heap.size w w2:=Below.trans (b:=_) ?hpre (hb2.mono Qh)
 case hpre=>exact Qa
 go_wp2_with fail
 obtain ⟨hc,hf⟩:=zch hb2
 refine bodyPost_ret (v:= .agg #[.bool false, .int .u64 hi, .int .u64 lo]) (by simp [results,Tryz.results193,go_sem,hc]) rfl ⟨hi,lo,rfl,HW.out,?_⟩
 exact Qa
theorem zmk (h1 l1 h2 l2:Int) (m1 m2:Nat) (w:World) (W1:WB h1 l1 m1) (W2:WB h2 l2 m2) (hm:m1 < m2) :
  Calls Tryz.prog 193 #[.agg #[.bool false, .int .u64 h1, .int .u64 l1], .agg #[.bool true, .int .u64 h2, .int .u64 l2]] w (zhw true (m2 - m1) w):=by
 obtain ⟨lo,c,hi,e1,b1,b2,e2,b3,W⟩:=zg9 W2 W1 Qk
 have x1:0≤h1∧h1 < 18446744073709551616:=by have:=W1.1;omega
 have x2:0≤h2∧h2 < 18446744073709551616:=by have:=W2.1;omega
 have A1:=zj3 l2 l1 0 lo c W2.2.1 W1.2.1 Qk e1 b1
 have A2:=zj3 h2 h1 c hi 0 x2 x1 b2 e2 b3
 have HW:=Lib.hid W
 have HL:=fun w=>zg0 false true h1 l1 h2 l2 m1 m2 w W1 W2
 rw [decide_eq_true hm] at HL
 have HL':=Lib.hid HL
 clear e1 e2 b1 b2 b3 W W1 W2 HL x1 x2
 go_enter Tryz.func193,Tryz.ntmps193
 go_wp2_with fail
 refine (HL'.out _).mono ?_
 rintro e w2 ⟨rfl,hb2⟩
 obtain ⟨hc,hf⟩:=zch hb2
 have c00:w2.cell? ⟨w.heap.size,0,none⟩=some (.bool false):=by rw [hc _ _ Qh];go_simp
 have f00:w2.frozen? ⟨w.heap.size,0,none⟩=false:=by rw [hf _ _ Qh];go_simp
 have c01:w2.cell? ⟨w.heap.size,1,none⟩=some (.int .u64 h1):=by rw [hc _ _ Qh];go_simp
 have f01:w2.frozen? ⟨w.heap.size,1,none⟩=false:=by rw [hf _ _ Qh];go_simp
 have c02:w2.cell? ⟨w.heap.size,2,none⟩=some (.int .u64 l1):=by rw [hc _ _ Qh];go_simp
 have f02:w2.frozen? ⟨w.heap.size,2,none⟩=false:=by rw [hf _ _ Qh];go_simp
 have c10:w2.cell? ⟨w.heap.size+1,0,none⟩=some (.bool true):=by rw [hc _ _ Qh];go_simp
 have f10:w2.frozen? ⟨w.heap.size+1,0,none⟩=false:=by rw [hf _ _ Qh];go_simp
 have c11:w2.cell? ⟨w.heap.size+1,1,none⟩=some (.int .u64 h2):=by rw [hc _ _ Qh];go_simp
 have f11:w2.frozen? ⟨w.heap.size+1,1,none⟩=false:=by rw [hf _ _ Qh];go_simp
 have c12:w2.cell? ⟨w.heap.size+1,2,none⟩=some (.int .u64 l2):=by rw [hc _ _ Qh];go_simp
 have f12:w2.frozen? ⟨w.heap.size+1,2,none⟩=false:=by rw [hf _ _ Qh];go_simp
 have c20:w2.cell? ⟨w.heap.size+1+1,0,none⟩=some (.bool false):=by rw [hc _ _ Qh];go_simp
 have f20:w2.frozen? ⟨w.heap.size+1+1,0,none⟩=false:=by rw [hf _ _ Qh];go_simp
 have c21:w2.cell? ⟨w.heap.size+1+1,1,none⟩=some (.int .u64 0):=by rw [hc _ _ Qh];go_simp
 have f21:w2.frozen? ⟨w.heap.size+1+1,1,none⟩=false:=by rw [hf _ _ Qh];go_simp
 have c22:w2.cell? ⟨w.heap.size+1+1,2,none⟩=some (.int .u64 0):=by rw [hc _ _ Qh];go_simp
 have f22:w2.frozen? ⟨w.heap.size+1+1,2,none⟩=false:=by rw [hf _ _ Qh];go_simp
 have hz:w.heap.size+1+1 < w2.heap.size:=by have:=hb2.size;simp at this;omega
 have hbA:Below w.heap.size w w2:=Below.trans (b:=_) ?hpre (hb2.mono Qh)
 case hpre=>exact Qa
 clear hc hf hb2
 go_upto_region 7 with (fail)
 refine za2 (fun W=>(Below w.heap.size w W∧w.heap.size+1+1 < W.heap.size)∧(W.cell? ⟨w.heap.size,0,none⟩=some (.bool true)∧W.frozen? ⟨w.heap.size,0,none⟩=false)∧(W.cell? ⟨w.heap.size,1,none⟩=some (.int .u64 h2)∧W.frozen? ⟨w.heap.size,1,none⟩=false)∧(W.cell? ⟨w.heap.size,2,none⟩=some (.int .u64 l2)∧W.frozen? ⟨w.heap.size,2,none⟩=false)∧(W.cell? ⟨w.heap.size+1,0,none⟩=some (.bool false)∧W.frozen? ⟨w.heap.size+1,0,none⟩=false)∧(W.cell? ⟨w.heap.size+1,1,none⟩=some (.int .u64 h1)∧W.frozen? ⟨w.heap.size+1,1,none⟩=false)∧(W.cell? ⟨w.heap.size+1,2,none⟩=some (.int .u64 l1)∧W.frozen? ⟨w.heap.size+1,2,none⟩=false)∧(W.cell? ⟨w.heap.size+1+1,0,none⟩=some (.bool false)∧W.frozen? ⟨w.heap.size+1+1,0,none⟩=false)∧(W.cell? ⟨w.heap.size+1+1,1,none⟩=some (.int .u64 0)∧W.frozen? ⟨w.heap.size+1+1,1,none⟩=false)∧(W.cell? ⟨w.heap.size+1+1,2,none⟩=some (.int .u64 0)∧W.frozen? ⟨w.heap.size+1+1,2,none⟩=false)) ⟨⟨Qa,by go_simp⟩,⟨by go_simp,by go_simp⟩,⟨by go_simp,by go_simp⟩,⟨by go_simp,by go_simp⟩,⟨by go_simp,by go_simp⟩,⟨by go_simp,by go_simp⟩,⟨by go_simp,by go_simp⟩,⟨by go_simp,by go_simp⟩,⟨by go_simp,by go_simp⟩,⟨by go_simp,by go_simp⟩⟩ ?_
 rintro W ⟨⟨hbB,hzB⟩,⟨d00,g00⟩,⟨d01,g01⟩,⟨d02,g02⟩,⟨d10,g10⟩,⟨d11,g11⟩,⟨d12,g12⟩,⟨d20,g20⟩,⟨d21,g21⟩,⟨d22,g22⟩⟩
 clear hbA hz c00 c01 c02 c10 c11 c12 c20 c21 c22 f00 f01 f02 f10 f11 f12 f20 f21 f22
 go_wp2_with fail
 refine bodyPost_ret (v:= .agg #[.bool true, .int .u64 hi, .int .u64 lo]) (by simp [results,Tryz.results193,go_sem, *]) rfl ⟨hi,lo,rfl,HW.out,?_⟩
 exact Qa
theorem zhd (s1 s2:Bool) (h1 l1 h2 l2:Int) (m1 m2:Nat) (w:World) (W1:WB h1 l1 m1) (W2:WB h2 l2 m2) (hm:m1+m2 < 85070591730234615865843651857942052864) :
  Calls Tryz.prog 193 #[.agg #[.bool s1, .int .u64 h1, .int .u64 l1], .agg #[.bool s2, .int .u64 h2, .int .u64 l2]] w (zhw (znq s1 m1 s2 m2).1 (znq s1 m1 s2 m2).2 w):=by
 unfold znq
 by_cases hs:s1=s2
 ·subst hs;rw [if_pos rfl];exact zlg s1 h1 l1 h2 l2 m1 m2 w W1 W2 hm
 ·rw [if_neg hs]
  by_cases hlt:m1 < m2
  ·rw [if_pos hlt]
   cases s1 <;> cases s2
   ·exact absurd rfl hs
   ·exact zmk h1 l1 h2 l2 m1 m2 w W1 W2 hlt
   ·exact zmm h1 l1 h2 l2 m1 m2 w W1 W2 hlt
   ·exact absurd rfl hs
  ·rw [if_neg hlt]
   cases s1 <;> cases s2
   ·exact absurd rfl hs
   ·exact zmr h1 l1 h2 l2 m1 m2 w W1 W2 hlt
   ·exact zmo h1 l1 h2 l2 m1 m2 w W1 W2 hlt
   ·exact absurd rfl hs
def zwa (s:Bool) (m:Nat):Int:=if m=0 then 0 else if s then -1 else 1
theorem zyq {h l:Int} {m:Nat} (W:WB h l m):(bits .or .u64 h l == 0)=decide (m=0):=by
 unfold WB at W
 obtain ⟨h',rfl⟩:=Int.eq_ofNat_of_zero_le W.1.1
 obtain ⟨l',rfl⟩:=Int.eq_ofNat_of_zero_le W.2.1.1
 rw [bits_or_u64_nat h' l' Qk Qk]
 by_cases hm:m=0
 ·rw [decide_eq_true hm]
  obtain rfl:h'=0:=by omega
  obtain rfl:l'=0:=by omega
  rfl
 ·rw [decide_eq_false hm,beq_eq_false_iff_ne]
  intro e
  have e':h' ||| l'=0:=by omega
  rw [Nat.or_eq_zero_iff] at e'
  omega
theorem zg2 (s:Bool) (h l:Int) (m:Nat) (w:World) (W:WB h l m) :
  Calls Tryz.prog 194 #[.agg #[.bool s, .int .u64 h, .int .u64 l]] w fun e w'=>e= .returned (.int .i64 (zwa s m))∧Below w.heap.size w w':=by
 have hb0:=(Below.refl w.heap.size w).alloc (Nat.le_refl _) (.cells #[.bool s, .int .u64 h, .int .u64 l] 198)
 have HO:=zyq W
 by_cases hm:m=0
 ·rw [decide_eq_true hm] at HO
  have HS:Hid (zwa s m=0):=if_pos hm
  go_enter Tryz.func194,Tryz.ntmps194
  go_wp2
  go_ret
  exact ⟨zm HS.out.symm,hb0⟩
 ·rw [decide_eq_false hm] at HO
  have HS:Hid (zwa s m=if s then -1 else 1):=if_neg hm
  cases s
  ·go_enter Tryz.func194,Tryz.ntmps194
   go_wp2
   go_ret
   exact ⟨zm HS.out.symm,hb0⟩
  ·go_enter Tryz.func194,Tryz.ntmps194
   go_wp2
   go_ret
   exact ⟨zm HS.out.symm,hb0⟩
theorem zze {x:Nat} (h:x < 18446744073709551616):bits .and .u64 (x:Int) 4294967295=((x % 4294967296:Nat):Int):=by
 have:=u64_and_nat x 4294967295 h Qk
 rw [show ((4294967295:Nat):Int)=4294967295 from rfl] at this
 rw [this]
 congr 1
 exact Nat.and_two_pow_sub_one_eq_mod x 32
theorem z1m {a b:Nat} (ha:a < 4294967296) (hb:b < 4294967296):((a*4294967296+b:Nat):Int) / 4294967296=(a:Int)∧bits .and .u64 ((a*4294967296+b:Nat):Int) 4294967295=(b:Int):=by
 refine ⟨by omega,?_⟩
 rw [zze Qk];congr 1;omega
def znt (s:Bool) (m:Nat):Int:=if s then -(m:Int) else (m:Int)
theorem zdq (a b:Int):znt (decide (a < 0) != decide (b < 0)) (a.natAbs*b.natAbs)=a*b:=by
 unfold znt
 have e:((a.natAbs*b.natAbs:Nat):Int)=(a.natAbs:Int)*(b.natAbs:Int):=by simp
 rw [e]
 by_cases ha:a < 0 <;> by_cases hb:b < 0
 ·rw [decide_eq_true ha,decide_eq_true hb,show (a.natAbs:Int) = -a from by omega,show (b.natAbs:Int) = -b from by omega];simp;grind
 ·rw [decide_eq_true ha,decide_eq_false hb,show (a.natAbs:Int) = -a from by omega,show (b.natAbs:Int)=b from by omega];simp;grind
 ·rw [decide_eq_false ha,decide_eq_true hb,show (a.natAbs:Int)=a from by omega,show (b.natAbs:Int) = -b from by omega];simp;grind
 ·rw [decide_eq_false ha,decide_eq_false hb,show (a.natAbs:Int)=a from by omega,show (b.natAbs:Int)=b from by omega];simp
theorem zhh (s1:Bool) (m1:Nat) (s2:Bool) (m2:Nat):znt (znq s1 m1 s2 m2).1 (znq s1 m1 s2 m2).2=znt s1 m1+znt s2 m2:=by
 unfold znt znq
 cases s1 <;> cases s2
 ·simp
 ·by_cases h:m1 < m2 <;> simp [h] <;> omega
 ·by_cases h:m1 < m2 <;> simp [h] <;> omega
 ·simp;omega
theorem zij {s:Bool} {m:Nat}:zwa s m=sgn (znt s m):=by
 unfold zwa znt sgn
 by_cases h:m=0
 ·subst h;cases s <;> simp
 ·rw [if_neg h];cases s
  ·simp;omega
  ·simp;omega
theorem zj1 {B:Nat} {a w:World} (h:Below B a w):Below B a w.drew:=zc h 1
def z02 (H:Nat) (a b c:Value) (V:World):Prop:=V.cell? ⟨H,0,none⟩=some a∧V.cell? ⟨H,1,none⟩=some b∧V.cell? ⟨H,2,none⟩=some c∧V.frozen? ⟨H,0,none⟩=false∧V.frozen? ⟨H,1,none⟩=false∧V.frozen? ⟨H,2,none⟩=false∧H < V.heap.size
def zq (w:World):Prop:=w.cell? ⟨0,0,none⟩=some (.int .i64 0)∧w.cell? ⟨0,1,none⟩=some (.int .i64 1)∧0 < w.heap.size
theorem zq.below {w w':World} (h:zq w) (hb:Below w.heap.size w w'):zq w':=by
 obtain ⟨h0,h1,hs⟩:=h
 obtain ⟨hc,hf⟩:=zch hb
 have:=hb.size
 exact ⟨(hc _ _ hs).trans h0,(hc _ _ hs).trans h1,by omega⟩
def zpa (w:World) (H:Nat) (ad bd:Int) (s:Bool) (h l:Int) (V:World):Prop :=
 Below w.heap.size w V∧(w.heap.size+1+1 < H∧H < V.heap.size)∧V.cell? ⟨w.heap.size,1,none⟩=some (.int .i64 ad)∧V.cell? ⟨w.heap.size+1,1,none⟩=some (.int .i64 bd) ∧
 (V.cell? ⟨w.heap.size+1+1,0,none⟩=some (.int .i64 0)∧V.frozen? ⟨w.heap.size+1+1,0,none⟩=false)∧(V.cell? ⟨w.heap.size+1+1,1,none⟩=some (.int .i64 0)∧V.frozen? ⟨w.heap.size+1+1,1,none⟩=false) ∧
 (V.cell? ⟨H,0,none⟩=some (.bool s)∧V.cell? ⟨H,1,none⟩=some (.int .u64 h)∧V.cell? ⟨H,2,none⟩=some (.int .u64 l)) ∧
 (V.cell? ⟨0,0,none⟩=some (.int .i64 0)∧V.cell? ⟨0,1,none⟩=some (.int .i64 1)∧0 < w.heap.size)
theorem zpa.step {w:World} {H:Nat} {ad bd:Int} {s:Bool} {h l:Int} {V V':World} (q:zpa w H ad bd s h l V) (hb:Below V.heap.size V V'):zpa w H ad bd s h l V':=by
 obtain ⟨q0,⟨q1,q2⟩,q3,q4,⟨q5,q6⟩,⟨q7,q8⟩,⟨q9,q10,q11⟩,q12,q13,q14⟩:=q
 obtain ⟨hc,hf⟩:=zch hb
 have hs:=hb.size
 exact ⟨zd5 q0 hb,⟨q1,by omega⟩,(hc _ _ Qk).trans q3,(hc _ _ Qk).trans q4,⟨(hc _ _ Qk).trans q5,(hf _ _ Qk).trans q6⟩,⟨(hc _ _ Qk).trans q7,(hf _ _ Qk).trans q8⟩,⟨(hc _ _ Qk).trans q9,(hc _ _ Qk).trans q10,(hc _ _ Qk).trans q11⟩,(hc _ _ Qk).trans q12,(hc _ _ Qk).trans q13,q14⟩
theorem zpa.start {w W wc:World} {H:Nat} {ad bd:Int} {s:Bool} {h l:Int} (hz:zq w) (hbB:Below w.heap.size w W) (hbX:Below (w.heap.size+1+1+1) W wc)
  (d1:W.cell? ⟨w.heap.size,1,none⟩=some (.int .i64 ad)) (d3:W.cell? ⟨w.heap.size+1,1,none⟩=some (.int .i64 bd))
  (d4:W.cell? ⟨w.heap.size+1+1,0,none⟩=some (.int .i64 0)) (g4:W.frozen? ⟨w.heap.size+1+1,0,none⟩=false)
  (d5:W.cell? ⟨w.heap.size+1+1,1,none⟩=some (.int .i64 0)) (g5:W.frozen? ⟨w.heap.size+1+1,1,none⟩=false)
  (hH:w.heap.size+1+1 < H) (hbox:z02 H (.bool s) (.int .u64 h) (.int .u64 l) wc):zpa w H ad bd s h l wc:=by
 have hc:∀ b o,b < w.heap.size+1+1+1→wc.cell? ⟨b,o,none⟩=W.cell? ⟨b,o,none⟩:=fun b o k=>hbX.cell (p:=⟨b,o,none⟩) k
 have hf:∀ b o,b < w.heap.size+1+1+1→wc.frozen? ⟨b,o,none⟩=W.frozen? ⟨b,o,none⟩:=fun b o k=>hbX.frozen (p:=⟨b,o,none⟩) k
 have hb:Below w.heap.size w wc:=hbB.trans (hbX.mono Qk)
 obtain ⟨x0,x1,x2,-,-,-,yh⟩:=hbox
 obtain ⟨z0,z1,z2⟩:=hz
 obtain ⟨hc0,-⟩:=zch hb
 exact ⟨hb,⟨hH,yh⟩,(hc _ _ Qk).trans d1,(hc _ _ Qk).trans d3,⟨(hc _ _ Qk).trans d4,(hf _ _ Qk).trans g4⟩,⟨(hc _ _ Qk).trans d5,(hf _ _ Qk).trans g5⟩,⟨x0,x1,x2⟩,(hc0 _ _ z2).trans z0,(hc0 _ _ z2).trans z1,z2⟩
end Go.Proofs.YtfhekbacigoblaaGreatDoor
