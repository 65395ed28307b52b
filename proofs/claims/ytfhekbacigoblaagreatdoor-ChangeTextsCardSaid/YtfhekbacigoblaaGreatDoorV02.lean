import Derived.Test.YtfhekbacigoblaaGreatDoorV01
import Derived.Deep.QuietTactic
import Derived.BigQuiet
import Derived.Deep.Cut
import Derived.Test.YtfhekbacigoblaaGreatDoorShelf
namespace Go.Proofs.YtfhekbacigoblaaGreatDoor
set_option maxRecDepth 100000
set_option maxHeartbeats 3200000
open Go.RowKit
theorem zm {k:IntKind} {a b:Int} (h:a=b):Ending.returned (.int k a)= .returned (.int k b):=by rw [h]
theorem zol (n:Int) (w:World) (h1 : -1000000000000000≤n) (h2:n≤1000000000000000) :
  Calls Tryz.prog 212 #[.int .i64 n] w fun e w'=>e= .returned (.int .i64 n.natAbs)∧w=w':=by
 by_cases h:n < 0
 all_goals
  go_enter Tryz.func212,Tryz.ntmps212
  go_wp2
  all_goals go_ret
  all_goals (refine ⟨zm ?_,rfl⟩;omega)
def zub (a b:Int):Int:=if zpp a b then (Nat.gcd a.natAbs b.natAbs:Int) else 0
theorem zqa {a b:Int} (ha:inB a=true) (hb:inB b=true):zub a b=(Nat.gcd a.natAbs b.natAbs:Int):=by
 unfold zub zpp;rw [ha,hb];rfl
theorem zs3 {a b:Int} (h:zpp a b=false):zub a b=0:=by unfold zub;rw [h];rfl
theorem zpv (x y:Nat):Nat.gcd y (x % y)=Nat.gcd x y:=by
 rw [Nat.gcd_comm x y,Nat.gcd_rec y x,Nat.gcd_comm]
theorem zzc (a b:Int) (w:World) :
  Calls Tryz.prog 185 #[.int .i64 a, .int .i64 b] w fun e w'=>e= .returned (.int .i64 (zub a b))∧∃ n,w'=w.drewN n:=by
 rcases zjg a with ⟨ha,ha1,ha2⟩|⟨ha,ha1⟩
 ·rcases zjg b with ⟨hb,hb1,hb2⟩|⟨hb,hb1⟩
  ·have H:=Lib.hid (zqa ha hb)
   go_enter Tryz.func185,Tryz.ntmps185
   go_wp2_with (first|(go_at_call 159;refine (zjs _ _).mono ?_;rintro e w' ⟨rfl,rfl⟩)|(go_at_call 212;refine (zol _ _ Qk Qk).mono ?_;rintro e w' ⟨rfl,rfl⟩))
   go_loopw [0,1] (fun u v wr => ∃ x y:Nat,u= .int .i64 x∧v= .int .i64 y∧Hid (Nat.gcd x y=Nat.gcd a.natAbs b.natAbs)∧x≤1000000000000000∧y≤1000000000000000∧∃ n,wr=w.drewN n) (fun _ v _=>(intOf v).toNat)
   case atStart=>exact ⟨_,_,rfl,rfl,Lib.hid rfl,by omega,by omega,0,rfl⟩
   case round =>
    obtain ⟨x,y,rfl,rfl,hg,hx,hy,n,rfl⟩:=hrel
    by_cases h0:y=0
    ·subst h0
     go_wp2
     go_ret
     exact ⟨zm (by rw [H.out,←hg.out,Nat.gcd_zero_right]),n,rfl⟩
    ·have hy0:(0:Int) < (y:Int):=by omega
     have hne:((y:Int) != 0)=true:=by rw [bne_iff_ne];omega
     have hne2:((y:Int) == 0)=false:=by rw [beq_eq_false_iff_ne];omega
     go_wp2
     go_quiet (fail)
     go_wp2
     have hm:=Int.emod_lt_of_pos (x:Int) hy0
     have hm0:=Int.emod_nonneg (x:Int) (show (y:Int) ≠ 0 by omega)
     go_roundw
     case rel=>exact ⟨y,x % y,rfl,by go_num,Lib.hid ((zpv x y).trans hg.out),by omega,by omega,n+nq,by simp⟩
     case measure=>simp [intOf];omega
  ·have H:=Lib.hid (zs3 (a:=a) (b:=b) (by simp [zpp,hb]))
   go_enter Tryz.func185,Tryz.ntmps185
   go_wp2_with (first|(go_at_call 159;refine (zjs _ _).mono ?_;rintro e w' ⟨rfl,rfl⟩)|(go_at_call 212;refine (zol _ _ Qk Qk).mono ?_;rintro e w' ⟨rfl,rfl⟩))
   go_ret
   exact ⟨zm H.out.symm,0,rfl⟩
 ·have H:=Lib.hid (zs3 (a:=a) (b:=b) (by simp [zpp,ha]))
  go_enter Tryz.func185,Tryz.ntmps185
  go_wp2_with (first|(go_at_call 159;refine (zjs _ _).mono ?_;rintro e w' ⟨rfl,rfl⟩)|(go_at_call 212;refine (zol _ _ Qk Qk).mono ?_;rintro e w' ⟨rfl,rfl⟩))
  go_ret
  exact ⟨zm H.out.symm,0,rfl⟩
theorem zd5 {w w1 w2:World} (h:Below w.heap.size w w1) (h2:Below w1.heap.size w1 w2):Below w.heap.size w w2:=h.trans (h2.mono h.size)
theorem zc {B:Nat} {a w:World} (h:Below B a w) (n:Nat):Below B a (w.drewN n):=h.trans ⟨rfl,rfl,rfl,Nat.le_refl _,fun _ _=>rfl⟩
theorem ze {p q:Bool} (h:p=q):Ending.returned (.bool p)= .returned (.bool q):=by rw [h]
theorem zio (n:Int) (w:World) (h1 : -9223372036854775808 < n) (h2:n≤9223372036854775807) :
  Calls Tryz.prog 153 #[.int .i64 n] w fun e w'=>e= .returned (.int .i64 n.natAbs)∧w=w':=by
 by_cases h:n < 0
 all_goals
  go_enter Tryz.func153,Tryz.ntmps153
  go_wp2
  all_goals go_ret
  all_goals (refine ⟨zm ?_,rfl⟩;omega)
def sgn (n:Int):Int:=if n < 0 then -1 else if 0 < n then 1 else 0
theorem zki (n:Int) (w:World) :
  Calls Tryz.prog 151 #[.int .i64 n] w fun e w'=>e= .returned (.int .i64 (sgn n))∧w=w':=by
 by_cases h:n < 0
 ·have HS:Hid (sgn n = -1):=if_pos h
  go_enter Tryz.func151,Tryz.ntmps151
  go_wp2
  go_ret
  exact ⟨zm HS.out.symm,rfl⟩
 ·by_cases h':0 < n
  ·have HS:Hid (sgn n=1):=by unfold sgn;rw [if_neg h,if_pos h'];rfl
   go_enter Tryz.func151,Tryz.ntmps151
   go_wp2
   go_ret
   exact ⟨zm HS.out.symm,rfl⟩
  ·have HS:Hid (sgn n=0):=by unfold sgn;rw [if_neg h,if_neg h'];rfl
   go_enter Tryz.func151,Tryz.ntmps151
   go_wp2
   go_ret
   exact ⟨zm HS.out.symm,rfl⟩
theorem zru (a b:Nat) (w:World) (ha:a≤1000000000000000) (hb:b≤1000000000000000) :
  Calls Tryz.prog 195 #[.int .i64 a, .int .i64 b] w fun e w'=>e= .returned (.int .i64 (Nat.gcd a b))∧∃ n,w'=w.drewN n:=by
 go_enter Tryz.func195,Tryz.ntmps195
 go_wp2
 go_loopw [0,1] (fun u v wr => ∃ x y:Nat,u= .int .i64 x∧v= .int .i64 y∧Hid (Nat.gcd x y=Nat.gcd a b)∧x≤1000000000000000∧y≤1000000000000000∧∃ n,wr=w.drewN n) (fun _ v _=>(intOf v).toNat)
 case atStart=>exact ⟨a,b,rfl,rfl,Lib.hid rfl,ha,hb,0,rfl⟩
 case round =>
  obtain ⟨x,y,rfl,rfl,hg,hx,hy,n,rfl⟩:=hrel
  by_cases h0:y=0
  ·subst h0
   go_wp2
   go_ret
   exact ⟨zm (by rw [←hg.out,Nat.gcd_zero_right]),n,rfl⟩
  ·have hy0:(0:Int) < (y:Int):=by omega
   have hne:((y:Int) != 0)=true:=by rw [bne_iff_ne];omega
   have hne2:((y:Int) == 0)=false:=by rw [beq_eq_false_iff_ne];omega
   go_wp2
   go_quiet (fail)
   go_wp2
   have hm:=Int.emod_lt_of_pos (x:Int) hy0
   have hm0:=Int.emod_nonneg (x:Int) (show (y:Int) ≠ 0 by omega)
   go_roundw
   case rel=>exact ⟨y,x % y,rfl,by go_num,Lib.hid ((zpv x y).trans hg.out),by omega,by omega,n+nq,by simp⟩
   case measure=>simp [intOf];omega
theorem zz0 (a b:Int) (w:World) (ha:0≤a∧a≤1000000000000000) (hb:0≤b∧b≤1000000000000000) :
  Calls Tryz.prog 195 #[.int .i64 a, .int .i64 b] w fun e w'=>e= .returned (.int .i64 (zb6 a b))∧∃ n,w'=w.drewN n:=by
 have h:=zru a.toNat b.toNat w Qk Qk
 have e1:((a.toNat:Nat):Int)=a:=by omega
 have e2:((b.toNat:Nat):Int)=b:=by omega
 have e3:a.toNat=a.natAbs:=by omega
 have e4:b.toNat=b.natAbs:=by omega
 rw [e1,e2,e3,e4] at h
 exact h
theorem zk1 {n d:Int} (h:d < 1):zam n d=false:=by
 unfold zam;rw [decide_eq_false Qk];rfl
theorem zl9 {n d:Int} (h:1000000000000000 < d):zam n d=false:=by
 unfold zam;rw [decide_eq_false (p:=d≤1000000000000000) Qk,Bool.and_false];rfl
theorem zhp {n d:Int} (h:inB n=false):zam n d=false:=by
 unfold zam;rw [h,Bool.and_false];rfl
theorem zkt {n d:Int} (h1:1≤d) (h2:d≤1000000000000000) (h:inB n=true):(zb6 n d == 1)=zam n d:=by
 unfold zam;rw [decide_eq_true h1,decide_eq_true h2,h];rfl
theorem zxb (n d:Int):zb6 (n.natAbs:Int) d=zb6 n d:=by unfold zb6;rw [Int.natAbs_natCast]
theorem zck (n d:Int) (w:World) :
  Calls Tryz.prog 140 #[.agg #[.int .i64 n, .int .i64 d]] w fun e w'=>e= .returned (.bool (zam n d))∧Below w.heap.size w w':=by
 have hb0:=(Below.refl w.heap.size w).alloc (Nat.le_refl _) (.cells #[.int .i64 n, .int .i64 d] 116)
 by_cases h1:d < 1
 ·have H:=Lib.hid (zk1 (n:=n) h1)
  go_enter Tryz.func140,Tryz.ntmps140
  go_wp2
  go_ret
  exact ⟨ze H.out.symm,hb0⟩
 ·by_cases h2:1000000000000000 < d
  ·have H:=Lib.hid (zl9 (n:=n) h2)
   go_enter Tryz.func140,Tryz.ntmps140
   go_wp2
   go_ret
   exact ⟨ze H.out.symm,hb0⟩
  ·rcases zjg n with ⟨hi,hi1,hi2⟩|⟨hi,hi1⟩
   ·have H:=Lib.hid (zkt (n:=n) (d:=d) Qk Qk hi)
    have hg:zub n d=zb6 n d:=zqa hi (zbb.2 Qk)
    go_enter Tryz.func140,Tryz.ntmps140
    go_wp2_with (go_at_call 159;refine (zjs _ _).mono ?_;rintro e w' ⟨rfl,rfl⟩)
    refine (zzc _ _ _).mono ?_
    rintro e w' ⟨rfl,nn,rfl⟩
    have hb1:=zc hb0 nn
    go_wp2
    all_goals go_ret
    all_goals exact ⟨ze (by rw [←H.out]),hb1⟩
   ·have H:=Lib.hid (zhp (d:=d) hi)
    go_enter Tryz.func140,Tryz.ntmps140
    go_wp2_with (go_at_call 159;refine (zjs _ _).mono ?_;rintro e w' ⟨rfl,rfl⟩)
    go_ret
    exact ⟨ze H.out.symm,hb0⟩
theorem zdz (n d:Int) (w:World) :
  Calls Tryz.prog 149 #[.agg #[.int .i64 n, .int .i64 d]] w fun e w'=>e= .returned (.bool (zam n d))∧Below w.heap.size w w':=by
 have hb0:=(Below.refl w.heap.size w).alloc (Nat.le_refl _) (.cells #[.int .i64 n, .int .i64 d] 116)
 by_cases h1:d < 1
 ·have H:=Lib.hid (zk1 (n:=n) h1)
  have t1:decide (1≤d)=false:=decide_eq_false Qk
  go_enter Tryz.func149,Tryz.ntmps149
  go_wp2
  go_quiet (fail)
  go_wp2
  go_ret
  exact ⟨ze H.out.symm,zc hb0 _⟩
 ·have t1:decide (1≤d)=true:=decide_eq_true Qk
  by_cases h2:1000000000000000 < d
  ·have H:=Lib.hid (zl9 (n:=n) h2)
   have t2:decide (d≤1000000000000000)=false:=decide_eq_false Qk
   go_enter Tryz.func149,Tryz.ntmps149
   go_wp2
   go_quiet (fail)
   go_wp2
   go_ret
   exact ⟨ze H.out.symm,zc hb0 _⟩
  ·have t2:decide (d≤1000000000000000)=true:=decide_eq_true Qk
   by_cases h3:n < -1000000000000000
   ·have H:=Lib.hid (zhp (d:=d) (zjd.2 (Or.inl h3)))
    have t3:decide (-1000000000000000≤n)=false:=decide_eq_false Qk
    go_enter Tryz.func149,Tryz.ntmps149
    go_wp2
    go_quiet (fail)
    go_wp2
    go_ret
    exact ⟨ze H.out.symm,zc hb0 _⟩
   ·have t3:decide (-1000000000000000≤n)=true:=decide_eq_true Qk
    by_cases h4:1000000000000000 < n
    ·have H:=Lib.hid (zhp (d:=d) (zjd.2 (Or.inr h4)))
     have t4:decide (n≤1000000000000000)=false:=decide_eq_false Qk
     go_enter Tryz.func149,Tryz.ntmps149
     go_wp2
     go_quiet (fail)
     go_wp2
     go_ret
     exact ⟨ze H.out.symm,zc hb0 _⟩
    ·have t4:decide (n≤1000000000000000)=true:=decide_eq_true Qk
     have H:=Lib.hid (zkt (n:=n) (d:=d) Qk Qk (zbb.2 Qk))
     have hc:=zxb n d
     go_enter Tryz.func149,Tryz.ntmps149
     go_wp2
     go_quiet (((first|(go_at_call 153;exact Calls.quiet_of_same ((zio _ _ Qk Qk).mono fun e w' h=>⟨h.1,h.2.symm⟩))|(go_at_call 195;exact Calls.quiet_of ((zz0 _ _ _ ⟨by omega,by omega⟩ ⟨by omega,by omega⟩))))))
     go_wp2
     all_goals go_ret
     all_goals exact ⟨ze (by rw [←H.out]),zc hb0 _⟩
theorem zai {a b:Int} (h:a=b):Ending.returned (.int .i64 a)= .returned (.int .i64 b):=by rw [h]
theorem zqc (s:ByteArray):(s.toList == ([]:List UInt8))=decide (s.size=0):=by
 rw [ByteArray.toList_eq]
 by_cases h:s.size=0
 ·have e:s.data.toList=[]:=by rw [zfy h];rfl
  rw [decide_eq_true h,e];rfl
 ·rw [decide_eq_false h]
  cases hl:s.data.toList with
  | nil=>exact absurd (by have:=congrArg List.length hl;simpa using this) h
  | cons a r=>rfl
theorem za7 (s:ByteArray):(s.toList=[])=(s.size=0):=propext ⟨fun h=>by have:=zqc s;rw [h] at this;simpa using this,fun h=>by have:=zqc s;rw [decide_eq_true h] at this;simpa using this⟩
theorem zjr (x:Int) (w:World):Calls Tryz.prog 123 #[.int .i64 x] w fun e w'=>e= .returned (.bool false)∧w'=w:=by
 go_enter Tryz.func123,Tryz.ntmps123
 go_wp2
 all_goals
  go_ret
  exact ⟨ze (by simp),rfl⟩
theorem zhi (x:ByteArray) (w:World):Calls Tryz.prog 146 #[.string x] w fun e w'=>e= .returned (.bool false)∧w'=w:=by
 go_enter Tryz.func146,Tryz.ntmps146
 go_wp2
 all_goals
  go_ret
  exact ⟨ze (by simp),rfl⟩
theorem zdi (x y:Int) (w:World):Calls Tryz.prog 82 #[.int .i64 x, .int .i64 y] w fun e w'=>e= .returned (.int .i64 (Lib.compareInt x y))∧w'=w:=by
 rcases Int.lt_trichotomy x y with h|h|h
 ·have HV:=Lib.hid (show Lib.compareInt x y = -1 by unfold Lib.compareInt;rw [if_pos h])
  go_enter Tryz.func82,Tryz.ntmps82
  go_wp2_with (go_at_call 123;refine (zjr _ _).mono ?_;rintro e w' ⟨rfl,rfl⟩)
  go_ret
  exact ⟨zai HV.out.symm,rfl⟩
 ·have HV:=Lib.hid (show Lib.compareInt x y=0 by unfold Lib.compareInt;rw [if_neg Qk,if_neg Qk])
  have h1:¬x < y:=by omega
  have h2:¬y < x:=by omega
  clear h
  go_enter Tryz.func82,Tryz.ntmps82
  go_wp2_with (go_at_call 123;refine (zjr _ _).mono ?_;rintro e w' ⟨rfl,rfl⟩)
  go_ret
  exact ⟨zai HV.out.symm,rfl⟩
 ·have HV:=Lib.hid (show Lib.compareInt x y=1 by unfold Lib.compareInt;rw [if_neg Qk,if_pos h])
  have h1:¬x < y:=by omega
  go_enter Tryz.func82,Tryz.ntmps82
  go_wp2_with (go_at_call 123;refine (zjr _ _).mono ?_;rintro e w' ⟨rfl,rfl⟩)
  go_ret
  exact ⟨zai HV.out.symm,rfl⟩
theorem zi9 (a b:ByteArray) (w:World):Calls Tryz.prog 106 #[.string a, .string b] w fun e w'=>e= .returned (.int .i64 (zn a b))∧w'=w:=by
 cases h1:Op.bytesLess a.toList b.toList
 ·cases h2:(a.toList == b.toList)
  ·have HV:=Lib.hid (show zn a b=1 by unfold zn;rw [h1,h2];rfl)
   go_enter Tryz.func106,Tryz.ntmps106
   go_wp2_with (go_at_call 146;refine (zhi _ _).mono ?_;rintro e w' ⟨rfl,rfl⟩)
   go_ret
   exact ⟨zai HV.out.symm,rfl⟩
  ·have HV:=Lib.hid (show zn a b=0 by unfold zn;rw [h1,h2];rfl)
   go_enter Tryz.func106,Tryz.ntmps106
   go_wp2_with (go_at_call 146;refine (zhi _ _).mono ?_;rintro e w' ⟨rfl,rfl⟩)
   go_ret
   exact ⟨zai HV.out.symm,rfl⟩
 ·have HV:=Lib.hid (show zn a b = -1 by unfold zn;rw [h1];rfl)
  go_enter Tryz.func106,Tryz.ntmps106
  go_wp2_with (go_at_call 146;refine (zhi _ _).mono ?_;rintro e w' ⟨rfl,rfl⟩)
  go_ret
  exact ⟨zai HV.out.symm,rfl⟩
def orL:List Int→Int
 | []=>0
 | x :: r=>zaz x (orL r)
theorem ztj (x:Int):zaz x 0=x:=by unfold zaz;split <;> omega
theorem zwp (l:List Int) (k:Nat) (h:k < l.length):orL (l.drop k)=zaz l[k] (orL (l.drop (k+1))):=by
 rw [List.drop_eq_getElem_cons h];rfl
theorem zp0 (g:Nat) (l:List Int) (w:World) (hl:l.length≤1000) (hc:∀ j (h:j < l.length),w.cell? ⟨g,j,none⟩=some (.int .i64 l[j])) :
  Calls Tryz.prog 105 #[.slice (some ⟨g,0,none⟩) l.length l.length] w fun e w'=>e= .returned (.int .i64 (orL l))∧w'=w:=by
 have HC:=Lib.hid hc
 clear hc
 go_enter Tryz.func105,Tryz.ntmps105
 go_wp2
 go_loop [8] (fun u => ∃ k:Nat,u= .int .i64 k∧k≤l.length∧Hid (orL l=orL (l.drop k))) (fun u=>l.length - (intOf u).toNat)
 case atStart=>exact ⟨0,rfl,Nat.zero_le _,Lib.hid rfl⟩
 case round =>
  obtain ⟨k,rfl,hk,hA⟩:=hrel
  by_cases hlt:k < l.length
  ·have cell:=HC.out k hlt
   have HD:=Lib.hid (zwp l k hlt)
   generalize l[k]=x at cell HD
   by_cases hx:x=0
   ·subst hx
    have HS:=Lib.hid (show orL l=orL (l.drop (k+1)) by rw [hA.out,HD.out];rfl)
    go_wp2
    go_round
    case rel=>exact ⟨k+1,by go_num,by omega,HS⟩
    case measure=>simp [intOf];omega
   ·have hx':(x != 0)=true:=by simpa using hx
    have HS:=Lib.hid (show orL l=x by rw [hA.out,HD.out];unfold zaz;rw [if_neg hx])
    go_wp2
    go_ret
    exact ⟨zai HS.out.symm,rfl⟩
  ·have hk':k=l.length:=by omega
   have HS:=Lib.hid (show orL l=0 by rw [hA.out,hk',List.drop_length];rfl)
   go_wp2
   go_ret
   exact ⟨zai HS.out.symm,rfl⟩
def zfa (r:Nat):Bool:=decide (r < 32) || decide (126 < r)
theorem zu9 (s:ByteArray) (i:Nat) (h:128≤(s.get! i).toNat):128≤(Utf8.decode s i).1:=by
 unfold Utf8.decode
 simp only [Nat.add_zero]
 rw [if_neg Qk]
 repeat' split
 all_goals first|(simp only [Utf8.runeError];omega)|(simp only [Bool.and_eq_true,decide_eq_true_iff,ge_iff_le] at *;omega)
theorem zue (s:ByteArray) (i:Nat) (h:(s.get! i).toNat < 128):Utf8.decode s i=((s.get! i).toNat,1):=by
 unfold Utf8.decode
 simp only [Nat.add_zero]
 rw [if_pos h]
theorem zs9 (s:ByteArray):∀ (f pos:Nat),s.size≤pos+f→(Lib.idxFuncFrom zfa true s f pos < 0 ↔ ∀ j,pos≤j→j < s.size→zfa (s.get! j).toNat=false)
 | 0,pos,h=>by
  rw [Lib.idxFuncFrom]
  exact ⟨fun _ j h1 h2=>by omega,fun _=>by omega⟩
 | f+1,pos,h=>by
  rw [Lib.idxFuncFrom]
  by_cases hp:pos < s.size
  ·rw [if_pos hp]
   by_cases hb:(s.get! pos).toNat < 128
   ·rw [zue s pos hb]
    dsimp only
    cases hq:zfa (s.get! pos).toNat
    ·rw [if_neg (by simp),zs9 s f (pos+1) Qk]
     constructor
     ·intro hh j h1 h2
      rcases Nat.lt_or_ge pos j with h3|h3
      ·exact hh j h3 h2
      ·have:j=pos:=by omega
       rw [this];exact hq
     ·intro hh j h1 h2
      exact hh j Qk h2
    ·rw [if_pos rfl]
     exact ⟨fun hh=>by omega,fun hh=>by have:=hh pos (Nat.le_refl _) hp;rw [hq] at this;cases this⟩
   ·have h1:=zu9 s pos Qk
    have h2:zfa (Utf8.decode s pos).1=true:=by unfold zfa;rw [decide_eq_true (show 126 < (Utf8.decode s pos).1 by omega),Bool.or_true]
    rw [h2,if_pos rfl]
    refine ⟨fun hh=>by omega,fun hh=>?_⟩
    have:=hh pos (Nat.le_refl _) hp
    unfold zfa at this
    rw [decide_eq_true (show 126 < (s.get! pos).toNat by omega),Bool.or_true] at this;cases this
  ·rw [if_neg hp]
   exact ⟨fun _ j h1 h2=>by omega,fun _=>by omega⟩
def zh9 (s:ByteArray):Bool:=s.data.toList.all (fun c=>decide (32≤c.toNat) && decide (c.toNat≤126))
theorem zlw (s:ByteArray) (j:Nat) (h:j < s.size):s.get! j=s.data.toList[j]'(by simpa using h):=by
 have h':j < s.data.size:=h
 simp only [ByteArray.get!]
 rw [getElem!_pos s.data j h',Array.getElem_toList]
theorem zgr (s:ByteArray):zh9 s=true ↔ ∀ j,j < s.size→zfa (s.get! j).toNat=false:=by
 unfold zh9
 rw [List.all_eq_true]
 constructor
 ·intro h j hj
  have:=h _ (List.getElem_mem (l:=s.data.toList) (n:=j) (by simpa using hj))
  rw [←zlw s j hj] at this
  unfold zfa
  simp only [Bool.and_eq_true,decide_eq_true_iff] at this
  rw [Bool.or_eq_false_iff,decide_eq_false_iff_not,decide_eq_false_iff_not]
  omega
 ·intro h c hc
  obtain ⟨j,hj,rfl⟩:=List.getElem_of_mem hc
  have hj':j < s.size:=by simpa using hj
  have:=h j hj'
  rw [zlw s j hj'] at this
  unfold zfa at this
  rw [Bool.or_eq_false_iff,decide_eq_false_iff_not,decide_eq_false_iff_not] at this
  simp only [Bool.and_eq_true,decide_eq_true_iff]
  omega
theorem zgs (s:ByteArray):decide (Lib.idxFunc zfa true s < 0)=zh9 s:=by
 have h:=zs9 s s.size 0 Qk
 rw [Bool.eq_iff_iff,decide_eq_true_iff,zgr]
 unfold Lib.idxFunc
 rw [h]
 exact ⟨fun hh j hj=>hh j (Nat.zero_le _) hj,fun hh j _ hj=>hh j hj⟩
open Go.Lib in
theorem z08 (w:World):PredAt Tryz.prog 161 #[] encR zfa w:=fun W r _=>by
 unfold FnGives
 unfold zfa
 by_cases h1:r < 32 <;> by_cases h2:126 < r
 all_goals
  have z1:(r:Int) < 32 ↔ r < 32:=by omega
  have z2:(126:Int) < (r:Int) ↔ 126 < r:=by omega
  go_enter Tryz.func161,Tryz.ntmps161
  go_wp2
  all_goals first|(exfalso;omega)|(go_ret;exact ⟨by simp [h1,h2],0,rfl⟩)
theorem zzl (s:ByteArray) (w:World):Calls Tryz.prog 160 #[.string s, .func (.func 161) #[] #[]] w fun e w'=>e= .returned (.int .i64 (Lib.idxFunc zfa true s))∧Below w.heap.size w w' :=
 Tryz.strings_IndexFunc 161 #[] (enters_of Tryz.func161 (by kernel_rfl) rfl) zfa s w (z08 w)
def zbc (k n d:Int) (s:ByteArray) (m:Nat):Bool :=
 if k=0 then decide (n=0) && decide (d=0) && decide (s.size=0) && decide (m=0)
 else if k=1 then (decide (n=0) || decide (n=1)) && decide (d=0) && decide (s.size=0) && decide (m=0)
 else if k=2 then inB n && decide (d=0) && decide (s.size=0) && decide (m=0)
 else if k=3 then decide (2≤d) && zam n d && decide (s.size=0) && decide (m=0)
 else if k=4 then decide (n=0) && decide (d=0) && zma s && decide (m=0)
 else if k=5∨k=6 then decide (1≤n) && decide (n≤1000000) && decide (d=0) && decide (s.size=0) && decide (m=0)
 else false
theorem zf4 (v:Val):zff v=zbc v.kind v.n v.d v.s v.l.length:=rfl
theorem zdd (s:ByteArray):zma s=(decide (s.size≤100) && zh9 s):=rfl
theorem zwr {k:Int} (hk:(k == 0)=false∧(k == 1)=false∧(k == 2)=false∧(k == 3)=false∧(k == 4)=false∧(k == 5)=false∧(k == 6)=false∧(k == 7)=false∧(k == 8)=false):k ≠ 0∧k ≠ 1∧k ≠ 2∧k ≠ 3∧k ≠ 4∧k ≠ 5∧k ≠ 6∧k ≠ 7∧k ≠ 8:=by
 simpa using hk
theorem zb5 (a b:Int):(a == b)=decide (a=b):=rfl
theorem zc2 (w:World) (k n d:Int) (s:ByteArray) (A:Option Addr) (m c:Nat) (t:TypeId):∃ (g:Nat) (w1:World),g=w.heap.size∧w1=w.alloc (.cells #[.int .i64 k, .int .i64 n, .int .i64 d, .string s, .slice A m c] t)∧(w1.cell? ⟨g,0,none⟩=some (.int .i64 k)∧w1.cell? ⟨g,1,none⟩=some (.int .i64 n)∧w1.cell? ⟨g,2,none⟩=some (.int .i64 d)∧w1.cell? ⟨g,3,none⟩=some (.string s)∧w1.cell? ⟨g,4,none⟩=some (.slice A m c))∧Ext w w1∧w.heap.size≤g :=
 ⟨_,_,rfl,rfl,⟨by go_simp,by go_simp,by go_simp,by go_simp,by go_simp⟩,(Ext.refl _).alloc _,Nat.le_refl _⟩
theorem zws (n d:Int) (s:ByteArray) (m:Nat) (A:Option Addr) (c:Nat) (lists:Int) (w:World) (hm:m≤140737488355328):Calls Tryz.prog 120 #[.agg #[.int .i64 0, .int .i64 n, .int .i64 d, .string s, .slice A m c], .int .i64 lists] w fun e w'=>e= .returned (.bool (zbc 0 n d s m))∧Ext w w':=by
 obtain ⟨g,w1,hg,hw1,⟨c0,c1,c2,c3,c4⟩,hx,-⟩:=zc2 w 0 n d s A m c 28
 have HW1:=Lib.hid hw1
 have HG:=Lib.hid hg
 clear hw1 hg
 go_enter Tryz.func120,Tryz.ntmps120
 go_upto_region 1 with (fail)
 rw [←HW1.out,←HG.out]
 clear HW1 HG
 go_wp2_with fail
 all_goals
  go_ret
  refine ⟨ze ?_,(by first|exact hx|exact Ext.trans hx (by assumption))⟩
  clear c0 c1 c2 c3 c4
  (try simp only [za7] at *)
  unfold zbc
  (try simp only [zdd,←zgs])
  (try simp only [zb5])
  first|(simp_all;done)|(simp_all;omega)
theorem zxg (n d:Int) (s:ByteArray) (m:Nat) (A:Option Addr) (c:Nat) (lists:Int) (w:World) (hm:m≤140737488355328):Calls Tryz.prog 120 #[.agg #[.int .i64 1, .int .i64 n, .int .i64 d, .string s, .slice A m c], .int .i64 lists] w fun e w'=>e= .returned (.bool (zbc 1 n d s m))∧Ext w w':=by
 obtain ⟨g,w1,hg,hw1,⟨c0,c1,c2,c3,c4⟩,hx,-⟩:=zc2 w 1 n d s A m c 28
 have HW1:=Lib.hid hw1
 have HG:=Lib.hid hg
 clear hw1 hg
 go_enter Tryz.func120,Tryz.ntmps120
 go_upto_region 1 with (fail)
 rw [←HW1.out,←HG.out]
 clear HW1 HG
 go_wp2_with fail
 all_goals
  go_ret
  refine ⟨ze ?_,(by first|exact hx|exact Ext.trans hx (by assumption))⟩
  clear c0 c1 c2 c3 c4
  (try simp only [za7] at *)
  unfold zbc
  (try simp only [zdd,←zgs])
  (try simp only [zb5])
  first|(simp_all;done)|(simp_all;omega)
theorem zxo (n d:Int) (s:ByteArray) (m:Nat) (A:Option Addr) (c:Nat) (lists:Int) (w:World) (hm:m≤140737488355328):Calls Tryz.prog 120 #[.agg #[.int .i64 2, .int .i64 n, .int .i64 d, .string s, .slice A m c], .int .i64 lists] w fun e w'=>e= .returned (.bool (zbc 2 n d s m))∧Ext w w':=by
 obtain ⟨g,w1,hg,hw1,⟨c0,c1,c2,c3,c4⟩,hx,-⟩:=zc2 w 2 n d s A m c 28
 have HW1:=Lib.hid hw1
 have HG:=Lib.hid hg
 clear hw1 hg
 go_enter Tryz.func120,Tryz.ntmps120
 go_upto_region 1 with (fail)
 rw [←HW1.out,←HG.out]
 clear HW1 HG
 go_wp2_with (go_at_call 159;refine (zjs _ _).mono ?_;rintro e w' ⟨rfl,rfl⟩)
 all_goals
  go_ret
  refine ⟨ze ?_,(by first|exact hx|exact Ext.trans hx (by assumption))⟩
  clear c0 c1 c2 c3 c4
  (try simp only [za7] at *)
  unfold zbc
  (try simp only [zdd,←zgs])
  (try simp only [zb5])
  first|(simp_all;done)|(simp_all;omega)
theorem zwl (n d:Int) (s:ByteArray) (m:Nat) (A:Option Addr) (c:Nat) (lists:Int) (w:World) (hm:m≤140737488355328):Calls Tryz.prog 120 #[.agg #[.int .i64 3, .int .i64 n, .int .i64 d, .string s, .slice A m c], .int .i64 lists] w fun e w'=>e= .returned (.bool (zbc 3 n d s m))∧Ext w w':=by
 obtain ⟨g,w1,hg,hw1,⟨c0,c1,c2,c3,c4⟩,hx,-⟩:=zc2 w 3 n d s A m c 28
 have HW1:=Lib.hid hw1
 have HG:=Lib.hid hg
 clear hw1 hg
 go_enter Tryz.func120,Tryz.ntmps120
 go_upto_region 1 with (fail)
 rw [←HW1.out,←HG.out]
 clear HW1 HG
 go_wp2_with (go_at_call 140;refine (zck _ _ _).mono ?_;rintro e w' ⟨rfl,hbv⟩;have hbv':Ext _ w':=hbv)
 all_goals
  go_ret
  refine ⟨ze ?_,(by first|exact hx|exact Ext.trans hx (by assumption))⟩
  clear c0 c1 c2 c3 c4
  (try simp only [za7] at *)
  unfold zbc
  (try simp only [zdd,←zgs])
  (try simp only [zb5])
  first|(simp_all;done)|(simp_all;omega)
theorem zv2 (n d:Int) (s:ByteArray) (m:Nat) (A:Option Addr) (c:Nat) (lists:Int) (w:World) (hm:m≤140737488355328):Calls Tryz.prog 120 #[.agg #[.int .i64 4, .int .i64 n, .int .i64 d, .string s, .slice A m c], .int .i64 lists] w fun e w'=>e= .returned (.bool (zbc 4 n d s m))∧Ext w w':=by
 obtain ⟨g,w1,hg,hw1,⟨c0,c1,c2,c3,c4⟩,hx,-⟩:=zc2 w 4 n d s A m c 28
 have HW1:=Lib.hid hw1
 have HG:=Lib.hid hg
 clear hw1 hg
 go_enter Tryz.func120,Tryz.ntmps120
 go_upto_region 1 with (fail)
 rw [←HW1.out,←HG.out]
 clear HW1 HG
 go_wp2_with (go_at_call 160;refine (zzl _ _).mono ?_;rintro e w' ⟨rfl,hbv⟩;have hbv':Ext _ w':=hbv)
 all_goals
  go_ret
  refine ⟨ze ?_,(by first|exact hx|exact Ext.trans hx (by assumption))⟩
  clear c0 c1 c2 c3 c4
  (try simp only [za7] at *)
  unfold zbc
  (try simp only [zdd,←zgs])
  (try simp only [zb5])
  first|(simp_all;done)|(simp_all;omega)
theorem zxw (n d:Int) (s:ByteArray) (m:Nat) (A:Option Addr) (c:Nat) (lists:Int) (w:World) (hm:m≤140737488355328):Calls Tryz.prog 120 #[.agg #[.int .i64 5, .int .i64 n, .int .i64 d, .string s, .slice A m c], .int .i64 lists] w fun e w'=>e= .returned (.bool (zbc 5 n d s m))∧Ext w w':=by
 obtain ⟨g,w1,hg,hw1,⟨c0,c1,c2,c3,c4⟩,hx,-⟩:=zc2 w 5 n d s A m c 28
 have HW1:=Lib.hid hw1
 have HG:=Lib.hid hg
 clear hw1 hg
 go_enter Tryz.func120,Tryz.ntmps120
 go_upto_region 1 with (fail)
 rw [←HW1.out,←HG.out]
 clear HW1 HG
 go_wp2_with fail
 all_goals
  go_ret
  refine ⟨ze ?_,(by first|exact hx|exact Ext.trans hx (by assumption))⟩
  clear c0 c1 c2 c3 c4
  (try simp only [za7] at *)
  unfold zbc
  (try simp only [zdd,←zgs])
  (try simp only [zb5])
  first|(simp_all;done)|(simp_all;omega)
theorem zxq (n d:Int) (s:ByteArray) (m:Nat) (A:Option Addr) (c:Nat) (lists:Int) (w:World) (hm:m≤140737488355328):Calls Tryz.prog 120 #[.agg #[.int .i64 6, .int .i64 n, .int .i64 d, .string s, .slice A m c], .int .i64 lists] w fun e w'=>e= .returned (.bool (zbc 6 n d s m))∧Ext w w':=by
 obtain ⟨g,w1,hg,hw1,⟨c0,c1,c2,c3,c4⟩,hx,-⟩:=zc2 w 6 n d s A m c 28
 have HW1:=Lib.hid hw1
 have HG:=Lib.hid hg
 clear hw1 hg
 go_enter Tryz.func120,Tryz.ntmps120
 go_upto_region 1 with (fail)
 rw [←HW1.out,←HG.out]
 clear HW1 HG
 go_wp2_with fail
 all_goals
  go_ret
  refine ⟨ze ?_,(by first|exact hx|exact Ext.trans hx (by assumption))⟩
  clear c0 c1 c2 c3 c4
  (try simp only [za7] at *)
  unfold zbc
  (try simp only [zdd,←zgs])
  (try simp only [zb5])
  first|(simp_all;done)|(simp_all;omega)
theorem zx6 (k:Int) (hk:(k == 0)=false∧(k == 1)=false∧(k == 2)=false∧(k == 3)=false∧(k == 4)=false∧(k == 5)=false∧(k == 6)=false∧(k == 7)=false∧(k == 8)=false) (n d:Int) (s:ByteArray) (m:Nat) (A:Option Addr) (c:Nat) (lists:Int) (w:World) (_hm:m≤140737488355328):Calls Tryz.prog 120 #[.agg #[.int .i64 k, .int .i64 n, .int .i64 d, .string s, .slice A m c], .int .i64 lists] w fun e w'=>e= .returned (.bool (zbc k n d s m))∧Ext w w':=by
 have hne:=zwr hk
 obtain ⟨h0,h1,h2,h3,h4,h5,h6,h7,h8⟩:=hk
 obtain ⟨n0,n1,n2,n3,n4,n5,n6,n7,n8⟩:=hne
 obtain ⟨g,w1,hg,hw1,⟨c0,c1,c2,c3,c4⟩,hx,-⟩:=zc2 w k n d s A m c 28
 have HW1:=Lib.hid hw1
 have HG:=Lib.hid hg
 clear hw1 hg
 go_enter Tryz.func120,Tryz.ntmps120
 go_upto_region 1 with (fail)
 rw [←HW1.out,←HG.out]
 clear HW1 HG
 go_wp2_with fail
 all_goals
  go_ret
  refine ⟨ze ?_,(by first|exact hx|exact Ext.trans hx (by assumption))⟩
  clear c0 c1 c2 c3 c4
  (try simp only [za7] at *)
  unfold zbc
  (try simp only [zdd,←zgs])
  (try simp only [zb5])
  first|(simp_all;done)|(simp_all;omega)
theorem zoa (k n d:Int) (s:ByteArray) (m:Nat) (A:Option Addr) (c:Nat) (lists:Int) (w:World) (h7:k ≠ 7) (h8:k ≠ 8) (hm:m≤140737488355328):Calls Tryz.prog 120 #[.agg #[.int .i64 k, .int .i64 n, .int .i64 d, .string s, .slice A m c], .int .i64 lists] w fun e w'=>e= .returned (.bool (zbc k n d s m))∧Ext w w':=by
 by_cases h0:k=0
 ·subst h0;exact zws n d s m A c lists w hm
 by_cases h1:k=1
 ·subst h1;exact zxg n d s m A c lists w hm
 by_cases h2:k=2
 ·subst h2;exact zxo n d s m A c lists w hm
 by_cases h3:k=3
 ·subst h3;exact zwl n d s m A c lists w hm
 by_cases h4:k=4
 ·subst h4;exact zv2 n d s m A c lists w hm
 by_cases h5:k=5
 ·subst h5;exact zxw n d s m A c lists w hm
 by_cases h6:k=6
 ·subst h6;exact zxq n d s m A c lists w hm
 exact zx6 k (by simp only [beq_eq_false_iff_ne];exact ⟨h0,h1,h2,h3,h4,h5,h6,h7,h8⟩) n d s m A c lists w hm
def zfr (l:List Val) (i:Nat):Bool:=decide (l[i]!.kind=zgh i) && zff l[i]!
theorem zm6 {l:List Val} (h1:l.length % 2=1) (h2:l.length≤25) (h:∀ i,i < l.length→zfr l i=true):zdk l=true:=by
 unfold zdk
 rw [decide_eq_true h1,decide_eq_true h2]
 simp only [Bool.true_and,List.all_eq_true,List.mem_range]
 exact h
theorem zqb {l:List Val} {i:Nat} (hi:i < l.length) (h:zfr l i=false):zdk l=false:=by
 cases hp:zdk l
 ·rfl
 ·unfold zdk at hp
  simp only [Bool.and_eq_true,List.all_eq_true,List.mem_range] at hp
  have:=hp.2 i hi
  unfold zfr at h
  simp only [Bool.and_eq_false_iff] at h
  rcases h with h|h <;> simp_all
theorem zm8 {l:List Val} (h:l.length % 2=0):zdk l=false:=by
 unfold zdk;rw [decide_eq_false Qk];rfl
theorem zmb {l:List Val} (h:25 < l.length):zdk l=false:=by
 unfold zdk;rw [decide_eq_false (show ¬l.length≤25 by omega),Bool.and_false];rfl
theorem z0c (l:List Val) (ok:Nat→Prop) (A:Option Addr) (c:Nat) (w:World) (hv:zk w ok A l):Calls Tryz.prog 162 #[.slice A l.length c] w fun e w'=>e= .returned (.bool (zdk l))∧Ext w w':=by
 have hm:=hv.len
 have HV:=Lib.hid hv
 clear hv
 by_cases h1:l.length % 2=0
 ·have HF:=Lib.hid (zm8 h1)
  have h1':((l.length:Int) % 2)=0:=by omega
  go_enter Tryz.func162,Tryz.ntmps162
  go_wp2
  go_ret
  exact ⟨ze HF.out.symm,Ext.refl _⟩
 ·have h1':((l.length:Int) % 2)=1:=by omega
  by_cases h2:25 < l.length
  ·have HF:=Lib.hid (zmb h2)
   go_enter Tryz.func162,Tryz.ntmps162
   go_wp2
   go_ret
   exact ⟨ze HF.out.symm,Ext.refl _⟩
  ·have h3:l.length % 2=1:=by omega
   have HY:=Lib.hid (fun h=>zm6 (l:=l) h3 Qk h)
   have HN:=Lib.hid (fun i (h:i < l.length) hg=>zqb (l:=l) h hg)
   have h25:decide ((25:Int) < (l.length:Int))=false:=by simp;omega
   clear h1 h2 h3
   go_enter Tryz.func162,Tryz.ntmps162
   go_wp2
   clear h1' h25
   go_loopw [17] (fun u W => ∃ k:Nat,u= .int .i64 k∧k≤l.length∧Hid (∀ j,j < k→zfr l j=true)∧Ext w W) (fun u _=>l.length - (intOf u).toNat)
   case atStart=>exact ⟨0,rfl,Nat.zero_le _,Lib.hid (fun j hj=>absurd hj (Nat.not_lt_zero _)),Ext.refl _⟩
   case round =>
    obtain ⟨k,rfl,hk,hgd,hE⟩:=hrel
    by_cases hlt:k < l.length
    ·obtain ⟨b,o,rfl,hc⟩:=HV.out.2 Qk
     obtain ⟨-,A',c',h5,-,hv'⟩:=zx.iff.1 (hc k hlt)
     obtain ⟨d0,d1,d2,d3,d4⟩:=h5.ext hE
     have hm':=hv'.len
     have HS:=Lib.hid (fun (h:zfr l k=true) j (hj:j < k+1)=>(if e:j=k then e ▸ h else hgd.out j Qk:zfr l j=true))
     have HG:=Lib.hid (show zfr l k=(decide (l[k].kind=zgh k) && zbc l[k].kind l[k].n l[k].d l[k].s l[k].l.length) by unfold zfr;rw [z0i hlt,zf4])
     have HN':=Lib.hid (HN.out k hlt)
     have HY':=HY
     clear hc h5 hv' HN
     generalize l[k]=x at d0 d1 d2 d3 d4 HG hm'
     obtain ⟨g,w1,hg,hw1,⟨c0,c1,c2,c3,c4⟩,hx,-⟩:=zc2 wr x.kind x.n x.d x.s A' x.l.length c' 28
     have hz:g < w1.heap.size:=block_lt_of_cell c0
     have HW1:=Lib.hid hw1
     have HGG:=Lib.hid hg
     clear hw1 hg
     go_upto_region 6 with (fail)
     rw [←HW1.out,←HGG.out]
     clear HW1 HGG d0 d1 d2 d3 d4
     rcases Nat.mod_two_eq_zero_or_one k with hp|hp
     ·have hst:zgh k=5:=by unfold zgh;rw [if_pos hp]
      have hpi:((k:Int) % 2)=0:=by omega
      rw [hst] at HG
      clear hp hst
      by_cases hk5:x.kind=5
      ·rw [hk5] at c0 HG
       have C:=fun W=>zoa 5 x.n x.d x.s x.l.length A' c' 0 W Qk Qk hm'
       generalize zbc 5 x.n x.d x.s x.l.length=q at C HG
       have HC:=Lib.hid C
       clear C hk5
       cases q
       ·have HF:=Lib.hid (HN'.out (by rw [HG.out,Bool.and_false]))
        clear HG
        go_wp2_with (go_at_call 120;refine (HC.out _).mono ?_;rintro e w' ⟨rfl,hb⟩;have hb':Ext w1 w':=Ext.trans Qg hb)
        go_ret
        exact ⟨ze HF.out.symm,hE.trans (hx.trans hb')⟩
       ·have HT:=Lib.hid (HS.out (by rw [HG.out];rfl))
        clear HG
        go_wp2_with (go_at_call 120;refine (HC.out _).mono ?_;rintro e w' ⟨rfl,hb⟩;have hb':Ext w1 w':=Ext.trans Qg hb)
        go_roundw
        case rel=>exact ⟨k+1,by go_num,by omega,HT,hE.trans (hx.trans hb')⟩
        case measure=>simp [intOf];omega
      ·have HF:=Lib.hid (HN'.out (by rw [HG.out,decide_eq_false hk5];rfl))
       have hk5':(x.kind != 5)=true:=by simpa using hk5
       clear HG hk5
       go_wp2_with fail
       go_ret
       exact ⟨ze HF.out.symm,hE.trans (hx.trans Qg)⟩
     ·have hst:zgh k=6:=by unfold zgh;rw [if_neg Qk]
      have hpi:((k:Int) % 2)=1:=by omega
      rw [hst] at HG
      clear hp hst
      by_cases hk5:x.kind=6
      ·rw [hk5] at c0 HG
       have C:=fun W=>zoa 6 x.n x.d x.s x.l.length A' c' 0 W Qk Qk hm'
       generalize zbc 6 x.n x.d x.s x.l.length=q at C HG
       have HC:=Lib.hid C
       clear C hk5
       cases q
       ·have HF:=Lib.hid (HN'.out (by rw [HG.out,Bool.and_false]))
        clear HG
        go_wp2_with (go_at_call 120;refine (HC.out _).mono ?_;rintro e w' ⟨rfl,hb⟩;have hb':Ext w1 w':=Ext.trans Qg hb)
        go_ret
        exact ⟨ze HF.out.symm,hE.trans (hx.trans hb')⟩
       ·have HT:=Lib.hid (HS.out (by rw [HG.out];rfl))
        clear HG
        go_wp2_with (go_at_call 120;refine (HC.out _).mono ?_;rintro e w' ⟨rfl,hb⟩;have hb':Ext w1 w':=Ext.trans Qg hb)
        go_roundw
        case rel=>exact ⟨k+1,by go_num,by omega,HT,hE.trans (hx.trans hb')⟩
        case measure=>simp [intOf];omega
      ·have HF:=Lib.hid (HN'.out (by rw [HG.out,decide_eq_false hk5];rfl))
       have hk5':(x.kind != 6)=true:=by simpa using hk5
       clear HG hk5
       go_wp2_with fail
       go_ret
       exact ⟨ze HF.out.symm,hE.trans (hx.trans Qg)⟩
    ·have hk':k=l.length:=by omega
     have HF:=Lib.hid (HY.out (fun j hj=>hgd.out j Qk))
     go_wp2
     go_ret
     exact ⟨ze HF.out.symm,hE⟩
theorem zp1 (n d:Int) (s:ByteArray) (l:List Val) (ok:Nat→Prop) (A:Option Addr) (c:Nat) (lists:Int) (w:World) (hv:zk w ok A l):Calls Tryz.prog 120 #[.agg #[.int .i64 7, .int .i64 n, .int .i64 d, .string s, .slice A l.length c], .int .i64 lists] w fun e w'=>e= .returned (.bool (decide (n=0) && decide (d=0) && decide (s.size=0) && zdk l))∧Ext w w':=by
 have hm:=hv.len
 obtain ⟨g,w1,hg,hw1,⟨c0,c1,c2,c3,c4⟩,hx,-⟩:=zc2 w 7 n d s A l.length c 28
 have HW1:=Lib.hid hw1
 have HG:=Lib.hid hg
 have HC:=Lib.hid (z0c l ok A c w1 (hv.ext hx))
 clear hw1 hg hv
 go_enter Tryz.func120,Tryz.ntmps120
 go_upto_region 1 with (fail)
 rw [←HW1.out,←HG.out]
 clear HW1 HG
 go_wp2_with (go_at_call 162;refine (HC.out).mono ?_;rintro e w' ⟨rfl,hb⟩;have hb':Ext w1 w':=hb)
 all_goals
  go_ret
  refine ⟨ze ?_,(by first|exact hx|exact Ext.trans hx (by assumption))⟩
  clear c0 c1 c2 c3 c4 HC
  (try simp only [za7] at *)
  (try simp only [zb5])
  generalize zdk l=q at *
  first|(simp_all;done)|(simp_all;omega)
theorem zuv (n d:Int) (s:ByteArray) (m:Nat) (A:Option Addr) (c:Nat) (w:World) (hm:m≤140737488355328):Calls Tryz.prog 120 #[.agg #[.int .i64 8, .int .i64 n, .int .i64 d, .string s, .slice A m c], .int .i64 8] w fun e w'=>e= .returned (.bool false)∧Ext w w':=by
 obtain ⟨g,w1,hg,hw1,⟨c0,c1,c2,c3,c4⟩,hx,-⟩:=zc2 w 8 n d s A m c 28
 have HW1:=Lib.hid hw1
 have HG:=Lib.hid hg
 clear hw1 hg
 go_enter Tryz.func120,Tryz.ntmps120
 go_upto_region 1 with (fail)
 rw [←HW1.out,←HG.out]
 clear HW1 HG
 go_wp2_with fail
 all_goals
  go_ret
  exact ⟨rfl,hx⟩
def ztb (j:Nat):Prop := ∀ (lists:Int) (v:Val) (ok:Nat→Prop) (A:Option Addr) (c:Nat) (w:World),0≤lists→lists+j=8→zk w ok A v.l →
 Calls Tryz.prog 120 #[.agg #[.int .i64 v.kind, .int .i64 v.n, .int .i64 v.d, .string v.s, .slice A v.l.length c], .int .i64 lists] w fun e w'=>e= .returned (.bool (zak j v))∧Ext w w'
theorem ziq (j:Nat) (n d:Int) (s:ByteArray) (l:List Val):zak (j+1) (.mk 8 n d s l)=(((decide (n=0) && decide (d=0) && decide (s.size=0)) && decide (l.length≤64)) && l.all (zak j)):=zfe rfl
theorem ztq {j:Nat} {n d:Int} {s:ByteArray} {l:List Val} (h1:n=0) (h2:d=0) (h3:s.size=0) (h4:l.length≤64) (h:∀ i (hi:i < l.length),zak j l[i]=true):zak (j+1) (.mk 8 n d s l)=true:=by
 rw [ziq,decide_eq_true h1,decide_eq_true h2,decide_eq_true h3,decide_eq_true h4]
 simp only [Bool.true_and,List.all_eq_true]
 intro x hx
 obtain ⟨i,hi,rfl⟩:=List.getElem_of_mem hx
 exact h i hi
theorem zwc {j:Nat} {n d:Int} {s:ByteArray} {l:List Val} (h:n ≠ 0∨d ≠ 0∨s.size ≠ 0∨64 < l.length):zak (j+1) (.mk 8 n d s l)=false:=by
 rw [ziq]
 rcases h with h|h|h|h
 ·rw [decide_eq_false h];rfl
 ·rw [decide_eq_false h,Bool.and_false];rfl
 ·rw [decide_eq_false h,Bool.and_false];rfl
 ·rw [decide_eq_false (show ¬l.length≤64 by omega),Bool.and_false];rfl
theorem zup {j:Nat} {n d:Int} {s:ByteArray} {l:List Val} (i:Nat) (hi:i < l.length) (h:zak j l[i]=false):zak (j+1) (.mk 8 n d s l)=false:=by
 have:l.all (zak j)=false:=by
  rw [List.all_eq_false]
  exact ⟨_,List.getElem_mem hi,by rw [h];simp⟩
 rw [ziq,this,Bool.and_false]
end Go.Proofs.YtfhekbacigoblaaGreatDoor
