import Derived.Sort.Walk0
import Derived.Lib.Small
import Derived.Lib.ItoaNum
import Derived.Lib.AtoiAll
import Derived.Test.YtfhekbacigoblaaGreatDoorV00
import Derived.Test.YtfhekbacigoblaaGreatDoorProg
import Derived.WalkKit
import Derived.WalkSpells
import Derived.WalkLawsBesides
import Derived.Lib.Hide
namespace Go.Proofs.YtfhekbacigoblaaGreatDoor
set_option maxHeartbeats 400000
structure zae {α:Type} (c:α→α→Int):Prop where
 rng:∀ x y,c x y = -1∨c x y=0∨c x y=1
 zero:∀ x y,c x y=0 ↔ x=y
 anti:∀ x y,c y x = - c x y
 trans:∀ x y z,c x y≤0→c y z≤0→c x z≤0
def zaz (x y:Int):Int:=if x=0 then y else x
theorem zaw (y:Int):zaz 0 y=y:=rfl
theorem za4 {x:Int} (h:x ≠ 0) (y:Int):zaz x y=x:=if_neg h
theorem zdg {x y:Int} (hx:x = -1∨x=0∨x=1) (hy:y = -1∨y=0∨y=1):zaz x y = -1∨zaz x y=0∨zaz x y=1:=by
 unfold zaz;split <;> assumption
theorem zcs {x y:Int}:zaz x y=0 ↔ x=0∧y=0:=by
 unfold zaz;split
 ·rename_i h;exact ⟨fun h2=>⟨h,h2⟩,fun h2=>h2.2⟩
 ·rename_i h;exact ⟨fun h2=>absurd h2 h,fun h2=>h2.1⟩
theorem zc4 (x y:Int):zaz (-x) (-y) = -zaz x y:=by
 unfold zaz;split <;> split <;> omega
theorem zcw {α:Type} {c:α→α→Int} (hz:∀ x y,c x y=0 ↔ x=y) (ha:∀ x y,c y x = - c x y) {x y z:α} (ht:c x y≤0→c y z≤0→c x z≤0) {p q r:Int} (hp:p≤0→q≤0→r≤0) :
  zaz (c x y) p≤0→zaz (c y z) q≤0→zaz (c x z) r≤0:=by
 intro h1 h2
 by_cases e1:c x y=0
 ·have:=(hz _ _).1 e1;subst this
  rw [e1,zaw] at h1
  by_cases e2:c x z=0
  ·rw [e2,zaw] at h2 ⊢;exact hp h1 h2
  ·rw [za4 e2] at h2 ⊢;exact h2
 ·rw [za4 e1] at h1
  by_cases e2:c y z=0
  ·have:=(hz _ _).1 e2;subst this
   rw [za4 e1];exact h1
  ·rw [za4 e2] at h2
   have h3:=ht h1 h2
   by_cases e3:c x z=0
   ·have:=(hz _ _).1 e3;subst this
    have:=ha x y
    omega
   ·rw [za4 e3];exact h3
theorem zae.int:zae Lib.compareInt:=by
 constructor <;> intros <;> unfold Lib.compareInt at * <;> (repeat' split at *) <;> omega
def zn (a b:ByteArray):Int:=if Op.bytesLess a.toList b.toList=true then -1 else if (a.toList == b.toList)=true then 0 else 1
theorem zcy (a:List UInt8):Op.bytesLess a a=false:=by
 induction a with
 | nil=>rfl
 | cons x r ih=>simp [Op.bytesLess,ih]
theorem zhs:∀ (a b c:List UInt8),Op.bytesLess a b=true→Op.bytesLess b c=true→Op.bytesLess a c=true
 | _,[],_,h,_=>by simp [Op.bytesLess] at h
 | _,_ :: _,[],_,h=>by simp [Op.bytesLess] at h
 | [],_ :: _,_ :: _,_,_=>rfl
 | x :: a,y :: b,z :: c,h1,h2=>by
  simp only [Op.bytesLess,Bool.or_eq_true,Bool.and_eq_true,decide_eq_true_iff,beq_iff_eq] at h1 h2 ⊢
  rcases h1 with h1|⟨h1,h1'⟩ <;> rcases h2 with h2|⟨h2,h2'⟩
  ·exact .inl (UInt8.lt_trans h1 h2)
  ·exact .inl (h2 ▸ h1)
  ·exact .inl (h1 ▸ h2)
  ·exact .inr ⟨h1.trans h2,zhs a b c h1' h2'⟩
theorem zpx:∀ (a b:List UInt8),Op.bytesLess a b=true∨a=b∨Op.bytesLess b a=true
 | [],[]=> .inr (.inl rfl)
 | [],_ :: _=> .inl rfl
 | _ :: _,[]=> .inr (.inr rfl)
 | x :: a,y :: b=>by
  simp only [Op.bytesLess,Bool.or_eq_true,Bool.and_eq_true,decide_eq_true_iff,beq_iff_eq,List.cons.injEq]
  by_cases h:x=y
  ·subst h
   rcases zpx a b with h|h|h
   ·exact .inl (.inr ⟨rfl,h⟩)
   ·exact .inr (.inl ⟨rfl,h⟩)
   ·exact .inr (.inr (.inr ⟨rfl,h⟩))
  ·have hn:x.toNat ≠ y.toNat:=fun e=>h (UInt8.toNat_inj.1 e)
   rcases Nat.lt_or_gt_of_ne hn with h|h
   ·exact .inl (.inl (UInt8.lt_iff_toNat_lt.2 h))
   ·exact .inr (.inr (.inl (UInt8.lt_iff_toNat_lt.2 h)))
theorem zhz {a b:List UInt8} (h:Op.bytesLess a b=true):Op.bytesLess b a=false:=by
 cases h2:Op.bytesLess b a
 ·rfl
 ·have:=zhs _ _ _ h h2;rw [zcy] at this;cases this
theorem zo3 {a b:ByteArray} (h:a.toList=b.toList):a=b:=by
 rw [ByteArray.toList_eq,ByteArray.toList_eq] at h
 exact ByteArray.ext (Array.toList_inj.1 h)
theorem zos {a b:ByteArray} (h:Op.bytesLess a.toList b.toList=true):zn a b = -1:=by unfold zn;rw [if_pos h]
theorem zsz (a:ByteArray):zn a a=0:=by unfold zn;rw [zcy];simp
theorem zs7 {a b:ByteArray} (h:Op.bytesLess b.toList a.toList=true):zn a b=1:=by
 unfold zn;rw [zhz h,if_neg (by simp),if_neg]
 intro e;rw [beq_iff_eq] at e;rw [e,zcy] at h;cases h
theorem ze6 (a b:ByteArray):(Op.bytesLess a.toList b.toList=true∧zn a b = -1∧zn b a=1)∨(a=b∧zn a b=0)∨(Op.bytesLess b.toList a.toList=true∧zn a b=1∧zn b a = -1):=by
 rcases zpx a.toList b.toList with h|h|h
 ·exact .inl ⟨h,zos h,zs7 h⟩
 ·have:=zo3 h;subst this;exact .inr (.inl ⟨rfl,zsz _⟩)
 ·exact .inr (.inr ⟨h,zs7 h,zos h⟩)
theorem zae.str:zae zn:=by
 constructor
 ·intro x y;rcases ze6 x y with ⟨_,h,_⟩|⟨_,h⟩|⟨_,h,_⟩ <;> omega
 ·intro x y;rcases ze6 x y with ⟨h0,h,_⟩|⟨h0,h⟩|⟨h0,h,_⟩
  ·exact ⟨fun e=>by omega,fun e=>by subst e;rw [zcy] at h0;cases h0⟩
  ·exact ⟨fun _=>h0,fun _=>h⟩
  ·exact ⟨fun e=>by omega,fun e=>by subst e;rw [zcy] at h0;cases h0⟩
 ·intro x y;rcases ze6 x y with ⟨_,h,h'⟩|⟨h0,h⟩|⟨_,h,h'⟩
  ·omega
  ·subst h0;omega
  ·omega
 ·intro x y z a b
  rcases ze6 x y with ⟨h0,h,_⟩|⟨h0,h⟩|⟨h0,h,_⟩
  ·rcases ze6 y z with ⟨g0,g,_⟩|⟨g0,g⟩|⟨g0,g,_⟩
   ·rw [zos (zhs _ _ _ h0 g0)];omega
   ·subst g0;omega
   ·omega
  ·subst h0;exact b
  ·omega
theorem zae.refl {α:Type} {c:α→α→Int} (h:zae c) (x:α):c x x=0:=(h.zero _ _).2 rfl
theorem zae.total {α:Type} {c:α→α→Int} (h:zae c) (x y:α):c x y≤0∨c y x≤0:=by
 have:=h.anti x y;rcases h.rng x y with e|e|e <;> omega
def inB (n:Int):Bool:=decide (-1000000000000000≤n) && decide (n≤1000000000000000)
theorem zbb {n:Int}:inB n=true ↔ -1000000000000000≤n∧n≤1000000000000000:=by
 unfold inB;rw [Bool.and_eq_true,decide_eq_true_iff,decide_eq_true_iff]
theorem zjd {n:Int}:inB n=false ↔ n < -1000000000000000∨1000000000000000 < n:=by
 rw [←Bool.not_eq_true,zbb];omega
theorem zjg (n:Int):(inB n=true ∧ -1000000000000000≤n∧n≤1000000000000000)∨(inB n=false∧(n < -1000000000000000∨1000000000000000 < n)):=by
 cases h:inB n
 ·right;exact ⟨rfl,zjd.1 h⟩
 ·left;exact ⟨rfl,zbb.1 h⟩
theorem zhk (u:Nat):Lib.decDigits u=if u < 10 then [UInt8.ofNat (48+u)] else Lib.decDigits (u / 10) ++ [UInt8.ofNat (48+u % 10)]:=by
 rw [Lib.decDigits]
 by_cases h:u < 10
 ·rw [dif_pos h,if_pos h]
 ·rw [dif_neg h,if_neg h]
theorem zfs (k u:Nat) (h:u < 10 ^ (k+1)):(Lib.decDigits u).length≤k+1:=by
 induction k generalizing u with
 | zero=>rw [zhk,if_pos Qk];simp
 | succ k ih =>
  rw [zhk]
  by_cases g:u < 10
  ·rw [if_pos g];simp
  ·rw [if_neg g,List.length_append]
   have:=ih (u / 10) (by rw [Nat.pow_succ] at h;omega)
   simp;omega
theorem zjt {n:Int} (h:inB n=true):(Lib.itoa n).length≤17:=by
 have ⟨h1,h2⟩:=zbb.1 h
 unfold Lib.itoa
 split
 ·have:=zfs 15 n.natAbs Qk
  simp;omega
 ·have:=zfs 15 n.toNat Qk
  omega
def zb6 (a b:Int):Int:=(Nat.gcd a.natAbs b.natAbs:Int)
def zam (n d:Int):Bool:=decide (1≤d) && decide (d≤1000000000000000) && inB n && (zb6 n d == 1)
theorem zb1 {n d:Int}:zam n d=true ↔ 1≤d∧d≤1000000000000000∧(-1000000000000000≤n∧n≤1000000000000000)∧zb6 n d=1:=by
 unfold zam
 rw [Bool.and_eq_true,Bool.and_eq_true,Bool.and_eq_true,decide_eq_true_iff,decide_eq_true_iff,zbb,beq_iff_eq]
 constructor
 ·rintro ⟨⟨⟨a,b⟩,c⟩,d⟩;exact ⟨a,b,c,d⟩
 ·rintro ⟨a,b,c,d⟩;exact ⟨⟨⟨a,b⟩,c⟩,d⟩
def Low (n d:Int):Prop:=1≤d∧zb6 n d=1
theorem zlp {n d n' d':Int} (h:Low n d) (h':Low n' d') (e:n*d'=n'*d):n=n'∧d=d':=by
 obtain ⟨h1,h2⟩:=h
 obtain ⟨g1,g2⟩:=h'
 have c1:Nat.Coprime n.natAbs d.natAbs:=by unfold zb6 at h2;unfold Nat.Coprime;omega
 have c2:Nat.Coprime n'.natAbs d'.natAbs:=by unfold zb6 at g2;unfold Nat.Coprime;omega
 have e':n.natAbs*d'.natAbs=n'.natAbs*d.natAbs:=by rw [←Int.natAbs_mul,←Int.natAbs_mul,e]
 have d1:d.natAbs ∣ d'.natAbs:=c1.symm.dvd_of_dvd_mul_left ⟨n'.natAbs,by rw [e',Nat.mul_comm]⟩
 have d2:d'.natAbs ∣ d.natAbs:=c2.symm.dvd_of_dvd_mul_left ⟨n.natAbs,by rw [←e',Nat.mul_comm]⟩
 have ed:d.natAbs=d'.natAbs:=Nat.dvd_antisymm d1 d2
 have ed':d=d':=by omega
 subst ed'
 exact ⟨Int.eq_of_mul_eq_mul_right Qk e,rfl⟩
theorem zwd {N D:Int} (hD:1≤D):1≤zb6 N D:=by
 unfold zb6
 have:0 < Nat.gcd N.natAbs D.natAbs:=Nat.gcd_pos_of_pos_right _ Qk
 omega
theorem zmt (N D:Int):zb6 N D ∣ N:=Int.ofNat_dvd_left.2 (Nat.gcd_dvd_left _ _)
theorem zhn (N D:Int):zb6 N D ∣ D:=Int.ofNat_dvd_left.2 (Nat.gcd_dvd_right _ _)
theorem zy4 {N D:Int} (hD:1≤D):zb6 N D≤D:=Int.le_of_dvd Qk (zhn N D)
theorem zlt {a b:Int} (h:b ∣ a):(a / b).natAbs=a.natAbs / b.natAbs:=by
 obtain ⟨c,rfl⟩:=h
 by_cases hb:b=0
 ·subst hb;simp
 ·rw [Int.mul_ediv_cancel_left _ hb,Int.natAbs_mul,Nat.mul_div_cancel_left _ Qk]
theorem zoh {N D:Int} (hD:1≤D):Low (N / zb6 N D) (D / zb6 N D):=by
 have hp:=zwd (N:=N) hD
 refine ⟨?_,?_⟩
 ·exact Int.le_ediv_of_mul_le Qk (by have:=zy4 (N:=N) hD;omega)
 ·have e:zb6 (N / zb6 N D) (D / zb6 N D)=(Nat.gcd (N.natAbs / (zb6 N D).natAbs) (D.natAbs / (zb6 N D).natAbs):Nat):=by
   show ((Nat.gcd (N / zb6 N D).natAbs (D / zb6 N D).natAbs:Nat):Int)=_
   rw [zlt (zmt N D),zlt (zhn N D)]
  rw [e]
  have e2:(zb6 N D).natAbs=Nat.gcd N.natAbs D.natAbs:=by unfold zb6;rfl
  rw [e2]
  have:=Nat.coprime_div_gcd_div_gcd (m:=N.natAbs) (n:=D.natAbs) (Nat.gcd_pos_of_pos_right _ Qk)
  unfold Nat.Coprime at this
  rw [this];rfl
theorem zi1 (N D:Int):(N / zb6 N D)*D=N*(D / zb6 N D):=by
 have e1:=Int.ediv_mul_cancel (zmt N D)
 have e2:=Int.ediv_mul_cancel (zhn N D)
 generalize zb6 N D=g at *
 grind
def zo6 (N D:Int):Int × Int × Bool:=if inB (N / zb6 N D) && inB (D / zb6 N D) then (N / zb6 N D,D / zb6 N D,true) else (0,0,false)
def z0z (n d:Int):Int × Int × Bool:=if inB n && inB d then (n,d,true) else (0,0,false)
theorem zp4 {N D n d:Int} (hD:1≤D) (h:Low n d) (e:n*D=N*d):zo6 N D=z0z n d:=by
 have hl:=zoh (N:=N) hD
 have hc:=zi1 N D
 have:N / zb6 N D=n∧D / zb6 N D=d:=by
  refine zlp hl h ?_
  have:((N / zb6 N D)*d)*D=(n*(D / zb6 N D))*D:=by
   generalize N / zb6 N D=x at *
   generalize D / zb6 N D=y at *
   grind
  exact Int.eq_of_mul_eq_mul_right Qk this
 unfold zo6 z0z
 rw [this.1,this.2]
theorem zsh {N D N' D':Int} (hD:1≤D) (hD':1≤D') (e:N*D'=N'*D):zo6 N D=zo6 N' D':=by
 have hl:=zoh (N:=N') hD'
 have hc:=zi1 N' D'
 rw [zp4 hD hl]
 ·rfl
 ·have:((N' / zb6 N' D')*D)*D'=(N*(D' / zb6 N' D'))*D':=by
   generalize N' / zb6 N' D'=x at *
   generalize D' / zb6 N' D'=y at *
   grind
  exact Int.eq_of_mul_eq_mul_right Qk this
theorem zyy {N D n d:Int} (hD:1≤D) (h:zo6 N D=(n,d,true)):zam n d=true∧n*D=N*d:=by
 unfold zo6 at h
 split at h
 ·rename_i hr
  rw [Bool.and_eq_true,zbb,zbb] at hr
  obtain ⟨rfl,h2⟩:=Prod.mk.inj h
  obtain ⟨rfl,-⟩:=Prod.mk.inj h2
  have hl:=zoh (N:=N) hD
  exact ⟨zb1.2 ⟨hl.1,hr.2.2,hr.1,hl.2⟩,zi1 N D⟩
 ·cases h
def znv (an ad bn bd:Int):Int × Int × Bool :=
 if zam an ad && zam bn bd then zo6 (an*bd+bn*ad) (ad*bd) else (0,0,false)
theorem zhq {an ad bn bd:Int} (ha:zam an ad=true) (hb:zam bn bd=true):znv an ad bn bd=zo6 (an*bd+bn*ad) (ad*bd):=by
 unfold znv;rw [ha,hb];rfl
theorem zeq {n d:Int} (h:zam n d=true):Low n d:=⟨(zb1.1 h).1,(zb1.1 h).2.2.2⟩
theorem zow {a b:Int} (ha:1≤a) (hb:1≤b):1≤a*b:=by
 have:=Int.mul_pos (show 0 < a by omega) (show 0 < b by omega);omega
inductive Val where
 | mk (kind n d:Int) (s:ByteArray) (l:List Val):Val
instance:Inhabited Val:=⟨.mk 0 0 0 ByteArray.empty []⟩
def Val.kind:Val→Int | .mk k _ _ _ _=>k
def Val.n:Val→Int | .mk _ n _ _ _=>n
def Val.d:Val→Int | .mk _ _ d _ _=>d
def Val.s:Val→ByteArray | .mk _ _ _ s _=>s
def Val.l:Val→List Val | .mk _ _ _ _ l=>l
theorem Val.ext' {a b:Val} (h1:a.kind=b.kind) (h2:a.n=b.n) (h3:a.d=b.d) (h4:a.s=b.s) (h5:a.l=b.l):a=b:=by
 cases a;cases b
 simp only [Val.kind,Val.n,Val.d,Val.s,Val.l] at *
 rw [h1,h2,h3,h4,h5]
def zma (s:ByteArray):Bool:=decide (s.size≤100) && s.data.toList.all (fun c=>decide (32≤c.toNat) && decide (c.toNat≤126))
def zff (v:Val):Bool :=
 if v.kind=0 then decide (v.n=0) && decide (v.d=0) && decide (v.s.size=0) && decide (v.l.length=0)
 else if v.kind=1 then (decide (v.n=0) || decide (v.n=1)) && decide (v.d=0) && decide (v.s.size=0) && decide (v.l.length=0)
 else if v.kind=2 then inB v.n && decide (v.d=0) && decide (v.s.size=0) && decide (v.l.length=0)
 else if v.kind=3 then decide (2≤v.d) && zam v.n v.d && decide (v.s.size=0) && decide (v.l.length=0)
 else if v.kind=4 then decide (v.n=0) && decide (v.d=0) && zma v.s && decide (v.l.length=0)
 else if v.kind=5∨v.kind=6 then decide (1≤v.n) && decide (v.n≤1000000) && decide (v.d=0) && decide (v.s.size=0) && decide (v.l.length=0)
 else false
def zgh (i:Nat):Int:=if i % 2=0 then 5 else 6
def zdk (l:List Val):Bool:=decide (l.length % 2=1) && decide (l.length≤25) && (List.range l.length).all (fun i=>decide (l[i]!.kind=zgh i) && zff l[i]!)
def zlo (v:Val):Bool:=decide (v.n=0) && decide (v.d=0) && decide (v.s.size=0)
def zak:Nat→Val→Bool
 | 0,v=>if v.kind=7 then zlo v && zdk v.l else if v.kind=8 then false else zff v
 | k+1,v=>if v.kind=7 then zlo v && zdk v.l else if v.kind=8 then zlo v && decide (v.l.length≤64) && v.l.all (zak k) else zff v
theorem zbz {n:Nat} {v:Val} (h7:v.kind ≠ 7) (h8:v.kind ≠ 8):zak n v=zff v:=by
 cases n <;> unfold zak <;> rw [if_neg h7,if_neg h8]
theorem zc0 {n:Nat} {v:Val} (h7:v.kind=7):zak n v=(zlo v && zdk v.l):=by
 cases n <;> unfold zak <;> rw [if_pos h7]
theorem zet {v:Val} (h8:v.kind=8):zak 0 v=false:=by unfold zak;rw [if_neg Qk,if_pos h8]
theorem zfe {n:Nat} {v:Val} (h8:v.kind=8):zak (n+1) v=(zlo v && decide (v.l.length≤64) && v.l.all (zak n)):=by
 rw [zak,if_neg Qk,if_pos h8]
theorem zl3 {v:Val} (h:zff v=true):v.kind ≠ 7∧v.kind ≠ 8∧0≤v.kind∧v.kind≤6:=by
 unfold zff at h
 repeat' split at h
 all_goals first|(cases h;done)|omega
theorem zkx {n:Nat} {v:Val} (h:zff v=true):zak n v=true:=by
 have:=zl3 h;rw [zbz this.1 this.2.1];exact h
theorem zjz:∀ {n m:Nat} {v:Val},n≤m→zak n v=true→zak m v=true
 | n,m,v,hnm,h=>by
  by_cases h7:v.kind=7
  ·rw [zc0 h7] at h ⊢;exact h
  ·by_cases h8:v.kind=8
   ·cases n with
    | zero=>rw [zet h8] at h;cases h
    | succ n =>
     obtain ⟨m,rfl⟩:∃ k,m=k+1:=⟨m - 1,by omega⟩
     rw [zfe h8] at h ⊢
     simp only [Bool.and_eq_true,List.all_eq_true] at h ⊢
     exact ⟨h.1,fun x hx=>zjz Qk (h.2 x hx)⟩
   ·rw [zbz h7 h8] at h ⊢;exact h
theorem z0i {l:List Val} {i:Nat} (h:i < l.length):l[i]! = l[i]:=by rw [getElem!_pos l i h]
theorem zuy {l:List Val} (h:zdk l=true) {x:Val} (hx:x ∈ l):zff x=true:=by
 unfold zdk at h
 simp only [Bool.and_eq_true,List.all_eq_true,List.mem_range] at h
 obtain ⟨i,hi,rfl⟩:=List.getElem_of_mem hx
 have:=(h.2 i hi).2
 rwa [z0i hi] at this
theorem zq2 {n:Nat} {v:Val} (h:zak n v=true) {x:Val} (hx:x ∈ v.l):zak n x=true:=by
 by_cases h7:v.kind=7
 ·rw [zc0 h7] at h
  simp only [Bool.and_eq_true] at h
  exact zkx (zuy h.2 hx)
 ·by_cases h8:v.kind=8
  ·cases n with
   | zero=>rw [zet h8] at h;cases h
   | succ n =>
    rw [zfe h8] at h
    simp only [Bool.and_eq_true,List.all_eq_true] at h
    exact zjz Qk (h.2 x hx)
  ·rw [zbz h7 h8] at h
   have h0:v.l.length=0:=by
    unfold zff at h
    repeat' split at h
    all_goals first|(cases h;done)|(simp only [Bool.and_eq_true,decide_eq_true_iff] at h;omega)
   rw [List.eq_nil_of_length_eq_zero h0] at hx
   cases hx
def zab (v:Val):Bool:=zak 8 v
theorem zks {v:Val} (h:zab v=true) {x:Val} (hx:x ∈ v.l):zab x=true:=zq2 h hx
structure znz (v:Val):Prop where
 num:v.kind=2∨v.kind=3→v.s.size=0∧v.l.length=0∧zam v.n (if v.kind=3 then v.d else 1)=true∧(v.kind=2→v.d=0)∧(v.kind=3→2≤v.d)
 oth:v.kind ≠ 2→v.kind ≠ 3→v.d=0∧(v.kind=4→v.n=0)∧(v.kind ≠ 4→v.s.size=0)
 rng:0≤v.kind∧v.kind≤8
theorem zrf {n:Int} (h:inB n=true):zam n 1=true:=by
 refine zb1.2 ⟨by omega,by omega,zbb.1 h,?_⟩
 unfold zb6;rw [show (1:Int).natAbs=1 from rfl,Nat.gcd_one_right];rfl
theorem zax {v:Val} (h:zab v=true):znz v:=by
 unfold zab at h
 by_cases h7:v.kind=7
 ·rw [zc0 h7] at h
  simp only [zlo,Bool.and_eq_true,decide_eq_true_iff] at h
  exact ⟨fun e=>by omega,fun _ _=>⟨h.1.1.2,fun e=>by omega,fun _=>h.1.2⟩,by omega⟩
 ·by_cases h8:v.kind=8
  ·rw [zfe h8] at h
   simp only [zlo,Bool.and_eq_true,decide_eq_true_iff] at h
   exact ⟨fun e=>by omega,fun _ _=>⟨h.1.1.1.2,fun e=>by omega,fun _=>h.1.1.2⟩,by omega⟩
  ·rw [zbz h7 h8] at h
   have hr:=zl3 h
   unfold zff at h
   split at h
   ·simp only [Bool.and_eq_true,decide_eq_true_iff] at h
    exact ⟨fun e=>by omega,fun _ _=>⟨h.1.1.2,fun e=>by omega,fun _=>h.1.2⟩,by omega⟩
   ·split at h
    ·simp only [Bool.and_eq_true,decide_eq_true_iff] at h
     exact ⟨fun e=>by omega,fun _ _=>⟨h.1.1.2,fun e=>by omega,fun _=>h.1.2⟩,by omega⟩
    ·split at h
     ·rename_i h2
      simp only [Bool.and_eq_true,decide_eq_true_iff] at h
      refine ⟨fun e=>⟨h.1.2,h.2,?_,fun _=>h.1.1.2,fun e=>by omega⟩,fun e=>absurd h2 e,by omega⟩
      rw [if_neg Qk];exact zrf h.1.1.1
     ·split at h
      ·rename_i h3
       simp only [Bool.and_eq_true,decide_eq_true_iff] at h
       refine ⟨fun e=>⟨h.1.2,h.2,?_,fun e=>by omega,fun _=>h.1.1.1⟩,fun _ e=>absurd h3 e,by omega⟩
       rw [if_pos h3];exact h.1.1.2
      ·split at h
       ·simp only [Bool.and_eq_true,decide_eq_true_iff] at h
        exact ⟨fun e=>by omega,fun _ _=>⟨h.1.1.2,fun _=>h.1.1.1,fun e=>by omega⟩,by omega⟩
       ·split at h
        ·simp only [Bool.and_eq_true,decide_eq_true_iff] at h
         exact ⟨fun e=>by omega,fun _ _=>⟨h.1.1.2,fun e=>by omega,fun _=>h.1.2⟩,by omega⟩
        ·cases h
def cls (k:Int):Int:=if k=3 then 2 else if k=7 then 9 else k
def dnV (k d:Int):Int:=if k=3 then d else 1
def zgj (n d n' d':Int):Int:=Lib.compareInt (n*d') (n'*d)
mutual
def zbw:Val→Val→Int
 | .mk k n d s l, .mk k' n' d' s' l' =>
  if zab (.mk k n d s l)=true then
   if zab (.mk k' n' d' s' l')=true then
    zaz (Lib.compareInt (cls k) (cls k')) (if cls k=2 then zgj n (dnV k d) n' (dnV k' d') else zaz (zn s s') (zaz (Lib.compareInt n n') (zas l l')))
   else -1
  else if zab (.mk k' n' d' s' l')=true then 1
  else zaz (Lib.compareInt k k') (zaz (Lib.compareInt n n') (zaz (Lib.compareInt d d') (zaz (zn s s') (zas l l'))))
def zas:List Val→List Val→Int
 | [],[]=>0
 | [],_ :: _ => -1
 | _ :: _,[]=>1
 | x :: xs,y :: ys=>zaz (zbw x y) (zas xs ys)
end
def zlr (a b:Val):Int:=zaz (Lib.compareInt (cls a.kind) (cls b.kind)) (if cls a.kind=2 then zgj a.n (dnV a.kind a.d) b.n (dnV b.kind b.d) else zaz (zn a.s b.s) (zaz (Lib.compareInt a.n b.n) (zas a.l b.l)))
def zj9 (a b:Val):Int:=zaz (Lib.compareInt a.kind b.kind) (zaz (Lib.compareInt a.n b.n) (zaz (Lib.compareInt a.d b.d) (zaz (zn a.s b.s) (zas a.l b.l))))
theorem zd9 (a b:Val):zbw a b=if zab a=true then (if zab b=true then zlr a b else -1) else if zab b=true then 1 else zj9 a b:=by
 cases a;cases b;rw [zbw];rfl
theorem zwx (n d n' d':Int):zgj n d n' d' = -1∨zgj n d n' d'=0∨zgj n d n' d'=1:=zae.int.rng _ _
theorem ztm (n d n' d':Int):zgj n' d' n d = - zgj n d n' d':=zae.int.anti _ _
theorem zoz {x y:Int}:Lib.compareInt x y≤0 ↔ x≤y:=by
 unfold Lib.compareInt
 repeat' split
 all_goals omega
theorem zr6 {n d n' d' n2 d2:Int} (h:1≤d) (h':1≤d') (h2:1≤d2) (a:zgj n d n' d'≤0) (b:zgj n' d' n2 d2≤0):zgj n d n2 d2≤0:=by
 unfold zgj at *
 rw [zoz] at *
 have e1:n*d'*d2≤n'*d*d2:=Int.mul_le_mul_of_nonneg_right a Qk
 have e2:n'*d2*d≤n2*d'*d:=Int.mul_le_mul_of_nonneg_right b Qk
 have e3:n*d2*d'≤n2*d*d':=by
  have f1:n*d'*d2=n*d2*d':=by rw [Int.mul_assoc,Int.mul_comm d',←Int.mul_assoc]
  have f2:n'*d*d2=n'*d2*d:=by rw [Int.mul_assoc,Int.mul_comm d,←Int.mul_assoc]
  have f3:n2*d'*d=n2*d*d':=by rw [Int.mul_assoc,Int.mul_comm d',←Int.mul_assoc]
  omega
 exact Int.le_of_mul_le_mul_right e3 Qk
theorem zm2 {n d n' d':Int} (h:zam n d=true) (h':zam n' d'=true):zgj n d n' d'=0 ↔ n=n'∧d=d':=by
 unfold zgj
 rw [zae.int.zero]
 exact ⟨fun e=>zlp (zeq h) (zeq h') e,fun e=>by rw [e.1,e.2]⟩
theorem zs1 {k k':Int} (h:0≤k∧k≤8) (h':0≤k'∧k'≤8) (e:cls k=cls k') (h2:cls k ≠ 2):k=k':=by
 unfold cls at *
 repeat' split at *
 all_goals omega
theorem zcu {k:Int}:cls k=2 ↔ k=2∨k=3:=by
 unfold cls
 repeat' split
 all_goals omega
theorem zfy {s:ByteArray} (h:s.size=0):s=ByteArray.empty:=by
 have:s.data=#[]:=Array.eq_empty_of_size_eq_zero h
 exact ByteArray.ext this
theorem zdu {v:Val} (h:znz v) (hk:cls v.kind=2):zam v.n (dnV v.kind v.d)=true:=(h.num (zcu.1 hk)).2.2.1
mutual
theorem zo5:∀ a b:Val,zbw a b = -1∨zbw a b=0∨zbw a b=1
 | .mk k n d s l,b=>by
  rw [zd9]
  have hl:=zly l b.l
  repeat' split
  all_goals first|(simp;done)|skip
  ·unfold zlr
   refine zdg (zae.int.rng _ _) ?_
   split
   ·exact zwx _ _ _ _
   ·exact zdg (zae.str.rng _ _) (zdg (zae.int.rng _ _) hl)
  ·unfold zj9
   exact zdg (zae.int.rng _ _) (zdg (zae.int.rng _ _) (zdg (zae.int.rng _ _) (zdg (zae.str.rng _ _) hl)))
theorem zly:∀ a b:List Val,zas a b = -1∨zas a b=0∨zas a b=1
 | [],[]=>by rw [zas];simp
 | [],_ :: _=>by rw [zas];simp
 | _ :: _,[]=>by rw [zas];simp
 | x :: xs,y :: ys=>by rw [zas];exact zdg (zo5 x y) (zly xs ys)
end
mutual
theorem zhe:∀ a b:Val,zbw a b=0 ↔ a=b
 | .mk k n d s l,b=>by
  rw [zd9]
  have hl:=zjh l b.l
  generalize ha:Val.mk k n d s l=a
  have hak:a.kind=k:=by rw [←ha];rfl
  have han:a.n=n:=by rw [←ha];rfl
  have had:a.d=d:=by rw [←ha];rfl
  have has:a.s=s:=by rw [←ha];rfl
  have hal:a.l=l:=by rw [←ha];rfl
  rw [←hal] at hl
  by_cases h1:zab a=true
  ·by_cases h2:zab b=true
   ·rw [if_pos h1,if_pos h2]
    have f1:=zax h1
    have f2:=zax h2
    unfold zlr
    rw [zcs,zae.int.zero]
    constructor
    ·rintro ⟨e,e2⟩
     by_cases hc:cls a.kind=2
     ·rw [if_pos hc] at e2
      obtain ⟨q1,q2⟩:=(zm2 (zdu f1 hc) (zdu f2 (e ▸ hc))).1 e2
      have g1:=f1.num (zcu.1 hc)
      have g2:=f2.num (zcu.1 (e ▸ hc))
      have hk:a.kind=b.kind∧a.d=b.d:=by
       unfold dnV at q2
       rcases zcu.1 hc with k1|k1 <;> rcases zcu.1 (e ▸ hc:cls b.kind=2) with k2|k2 <;> rw [k1,k2] at q2 <;> simp at q2
       ·exact ⟨by omega,by rw [g1.2.2.2.1 k1,g2.2.2.2.1 k2]⟩
       ·have:=g2.2.2.2.2 k2;omega
       ·have:=g1.2.2.2.2 k1;omega
       ·exact ⟨by omega,q2⟩
      exact Val.ext' hk.1 q1 hk.2 (by rw [zfy g1.1,zfy g2.1]) (by rw [List.eq_nil_of_length_eq_zero g1.2.1,List.eq_nil_of_length_eq_zero g2.2.1])
     ·rw [if_neg hc] at e2
      have hk:=zs1 f1.rng f2.rng e hc
      rw [zcs,zcs,zae.str.zero,zae.int.zero,hl] at e2
      have k2:a.kind ≠ 2:=fun h=>hc (zcu.2 (.inl h))
      have k3:a.kind ≠ 3:=fun h=>hc (zcu.2 (.inr h))
      exact Val.ext' hk e2.2.1 (by rw [(f1.oth k2 k3).1,(f2.oth (hk ▸ k2) (hk ▸ k3)).1]) e2.1 e2.2.2
    ·rintro rfl
     refine ⟨rfl,?_⟩
     split
     ·rename_i hc;exact (zm2 (zdu f1 hc) (zdu f1 hc)).2 ⟨rfl,rfl⟩
     ·rw [zcs,zcs];exact ⟨zae.str.refl _,zae.int.refl _,hl.2 rfl⟩
   ·rw [if_pos h1,if_neg h2]
    exact ⟨fun h=>by omega,fun h=>absurd (h ▸ h1) h2⟩
  ·by_cases h2:zab b=true
   ·rw [if_neg h1,if_pos h2]
    exact ⟨fun h=>by omega,fun h=>absurd (h ▸ h2) h1⟩
   ·rw [if_neg h1,if_neg h2]
    unfold zj9
    rw [zcs,zcs,zcs,zcs,zae.int.zero,zae.int.zero,zae.int.zero,zae.str.zero,hl]
    exact ⟨fun h=>Val.ext' h.1 h.2.1 h.2.2.1 h.2.2.2.1 h.2.2.2.2,fun h=>by subst h;exact ⟨rfl,rfl,rfl,rfl,rfl⟩⟩
theorem zjh:∀ a b:List Val,zas a b=0 ↔ a=b
 | [],[]=>by rw [zas];simp
 | [],_ :: _=>by rw [zas];simp
 | _ :: _,[]=>by rw [zas];simp
 | x :: xs,y :: ys=>by rw [zas,zcs,zhe x y,zjh xs ys];simp
end
mutual
theorem zi5:∀ a b:Val,zbw b a = - zbw a b
 | .mk k n d s l,b=>by
  rw [zd9,zd9]
  have hl:=zjb l b.l
  generalize ha:Val.mk k n d s l=a
  have hal:a.l=l:=by rw [←ha];rfl
  rw [←hal] at hl
  by_cases h1:zab a=true
  ·by_cases h2:zab b=true
   ·simp only [if_pos h1,if_pos h2]
    unfold zlr
    rw [zae.int.anti (cls a.kind)]
    by_cases hc:cls a.kind=cls b.kind
    ·rw [hc]
     by_cases h3:cls b.kind=2
     ·rw [if_pos h3,if_pos h3,ztm a.n,zc4]
     ·rw [if_neg h3,if_neg h3,zae.str.anti a.s,zae.int.anti a.n,hl,zc4,zc4,zc4]
    ·have:Lib.compareInt (cls a.kind) (cls b.kind) ≠ 0:=fun e=>hc ((zae.int.zero _ _).1 e)
     rw [za4 Qk,za4 this]
   ·simp only [if_pos h1,if_neg h2];rfl
  ·by_cases h2:zab b=true
   ·simp only [if_neg h1,if_pos h2]
   ·simp only [if_neg h1,if_neg h2]
    unfold zj9
    rw [zae.int.anti a.kind,zae.int.anti a.n,zae.int.anti a.d,zae.str.anti a.s,hl,zc4,zc4,zc4,zc4]
theorem zjb:∀ a b:List Val,zas b a = - zas a b
 | [],[]=>by rw [zas];rfl
 | [],_ :: _=>by rw [zas,zas];rfl
 | _ :: _,[]=>by rw [zas,zas]
 | x :: xs,y :: ys=>by rw [zas,zas,zi5 x y,zjb xs ys,zc4]
end
mutual
theorem zln:∀ a b c:Val,zbw a b≤0→zbw b c≤0→zbw a c≤0
 | .mk k n d s l,b,c=>by
  rw [zd9,zd9,zd9]
  have hl:=zhx l b.l c.l
  generalize ha:Val.mk k n d s l=a
  have hal:a.l=l:=by rw [←ha];rfl
  rw [←hal] at hl
  by_cases h1:zab a=true
  ·by_cases h2:zab b=true
   ·by_cases h3:zab c=true
    ·simp only [if_pos h1,if_pos h2,if_pos h3]
     have f1:=zax h1
     have f2:=zax h2
     have f3:=zax h3
     unfold zlr
     by_cases hab:cls a.kind=cls b.kind
     ·by_cases hbc:cls b.kind=cls c.kind
      ·rw [hab,hbc,zae.int.refl,zaw,zaw,zaw]
       by_cases hc:cls c.kind=2
       ·rw [if_pos hc,if_pos hc,if_pos hc]
        have g1:=(zb1.1 (zdu f1 Qk)).1
        have g2:=(zb1.1 (zdu f2 Qk)).1
        have g3:=(zb1.1 (zdu f3 hc)).1
        exact zr6 g1 g2 g3
       ·rw [if_neg hc,if_neg hc,if_neg hc]
        exact zcw zae.str.zero zae.str.anti (zae.str.trans _ _ _) (zcw zae.int.zero zae.int.anti (zae.int.trans _ _ _) hl)
      ·have e:Lib.compareInt (cls b.kind) (cls c.kind) ≠ 0:=fun e=>hbc ((zae.int.zero _ _).1 e)
       rw [hab,zae.int.refl,za4 e,za4 e];exact fun _ h=>h
     ·have e1:Lib.compareInt (cls a.kind) (cls b.kind) ≠ 0:=fun e=>hab ((zae.int.zero _ _).1 e)
      rw [za4 e1]
      by_cases hbc:cls b.kind=cls c.kind
      ·rw [←hbc,za4 e1];exact fun h _=>h
      ·have e2:Lib.compareInt (cls b.kind) (cls c.kind) ≠ 0:=fun e=>hbc ((zae.int.zero _ _).1 e)
       rw [za4 e2]
       intro p q
       rw [zoz] at p q
       have e3:Lib.compareInt (cls a.kind) (cls c.kind) ≠ 0:=fun e=>by
        have:=(zae.int.zero _ _).1 e
        omega
       rw [za4 e3,zoz];omega
    ·simp only [if_pos h1,if_pos h2,if_neg h3];exact fun _ _=>by omega
   ·by_cases h3:zab c=true
    ·simp only [if_pos h1,if_neg h2,if_pos h3];exact fun _ h=>by omega
    ·simp only [if_pos h1,if_neg h2,if_neg h3];exact fun _ _=>by omega
  ·by_cases h2:zab b=true
   ·simp only [if_neg h1,if_pos h2];exact fun h=>by omega
   ·by_cases h3:zab c=true
    ·simp only [if_neg h1,if_neg h2,if_pos h3];exact fun _ h=>by omega
    ·simp only [if_neg h1,if_neg h2,if_neg h3]
     unfold zj9
     exact zcw zae.int.zero zae.int.anti (zae.int.trans _ _ _) (zcw zae.int.zero zae.int.anti (zae.int.trans _ _ _) (zcw zae.int.zero zae.int.anti (zae.int.trans _ _ _) (zcw zae.str.zero zae.str.anti (zae.str.trans _ _ _) hl)))
theorem zhx:∀ a b c:List Val,zas a b≤0→zas b c≤0→zas a c≤0
 | [],[],_=>fun _ h=>h
 | [],_ :: _,[]=>fun _ h=>by rw [zas] at h;omega
 | [],_ :: _,_ :: _=>fun _ _=>by rw [zas];omega
 | _ :: _,[],_=>fun h=>by rw [zas] at h;omega
 | _ :: _,_ :: _,[]=>fun _ h=>by rw [zas] at h;omega
 | x :: xs,y :: ys,z :: zs=>by
  rw [zas,zas,zas]
  exact zcw zhe zi5 (zln x y z) (zhx xs ys zs)
end
theorem zae.val:zae zbw:=⟨zo5,zhe,zi5,zln⟩
theorem zae.row:zae zas:=⟨zly,zjh,zjb,zhx⟩
open Go.RowKit
def zo {α:Type} (R:Nat→Nat→α→Prop) (size:Nat) (A:Option Addr) (l:List α):Prop :=
 l.length≤140737488355328∧(0 < l.length→∃ b o,A=some ⟨b,o,none⟩∧∀ k (h:k < l.length),R b (o+k*size) l[k])
theorem zo.len {α:Type} {R:Nat→Nat→α→Prop} {size:Nat} {A:Option Addr} {l:List α} (h:zo R size A l):l.length≤140737488355328:=h.1
theorem zo.mono {α:Type} {R R':Nat→Nat→α→Prop} {size:Nat} {A:Option Addr} {l:List α} (h:zo R size A l) (hR:∀ b o x,x ∈ l→R b o x→R' b o x):zo R' size A l :=
 ⟨h.1,fun hp=>let ⟨b,o,hA,hc⟩:=h.2 hp;⟨b,o,hA,fun k hk=>hR _ _ _ (List.getElem_mem hk) (hc k hk)⟩⟩
theorem zo.nil {α:Type} (R:Nat→Nat→α→Prop) (size:Nat) (A:Option Addr):zo R size A ([]:List α):=⟨by simp,fun h=>absurd h (by simp)⟩
theorem zo.none_ {α:Type} {R:Nat→Nat→α→Prop} {size:Nat} {A:Option Addr} {l:List α} (h:zo R size A l):A=none→l.length=0:=fun e=>by
 rcases Nat.eq_zero_or_pos l.length with h0|h0
 ·exact h0
 ·obtain ⟨b,o,hA,_⟩:=h.2 h0
  rw [e] at hA;cases hA
theorem zo.take {α:Type} {R:Nat→Nat→α→Prop} {size:Nat} {A:Option Addr} {l:List α} (h:zo R size A l) (n:Nat):zo R size A (l.take n) :=
 ⟨by rw [List.length_take];have:=h.1;omega,fun hp=>by
  rw [List.length_take] at hp
  obtain ⟨b,o,hA,hc⟩:=h.2 Qk
  exact ⟨b,o,hA,fun k hk=>by rw [List.length_take] at hk;rw [List.getElem_take];exact hc k Qk⟩⟩
theorem zo.drop {α:Type} {R:Nat→Nat→α→Prop} {size b o:Nat} {l:List α} (h:zo R size (some ⟨b,o,none⟩) l) (n:Nat):zo R size (some ⟨b,o+n*size,none⟩) (l.drop n) :=
 ⟨by rw [List.length_drop];have:=h.1;omega,fun hp=>by
  rw [List.length_drop] at hp
  obtain ⟨b',o',hA,hc⟩:=h.2 Qk
  injection hA with hA
  injection hA with h1 h2
  subst h1 h2
  refine ⟨_,_,rfl,fun k hk=>?_⟩
  rw [List.length_drop] at hk
  rw [List.getElem_drop,Nat.add_assoc,←Nat.add_mul]
  exact hc (n+k) Qk⟩
mutual
def zx (w:World) (ok:Nat→Prop):Nat→Nat→Val→Prop
 | b,o, .mk k n d s l=>ok b∧w.cell? ⟨b,o,none⟩=some (.int .i64 k)∧w.cell? ⟨b,o+1,none⟩=some (.int .i64 n)∧w.cell? ⟨b,o+2,none⟩=some (.int .i64 d)∧w.cell? ⟨b,o+3,none⟩=some (.string s) ∧
  ∃ A c,w.cell? ⟨b,o+4,none⟩=some (.slice A l.length c)∧l.length≤c∧l.length≤140737488355328∧(0 < l.length→∃ b' o',A=some ⟨b',o',none⟩∧zbg w ok b' o' l)
def zbg (w:World) (ok:Nat→Prop):Nat→Nat→List Val→Prop
 | _,_,[]=>True
 | b,o,v :: vs=>zx w ok b o v∧zbg w ok b (o+5) vs
end
theorem zbg.iff {w:World} {ok:Nat→Prop}:∀ {l:List Val} {b o:Nat},zbg w ok b o l ↔ ∀ k (h:k < l.length),zx w ok b (o+k*5) l[k]
 | [],b,o=>by rw [zbg];simp
 | v :: vs,b,o=>by
  rw [zbg,zbg.iff (l:=vs)]
  constructor
  ·rintro ⟨h1,h2⟩ k hk
   cases k with
   | zero=>rw [Nat.zero_mul,Nat.add_zero];exact h1
   | succ k =>
    have:=h2 k (by simpa using hk)
    rw [show o+5+k*5=o+(k+1)*5 by omega] at this
    exact this
  ·intro h
   refine ⟨by have h0:=h 0 (by simp);rw [Nat.zero_mul,Nat.add_zero] at h0;exact h0,fun k hk=>?_⟩
   have:=h (k+1) (by simpa using hk)
   rw [show o+(k+1)*5=o+5+k*5 by omega] at this
   exact this
def zk (w:World) (ok:Nat→Prop) (A:Option Addr) (l:List Val):Prop:=zo (zx w ok) 5 A l
def V5 (w:World) (b o:Nat) (v:Val) (A:Option Addr) (c:Nat):Prop :=
 w.cell? ⟨b,o,none⟩=some (.int .i64 v.kind)∧w.cell? ⟨b,o+1,none⟩=some (.int .i64 v.n)∧w.cell? ⟨b,o+2,none⟩=some (.int .i64 v.d)∧w.cell? ⟨b,o+3,none⟩=some (.string v.s)∧w.cell? ⟨b,o+4,none⟩=some (.slice A v.l.length c)
theorem V5.ext {a w:World} {b o:Nat} {v:Val} {A:Option Addr} {c:Nat} (h:V5 a b o v A c) (e:Ext a w):V5 w b o v A c:=⟨e.cell h.1,e.cell h.2.1,e.cell h.2.2.1,e.cell h.2.2.2.1,e.cell h.2.2.2.2⟩
theorem zx.iff {w:World} {ok:Nat→Prop} {b o:Nat} {v:Val}:zx w ok b o v ↔ ok b∧∃ A c,V5 w b o v A c∧v.l.length≤c∧zk w ok A v.l:=by
 cases v with
 | mk k n d s l =>
  rw [zx]
  constructor
  ·rintro ⟨h0,h1,h2,h3,h4,A,c,h5,h6,h7,h8⟩
   refine ⟨h0,A,c,⟨h1,h2,h3,h4,h5⟩,h6,h7,fun hp=>?_⟩
   obtain ⟨b',o',hA,hl⟩:=h8 hp
   exact ⟨b',o',hA,zbg.iff.1 hl⟩
  ·rintro ⟨h0,A,c,⟨h1,h2,h3,h4,h5⟩,h6,h7,h8⟩
   refine ⟨h0,h1,h2,h3,h4,A,c,h5,h6,h7,fun hp=>?_⟩
   obtain ⟨b',o',hA,hl⟩:=h8 hp
   exact ⟨b',o',hA,zbg.iff.2 hl⟩
mutual
theorem zx.keep {w w':World} {ok ok':Nat→Prop} (hk:∀ b o x,ok b→w.cell? ⟨b,o,none⟩=some x→w'.cell? ⟨b,o,none⟩=some x) (ho:∀ b,ok b→ok' b):∀ (v:Val) (b o:Nat),zx w ok b o v→zx w' ok' b o v
 | .mk k n d s l,b,o,h=>by
  rw [zx] at h ⊢
  obtain ⟨h0,h1,h2,h3,h4,A,c,h5,h6,h7,h8⟩:=h
  refine ⟨ho _ h0,hk _ _ _ h0 h1,hk _ _ _ h0 h2,hk _ _ _ h0 h3,hk _ _ _ h0 h4,A,c,hk _ _ _ h0 h5,h6,h7,fun hp=>?_⟩
  obtain ⟨b',o',hA,hl⟩:=h8 hp
  exact ⟨b',o',hA,zbg.keep hk ho l b' o' hl⟩
theorem zbg.keep {w w':World} {ok ok':Nat→Prop} (hk:∀ b o x,ok b→w.cell? ⟨b,o,none⟩=some x→w'.cell? ⟨b,o,none⟩=some x) (ho:∀ b,ok b→ok' b):∀ (l:List Val) (b o:Nat),zbg w ok b o l→zbg w' ok' b o l
 | [],_,_,_=>by rw [zbg];trivial
 | v :: vs,b,o,h=>by
  rw [zbg] at h ⊢
  exact ⟨zx.keep hk ho v b o h.1,zbg.keep hk ho vs b (o+5) h.2⟩
end
theorem zx.ext {a w:World} {ok:Nat→Prop} {b o:Nat} {v:Val} (h:zx a ok b o v) (e:Ext a w):zx w ok b o v:=zx.keep (fun _ _ _ _ hc=>e.cell hc) (fun _ h=>h) v b o h
theorem zk.keep {w w':World} {ok ok':Nat→Prop} {A:Option Addr} {l:List Val} (h:zk w ok A l) (hk:∀ b o x,ok b→w.cell? ⟨b,o,none⟩=some x→w'.cell? ⟨b,o,none⟩=some x) (ho:∀ b,ok b→ok' b):zk w' ok' A l :=
 zo.mono h (fun b o x _ hx=>zx.keep hk ho x b o hx)
theorem zk.ext {a w:World} {ok:Nat→Prop} {A:Option Addr} {l:List Val} (h:zk a ok A l) (e:Ext a w):zk w ok A l:=h.keep (fun _ _ _ _ hc=>e.cell hc) (fun _ h=>h)
theorem zk.to {w:World} {ok ok':Nat→Prop} {A:Option Addr} {l:List Val} (h:zk w ok A l) (ho:∀ b,ok b→ok' b):zk w ok' A l:=h.keep (fun _ _ _ _ hc=>hc) ho
def Val.cells (v:Val) (A:Option Addr) (c:Nat):List Value:=[.int .i64 v.kind, .int .i64 v.n, .int .i64 v.d, .string v.s, .slice A v.l.length c]
theorem Val.cells_one (v:Val) (A:Option Addr) (c:Nat):∀ u ∈ v.cells A c,u.oneCell'=true:=by
 intro u hu
 simp only [Val.cells,List.mem_cons,List.not_mem_nil,or_false] at hu
 rcases hu with rfl|rfl|rfl|rfl|rfl <;> rfl
theorem zbt (w:World) (v:Val) (A:Option Addr) (c:Nat) (t:TypeId):∃ (g:Nat) (w1:World),g=w.heap.size∧w1=w.alloc (.cells #[.int .i64 v.kind, .int .i64 v.n, .int .i64 v.d, .string v.s, .slice A v.l.length c] t)∧V5 w1 g 0 v A c∧Ext w w1∧w.heap.size≤g :=
 ⟨_,_,rfl,rfl,⟨by go_simp,by go_simp,by go_simp,by go_simp,by go_simp⟩,(Ext.refl _).alloc _,Nat.le_refl _⟩
def wtL:List Val→Nat
 | []=>0
 | .mk _ _ _ _ l :: vs=>1+wtL l+wtL vs
def wtV (v:Val):Nat:=1+wtL v.l
theorem zfp (v:Val) (vs:List Val):wtL (v :: vs)=wtV v+wtL vs:=by cases v;rw [wtL];rfl
theorem znu {l:List Val} {v:Val} (h:v ∈ l):wtV v≤wtL l:=by
 induction l with
 | nil=>cases h
 | cons x l ih =>
  rw [zfp]
  rcases List.mem_cons.1 h with e|e
  ·rw [e];omega
  ·have:=ih e;omega
theorem zp8 {l:List Val} {v:Val} (h:v ∈ l):wtL v.l < wtL l:=by have:=znu h;unfold wtV at this;omega
theorem zso (l:List Val):l.length≤wtL l:=by
 induction l with
 | nil=>simp
 | cons x l ih=>rw [zfp,List.length_cons];unfold wtV;omega
def zzj (w:World) (ok:Nat→Prop) (b o:Nat) (s:ByteArray):Prop:=ok b∧w.cell? ⟨b,o,none⟩=some (.string s)
def z1o (w:World) (ok:Nat→Prop) (b o:Nat) (n:Int):Prop:=ok b∧w.cell? ⟨b,o,none⟩=some (.int .i64 n)
def zcq (w:World) (ok:Nat→Prop) (A:Option Addr) (l:List ByteArray):Prop:=zo (zzj w ok) 1 A l
def zz7 (w:World) (ok:Nat→Prop) (A:Option Addr) (l:List Int):Prop:=zo (z1o w ok) 1 A l
theorem zcq.ext {a w:World} {ok:Nat→Prop} {A:Option Addr} {l:List ByteArray} (h:zcq a ok A l) (e:Ext a w):zcq w ok A l:=zo.mono h (fun _ _ _ _ hx=>⟨hx.1,e.cell hx.2⟩)
theorem zz7.ext {a w:World} {ok:Nat→Prop} {A:Option Addr} {l:List Int} (h:zz7 a ok A l) (e:Ext a w):zz7 w ok A l:=zo.mono h (fun _ _ _ _ hx=>⟨hx.1,e.cell hx.2⟩)
def zrw (w:World) (ok:Nat→Prop) (b o:Nat) (r:List Val):Prop:=ok b∧∃ A c,w.cell? ⟨b,o,none⟩=some (.slice A r.length c)∧r.length≤c∧zk w ok A r
def Rows (w:World) (ok:Nat→Prop) (A:Option Addr) (l:List (List Val)):Prop:=zo (zrw w ok) 1 A l
theorem zrw.keep {w w':World} {ok ok':Nat→Prop} (hk:∀ b o x,ok b→w.cell? ⟨b,o,none⟩=some x→w'.cell? ⟨b,o,none⟩=some x) (ho:∀ b,ok b→ok' b) {b o:Nat} {r:List Val} (h:zrw w ok b o r):zrw w' ok' b o r :=
 let ⟨h0,A,c,h1,h2,h3⟩:=h
 ⟨ho _ h0,A,c,hk _ _ _ h0 h1,h2,h3.keep hk ho⟩
theorem Rows.keep {w w':World} {ok ok':Nat→Prop} {A:Option Addr} {l:List (List Val)} (h:Rows w ok A l) (hk:∀ b o x,ok b→w.cell? ⟨b,o,none⟩=some x→w'.cell? ⟨b,o,none⟩=some x) (ho:∀ b,ok b→ok' b):Rows w' ok' A l :=
 zo.mono h (fun _ _ _ _ hx=>hx.keep hk ho)
theorem Rows.ext {a w:World} {ok:Nat→Prop} {A:Option Addr} {l:List (List Val)} (h:Rows a ok A l) (e:Ext a w):Rows w ok A l:=h.keep (fun _ _ _ _ hc=>e.cell hc) (fun _ h=>h)
theorem zrw.ext {a w:World} {ok:Nat→Prop} {b o:Nat} {r:List Val} (h:zrw a ok b o r) (e:Ext a w):zrw w ok b o r:=h.keep (fun _ _ _ _ hc=>e.cell hc) (fun _ h=>h)
theorem zcz {α:Type} {w:World} {base e size:Nat} {v:Value} {n:Nat} {cs:List (List Value)} {l:List α} {R:Nat→Nat→α→Prop} (h:w.ownsRow base e size v n cs.flatten) (hn:n=l.length) (hl:cs.length=l.length) (hs:∀ x ∈ cs,x.length=size) (hm:l.length≤140737488355328)
  (hR:∀ g,base≤g→v.ownBlock=some g→∀ k (h:k < l.length) (h':k < cs.length),(∀ j u,(cs[k])[j]? = some u→w.cell? ⟨g,k*size+j,none⟩=some u)→R g (k*size) l[k]):∃ A c,v= .slice A l.length c∧l.length≤c∧zo R size A l:=by
 subst hn
 rcases h.2 with ⟨hv,h0⟩|⟨g,cap,cur,hv,hb,hh,hc,_,_,htk⟩
 ·refine ⟨none,0,by rw [hv,h0],by omega,hm,fun hp=>absurd hp Qk⟩
 ·subst hv
  refine ⟨some ⟨g,0,none⟩,cap,rfl,hc,hm,fun _=>⟨g,0,rfl,fun k hk=>?_⟩⟩
  have hk':k < cs.length:=by omega
  rw [Nat.zero_add]
  refine hR g hb rfl k hk hk' (fun j u hu=>?_)
  have hlen:(cs[k]).length=size:=hs _ (List.getElem_mem hk')
  have hj:j < size:=by rw [←hlen];exact (List.getElem?_eq_some_iff.1 hu).1
  have hfl:∀ (cs:List (List Value)),(∀ x ∈ cs,x.length=size)→∀ k (hk:k < cs.length),cs.flatten[k*size+j]? = (cs[k])[j]? := by
   intro cs
   induction cs with
   | nil=>intro _ k hk;exact absurd hk (by simp)
   | cons x cs ih =>
    intro hs k hk
    have hx:x.length=size:=hs x (by simp)
    cases k with
    | zero=>simp only [List.flatten_cons,List.getElem_cons_zero,Nat.zero_mul,Nat.zero_add];rw [List.getElem?_append_left Qk]
    | succ k =>
     simp only [List.flatten_cons,List.getElem_cons_succ]
     rw [List.getElem?_append_right (by rw [hx,Nat.add_mul];omega),hx,show (k+1)*size+j - size=k*size+j by rw [Nat.add_mul];omega]
     exact ih (fun y hy=>hs y (List.mem_cons_of_mem _ hy)) k (by simpa using hk)
  have h1:=hfl cs hs k hk'
  rw [hu] at h1
  rw [cell_of_row w g _ cur e (0,0) hh]
  rw [←htk,List.getElem?_take] at h1
  split at h1
  ·simpa using h1
  ·cases h1
theorem zjs (n:Int) (w:World) :
  Calls Tryz.prog 159 #[.int .i64 n] w fun e w'=>e= .returned (.bool (inB n))∧w=w':=by
 go_enter Tryz.func159,Tryz.ntmps159
 go_wp2
 all_goals go_ret
 all_goals (unfold inB;simp [*];try omega)
theorem z0n (n:Int) (w:World) :
  Calls Tryz.prog 164 #[.int .i64 n] w fun e w'=>e= .returned (.bool (inB n))∧w=w':=by
 go_enter Tryz.func164,Tryz.ntmps164
 go_wp2
 all_goals go_ret
 all_goals (unfold inB;simp [*];try omega)
def zpp (a b:Int):Bool:=inB a && inB b
end Go.Proofs.YtfhekbacigoblaaGreatDoor
