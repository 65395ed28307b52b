import Derived.Sort.Walk0
import Derived.Lib.Small
import Derived.Lib.ItoaNum
import Derived.Lib.AtoiAll
import Derived.Test.YtfhekbacigoblaaGreatDoorV00
import Derived.Test.YtfhekbacigoblaaGreatDoorProg
import Derived.WalkKit
import Derived.WalkSpells
import Derived.WalkLawsBesides
import Derived.Lib.Hide
namespace Go.Proofs.YtfhekbacigoblaaGreatDoor
structure TotC {α:Type} (c:α→α→Int):Prop where
 rng:∀ x y,c x y = -1∨c x y=0∨c x y=1
 zero:∀ x y,c x y=0 ↔ x=y
 anti:∀ x y,c y x = - c x y
 trans:∀ x y z,c x y≤0→c y z≤0→c x z≤0
def thenC (x y:Int):Int:=if x=0 then y else x
theorem thenC_zero (y:Int):thenC 0 y=y:=rfl
theorem thenC_ne {x:Int} (h:x ≠ 0) (y:Int):thenC x y=x:=if_neg h
theorem thenC_rng {x y:Int} (hx:x = -1∨x=0∨x=1) (hy:y = -1∨y=0∨y=1):thenC x y = -1∨thenC x y=0∨thenC x y=1:=by
 unfold thenC;split <;> assumption
theorem thenC_eq0 {x y:Int}:thenC x y=0 ↔ x=0∧y=0:=by
 unfold thenC;split
 ·rename_i h;exact ⟨fun h2=>⟨h,h2⟩,fun h2=>h2.2⟩
 ·rename_i h;exact ⟨fun h2=>absurd h2 h,fun h2=>h2.1⟩
theorem thenC_neg (x y:Int):thenC (-x) (-y) = -thenC x y:=by
 unfold thenC;split <;> split <;> omega
theorem thenC_trans {α:Type} {c:α→α→Int} (hz:∀ x y,c x y=0 ↔ x=y) (ha:∀ x y,c y x = - c x y) {x y z:α} (ht:c x y≤0→c y z≤0→c x z≤0) {p q r:Int} (hp:p≤0→q≤0→r≤0) :
  thenC (c x y) p≤0→thenC (c y z) q≤0→thenC (c x z) r≤0:=by
 intro h1 h2
 by_cases e1:c x y=0
 ·have:=(hz _ _).1 e1;subst this
  rw [e1,thenC_zero] at h1
  by_cases e2:c x z=0
  ·rw [e2,thenC_zero] at h2 ⊢;exact hp h1 h2
  ·rw [thenC_ne e2] at h2 ⊢;exact h2
 ·rw [thenC_ne e1] at h1
  by_cases e2:c y z=0
  ·have:=(hz _ _).1 e2;subst this
   rw [thenC_ne e1];exact h1
  ·rw [thenC_ne e2] at h2
   have h3:=ht h1 h2
   by_cases e3:c x z=0
   ·have:=(hz _ _).1 e3;subst this
    have:=ha x y
    omega
   ·rw [thenC_ne e3];exact h3
theorem TotC.int:TotC Lib.compareInt:=by
 constructor <;> intros <;> unfold Lib.compareInt at * <;> (repeat' split at *) <;> omega
def cmpT (a b:ByteArray):Int:=if Op.bytesLess a.toList b.toList=true then -1 else if (a.toList == b.toList)=true then 0 else 1
theorem less_irrefl (a:List UInt8):Op.bytesLess a a=false:=by
 induction a with
 | nil=>rfl
 | cons x r ih=>simp [Op.bytesLess,ih]
theorem less_trans:∀ (a b c:List UInt8),Op.bytesLess a b=true→Op.bytesLess b c=true→Op.bytesLess a c=true
 | _,[],_,h,_=>by simp [Op.bytesLess] at h
 | _,_ :: _,[],_,h=>by simp [Op.bytesLess] at h
 | [],_ :: _,_ :: _,_,_=>rfl
 | x :: a,y :: b,z :: c,h1,h2=>by
  simp only [Op.bytesLess,Bool.or_eq_true,Bool.and_eq_true,decide_eq_true_iff,beq_iff_eq] at h1 h2 ⊢
  rcases h1 with h1|⟨h1,h1'⟩ <;> rcases h2 with h2|⟨h2,h2'⟩
  ·exact .inl (UInt8.lt_trans h1 h2)
  ·exact .inl (h2 ▸ h1)
  ·exact .inl (h1 ▸ h2)
  ·exact .inr ⟨h1.trans h2,less_trans a b c h1' h2'⟩
theorem less_tri:∀ (a b:List UInt8),Op.bytesLess a b=true∨a=b∨Op.bytesLess b a=true
 | [],[] => .inr (.inl rfl)
 | [],_ :: _ => .inl rfl
 | _ :: _,[] => .inr (.inr rfl)
 | x :: a,y :: b=>by
  simp only [Op.bytesLess,Bool.or_eq_true,Bool.and_eq_true,decide_eq_true_iff,beq_iff_eq,List.cons.injEq]
  by_cases h:x=y
  ·subst h
   rcases less_tri a b with h|h|h
   ·exact .inl (.inr ⟨rfl,h⟩)
   ·exact .inr (.inl ⟨rfl,h⟩)
   ·exact .inr (.inr (.inr ⟨rfl,h⟩))
  ·have hn:x.toNat ≠ y.toNat:=fun e=>h (UInt8.toNat_inj.1 e)
   rcases Nat.lt_or_gt_of_ne hn with h|h
   ·exact .inl (.inl (UInt8.lt_iff_toNat_lt.2 h))
   ·exact .inr (.inr (.inl (UInt8.lt_iff_toNat_lt.2 h)))
theorem less_asymm {a b:List UInt8} (h:Op.bytesLess a b=true):Op.bytesLess b a=false:=by
 cases h2:Op.bytesLess b a
 ·rfl
 ·have:=less_trans _ _ _ h h2;rw [less_irrefl] at this;cases this
theorem bytes_eq {a b:ByteArray} (h:a.toList=b.toList):a=b:=by
 rw [ByteArray.toList_eq,ByteArray.toList_eq] at h
 exact ByteArray.ext (Array.toList_inj.1 h)
theorem cmpT_lt {a b:ByteArray} (h:Op.bytesLess a.toList b.toList=true):cmpT a b = -1:=by unfold cmpT;rw [if_pos h]
theorem cmpT_eq (a:ByteArray):cmpT a a=0:=by unfold cmpT;rw [less_irrefl];simp
theorem cmpT_gt {a b:ByteArray} (h:Op.bytesLess b.toList a.toList=true):cmpT a b=1:=by
 unfold cmpT;rw [less_asymm h,if_neg (by simp),if_neg]
 intro e;rw [beq_iff_eq] at e;rw [e,less_irrefl] at h;cases h
theorem cmpT_tri (a b:ByteArray):(Op.bytesLess a.toList b.toList=true∧cmpT a b = -1∧cmpT b a=1)∨(a=b∧cmpT a b=0)∨(Op.bytesLess b.toList a.toList=true∧cmpT a b=1∧cmpT b a = -1):=by
 rcases less_tri a.toList b.toList with h|h|h
 ·exact .inl ⟨h,cmpT_lt h,cmpT_gt h⟩
 ·have:=bytes_eq h;subst this;exact .inr (.inl ⟨rfl,cmpT_eq _⟩)
 ·exact .inr (.inr ⟨h,cmpT_gt h,cmpT_lt h⟩)
theorem TotC.str:TotC cmpT:=by
 constructor
 ·intro x y;rcases cmpT_tri x y with ⟨_,h,_⟩|⟨_,h⟩|⟨_,h,_⟩ <;> omega
 ·intro x y;rcases cmpT_tri x y with ⟨h0,h,_⟩|⟨h0,h⟩|⟨h0,h,_⟩
  ·exact ⟨fun e=>by omega,fun e=>by subst e;rw [less_irrefl] at h0;cases h0⟩
  ·exact ⟨fun _=>h0,fun _=>h⟩
  ·exact ⟨fun e=>by omega,fun e=>by subst e;rw [less_irrefl] at h0;cases h0⟩
 ·intro x y;rcases cmpT_tri x y with ⟨_,h,h'⟩|⟨h0,h⟩|⟨_,h,h'⟩
  ·omega
  ·subst h0;omega
  ·omega
 ·intro x y z a b
  rcases cmpT_tri x y with ⟨h0,h,_⟩|⟨h0,h⟩|⟨h0,h,_⟩
  ·rcases cmpT_tri y z with ⟨g0,g,_⟩|⟨g0,g⟩|⟨g0,g,_⟩
   ·rw [cmpT_lt (less_trans _ _ _ h0 g0)];omega
   ·subst g0;omega
   ·omega
  ·subst h0;exact b
  ·omega
theorem TotC.refl {α:Type} {c:α→α→Int} (h:TotC c) (x:α):c x x=0:=(h.zero _ _).2 rfl
theorem TotC.total {α:Type} {c:α→α→Int} (h:TotC c) (x y:α):c x y≤0∨c y x≤0:=by
 have:=h.anti x y;rcases h.rng x y with e|e|e <;> omega
def inB (n:Int):Bool:=decide (-1000000000000000≤n) && decide (n≤1000000000000000)
theorem inB_true {n:Int}:inB n=true ↔ -1000000000000000≤n∧n≤1000000000000000:=by
 unfold inB;rw [Bool.and_eq_true,decide_eq_true_iff,decide_eq_true_iff]
theorem inB_false {n:Int}:inB n=false ↔ n < -1000000000000000∨1000000000000000 < n:=by
 rw [←Bool.not_eq_true,inB_true];omega
theorem inB_cases (n:Int):(inB n=true ∧ -1000000000000000≤n∧n≤1000000000000000)∨(inB n=false∧(n < -1000000000000000∨1000000000000000 < n)):=by
 cases h:inB n
 ·right;exact ⟨rfl,inB_false.1 h⟩
 ·left;exact ⟨rfl,inB_true.1 h⟩
theorem decDigits_rec (u:Nat):Lib.decDigits u=if u < 10 then [UInt8.ofNat (48+u)] else Lib.decDigits (u / 10) ++ [UInt8.ofNat (48+u % 10)]:=by
 rw [Lib.decDigits]
 by_cases h:u < 10
 ·rw [dif_pos h,if_pos h]
 ·rw [dif_neg h,if_neg h]
theorem decDigits_length (k u:Nat) (h:u < 10 ^ (k+1)):(Lib.decDigits u).length≤k+1:=by
 induction k generalizing u with
 | zero=>rw [decDigits_rec,if_pos (by omega)];simp
 | succ k ih =>
  rw [decDigits_rec]
  by_cases g:u < 10
  ·rw [if_pos g];simp
  ·rw [if_neg g,List.length_append]
   have:=ih (u / 10) (by rw [Nat.pow_succ] at h;omega)
   simp;omega
theorem itoa_length {n:Int} (h:inB n=true):(Lib.itoa n).length≤17:=by
 have ⟨h1,h2⟩:=inB_true.1 h
 unfold Lib.itoa
 split
 ·have:=decDigits_length 15 n.natAbs (by omega)
  simp;omega
 ·have:=decDigits_length 15 n.toNat (by omega)
  omega
def cgcd (a b:Int):Int:=(Nat.gcd a.natAbs b.natAbs:Int)
def validB (n d:Int):Bool:=decide (1≤d) && decide (d≤1000000000000000) && inB n && (cgcd n d == 1)
theorem validB_iff {n d:Int}:validB n d=true ↔ 1≤d∧d≤1000000000000000∧(-1000000000000000≤n∧n≤1000000000000000)∧cgcd n d=1:=by
 unfold validB
 rw [Bool.and_eq_true,Bool.and_eq_true,Bool.and_eq_true,decide_eq_true_iff,decide_eq_true_iff,inB_true,beq_iff_eq]
 constructor
 ·rintro ⟨⟨⟨a,b⟩,c⟩,d⟩;exact ⟨a,b,c,d⟩
 ·rintro ⟨a,b,c,d⟩;exact ⟨⟨⟨a,b⟩,c⟩,d⟩
def Low (n d:Int):Prop:=1≤d∧cgcd n d=1
theorem low_unique {n d n' d':Int} (h:Low n d) (h':Low n' d') (e:n*d'=n'*d):n=n'∧d=d':=by
 obtain ⟨h1,h2⟩:=h
 obtain ⟨g1,g2⟩:=h'
 have c1:Nat.Coprime n.natAbs d.natAbs:=by unfold cgcd at h2;unfold Nat.Coprime;omega
 have c2:Nat.Coprime n'.natAbs d'.natAbs:=by unfold cgcd at g2;unfold Nat.Coprime;omega
 have e':n.natAbs*d'.natAbs=n'.natAbs*d.natAbs:=by rw [←Int.natAbs_mul,←Int.natAbs_mul,e]
 have d1:d.natAbs ∣ d'.natAbs:=c1.symm.dvd_of_dvd_mul_left ⟨n'.natAbs,by rw [e',Nat.mul_comm]⟩
 have d2:d'.natAbs ∣ d.natAbs:=c2.symm.dvd_of_dvd_mul_left ⟨n.natAbs,by rw [←e',Nat.mul_comm]⟩
 have ed:d.natAbs=d'.natAbs:=Nat.dvd_antisymm d1 d2
 have ed':d=d':=by omega
 subst ed'
 exact ⟨Int.eq_of_mul_eq_mul_right (by omega) e,rfl⟩
theorem cgcd_pos {N D:Int} (hD:1≤D):1≤cgcd N D:=by
 unfold cgcd
 have:0 < Nat.gcd N.natAbs D.natAbs:=Nat.gcd_pos_of_pos_right _ (by omega)
 omega
theorem cgcd_left (N D:Int):cgcd N D ∣ N:=Int.ofNat_dvd_left.2 (Nat.gcd_dvd_left _ _)
theorem cgcd_right (N D:Int):cgcd N D ∣ D:=Int.ofNat_dvd_left.2 (Nat.gcd_dvd_right _ _)
theorem cgcd_le {N D:Int} (hD:1≤D):cgcd N D≤D:=Int.le_of_dvd (by omega) (cgcd_right N D)
theorem natAbs_div {a b:Int} (h:b ∣ a):(a / b).natAbs=a.natAbs / b.natAbs:=by
 obtain ⟨c,rfl⟩:=h
 by_cases hb:b=0
 ·subst hb;simp
 ·rw [Int.mul_ediv_cancel_left _ hb,Int.natAbs_mul,Nat.mul_div_cancel_left _ (by omega)]
theorem low_red {N D:Int} (hD:1≤D):Low (N / cgcd N D) (D / cgcd N D):=by
 have hp:=cgcd_pos (N:=N) hD
 refine ⟨?_,?_⟩
 ·exact Int.le_ediv_of_mul_le (by omega) (by have:=cgcd_le (N:=N) hD;omega)
 ·have e:cgcd (N / cgcd N D) (D / cgcd N D)=(Nat.gcd (N.natAbs / (cgcd N D).natAbs) (D.natAbs / (cgcd N D).natAbs):Nat):=by
   show ((Nat.gcd (N / cgcd N D).natAbs (D / cgcd N D).natAbs:Nat):Int)=_
   rw [natAbs_div (cgcd_left N D),natAbs_div (cgcd_right N D)]
  rw [e]
  have e2:(cgcd N D).natAbs=Nat.gcd N.natAbs D.natAbs:=by unfold cgcd;rfl
  rw [e2]
  have:=Nat.coprime_div_gcd_div_gcd (m:=N.natAbs) (n:=D.natAbs) (Nat.gcd_pos_of_pos_right _ (by omega))
  unfold Nat.Coprime at this
  rw [this];rfl
theorem red_cross (N D:Int):(N / cgcd N D)*D=N*(D / cgcd N D):=by
 have e1:=Int.ediv_mul_cancel (cgcd_left N D)
 have e2:=Int.ediv_mul_cancel (cgcd_right N D)
 generalize cgcd N D=g at *
 grind
def redS (N D:Int):Int × Int × Bool:=if inB (N / cgcd N D) && inB (D / cgcd N D) then (N / cgcd N D,D / cgcd N D,true) else (0,0,false)
def cutS (n d:Int):Int × Int × Bool:=if inB n && inB d then (n,d,true) else (0,0,false)
theorem redS_of_low {N D n d:Int} (hD:1≤D) (h:Low n d) (e:n*D=N*d):redS N D=cutS n d:=by
 have hl:=low_red (N:=N) hD
 have hc:=red_cross N D
 have:N / cgcd N D=n∧D / cgcd N D=d:=by
  refine low_unique hl h ?_
  have:((N / cgcd N D)*d)*D=(n*(D / cgcd N D))*D:=by
   generalize N / cgcd N D=x at *
   generalize D / cgcd N D=y at *
   grind
  exact Int.eq_of_mul_eq_mul_right (by omega) this
 unfold redS cutS
 rw [this.1,this.2]
theorem redS_congr {N D N' D':Int} (hD:1≤D) (hD':1≤D') (e:N*D'=N'*D):redS N D=redS N' D':=by
 have hl:=low_red (N:=N') hD'
 have hc:=red_cross N' D'
 rw [redS_of_low hD hl]
 ·rfl
 ·have:((N' / cgcd N' D')*D)*D'=(N*(D' / cgcd N' D'))*D':=by
   generalize N' / cgcd N' D'=x at *
   generalize D' / cgcd N' D'=y at *
   grind
  exact Int.eq_of_mul_eq_mul_right (by omega) this
theorem redS_ok {N D n d:Int} (hD:1≤D) (h:redS N D=(n,d,true)):validB n d=true∧n*D=N*d:=by
 unfold redS at h
 split at h
 ·rename_i hr
  rw [Bool.and_eq_true,inB_true,inB_true] at hr
  obtain ⟨rfl,h2⟩:=Prod.mk.inj h
  obtain ⟨rfl,-⟩:=Prod.mk.inj h2
  have hl:=low_red (N:=N) hD
  exact ⟨validB_iff.2 ⟨hl.1,hr.2.2,hr.1,hl.2⟩,red_cross N D⟩
 ·cases h
def addS (an ad bn bd:Int):Int × Int × Bool :=
 if validB an ad && validB bn bd then redS (an*bd+bn*ad) (ad*bd) else (0,0,false)
theorem addS_valid {an ad bn bd:Int} (ha:validB an ad=true) (hb:validB bn bd=true):addS an ad bn bd=redS (an*bd+bn*ad) (ad*bd):=by
 unfold addS;rw [ha,hb];rfl
theorem low_of_valid {n d:Int} (h:validB n d=true):Low n d:=⟨(validB_iff.1 h).1,(validB_iff.1 h).2.2.2⟩
theorem pos_mul {a b:Int} (ha:1≤a) (hb:1≤b):1≤a*b:=by
 have:=Int.mul_pos (show 0 < a by omega) (show 0 < b by omega);omega
inductive Val where
 | mk (kind n d:Int) (s:ByteArray) (l:List Val):Val
instance:Inhabited Val:=⟨.mk 0 0 0 ByteArray.empty []⟩
def Val.kind:Val→Int | .mk k _ _ _ _=>k
def Val.n:Val→Int | .mk _ n _ _ _=>n
def Val.d:Val→Int | .mk _ _ d _ _=>d
def Val.s:Val→ByteArray | .mk _ _ _ s _=>s
def Val.l:Val→List Val | .mk _ _ _ _ l=>l
theorem Val.ext' {a b:Val} (h1:a.kind=b.kind) (h2:a.n=b.n) (h3:a.d=b.d) (h4:a.s=b.s) (h5:a.l=b.l):a=b:=by
 cases a;cases b
 simp only [Val.kind,Val.n,Val.d,Val.s,Val.l] at *
 rw [h1,h2,h3,h4,h5]
def strOk (s:ByteArray):Bool:=decide (s.size≤100) && s.data.toList.all (fun c=>decide (32≤c.toNat) && decide (c.toNat≤126))
def leafB (v:Val):Bool :=
 if v.kind=0 then decide (v.n=0) && decide (v.d=0) && decide (v.s.size=0) && decide (v.l.length=0)
 else if v.kind=1 then (decide (v.n=0) || decide (v.n=1)) && decide (v.d=0) && decide (v.s.size=0) && decide (v.l.length=0)
 else if v.kind=2 then inB v.n && decide (v.d=0) && decide (v.s.size=0) && decide (v.l.length=0)
 else if v.kind=3 then decide (2≤v.d) && validB v.n v.d && decide (v.s.size=0) && decide (v.l.length=0)
 else if v.kind=4 then decide (v.n=0) && decide (v.d=0) && strOk v.s && decide (v.l.length=0)
 else if v.kind=5∨v.kind=6 then decide (1≤v.n) && decide (v.n≤1000000) && decide (v.d=0) && decide (v.s.size=0) && decide (v.l.length=0)
 else false
def stepK (i:Nat):Int:=if i % 2=0 then 5 else 6
def pathB (l:List Val):Bool:=decide (l.length % 2=1) && decide (l.length≤25) && (List.range l.length).all (fun i=>decide (l[i]!.kind=stepK i) && leafB l[i]!)
def bareL (v:Val):Bool:=decide (v.n=0) && decide (v.d=0) && decide (v.s.size=0)
def validN:Nat→Val→Bool
 | 0,v=>if v.kind=7 then bareL v && pathB v.l else if v.kind=8 then false else leafB v
 | k+1,v=>if v.kind=7 then bareL v && pathB v.l else if v.kind=8 then bareL v && decide (v.l.length≤64) && v.l.all (validN k) else leafB v
theorem validN_leaf {n:Nat} {v:Val} (h7:v.kind ≠ 7) (h8:v.kind ≠ 8):validN n v=leafB v:=by
 cases n <;> unfold validN <;> rw [if_neg h7,if_neg h8]
theorem validN_path {n:Nat} {v:Val} (h7:v.kind=7):validN n v=(bareL v && pathB v.l):=by
 cases n <;> unfold validN <;> rw [if_pos h7]
theorem validN_list0 {v:Val} (h8:v.kind=8):validN 0 v=false:=by unfold validN;rw [if_neg (by omega),if_pos h8]
theorem validN_list {n:Nat} {v:Val} (h8:v.kind=8):validN (n+1) v=(bareL v && decide (v.l.length≤64) && v.l.all (validN n)):=by
 rw [validN,if_neg (by omega),if_pos h8]
theorem leafB_kind {v:Val} (h:leafB v=true):v.kind ≠ 7∧v.kind ≠ 8∧0≤v.kind∧v.kind≤6:=by
 unfold leafB at h
 repeat' split at h
 all_goals first|(cases h;done)|omega
theorem validN_of_leaf {n:Nat} {v:Val} (h:leafB v=true):validN n v=true:=by
 have:=leafB_kind h;rw [validN_leaf this.1 this.2.1];exact h
theorem validN_mono:∀ {n m:Nat} {v:Val},n≤m→validN n v=true→validN m v=true
 | n,m,v,hnm,h=>by
  by_cases h7:v.kind=7
  ·rw [validN_path h7] at h ⊢;exact h
  ·by_cases h8:v.kind=8
   ·cases n with
    | zero=>rw [validN_list0 h8] at h;cases h
    | succ n =>
     obtain ⟨m,rfl⟩:∃ k,m=k+1:=⟨m - 1,by omega⟩
     rw [validN_list h8] at h ⊢
     simp only [Bool.and_eq_true,List.all_eq_true] at h ⊢
     exact ⟨h.1,fun x hx=>validN_mono (by omega) (h.2 x hx)⟩
   ·rw [validN_leaf h7 h8] at h ⊢;exact h
theorem getV {l:List Val} {i:Nat} (h:i < l.length):l[i]! = l[i]:=by rw [getElem!_pos l i h]
theorem pathB_mem {l:List Val} (h:pathB l=true) {x:Val} (hx:x ∈ l):leafB x=true:=by
 unfold pathB at h
 simp only [Bool.and_eq_true,List.all_eq_true,List.mem_range] at h
 obtain ⟨i,hi,rfl⟩:=List.getElem_of_mem hx
 have:=(h.2 i hi).2
 rwa [getV hi] at this
theorem validN_mem {n:Nat} {v:Val} (h:validN n v=true) {x:Val} (hx:x ∈ v.l):validN n x=true:=by
 by_cases h7:v.kind=7
 ·rw [validN_path h7] at h
  simp only [Bool.and_eq_true] at h
  exact validN_of_leaf (pathB_mem h.2 hx)
 ·by_cases h8:v.kind=8
  ·cases n with
   | zero=>rw [validN_list0 h8] at h;cases h
   | succ n =>
    rw [validN_list h8] at h
    simp only [Bool.and_eq_true,List.all_eq_true] at h
    exact validN_mono (by omega) (h.2 x hx)
  ·rw [validN_leaf h7 h8] at h
   have h0:v.l.length=0:=by
    unfold leafB at h
    repeat' split at h
    all_goals first|(cases h;done)|(simp only [Bool.and_eq_true,decide_eq_true_iff] at h;omega)
   rw [List.eq_nil_of_length_eq_zero h0] at hx
   cases hx
def validV (v:Val):Bool:=validN 8 v
theorem validV_mem {v:Val} (h:validV v=true) {x:Val} (hx:x ∈ v.l):validV x=true:=validN_mem h hx
structure VFacts (v:Val):Prop where
 num:v.kind=2∨v.kind=3→v.s.size=0∧v.l.length=0∧validB v.n (if v.kind=3 then v.d else 1)=true∧(v.kind=2→v.d=0)∧(v.kind=3→2≤v.d)
 oth:v.kind ≠ 2→v.kind ≠ 3→v.d=0∧(v.kind=4→v.n=0)∧(v.kind ≠ 4→v.s.size=0)
 rng:0≤v.kind∧v.kind≤8
theorem validB_one {n:Int} (h:inB n=true):validB n 1=true:=by
 refine validB_iff.2 ⟨by omega,by omega,inB_true.1 h,?_⟩
 unfold cgcd;rw [show (1:Int).natAbs=1 from rfl,Nat.gcd_one_right];rfl
theorem validV_facts {v:Val} (h:validV v=true):VFacts v:=by
 unfold validV at h
 by_cases h7:v.kind=7
 ·rw [validN_path h7] at h
  simp only [bareL,Bool.and_eq_true,decide_eq_true_iff] at h
  exact ⟨fun e=>by omega,fun _ _=>⟨h.1.1.2,fun e=>by omega,fun _=>h.1.2⟩,by omega⟩
 ·by_cases h8:v.kind=8
  ·rw [validN_list h8] at h
   simp only [bareL,Bool.and_eq_true,decide_eq_true_iff] at h
   exact ⟨fun e=>by omega,fun _ _=>⟨h.1.1.1.2,fun e=>by omega,fun _=>h.1.1.2⟩,by omega⟩
  ·rw [validN_leaf h7 h8] at h
   have hr:=leafB_kind h
   unfold leafB at h
   split at h
   ·simp only [Bool.and_eq_true,decide_eq_true_iff] at h
    exact ⟨fun e=>by omega,fun _ _=>⟨h.1.1.2,fun e=>by omega,fun _=>h.1.2⟩,by omega⟩
   ·split at h
    ·simp only [Bool.and_eq_true,decide_eq_true_iff] at h
     exact ⟨fun e=>by omega,fun _ _=>⟨h.1.1.2,fun e=>by omega,fun _=>h.1.2⟩,by omega⟩
    ·split at h
     ·rename_i h2
      simp only [Bool.and_eq_true,decide_eq_true_iff] at h
      refine ⟨fun e=>⟨h.1.2,h.2,?_,fun _=>h.1.1.2,fun e=>by omega⟩,fun e=>absurd h2 e,by omega⟩
      rw [if_neg (by omega)];exact validB_one h.1.1.1
     ·split at h
      ·rename_i h3
       simp only [Bool.and_eq_true,decide_eq_true_iff] at h
       refine ⟨fun e=>⟨h.1.2,h.2,?_,fun e=>by omega,fun _=>h.1.1.1⟩,fun _ e=>absurd h3 e,by omega⟩
       rw [if_pos h3];exact h.1.1.2
      ·split at h
       ·simp only [Bool.and_eq_true,decide_eq_true_iff] at h
        exact ⟨fun e=>by omega,fun _ _=>⟨h.1.1.2,fun _=>h.1.1.1,fun e=>by omega⟩,by omega⟩
       ·split at h
        ·simp only [Bool.and_eq_true,decide_eq_true_iff] at h
         exact ⟨fun e=>by omega,fun _ _=>⟨h.1.1.2,fun e=>by omega,fun _=>h.1.2⟩,by omega⟩
        ·cases h
def cls (k:Int):Int:=if k=3 then 2 else if k=7 then 9 else k
def dnV (k d:Int):Int:=if k=3 then d else 1
def cmpQ (n d n' d':Int):Int:=Lib.compareInt (n*d') (n'*d)
mutual
def ordV:Val→Val→Int
 | .mk k n d s l, .mk k' n' d' s' l' =>
  if validV (.mk k n d s l)=true then
   if validV (.mk k' n' d' s' l')=true then
    thenC (Lib.compareInt (cls k) (cls k')) (if cls k=2 then cmpQ n (dnV k d) n' (dnV k' d') else thenC (cmpT s s') (thenC (Lib.compareInt n n') (ordL l l')))
   else -1
  else if validV (.mk k' n' d' s' l')=true then 1
  else thenC (Lib.compareInt k k') (thenC (Lib.compareInt n n') (thenC (Lib.compareInt d d') (thenC (cmpT s s') (ordL l l'))))
def ordL:List Val→List Val→Int
 | [],[]=>0
 | [],_ :: _ => -1
 | _ :: _,[]=>1
 | x :: xs,y :: ys=>thenC (ordV x y) (ordL xs ys)
end
def ordU (a b:Val):Int:=thenC (Lib.compareInt (cls a.kind) (cls b.kind)) (if cls a.kind=2 then cmpQ a.n (dnV a.kind a.d) b.n (dnV b.kind b.d) else thenC (cmpT a.s b.s) (thenC (Lib.compareInt a.n b.n) (ordL a.l b.l)))
def ordI (a b:Val):Int:=thenC (Lib.compareInt a.kind b.kind) (thenC (Lib.compareInt a.n b.n) (thenC (Lib.compareInt a.d b.d) (thenC (cmpT a.s b.s) (ordL a.l b.l))))
theorem ordV_eq (a b:Val):ordV a b=if validV a=true then (if validV b=true then ordU a b else -1) else if validV b=true then 1 else ordI a b:=by
 cases a;cases b;rw [ordV];rfl
theorem cmpQ_rng (n d n' d':Int):cmpQ n d n' d' = -1∨cmpQ n d n' d'=0∨cmpQ n d n' d'=1:=TotC.int.rng _ _
theorem cmpQ_anti (n d n' d':Int):cmpQ n' d' n d = - cmpQ n d n' d':=TotC.int.anti _ _
theorem cmpI_le {x y:Int}:Lib.compareInt x y≤0 ↔ x≤y:=by
 unfold Lib.compareInt
 repeat' split
 all_goals omega
theorem cmpQ_trans {n d n' d' n2 d2:Int} (h:1≤d) (h':1≤d') (h2:1≤d2) (a:cmpQ n d n' d'≤0) (b:cmpQ n' d' n2 d2≤0):cmpQ n d n2 d2≤0:=by
 unfold cmpQ at *
 rw [cmpI_le] at *
 have e1:n*d'*d2≤n'*d*d2:=Int.mul_le_mul_of_nonneg_right a (by omega)
 have e2:n'*d2*d≤n2*d'*d:=Int.mul_le_mul_of_nonneg_right b (by omega)
 have e3:n*d2*d'≤n2*d*d':=by
  have f1:n*d'*d2=n*d2*d':=by rw [Int.mul_assoc,Int.mul_comm d',←Int.mul_assoc]
  have f2:n'*d*d2=n'*d2*d:=by rw [Int.mul_assoc,Int.mul_comm d,←Int.mul_assoc]
  have f3:n2*d'*d=n2*d*d':=by rw [Int.mul_assoc,Int.mul_comm d',←Int.mul_assoc]
  omega
 exact Int.le_of_mul_le_mul_right e3 (by omega)
theorem cmpQ_zero {n d n' d':Int} (h:validB n d=true) (h':validB n' d'=true):cmpQ n d n' d'=0 ↔ n=n'∧d=d':=by
 unfold cmpQ
 rw [TotC.int.zero]
 exact ⟨fun e=>low_unique (low_of_valid h) (low_of_valid h') e,fun e=>by rw [e.1,e.2]⟩
theorem cls_inj {k k':Int} (h:0≤k∧k≤8) (h':0≤k'∧k'≤8) (e:cls k=cls k') (h2:cls k ≠ 2):k=k':=by
 unfold cls at *
 repeat' split at *
 all_goals omega
theorem cls_two {k:Int}:cls k=2 ↔ k=2∨k=3:=by
 unfold cls
 repeat' split
 all_goals omega
theorem size_nil {s:ByteArray} (h:s.size=0):s=ByteArray.empty:=by
 have:s.data=#[]:=Array.eq_empty_of_size_eq_zero h
 exact ByteArray.ext this
theorem dnV_num {v:Val} (h:VFacts v) (hk:cls v.kind=2):validB v.n (dnV v.kind v.d)=true:=(h.num (cls_two.1 hk)).2.2.1
mutual
theorem ordV_rng:∀ a b:Val,ordV a b = -1∨ordV a b=0∨ordV a b=1
 | .mk k n d s l,b=>by
  rw [ordV_eq]
  have hl:=ordL_rng l b.l
  repeat' split
  all_goals first|(simp;done)|skip
  ·unfold ordU
   refine thenC_rng (TotC.int.rng _ _) ?_
   split
   ·exact cmpQ_rng _ _ _ _
   ·exact thenC_rng (TotC.str.rng _ _) (thenC_rng (TotC.int.rng _ _) hl)
  ·unfold ordI
   exact thenC_rng (TotC.int.rng _ _) (thenC_rng (TotC.int.rng _ _) (thenC_rng (TotC.int.rng _ _) (thenC_rng (TotC.str.rng _ _) hl)))
theorem ordL_rng:∀ a b:List Val,ordL a b = -1∨ordL a b=0∨ordL a b=1
 | [],[]=>by rw [ordL];simp
 | [],_ :: _=>by rw [ordL];simp
 | _ :: _,[]=>by rw [ordL];simp
 | x :: xs,y :: ys=>by rw [ordL];exact thenC_rng (ordV_rng x y) (ordL_rng xs ys)
end
mutual
theorem ordV_zero:∀ a b:Val,ordV a b=0 ↔ a=b
 | .mk k n d s l,b=>by
  rw [ordV_eq]
  have hl:=ordL_zero l b.l
  generalize ha:Val.mk k n d s l=a
  have hak:a.kind=k:=by rw [←ha];rfl
  have han:a.n=n:=by rw [←ha];rfl
  have had:a.d=d:=by rw [←ha];rfl
  have has:a.s=s:=by rw [←ha];rfl
  have hal:a.l=l:=by rw [←ha];rfl
  rw [←hal] at hl
  by_cases h1:validV a=true
  ·by_cases h2:validV b=true
   ·rw [if_pos h1,if_pos h2]
    have f1:=validV_facts h1
    have f2:=validV_facts h2
    unfold ordU
    rw [thenC_eq0,TotC.int.zero]
    constructor
    ·rintro ⟨e,e2⟩
     by_cases hc:cls a.kind=2
     ·rw [if_pos hc] at e2
      obtain ⟨q1,q2⟩:=(cmpQ_zero (dnV_num f1 hc) (dnV_num f2 (e ▸ hc))).1 e2
      have g1:=f1.num (cls_two.1 hc)
      have g2:=f2.num (cls_two.1 (e ▸ hc))
      have hk:a.kind=b.kind∧a.d=b.d:=by
       unfold dnV at q2
       rcases cls_two.1 hc with k1|k1 <;> rcases cls_two.1 (e ▸ hc:cls b.kind=2) with k2|k2 <;> rw [k1,k2] at q2 <;> simp at q2
       ·exact ⟨by omega,by rw [g1.2.2.2.1 k1,g2.2.2.2.1 k2]⟩
       ·have:=g2.2.2.2.2 k2;omega
       ·have:=g1.2.2.2.2 k1;omega
       ·exact ⟨by omega,q2⟩
      exact Val.ext' hk.1 q1 hk.2 (by rw [size_nil g1.1,size_nil g2.1]) (by rw [List.eq_nil_of_length_eq_zero g1.2.1,List.eq_nil_of_length_eq_zero g2.2.1])
     ·rw [if_neg hc] at e2
      have hk:=cls_inj f1.rng f2.rng e hc
      rw [thenC_eq0,thenC_eq0,TotC.str.zero,TotC.int.zero,hl] at e2
      have k2:a.kind ≠ 2:=fun h=>hc (cls_two.2 (.inl h))
      have k3:a.kind ≠ 3:=fun h=>hc (cls_two.2 (.inr h))
      exact Val.ext' hk e2.2.1 (by rw [(f1.oth k2 k3).1,(f2.oth (hk ▸ k2) (hk ▸ k3)).1]) e2.1 e2.2.2
    ·rintro rfl
     refine ⟨rfl,?_⟩
     split
     ·rename_i hc;exact (cmpQ_zero (dnV_num f1 hc) (dnV_num f1 hc)).2 ⟨rfl,rfl⟩
     ·rw [thenC_eq0,thenC_eq0];exact ⟨TotC.str.refl _,TotC.int.refl _,hl.2 rfl⟩
   ·rw [if_pos h1,if_neg h2]
    exact ⟨fun h=>by omega,fun h=>absurd (h ▸ h1) h2⟩
  ·by_cases h2:validV b=true
   ·rw [if_neg h1,if_pos h2]
    exact ⟨fun h=>by omega,fun h=>absurd (h ▸ h2) h1⟩
   ·rw [if_neg h1,if_neg h2]
    unfold ordI
    rw [thenC_eq0,thenC_eq0,thenC_eq0,thenC_eq0,TotC.int.zero,TotC.int.zero,TotC.int.zero,TotC.str.zero,hl]
    exact ⟨fun h=>Val.ext' h.1 h.2.1 h.2.2.1 h.2.2.2.1 h.2.2.2.2,fun h=>by subst h;exact ⟨rfl,rfl,rfl,rfl,rfl⟩⟩
theorem ordL_zero:∀ a b:List Val,ordL a b=0 ↔ a=b
 | [],[]=>by rw [ordL];simp
 | [],_ :: _=>by rw [ordL];simp
 | _ :: _,[]=>by rw [ordL];simp
 | x :: xs,y :: ys=>by rw [ordL,thenC_eq0,ordV_zero x y,ordL_zero xs ys];simp
end
mutual
theorem ordV_anti:∀ a b:Val,ordV b a = - ordV a b
 | .mk k n d s l,b=>by
  rw [ordV_eq,ordV_eq]
  have hl:=ordL_anti l b.l
  generalize ha:Val.mk k n d s l=a
  have hal:a.l=l:=by rw [←ha];rfl
  rw [←hal] at hl
  by_cases h1:validV a=true
  ·by_cases h2:validV b=true
   ·simp only [if_pos h1,if_pos h2]
    unfold ordU
    rw [TotC.int.anti (cls a.kind)]
    by_cases hc:cls a.kind=cls b.kind
    ·rw [hc]
     by_cases h3:cls b.kind=2
     ·rw [if_pos h3,if_pos h3,cmpQ_anti a.n,thenC_neg]
     ·rw [if_neg h3,if_neg h3,TotC.str.anti a.s,TotC.int.anti a.n,hl,thenC_neg,thenC_neg,thenC_neg]
    ·have:Lib.compareInt (cls a.kind) (cls b.kind) ≠ 0:=fun e=>hc ((TotC.int.zero _ _).1 e)
     rw [thenC_ne (by omega),thenC_ne this]
   ·simp only [if_pos h1,if_neg h2];rfl
  ·by_cases h2:validV b=true
   ·simp only [if_neg h1,if_pos h2]
   ·simp only [if_neg h1,if_neg h2]
    unfold ordI
    rw [TotC.int.anti a.kind,TotC.int.anti a.n,TotC.int.anti a.d,TotC.str.anti a.s,hl,thenC_neg,thenC_neg,thenC_neg,thenC_neg]
theorem ordL_anti:∀ a b:List Val,ordL b a = - ordL a b
 | [],[]=>by rw [ordL];rfl
 | [],_ :: _=>by rw [ordL,ordL];rfl
 | _ :: _,[]=>by rw [ordL,ordL]
 | x :: xs,y :: ys=>by rw [ordL,ordL,ordV_anti x y,ordL_anti xs ys,thenC_neg]
end
mutual
theorem ordV_trans:∀ a b c:Val,ordV a b≤0→ordV b c≤0→ordV a c≤0
 | .mk k n d s l,b,c=>by
  rw [ordV_eq,ordV_eq,ordV_eq]
  have hl:=ordL_trans l b.l c.l
  generalize ha:Val.mk k n d s l=a
  have hal:a.l=l:=by rw [←ha];rfl
  rw [←hal] at hl
  by_cases h1:validV a=true
  ·by_cases h2:validV b=true
   ·by_cases h3:validV c=true
    ·simp only [if_pos h1,if_pos h2,if_pos h3]
     have f1:=validV_facts h1
     have f2:=validV_facts h2
     have f3:=validV_facts h3
     unfold ordU
     by_cases hab:cls a.kind=cls b.kind
     ·by_cases hbc:cls b.kind=cls c.kind
      ·rw [hab,hbc,TotC.int.refl,thenC_zero,thenC_zero,thenC_zero]
       by_cases hc:cls c.kind=2
       ·rw [if_pos hc,if_pos hc,if_pos hc]
        have g1:=(validB_iff.1 (dnV_num f1 (by omega))).1
        have g2:=(validB_iff.1 (dnV_num f2 (by omega))).1
        have g3:=(validB_iff.1 (dnV_num f3 hc)).1
        exact cmpQ_trans g1 g2 g3
       ·rw [if_neg hc,if_neg hc,if_neg hc]
        exact thenC_trans TotC.str.zero TotC.str.anti (TotC.str.trans _ _ _) (thenC_trans TotC.int.zero TotC.int.anti (TotC.int.trans _ _ _) hl)
      ·have e:Lib.compareInt (cls b.kind) (cls c.kind) ≠ 0:=fun e=>hbc ((TotC.int.zero _ _).1 e)
       rw [hab,TotC.int.refl,thenC_ne e,thenC_ne e];exact fun _ h=>h
     ·have e1:Lib.compareInt (cls a.kind) (cls b.kind) ≠ 0:=fun e=>hab ((TotC.int.zero _ _).1 e)
      rw [thenC_ne e1]
      by_cases hbc:cls b.kind=cls c.kind
      ·rw [←hbc,thenC_ne e1];exact fun h _=>h
      ·have e2:Lib.compareInt (cls b.kind) (cls c.kind) ≠ 0:=fun e=>hbc ((TotC.int.zero _ _).1 e)
       rw [thenC_ne e2]
       intro p q
       rw [cmpI_le] at p q
       have e3:Lib.compareInt (cls a.kind) (cls c.kind) ≠ 0:=fun e=>by
        have:=(TotC.int.zero _ _).1 e
        omega
       rw [thenC_ne e3,cmpI_le];omega
    ·simp only [if_pos h1,if_pos h2,if_neg h3];exact fun _ _=>by omega
   ·by_cases h3:validV c=true
    ·simp only [if_pos h1,if_neg h2,if_pos h3];exact fun _ h=>by omega
    ·simp only [if_pos h1,if_neg h2,if_neg h3];exact fun _ _=>by omega
  ·by_cases h2:validV b=true
   ·simp only [if_neg h1,if_pos h2];exact fun h=>by omega
   ·by_cases h3:validV c=true
    ·simp only [if_neg h1,if_neg h2,if_pos h3];exact fun _ h=>by omega
    ·simp only [if_neg h1,if_neg h2,if_neg h3]
     unfold ordI
     exact thenC_trans TotC.int.zero TotC.int.anti (TotC.int.trans _ _ _) (thenC_trans TotC.int.zero TotC.int.anti (TotC.int.trans _ _ _) (thenC_trans TotC.int.zero TotC.int.anti (TotC.int.trans _ _ _) (thenC_trans TotC.str.zero TotC.str.anti (TotC.str.trans _ _ _) hl)))
theorem ordL_trans:∀ a b c:List Val,ordL a b≤0→ordL b c≤0→ordL a c≤0
 | [],[],_=>fun _ h=>h
 | [],_ :: _,[]=>fun _ h=>by rw [ordL] at h;omega
 | [],_ :: _,_ :: _=>fun _ _=>by rw [ordL];omega
 | _ :: _,[],_=>fun h=>by rw [ordL] at h;omega
 | _ :: _,_ :: _,[]=>fun _ h=>by rw [ordL] at h;omega
 | x :: xs,y :: ys,z :: zs=>by
  rw [ordL,ordL,ordL]
  exact thenC_trans ordV_zero ordV_anti (ordV_trans x y z) (ordL_trans xs ys zs)
end
theorem TotC.val:TotC ordV:=⟨ordV_rng,ordV_zero,ordV_anti,ordV_trans⟩
theorem TotC.row:TotC ordL:=⟨ordL_rng,ordL_zero,ordL_anti,ordL_trans⟩
open Go.RowKit
def SliceR {α:Type} (R:Nat→Nat→α→Prop) (size:Nat) (A:Option Addr) (l:List α):Prop :=
 l.length≤140737488355328∧(0 < l.length→∃ b o,A=some ⟨b,o,none⟩∧∀ k (h:k < l.length),R b (o+k*size) l[k])
theorem SliceR.len {α:Type} {R:Nat→Nat→α→Prop} {size:Nat} {A:Option Addr} {l:List α} (h:SliceR R size A l):l.length≤140737488355328:=h.1
theorem SliceR.mono {α:Type} {R R':Nat→Nat→α→Prop} {size:Nat} {A:Option Addr} {l:List α} (h:SliceR R size A l) (hR:∀ b o x,x ∈ l→R b o x→R' b o x):SliceR R' size A l :=
 ⟨h.1,fun hp=>let ⟨b,o,hA,hc⟩:=h.2 hp;⟨b,o,hA,fun k hk=>hR _ _ _ (List.getElem_mem hk) (hc k hk)⟩⟩
theorem SliceR.nil {α:Type} (R:Nat→Nat→α→Prop) (size:Nat) (A:Option Addr):SliceR R size A ([]:List α):=⟨by simp,fun h=>absurd h (by simp)⟩
theorem SliceR.none_ {α:Type} {R:Nat→Nat→α→Prop} {size:Nat} {A:Option Addr} {l:List α} (h:SliceR R size A l):A=none→l.length=0:=fun e=>by
 rcases Nat.eq_zero_or_pos l.length with h0|h0
 ·exact h0
 ·obtain ⟨b,o,hA,_⟩:=h.2 h0
  rw [e] at hA;cases hA
theorem SliceR.take {α:Type} {R:Nat→Nat→α→Prop} {size:Nat} {A:Option Addr} {l:List α} (h:SliceR R size A l) (n:Nat):SliceR R size A (l.take n) :=
 ⟨by rw [List.length_take];have:=h.1;omega,fun hp=>by
  rw [List.length_take] at hp
  obtain ⟨b,o,hA,hc⟩:=h.2 (by omega)
  exact ⟨b,o,hA,fun k hk=>by rw [List.length_take] at hk;rw [List.getElem_take];exact hc k (by omega)⟩⟩
theorem SliceR.drop {α:Type} {R:Nat→Nat→α→Prop} {size b o:Nat} {l:List α} (h:SliceR R size (some ⟨b,o,none⟩) l) (n:Nat):SliceR R size (some ⟨b,o+n*size,none⟩) (l.drop n) :=
 ⟨by rw [List.length_drop];have:=h.1;omega,fun hp=>by
  rw [List.length_drop] at hp
  obtain ⟨b',o',hA,hc⟩:=h.2 (by omega)
  injection hA with hA
  injection hA with h1 h2
  subst h1 h2
  refine ⟨_,_,rfl,fun k hk=>?_⟩
  rw [List.length_drop] at hk
  rw [List.getElem_drop,Nat.add_assoc,←Nat.add_mul]
  exact hc (n+k) (by omega)⟩
mutual
def VCells (w:World) (ok:Nat→Prop):Nat→Nat→Val→Prop
 | b,o, .mk k n d s l=>ok b∧w.cell? ⟨b,o,none⟩=some (.int .i64 k)∧w.cell? ⟨b,o+1,none⟩=some (.int .i64 n)∧w.cell? ⟨b,o+2,none⟩=some (.int .i64 d)∧w.cell? ⟨b,o+3,none⟩=some (.string s) ∧
  ∃ A c,w.cell? ⟨b,o+4,none⟩=some (.slice A l.length c)∧l.length≤c∧l.length≤140737488355328∧(0 < l.length→∃ b' o',A=some ⟨b',o',none⟩∧LCells w ok b' o' l)
def LCells (w:World) (ok:Nat→Prop):Nat→Nat→List Val→Prop
 | _,_,[]=>True
 | b,o,v :: vs=>VCells w ok b o v∧LCells w ok b (o+5) vs
end
theorem LCells.iff {w:World} {ok:Nat→Prop}:∀ {l:List Val} {b o:Nat},LCells w ok b o l ↔ ∀ k (h:k < l.length),VCells w ok b (o+k*5) l[k]
 | [],b,o=>by rw [LCells];simp
 | v :: vs,b,o=>by
  rw [LCells,LCells.iff (l:=vs)]
  constructor
  ·rintro ⟨h1,h2⟩ k hk
   cases k with
   | zero=>rw [Nat.zero_mul,Nat.add_zero];exact h1
   | succ k =>
    have:=h2 k (by simpa using hk)
    rw [show o+5+k*5=o+(k+1)*5 by omega] at this
    exact this
  ·intro h
   refine ⟨by have h0:=h 0 (by simp);rw [Nat.zero_mul,Nat.add_zero] at h0;exact h0,fun k hk=>?_⟩
   have:=h (k+1) (by simpa using hk)
   rw [show o+(k+1)*5=o+5+k*5 by omega] at this
   exact this
def Vals (w:World) (ok:Nat→Prop) (A:Option Addr) (l:List Val):Prop:=SliceR (VCells w ok) 5 A l
def V5 (w:World) (b o:Nat) (v:Val) (A:Option Addr) (c:Nat):Prop :=
 w.cell? ⟨b,o,none⟩=some (.int .i64 v.kind)∧w.cell? ⟨b,o+1,none⟩=some (.int .i64 v.n)∧w.cell? ⟨b,o+2,none⟩=some (.int .i64 v.d)∧w.cell? ⟨b,o+3,none⟩=some (.string v.s)∧w.cell? ⟨b,o+4,none⟩=some (.slice A v.l.length c)
theorem V5.ext {a w:World} {b o:Nat} {v:Val} {A:Option Addr} {c:Nat} (h:V5 a b o v A c) (e:Ext a w):V5 w b o v A c:=⟨e.cell h.1,e.cell h.2.1,e.cell h.2.2.1,e.cell h.2.2.2.1,e.cell h.2.2.2.2⟩
theorem VCells.iff {w:World} {ok:Nat→Prop} {b o:Nat} {v:Val}:VCells w ok b o v ↔ ok b∧∃ A c,V5 w b o v A c∧v.l.length≤c∧Vals w ok A v.l:=by
 cases v with
 | mk k n d s l =>
  rw [VCells]
  constructor
  ·rintro ⟨h0,h1,h2,h3,h4,A,c,h5,h6,h7,h8⟩
   refine ⟨h0,A,c,⟨h1,h2,h3,h4,h5⟩,h6,h7,fun hp=>?_⟩
   obtain ⟨b',o',hA,hl⟩:=h8 hp
   exact ⟨b',o',hA,LCells.iff.1 hl⟩
  ·rintro ⟨h0,A,c,⟨h1,h2,h3,h4,h5⟩,h6,h7,h8⟩
   refine ⟨h0,h1,h2,h3,h4,A,c,h5,h6,h7,fun hp=>?_⟩
   obtain ⟨b',o',hA,hl⟩:=h8 hp
   exact ⟨b',o',hA,LCells.iff.2 hl⟩
mutual
theorem VCells.keep {w w':World} {ok ok':Nat→Prop} (hk:∀ b o x,ok b→w.cell? ⟨b,o,none⟩=some x→w'.cell? ⟨b,o,none⟩=some x) (ho:∀ b,ok b→ok' b):∀ (v:Val) (b o:Nat),VCells w ok b o v→VCells w' ok' b o v
 | .mk k n d s l,b,o,h=>by
  rw [VCells] at h ⊢
  obtain ⟨h0,h1,h2,h3,h4,A,c,h5,h6,h7,h8⟩:=h
  refine ⟨ho _ h0,hk _ _ _ h0 h1,hk _ _ _ h0 h2,hk _ _ _ h0 h3,hk _ _ _ h0 h4,A,c,hk _ _ _ h0 h5,h6,h7,fun hp=>?_⟩
  obtain ⟨b',o',hA,hl⟩:=h8 hp
  exact ⟨b',o',hA,LCells.keep hk ho l b' o' hl⟩
theorem LCells.keep {w w':World} {ok ok':Nat→Prop} (hk:∀ b o x,ok b→w.cell? ⟨b,o,none⟩=some x→w'.cell? ⟨b,o,none⟩=some x) (ho:∀ b,ok b→ok' b):∀ (l:List Val) (b o:Nat),LCells w ok b o l→LCells w' ok' b o l
 | [],_,_,_=>by rw [LCells];trivial
 | v :: vs,b,o,h=>by
  rw [LCells] at h ⊢
  exact ⟨VCells.keep hk ho v b o h.1,LCells.keep hk ho vs b (o+5) h.2⟩
end
theorem VCells.ext {a w:World} {ok:Nat→Prop} {b o:Nat} {v:Val} (h:VCells a ok b o v) (e:Ext a w):VCells w ok b o v:=VCells.keep (fun _ _ _ _ hc=>e.cell hc) (fun _ h=>h) v b o h
theorem Vals.keep {w w':World} {ok ok':Nat→Prop} {A:Option Addr} {l:List Val} (h:Vals w ok A l) (hk:∀ b o x,ok b→w.cell? ⟨b,o,none⟩=some x→w'.cell? ⟨b,o,none⟩=some x) (ho:∀ b,ok b→ok' b):Vals w' ok' A l :=
 SliceR.mono h (fun b o x _ hx=>VCells.keep hk ho x b o hx)
theorem Vals.ext {a w:World} {ok:Nat→Prop} {A:Option Addr} {l:List Val} (h:Vals a ok A l) (e:Ext a w):Vals w ok A l:=h.keep (fun _ _ _ _ hc=>e.cell hc) (fun _ h=>h)
theorem Vals.to {w:World} {ok ok':Nat→Prop} {A:Option Addr} {l:List Val} (h:Vals w ok A l) (ho:∀ b,ok b→ok' b):Vals w ok' A l:=h.keep (fun _ _ _ _ hc=>hc) ho
def Val.cells (v:Val) (A:Option Addr) (c:Nat):List Value:=[.int .i64 v.kind, .int .i64 v.n, .int .i64 v.d, .string v.s, .slice A v.l.length c]
theorem Val.cells_one (v:Val) (A:Option Addr) (c:Nat):∀ u ∈ v.cells A c,u.oneCell'=true:=by
 intro u hu
 simp only [Val.cells,List.mem_cons,List.not_mem_nil,or_false] at hu
 rcases hu with rfl|rfl|rfl|rfl|rfl <;> rfl
theorem box_val (w:World) (v:Val) (A:Option Addr) (c:Nat) (t:TypeId):∃ (g:Nat) (w1:World),g=w.heap.size∧w1=w.alloc (.cells #[.int .i64 v.kind, .int .i64 v.n, .int .i64 v.d, .string v.s, .slice A v.l.length c] t)∧V5 w1 g 0 v A c∧Ext w w1∧w.heap.size≤g :=
 ⟨_,_,rfl,rfl,⟨by go_simp,by go_simp,by go_simp,by go_simp,by go_simp⟩,(Ext.refl _).alloc _,Nat.le_refl _⟩
def wtL:List Val→Nat
 | []=>0
 | .mk _ _ _ _ l :: vs=>1+wtL l+wtL vs
def wtV (v:Val):Nat:=1+wtL v.l
theorem wtL_cons (v:Val) (vs:List Val):wtL (v :: vs)=wtV v+wtL vs:=by cases v;rw [wtL];rfl
theorem wtL_mem {l:List Val} {v:Val} (h:v ∈ l):wtV v≤wtL l:=by
 induction l with
 | nil=>cases h
 | cons x l ih =>
  rw [wtL_cons]
  rcases List.mem_cons.1 h with e|e
  ·rw [e];omega
  ·have:=ih e;omega
def StrC (w:World) (ok:Nat→Prop) (b o:Nat) (s:ByteArray):Prop:=ok b∧w.cell? ⟨b,o,none⟩=some (.string s)
def IntC (w:World) (ok:Nat→Prop) (b o:Nat) (n:Int):Prop:=ok b∧w.cell? ⟨b,o,none⟩=some (.int .i64 n)
def Strs (w:World) (ok:Nat→Prop) (A:Option Addr) (l:List ByteArray):Prop:=SliceR (StrC w ok) 1 A l
def Nums (w:World) (ok:Nat→Prop) (A:Option Addr) (l:List Int):Prop:=SliceR (IntC w ok) 1 A l
theorem Strs.ext {a w:World} {ok:Nat→Prop} {A:Option Addr} {l:List ByteArray} (h:Strs a ok A l) (e:Ext a w):Strs w ok A l:=SliceR.mono h (fun _ _ _ _ hx=>⟨hx.1,e.cell hx.2⟩)
theorem Nums.ext {a w:World} {ok:Nat→Prop} {A:Option Addr} {l:List Int} (h:Nums a ok A l) (e:Ext a w):Nums w ok A l:=SliceR.mono h (fun _ _ _ _ hx=>⟨hx.1,e.cell hx.2⟩)
def RowC (w:World) (ok:Nat→Prop) (b o:Nat) (r:List Val):Prop:=ok b∧∃ A c,w.cell? ⟨b,o,none⟩=some (.slice A r.length c)∧r.length≤c∧Vals w ok A r
def Rows (w:World) (ok:Nat→Prop) (A:Option Addr) (l:List (List Val)):Prop:=SliceR (RowC w ok) 1 A l
theorem RowC.keep {w w':World} {ok ok':Nat→Prop} (hk:∀ b o x,ok b→w.cell? ⟨b,o,none⟩=some x→w'.cell? ⟨b,o,none⟩=some x) (ho:∀ b,ok b→ok' b) {b o:Nat} {r:List Val} (h:RowC w ok b o r):RowC w' ok' b o r :=
 let ⟨h0,A,c,h1,h2,h3⟩:=h
 ⟨ho _ h0,A,c,hk _ _ _ h0 h1,h2,h3.keep hk ho⟩
theorem Rows.keep {w w':World} {ok ok':Nat→Prop} {A:Option Addr} {l:List (List Val)} (h:Rows w ok A l) (hk:∀ b o x,ok b→w.cell? ⟨b,o,none⟩=some x→w'.cell? ⟨b,o,none⟩=some x) (ho:∀ b,ok b→ok' b):Rows w' ok' A l :=
 SliceR.mono h (fun _ _ _ _ hx=>hx.keep hk ho)
theorem Rows.ext {a w:World} {ok:Nat→Prop} {A:Option Addr} {l:List (List Val)} (h:Rows a ok A l) (e:Ext a w):Rows w ok A l:=h.keep (fun _ _ _ _ hc=>e.cell hc) (fun _ h=>h)
theorem RowC.ext {a w:World} {ok:Nat→Prop} {b o:Nat} {r:List Val} (h:RowC a ok b o r) (e:Ext a w):RowC w ok b o r:=h.keep (fun _ _ _ _ hc=>e.cell hc) (fun _ h=>h)
theorem own_sliceR {α:Type} {w:World} {base e size:Nat} {v:Value} {n:Nat} {cs:List (List Value)} {l:List α} {R:Nat→Nat→α→Prop} (h:w.ownsRow base e size v n cs.flatten) (hn:n=l.length) (hl:cs.length=l.length) (hs:∀ x ∈ cs,x.length=size) (hm:l.length≤140737488355328)
  (hR:∀ g,base≤g→v.ownBlock=some g→∀ k (h:k < l.length) (h':k < cs.length),(∀ j u,(cs[k])[j]? = some u→w.cell? ⟨g,k*size+j,none⟩=some u)→R g (k*size) l[k]):∃ A c,v = .slice A l.length c∧l.length≤c∧SliceR R size A l:=by
 subst hn
 rcases h.2 with ⟨hv,h0⟩|⟨g,cap,cur,hv,hb,hh,hc,_,_,htk⟩
 ·refine ⟨none,0,by rw [hv,h0],by omega,hm,fun hp=>absurd hp (by omega)⟩
 ·subst hv
  refine ⟨some ⟨g,0,none⟩,cap,rfl,hc,hm,fun _=>⟨g,0,rfl,fun k hk=>?_⟩⟩
  have hk':k < cs.length:=by omega
  rw [Nat.zero_add]
  refine hR g hb rfl k hk hk' (fun j u hu=>?_)
  have hlen:(cs[k]).length=size:=hs _ (List.getElem_mem hk')
  have hj:j < size:=by rw [←hlen];exact (List.getElem?_eq_some_iff.1 hu).1
  have hfl:∀ (cs:List (List Value)),(∀ x ∈ cs,x.length=size)→∀ k (hk:k < cs.length),cs.flatten[k*size+j]? = (cs[k])[j]? := by
   intro cs
   induction cs with
   | nil=>intro _ k hk;exact absurd hk (by simp)
   | cons x cs ih =>
    intro hs k hk
    have hx:x.length=size:=hs x (by simp)
    cases k with
    | zero=>simp only [List.flatten_cons,List.getElem_cons_zero,Nat.zero_mul,Nat.zero_add];rw [List.getElem?_append_left (by omega)]
    | succ k =>
     simp only [List.flatten_cons,List.getElem_cons_succ]
     rw [List.getElem?_append_right (by rw [hx,Nat.add_mul];omega),hx,show (k+1)*size+j - size=k*size+j by rw [Nat.add_mul];omega]
     exact ih (fun y hy=>hs y (List.mem_cons_of_mem _ hy)) k (by simpa using hk)
  have h1:=hfl cs hs k hk'
  rw [hu] at h1
  rw [cell_of_row w g _ cur e (0,0) hh]
  rw [←htk,List.getElem?_take] at h1
  split at h1
  ·simpa using h1
  ·cases h1
set_option maxHeartbeats 400000 in
theorem num_In (n:Int) (w:World) :
  Calls Tryz.prog 159 #[.int .i64 n] w fun e w'=>e = .returned (.bool (inB n))∧w=w':=by
 go_enter Tryz.func159,Tryz.ntmps159
 go_wp2
 all_goals go_ret
 all_goals (unfold inB;simp [*];try omega)
set_option maxHeartbeats 400000 in
theorem ref_In (n:Int) (w:World) :
  Calls Tryz.prog 164 #[.int .i64 n] w fun e w'=>e = .returned (.bool (inB n))∧w=w':=by
 go_enter Tryz.func164,Tryz.ntmps164
 go_wp2
 all_goals go_ret
 all_goals (unfold inB;simp [*];try omega)
def bothB (a b:Int):Bool:=inB a && inB b
end Go.Proofs.YtfhekbacigoblaaGreatDoor
