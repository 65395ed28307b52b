import Derived.Test.YtfhekbacigoblaaGreatDoorV22
import Derived.Lib.ItoaNum
import Derived.Lib.AtoiAll
import Derived.Sort.Walk0
import Derived.Lib.Small
import Derived.Deep.QuietTactic
import Derived.BigQuiet
import Derived.Test.YtfhekbacigoblaaGreatDoorProg
import Derived.WalkKit
import Derived.WalkSpells
import Derived.WalkLawsBesides
import Derived.Lib.Hide
import Derived.Deep.Cut
import Derived.Laws.CopyRow
import Derived.Lib.AppendZerosOnto
import Derived.Lib.SlFresh
import Derived.Laws.AppendOwn
import Derived.Laws.OwnMore
import Derived.OwnWalk
import Derived.Deep.AppendLies
import Derived.Deep.MidRow
import Derived.Below
import Derived.Laws.Rows
import Derived.Deep.Draws
import Derived.OrdersHeld
namespace Go.Proofs.YtfhekbacigoblaaGreatDoor
set_option maxHeartbeats 1600000
def isDig (c:UInt8):Bool:=decide (48≤c.toNat) && decide (c.toNat≤57)
def foldDig:Nat→List UInt8→Nat
 | a,[]=>a
 | a,c :: r=>if isDig c then foldDig (a*10+(c.toNat - 48)) r else foldDig a r
theorem foldDig_append (a:Nat) (l r:List UInt8):foldDig a (l ++ r)=foldDig (foldDig a l) r:=by
 induction l generalizing a with
 | nil=>rfl
 | cons c l ih =>
  simp only [List.cons_append,foldDig]
  split <;> exact ih _
theorem foldDig_snoc (a:Nat) (l:List UInt8) (c:UInt8):foldDig a (l ++ [c])=if isDig c then foldDig a l*10+(c.toNat - 48) else foldDig a l:=by
 rw [foldDig_append];simp only [foldDig]
def numOf (l:List UInt8):Int:=if l.head? = some 45 then -(foldDig 0 l:Int) else (foldDig 0 l:Int)
theorem dig_toNat {d:Nat} (h:d < 10):(UInt8.ofNat (48+d)).toNat=48+d:=by
 rw [UInt8.toNat_ofNat'];omega
theorem isDig_dig {d:Nat} (h:d < 10):isDig (UInt8.ofNat (48+d))=true:=by
 unfold isDig;rw [dig_toNat h,decide_eq_true Qk,decide_eq_true Qk];rfl
theorem decDigits_ne (u:Nat):Lib.decDigits u ≠ []:=by
 rw [zhk];split <;> simp
theorem foldDig_decDigits (u:Nat):foldDig 0 (Lib.decDigits u)=u:=by
 induction u using Nat.strongRecOn with
 | _ u ih =>
  rw [zhk]
  by_cases h:u < 10
  ·rw [if_pos h]
   simp only [foldDig,isDig_dig h,if_pos,dig_toNat h];omega
  ·rw [if_neg h,foldDig_snoc,ih (u / 10) Qk,isDig_dig Qk,if_pos rfl,dig_toNat Qk];omega
theorem decDigits_all (u:Nat):∀ c ∈ Lib.decDigits u,isDig c=true:=by
 induction u using Nat.strongRecOn with
 | _ u ih =>
  rw [zhk]
  by_cases h:u < 10
  ·rw [if_pos h];intro c hc;rw [List.mem_singleton] at hc;subst hc;exact isDig_dig h
  ·rw [if_neg h];intro c hc
   rcases List.mem_append.1 hc with hc|hc
   ·exact ih (u / 10) Qk c hc
   ·rw [List.mem_singleton] at hc;subst hc;exact isDig_dig Qk
theorem decDigits_head (u:Nat):(Lib.decDigits u).head? ≠ some 45:=by
 intro h
 have hm:(45:UInt8) ∈ Lib.decDigits u:=List.mem_of_mem_head? (by rw [h];rfl)
 exact absurd (decDigits_all u 45 hm) Qj
theorem numOf_itoa (n:Int):numOf (Lib.itoa n)=n:=by
 unfold numOf Lib.itoa
 by_cases h:n < 0
 ·rw [if_pos h]
  simp only [List.head?_cons,if_pos]
  have:foldDig 0 (45 :: Lib.decDigits n.natAbs)=n.natAbs:=by
   have e:isDig 45=false:=by decide
   simp only [foldDig,e]
   exact foldDig_decDigits _
  rw [this];omega
 ·rw [if_neg h,if_neg (decDigits_head _),foldDig_decDigits];omega
def digB (m:Nat):UInt8:=UInt8.ofNat (48+m % 10)
theorem digB_toNat (m:Nat):(digB m).toNat=48+m % 10:=dig_toNat Qk
def digs (m:Nat):List UInt8:=if m=0 then [] else Lib.decDigits m
theorem digs_zero:digs 0=[]:=rfl
theorem digs_pos {m:Nat} (h:m ≠ 0):digs m=digs (m / 10) ++ [digB m]:=by
 unfold digs digB
 rw [if_neg h,zhk]
 by_cases g:m < 10
 ·rw [if_pos g,if_pos Qk,Nat.mod_eq_of_lt g];rfl
 ·rw [if_neg g,if_neg Qk]
theorem digs_step {m n:Nat} {l:List UInt8} (h:m ≠ 0) (hd:digs m ++ l=digs n):digs (m / 10) ++ (digB m :: l)=digs n:=by
 rw [digs_pos h,List.append_assoc] at hd;exact hd
theorem digs_length {n:Nat} (h:n≤9223372036854775808):(digs n).length≤20:=by
 unfold digs
 split
 ·simp
 ·have:=zfs 18 n Qk;omega
instance:Inhabited Val:=⟨.mk 0 0 0 ByteArray.empty []⟩
open Go.RowKit
theorem r7_letter (c:UInt8) (w:World):Calls Tryz.prog 74 #[.int .u8 (c.toNat:Int)] w fun e w'=>e= .returned (.bool (zgm c))∧w'=w:=by
 go_enter Tryz.func74,Tryz.ntmps74
 go_wp2
 all_goals
  go_ret
  refine ⟨ze ?_,rfl⟩
  rw [Bool.eq_iff_iff,zu6]
  simp
  try omega
theorem r7_Name (s:ByteArray) (w:World):Calls Tryz.prog 41 #[.string s] w fun e w'=>e= .returned (.bool (zbk s))∧w'=w:=by
 by_cases h0:s.size=0
 ·have HN:=Lib.hid (zix (s:=s) (fun ⟨h,_⟩=>absurd h Qk))
  have he:s=ByteArray.empty:=zfi (zud h0)
  subst he
  go_enter Tryz.func41,Tryz.ntmps41
  go_wp2
  go_ret
  exact ⟨ze HN.out.symm,rfl⟩
 ·have h0':0 < s.size:=by omega
  have h1':1≤s.size:=by omega
  have HL:=Lib.hid (fun w=>r7_letter s[0] w)
  by_cases h20:s.size≤20
  ·cases hL:zgm s[0]
   ·have HN:=Lib.hid (zix (s:=s) (fun ⟨_,_,h,_⟩=>by rw [hL] at h;cases h))
    go_enter Tryz.func41,Tryz.ntmps41
    go_wp2_with (go_at_call 74;refine (HL.out _).mono ?_;rintro e w' ⟨rfl,rfl⟩;rw [hL])
    all_goals
     go_ret
     exact ⟨ze HN.out.symm,rfl⟩
   ·have HY:=Lib.hid (fun h:∀ j (h:j < s.size),zje s[j]=true=>znf.2 ⟨h0',h20,hL,h⟩)
    have HNO:=Lib.hid (fun (k:Nat) (hk:k < s.size) (h:zje s[k]=false)=>zix (s:=s) (fun ⟨_,_,_,h'⟩=>by rw [h' k hk] at h;cases h))
    have H1:=Lib.hid (fun j (h:j < s.size) (hj:j < 1)=>(by have:j=0:=Qk;subst this;exact zo7.2 (.inl hL):zje s[j]=true))
    go_enter Tryz.func41,Tryz.ntmps41
    go_wp2_with (go_at_call 74;refine (HL.out _).mono ?_;rintro e w' ⟨rfl,rfl⟩;rw [hL])
    go_loop [3] (fun u => ∃ k:Nat,u= .int .i64 k∧k≤s.size∧Hid (∀ j (h:j < s.size),j < k→zje s[j]=true)) (fun u=>s.size - (intOf u).toNat)
    case atStart=>exact ⟨1,rfl,h1',H1⟩
    case round =>
     obtain ⟨k,rfl,hk,hA⟩:=hrel
     by_cases hlt:k < s.size
     ·have HLk:=Lib.hid (fun w=>r7_letter s[k] w)
      cases hW:zje s[k]
      ·have HN:=Lib.hid (HNO.out k hlt hW)
       have hW2:=hW
       rw [Bool.eq_false_iff,ne_eq,zo7,not_or,not_or] at hW2
       obtain ⟨q1,q2,q3⟩:=hW2
       have q1:zgm s[k]=false:=by simpa using q1
       have c95:((s[k].toNat:Int) != 95)=true:=by simp;omega
       by_cases h48:s[k].toNat < 48
       ·go_wp2_with (go_at_call 74;refine (HLk.out _).mono ?_;rintro e w' ⟨rfl,rfl⟩;rw [q1])
        go_ret
        exact ⟨ze HN.out.symm,rfl⟩
       ·have h57:57 < s[k].toNat:=by omega
        go_wp2_with (go_at_call 74;refine (HLk.out _).mono ?_;rintro e w' ⟨rfl,rfl⟩;rw [q1])
        go_ret
        exact ⟨ze HN.out.symm,rfl⟩
      ·have HS:=Lib.hid (ztu hA.out hlt hW)
       cases q1:zgm s[k]
       ·have hW2:=hW
        rw [zo7,q1] at hW2
        have hW2:s[k].toNat=95∨(48≤s[k].toNat∧s[k].toNat≤57):=hW2.resolve_left (by simp)
        rcases hW2 with h95|⟨h48,h57⟩
        ·have c95:((s[k].toNat:Int) != 95)=false:=by simp [h95]
         have h48:¬s[k].toNat < 48:=by omega
         have h57:57 < s[k].toNat:=by omega
         clear h95
         go_wp2_with (go_at_call 74;refine (HLk.out _).mono ?_;rintro e w' ⟨rfl,rfl⟩;rw [q1])
         go_round
         case rel=>exact ⟨k+1,by go_num,by omega,HS⟩
         case measure=>simp [intOf];omega
        ·have c95:((s[k].toNat:Int) != 95)=true:=by simp;omega
         go_wp2_with (go_at_call 74;refine (HLk.out _).mono ?_;rintro e w' ⟨rfl,rfl⟩;rw [q1])
         go_round
         case rel=>exact ⟨k+1,by go_num,by omega,HS⟩
         case measure=>simp [intOf];omega
       ·go_wp2_with (go_at_call 74;refine (HLk.out _).mono ?_;rintro e w' ⟨rfl,rfl⟩;rw [q1])
        go_round
        case rel=>exact ⟨k+1,by go_num,by omega,HS⟩
        case measure=>simp [intOf];omega
     ·have hk':k=s.size:=by omega
      have HN:=Lib.hid (HY.out (fun j hj=>hA.out j hj Qk))
      go_wp2
      go_ret
      exact ⟨ze HN.out.symm,rfl⟩
  ·have HN:=Lib.hid (zix (s:=s) (fun ⟨_,h,_⟩=>absurd h h20))
   go_enter Tryz.func41,Tryz.ntmps41
   go_wp2_with (go_at_call 74;refine (HL.out _).mono ?_;rintro e w' ⟨rfl,rfl⟩)
   go_ret
   exact ⟨ze HN.out.symm,rfl⟩
end Go.Proofs.YtfhekbacigoblaaGreatDoor
