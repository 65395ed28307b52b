import Derived.Test.YtfhekbacigoblaaGreatDoorV03
import Derived.Deep.RegionHeld3
import Derived.Test.YtfhekbacigoblaaGreatDoorCards
import Derived.Test.YtfhekbacigoblaaGreatDoorTie
import Derived.ProofKit
import Derived.Deep.Fields
import Derived.OpenShut
import Derived.LaidMore
import Derived.Deep.DeepHandedRow
import Derived.Deep.DeepWitnessRowRef
import Derived.SizedLaws
import Derived.Deep.Slices
import Derived.Lib.SmallJoins
import Derived.Lay
import Derived.Carry
import Derived.MakeChecks
namespace Go.Proofs.YtfhekbacigoblaaGreatDoor
set_option maxRecDepth 100000
set_option maxHeartbeats 6400000
open Go.RowKit
def zgu (n d:Int):Int:=if zam n d then n else 0
def zge (n d:Int):Int:=if zam n d then d else 1
def zmq (an ad bn bd:Int):Int:=sgn (zgu an ad*zge bn bd - zgu bn bd*zge an ad)
theorem zf6 (n d:Int):(-1000000000000000≤zgu n d∧zgu n d≤1000000000000000)∧(-1000000000000000≤zge n d∧zge n d≤1000000000000000):=by
 unfold zgu zge
 cases h:zam n d
 ·simp
 ·obtain ⟨h1,h2,h3,h4⟩:=zb1.1 h
  simp only [if_true];omega
def zh (w:World) (A B C D:Int) (V:World):Prop :=
 Below w.heap.size w V∧w.heap.size+1 < V.heap.size∧V.cell? ⟨w.heap.size,0,none⟩=some (.int .i64 A)∧V.cell? ⟨w.heap.size,1,none⟩=some (.int .i64 B)∧V.cell? ⟨w.heap.size+1,0,none⟩=some (.int .i64 C)∧V.cell? ⟨w.heap.size+1,1,none⟩=some (.int .i64 D)
theorem zh.step {w:World} {A B C D:Int} {V V':World} (q:zh w A B C D V) (hb:Below V.heap.size V V'):zh w A B C D V':=by
 obtain ⟨q0,q1,q2,q3,q4,q5⟩:=q
 obtain ⟨hc,hf⟩:=zch hb
 have hs:=hb.size
 exact ⟨zd5 q0 hb,by omega,(hc _ _ Qk).trans q2,(hc _ _ Qk).trans q3,(hc _ _ Qk).trans q4,(hc _ _ Qk).trans q5⟩
theorem zh.conj {w:World} {A B C D:Int} {V:World} (q:zh w A B C D V):V.cell? ⟨w.heap.size,0,none⟩=some (.int .i64 A)∧V.cell? ⟨w.heap.size,1,none⟩=some (.int .i64 B)∧V.cell? ⟨w.heap.size+1,0,none⟩=some (.int .i64 C)∧V.cell? ⟨w.heap.size+1,1,none⟩=some (.int .i64 D)∧zh w A B C D V :=
 ⟨q.2.2.1,q.2.2.2.1,q.2.2.2.2.1,q.2.2.2.2.2,q⟩
theorem zh.drew {w:World} {A B C D:Int} {V:World} (q:zh w A B C D V):zh w A B C D V.drew:=q.step (zj1 (Below.refl _ _))
theorem zc5 (C B:Int):znt (decide (0 < C) != decide (B < 0)) (C.natAbs*B.natAbs) = -C*B:=by
 have h:=zdq (-C) B
 rw [Int.natAbs_neg] at h
 rw [show decide (0 < C)=decide (-C < 0) from decide_eq_decide.2 Qk]
 exact h
theorem zc9 {n d:Int} (h:zam n d=false):zgu n d=0∧zge n d=1:=by unfold zgu zge;rw [h];exact ⟨rfl,rfl⟩
theorem zbs {n d:Int} (h:zam n d=true):zgu n d=n∧zge n d=d:=by unfold zgu zge;rw [h];exact ⟨rfl,rfl⟩
theorem zw3 (an ad bn bd:Int) (w:World) (hZ0:zq w) :
  Calls Tryz.prog 145 #[.agg #[.int .i64 an, .int .i64 ad], .agg #[.int .i64 bn, .int .i64 bd]] w fun e w'=>e= .returned (.int .i64 (zmq an ad bn bd))∧Below w.heap.size w w':=by
 obtain ⟨⟨x1,x2⟩,x3,x4⟩:=zf6 an ad
 obtain ⟨⟨y1,y2⟩,y3,y4⟩:=zf6 bn bd
 have HR:Hid (zmq an ad bn bd=sgn (zgu an ad*zge bn bd - zgu bn bd*zge an ad)):=Lib.hid rfl
 generalize zmq an ad bn bd=R at *
 obtain ⟨z0,z1,z2⟩:=hZ0
 obtain ⟨A,hA⟩:∃ A,Hid (zgu an ad=A):=⟨_,rfl⟩
 obtain ⟨B,hB⟩:∃ B,Hid (zge an ad=B):=⟨_,rfl⟩
 obtain ⟨C,hC⟩:∃ C,Hid (zgu bn bd=C):=⟨_,rfl⟩
 obtain ⟨D,hD⟩:∃ D,Hid (zge bn bd=D):=⟨_,rfl⟩
 rw [hA.out,hB.out,hC.out,hD.out] at HR
 rw [hA.out] at x1 x2
 rw [hB.out] at x3 x4
 rw [hC.out] at y1 y2
 rw [hD.out] at y3 y4
 have M1:=zef (a:=A) (b:=D) ⟨x1,x2⟩ ⟨y3,y4⟩
 have M2:=zef (a := -C) (b:=B) ⟨by omega,by omega⟩ ⟨x3,x4⟩
 have hn0:¬w.heap.size=0:=by omega
 have hm0:¬0=w.heap.size:=by omega
 cases ha:zam an ad <;> cases hb:zam bn bd
 ·have hSt:Hid (∀ V,zh w 0 1 0 1 V→zh w A B C D V):=by
   intro V hV
   rw [←hA.out,←hB.out,←hC.out,←hD.out,(zc9 ha).1,(zc9 ha).2,(zc9 hb).1,(zc9 hb).2]
   exact hV
  go_enter Tryz.func145,Tryz.ntmps145
  go_wp2_with fail
  refine (zck _ _ _).mono ?_
  rintro e w' ⟨rfl,hbb⟩
  obtain ⟨hc,hf⟩:=zch hbb
  have c0:w'.cell? ⟨w.heap.size,0,none⟩=some (.int .i64 an):=(hc _ _ Qe).trans Qi;have f0:w'.frozen? ⟨w.heap.size,0,none⟩=false:=(hf _ _ Qe).trans Qi;have c1:w'.cell? ⟨w.heap.size,1,none⟩=some (.int .i64 ad):=(hc _ _ Qe).trans Qi;have f1:w'.frozen? ⟨w.heap.size,1,none⟩=false:=(hf _ _ Qe).trans Qi;have c2:w'.cell? ⟨w.heap.size+1,0,none⟩=some (.int .i64 bn):=(hc _ _ Qe).trans Qi;have f2:w'.frozen? ⟨w.heap.size+1,0,none⟩=false:=(hf _ _ Qe).trans Qi;have c3:w'.cell? ⟨w.heap.size+1,1,none⟩=some (.int .i64 bd):=(hc _ _ Qe).trans Qi;have f3:w'.frozen? ⟨w.heap.size+1,1,none⟩=false:=(hf _ _ Qe).trans Qi;have k0:w'.cell? ⟨0,0,none⟩=some (.int .i64 0):=(hc _ _ Qe).trans Qi;have k1:w'.cell? ⟨0,1,none⟩=some (.int .i64 1):=(hc _ _ Qe).trans Qi;have hz:w.heap.size+1 < w'.heap.size:=(by have hs:=hbb.size;first|omega|(simp at hs;done)|(simp at hs;omega));have hbA:Below w.heap.size w w':=Below.trans (b:=_) (by repeat (first|with_reducible exact Below.refl _ _|with_reducible assumption|with_reducible refine zc ?_ _|(with_reducible refine Below.setCell ?_ Qf _)|(with_reducible refine Below.alloc ?_ Qd _))) (hbb.mono Qe);clear hc hf hbb
  go_wp2_with fail
  refine (zck _ _ _).mono ?_
  rintro e w' ⟨rfl,hbb⟩
  obtain ⟨hc,hf⟩:=zch hbb
  have c0:w'.cell? ⟨w.heap.size,0,none⟩=some (.int .i64 0):=(hc _ _ Qe).trans Qi;have f0:w'.frozen? ⟨w.heap.size,0,none⟩=false:=(hf _ _ Qe).trans Qi;have c1:w'.cell? ⟨w.heap.size,1,none⟩=some (.int .i64 1):=(hc _ _ Qe).trans Qi;have f1:w'.frozen? ⟨w.heap.size,1,none⟩=false:=(hf _ _ Qe).trans Qi;have c2:w'.cell? ⟨w.heap.size+1,0,none⟩=some (.int .i64 bn):=(hc _ _ Qe).trans Qi;have f2:w'.frozen? ⟨w.heap.size+1,0,none⟩=false:=(hf _ _ Qe).trans Qi;have c3:w'.cell? ⟨w.heap.size+1,1,none⟩=some (.int .i64 bd):=(hc _ _ Qe).trans Qi;have f3:w'.frozen? ⟨w.heap.size+1,1,none⟩=false:=(hf _ _ Qe).trans Qi;have k0:w'.cell? ⟨0,0,none⟩=some (.int .i64 0):=(hc _ _ Qe).trans Qi;have k1:w'.cell? ⟨0,1,none⟩=some (.int .i64 1):=(hc _ _ Qe).trans Qi;have hz:w.heap.size+1 < w'.heap.size:=(by have hs:=hbb.size;first|omega|(simp at hs;done)|(simp at hs;omega));have hbA:Below w.heap.size w w':=Below.trans (b:=_) (by repeat (first|with_reducible exact Below.refl _ _|with_reducible assumption|with_reducible refine zc ?_ _|(with_reducible refine Below.setCell ?_ Qf _)|(with_reducible refine Below.alloc ?_ Qd _))) (hbb.mono Qe);clear hc hf hbb
  go_wp2_with fail
  refine za2 (zh w 0 1 0 1) ⟨(by repeat (first|with_reducible exact Below.refl _ _|with_reducible assumption|with_reducible refine zc ?_ _|(with_reducible refine Below.setCell ?_ Qf _)|(with_reducible refine Below.alloc ?_ Qd _))),by first|(go_simp;done)|(simp;omega),by go_simp,by go_simp,by go_simp,by go_simp⟩ ?_
  clear c0 c1 c2 c3 f0 f1 f2 f3 k0 k1 hz hbA
  intro V hV
  have hV2:=hSt.out V hV
  clear hV hSt hA hB hC hD ha hb
  have J1:IntKind.i64.wrap (-C) = -C:=IntWalk.i64_in _ ⟨by omega,by omega⟩
  go_region_held3 (fun V=>V.cell? ⟨w.heap.size,0,none⟩=some (.int .i64 A)∧V.cell? ⟨w.heap.size,1,none⟩=some (.int .i64 B)∧V.cell? ⟨w.heap.size+1,0,none⟩=some (.int .i64 C)∧V.cell? ⟨w.heap.size+1,1,none⟩=some (.int .i64 D)∧zh w A B C D V) (first|exact (zh.drew hV2).conj|exact zh.conj (by assumption)) (first|(go_at_call 192;refine (zen _ _ _ ⟨by omega,by omega⟩ ⟨by omega,by omega⟩).mono ?_;rintro e w' ⟨h,l,rfl,HW,hbb⟩;have hst:=zh.step (‹_∧_∧_∧_∧zh _ _ _ _ _ _›.2.2.2.2) hbb)|(go_at_call 193;refine Calls.mono (zhd (m1:=?ma) (m2:=?mb) _ _ _ _ _ _ _ (W1:=?wa) (W2:=?wb) ?wc) ?_;(case wa=>assumption);(case wb=>assumption);(case wc=>exact Nat.lt_of_le_of_lt (Nat.add_le_add M1 M2) Qj);rintro e w' ⟨h,l,rfl,HP,hbb⟩;have hst:=zh.step (‹_∧_∧_∧_∧zh _ _ _ _ _ _›.2.2.2.2) hbb)|(go_at_call 194;refine Calls.mono (zg2 _ _ _ ?md _ ?wd) ?_;(case wd=>assumption);rintro e w' ⟨rfl,hbb⟩;have hst:=zh.step (‹_∧_∧_∧_∧zh _ _ _ _ _ _›.2.2.2.2) hbb))
  all_goals go_wp2_with fail
  all_goals go_ret
  all_goals refine ⟨zm ?_,(‹_∧_∧_∧_∧zh _ _ _ _ _ _›.2.2.2.2).1⟩
  all_goals rw [HR.out,zij,zhh,zdq,zc5]
  all_goals (congr 1;rw [Int.neg_mul];omega)
 ·have hSt:Hid (∀ V,zh w 0 1 bn bd V→zh w A B C D V):=by
   intro V hV
   rw [←hA.out,←hB.out,←hC.out,←hD.out,(zc9 ha).1,(zc9 ha).2,(zbs hb).1,(zbs hb).2]
   exact hV
  go_enter Tryz.func145,Tryz.ntmps145
  go_wp2_with fail
  refine (zck _ _ _).mono ?_
  rintro e w' ⟨rfl,hbb⟩
  obtain ⟨hc,hf⟩:=zch hbb
  have c0:w'.cell? ⟨w.heap.size,0,none⟩=some (.int .i64 an):=(hc _ _ Qe).trans Qi;have f0:w'.frozen? ⟨w.heap.size,0,none⟩=false:=(hf _ _ Qe).trans Qi;have c1:w'.cell? ⟨w.heap.size,1,none⟩=some (.int .i64 ad):=(hc _ _ Qe).trans Qi;have f1:w'.frozen? ⟨w.heap.size,1,none⟩=false:=(hf _ _ Qe).trans Qi;have c2:w'.cell? ⟨w.heap.size+1,0,none⟩=some (.int .i64 bn):=(hc _ _ Qe).trans Qi;have f2:w'.frozen? ⟨w.heap.size+1,0,none⟩=false:=(hf _ _ Qe).trans Qi;have c3:w'.cell? ⟨w.heap.size+1,1,none⟩=some (.int .i64 bd):=(hc _ _ Qe).trans Qi;have f3:w'.frozen? ⟨w.heap.size+1,1,none⟩=false:=(hf _ _ Qe).trans Qi;have k0:w'.cell? ⟨0,0,none⟩=some (.int .i64 0):=(hc _ _ Qe).trans Qi;have k1:w'.cell? ⟨0,1,none⟩=some (.int .i64 1):=(hc _ _ Qe).trans Qi;have hz:w.heap.size+1 < w'.heap.size:=(by have hs:=hbb.size;first|omega|(simp at hs;done)|(simp at hs;omega));have hbA:Below w.heap.size w w':=Below.trans (b:=_) (by repeat (first|with_reducible exact Below.refl _ _|with_reducible assumption|with_reducible refine zc ?_ _|(with_reducible refine Below.setCell ?_ Qf _)|(with_reducible refine Below.alloc ?_ Qd _))) (hbb.mono Qe);clear hc hf hbb
  go_wp2_with fail
  refine (zck _ _ _).mono ?_
  rintro e w' ⟨rfl,hbb⟩
  obtain ⟨hc,hf⟩:=zch hbb
  have c0:w'.cell? ⟨w.heap.size,0,none⟩=some (.int .i64 0):=(hc _ _ Qe).trans Qi;have f0:w'.frozen? ⟨w.heap.size,0,none⟩=false:=(hf _ _ Qe).trans Qi;have c1:w'.cell? ⟨w.heap.size,1,none⟩=some (.int .i64 1):=(hc _ _ Qe).trans Qi;have f1:w'.frozen? ⟨w.heap.size,1,none⟩=false:=(hf _ _ Qe).trans Qi;have c2:w'.cell? ⟨w.heap.size+1,0,none⟩=some (.int .i64 bn):=(hc _ _ Qe).trans Qi;have f2:w'.frozen? ⟨w.heap.size+1,0,none⟩=false:=(hf _ _ Qe).trans Qi;have c3:w'.cell? ⟨w.heap.size+1,1,none⟩=some (.int .i64 bd):=(hc _ _ Qe).trans Qi;have f3:w'.frozen? ⟨w.heap.size+1,1,none⟩=false:=(hf _ _ Qe).trans Qi;have k0:w'.cell? ⟨0,0,none⟩=some (.int .i64 0):=(hc _ _ Qe).trans Qi;have k1:w'.cell? ⟨0,1,none⟩=some (.int .i64 1):=(hc _ _ Qe).trans Qi;have hz:w.heap.size+1 < w'.heap.size:=(by have hs:=hbb.size;first|omega|(simp at hs;done)|(simp at hs;omega));have hbA:Below w.heap.size w w':=Below.trans (b:=_) (by repeat (first|with_reducible exact Below.refl _ _|with_reducible assumption|with_reducible refine zc ?_ _|(with_reducible refine Below.setCell ?_ Qf _)|(with_reducible refine Below.alloc ?_ Qd _))) (hbb.mono Qe);clear hc hf hbb
  go_wp2_with fail
  refine za2 (zh w 0 1 bn bd) ⟨(by repeat (first|with_reducible exact Below.refl _ _|with_reducible assumption|with_reducible refine zc ?_ _|(with_reducible refine Below.setCell ?_ Qf _)|(with_reducible refine Below.alloc ?_ Qd _))),by first|(go_simp;done)|(simp;omega),by go_simp,by go_simp,by go_simp,by go_simp⟩ ?_
  clear c0 c1 c2 c3 f0 f1 f2 f3 k0 k1 hz hbA
  intro V hV
  have hV2:=hSt.out V hV
  clear hV hSt hA hB hC hD ha hb
  have J1:IntKind.i64.wrap (-C) = -C:=IntWalk.i64_in _ ⟨by omega,by omega⟩
  go_region_held3 (fun V=>V.cell? ⟨w.heap.size,0,none⟩=some (.int .i64 A)∧V.cell? ⟨w.heap.size,1,none⟩=some (.int .i64 B)∧V.cell? ⟨w.heap.size+1,0,none⟩=some (.int .i64 C)∧V.cell? ⟨w.heap.size+1,1,none⟩=some (.int .i64 D)∧zh w A B C D V) (first|exact (zh.drew hV2).conj|exact zh.conj (by assumption)) (first|(go_at_call 192;refine (zen _ _ _ ⟨by omega,by omega⟩ ⟨by omega,by omega⟩).mono ?_;rintro e w' ⟨h,l,rfl,HW,hbb⟩;have hst:=zh.step (‹_∧_∧_∧_∧zh _ _ _ _ _ _›.2.2.2.2) hbb)|(go_at_call 193;refine Calls.mono (zhd (m1:=?ma) (m2:=?mb) _ _ _ _ _ _ _ (W1:=?wa) (W2:=?wb) ?wc) ?_;(case wa=>assumption);(case wb=>assumption);(case wc=>exact Nat.lt_of_le_of_lt (Nat.add_le_add M1 M2) Qj);rintro e w' ⟨h,l,rfl,HP,hbb⟩;have hst:=zh.step (‹_∧_∧_∧_∧zh _ _ _ _ _ _›.2.2.2.2) hbb)|(go_at_call 194;refine Calls.mono (zg2 _ _ _ ?md _ ?wd) ?_;(case wd=>assumption);rintro e w' ⟨rfl,hbb⟩;have hst:=zh.step (‹_∧_∧_∧_∧zh _ _ _ _ _ _›.2.2.2.2) hbb))
  all_goals go_wp2_with fail
  all_goals go_ret
  all_goals refine ⟨zm ?_,(‹_∧_∧_∧_∧zh _ _ _ _ _ _›.2.2.2.2).1⟩
  all_goals rw [HR.out,zij,zhh,zdq,zc5]
  all_goals (congr 1;rw [Int.neg_mul];omega)
 ·have hSt:Hid (∀ V,zh w an ad 0 1 V→zh w A B C D V):=by
   intro V hV
   rw [←hA.out,←hB.out,←hC.out,←hD.out,(zbs ha).1,(zbs ha).2,(zc9 hb).1,(zc9 hb).2]
   exact hV
  go_enter Tryz.func145,Tryz.ntmps145
  go_wp2_with fail
  refine (zck _ _ _).mono ?_
  rintro e w' ⟨rfl,hbb⟩
  obtain ⟨hc,hf⟩:=zch hbb
  have c0:w'.cell? ⟨w.heap.size,0,none⟩=some (.int .i64 an):=(hc _ _ Qe).trans Qi;have f0:w'.frozen? ⟨w.heap.size,0,none⟩=false:=(hf _ _ Qe).trans Qi;have c1:w'.cell? ⟨w.heap.size,1,none⟩=some (.int .i64 ad):=(hc _ _ Qe).trans Qi;have f1:w'.frozen? ⟨w.heap.size,1,none⟩=false:=(hf _ _ Qe).trans Qi;have c2:w'.cell? ⟨w.heap.size+1,0,none⟩=some (.int .i64 bn):=(hc _ _ Qe).trans Qi;have f2:w'.frozen? ⟨w.heap.size+1,0,none⟩=false:=(hf _ _ Qe).trans Qi;have c3:w'.cell? ⟨w.heap.size+1,1,none⟩=some (.int .i64 bd):=(hc _ _ Qe).trans Qi;have f3:w'.frozen? ⟨w.heap.size+1,1,none⟩=false:=(hf _ _ Qe).trans Qi;have k0:w'.cell? ⟨0,0,none⟩=some (.int .i64 0):=(hc _ _ Qe).trans Qi;have k1:w'.cell? ⟨0,1,none⟩=some (.int .i64 1):=(hc _ _ Qe).trans Qi;have hz:w.heap.size+1 < w'.heap.size:=(by have hs:=hbb.size;first|omega|(simp at hs;done)|(simp at hs;omega));have hbA:Below w.heap.size w w':=Below.trans (b:=_) (by repeat (first|with_reducible exact Below.refl _ _|with_reducible assumption|with_reducible refine zc ?_ _|(with_reducible refine Below.setCell ?_ Qf _)|(with_reducible refine Below.alloc ?_ Qd _))) (hbb.mono Qe);clear hc hf hbb
  go_wp2_with fail
  refine (zck _ _ _).mono ?_
  rintro e w' ⟨rfl,hbb⟩
  obtain ⟨hc,hf⟩:=zch hbb
  have c0:w'.cell? ⟨w.heap.size,0,none⟩=some (.int .i64 an):=(hc _ _ Qe).trans Qi;have f0:w'.frozen? ⟨w.heap.size,0,none⟩=false:=(hf _ _ Qe).trans Qi;have c1:w'.cell? ⟨w.heap.size,1,none⟩=some (.int .i64 ad):=(hc _ _ Qe).trans Qi;have f1:w'.frozen? ⟨w.heap.size,1,none⟩=false:=(hf _ _ Qe).trans Qi;have c2:w'.cell? ⟨w.heap.size+1,0,none⟩=some (.int .i64 bn):=(hc _ _ Qe).trans Qi;have f2:w'.frozen? ⟨w.heap.size+1,0,none⟩=false:=(hf _ _ Qe).trans Qi;have c3:w'.cell? ⟨w.heap.size+1,1,none⟩=some (.int .i64 bd):=(hc _ _ Qe).trans Qi;have f3:w'.frozen? ⟨w.heap.size+1,1,none⟩=false:=(hf _ _ Qe).trans Qi;have k0:w'.cell? ⟨0,0,none⟩=some (.int .i64 0):=(hc _ _ Qe).trans Qi;have k1:w'.cell? ⟨0,1,none⟩=some (.int .i64 1):=(hc _ _ Qe).trans Qi;have hz:w.heap.size+1 < w'.heap.size:=(by have hs:=hbb.size;first|omega|(simp at hs;done)|(simp at hs;omega));have hbA:Below w.heap.size w w':=Below.trans (b:=_) (by repeat (first|with_reducible exact Below.refl _ _|with_reducible assumption|with_reducible refine zc ?_ _|(with_reducible refine Below.setCell ?_ Qf _)|(with_reducible refine Below.alloc ?_ Qd _))) (hbb.mono Qe);clear hc hf hbb
  go_wp2_with fail
  refine za2 (zh w an ad 0 1) ⟨(by repeat (first|with_reducible exact Below.refl _ _|with_reducible assumption|with_reducible refine zc ?_ _|(with_reducible refine Below.setCell ?_ Qf _)|(with_reducible refine Below.alloc ?_ Qd _))),by first|(go_simp;done)|(simp;omega),by go_simp,by go_simp,by go_simp,by go_simp⟩ ?_
  clear c0 c1 c2 c3 f0 f1 f2 f3 k0 k1 hz hbA
  intro V hV
  have hV2:=hSt.out V hV
  clear hV hSt hA hB hC hD ha hb
  have J1:IntKind.i64.wrap (-C) = -C:=IntWalk.i64_in _ ⟨by omega,by omega⟩
  go_region_held3 (fun V=>V.cell? ⟨w.heap.size,0,none⟩=some (.int .i64 A)∧V.cell? ⟨w.heap.size,1,none⟩=some (.int .i64 B)∧V.cell? ⟨w.heap.size+1,0,none⟩=some (.int .i64 C)∧V.cell? ⟨w.heap.size+1,1,none⟩=some (.int .i64 D)∧zh w A B C D V) (first|exact (zh.drew hV2).conj|exact zh.conj (by assumption)) (first|(go_at_call 192;refine (zen _ _ _ ⟨by omega,by omega⟩ ⟨by omega,by omega⟩).mono ?_;rintro e w' ⟨h,l,rfl,HW,hbb⟩;have hst:=zh.step (‹_∧_∧_∧_∧zh _ _ _ _ _ _›.2.2.2.2) hbb)|(go_at_call 193;refine Calls.mono (zhd (m1:=?ma) (m2:=?mb) _ _ _ _ _ _ _ (W1:=?wa) (W2:=?wb) ?wc) ?_;(case wa=>assumption);(case wb=>assumption);(case wc=>exact Nat.lt_of_le_of_lt (Nat.add_le_add M1 M2) Qj);rintro e w' ⟨h,l,rfl,HP,hbb⟩;have hst:=zh.step (‹_∧_∧_∧_∧zh _ _ _ _ _ _›.2.2.2.2) hbb)|(go_at_call 194;refine Calls.mono (zg2 _ _ _ ?md _ ?wd) ?_;(case wd=>assumption);rintro e w' ⟨rfl,hbb⟩;have hst:=zh.step (‹_∧_∧_∧_∧zh _ _ _ _ _ _›.2.2.2.2) hbb))
  all_goals go_wp2_with fail
  all_goals go_ret
  all_goals refine ⟨zm ?_,(‹_∧_∧_∧_∧zh _ _ _ _ _ _›.2.2.2.2).1⟩
  all_goals rw [HR.out,zij,zhh,zdq,zc5]
  all_goals (congr 1;rw [Int.neg_mul];omega)
 ·have hSt:Hid (∀ V,zh w an ad bn bd V→zh w A B C D V):=by
   intro V hV
   rw [←hA.out,←hB.out,←hC.out,←hD.out,(zbs ha).1,(zbs ha).2,(zbs hb).1,(zbs hb).2]
   exact hV
  go_enter Tryz.func145,Tryz.ntmps145
  go_wp2_with fail
  refine (zck _ _ _).mono ?_
  rintro e w' ⟨rfl,hbb⟩
  obtain ⟨hc,hf⟩:=zch hbb
  have c0:w'.cell? ⟨w.heap.size,0,none⟩=some (.int .i64 an):=(hc _ _ Qe).trans Qi;have f0:w'.frozen? ⟨w.heap.size,0,none⟩=false:=(hf _ _ Qe).trans Qi;have c1:w'.cell? ⟨w.heap.size,1,none⟩=some (.int .i64 ad):=(hc _ _ Qe).trans Qi;have f1:w'.frozen? ⟨w.heap.size,1,none⟩=false:=(hf _ _ Qe).trans Qi;have c2:w'.cell? ⟨w.heap.size+1,0,none⟩=some (.int .i64 bn):=(hc _ _ Qe).trans Qi;have f2:w'.frozen? ⟨w.heap.size+1,0,none⟩=false:=(hf _ _ Qe).trans Qi;have c3:w'.cell? ⟨w.heap.size+1,1,none⟩=some (.int .i64 bd):=(hc _ _ Qe).trans Qi;have f3:w'.frozen? ⟨w.heap.size+1,1,none⟩=false:=(hf _ _ Qe).trans Qi;have k0:w'.cell? ⟨0,0,none⟩=some (.int .i64 0):=(hc _ _ Qe).trans Qi;have k1:w'.cell? ⟨0,1,none⟩=some (.int .i64 1):=(hc _ _ Qe).trans Qi;have hz:w.heap.size+1 < w'.heap.size:=(by have hs:=hbb.size;first|omega|(simp at hs;done)|(simp at hs;omega));have hbA:Below w.heap.size w w':=Below.trans (b:=_) (by repeat (first|with_reducible exact Below.refl _ _|with_reducible assumption|with_reducible refine zc ?_ _|(with_reducible refine Below.setCell ?_ Qf _)|(with_reducible refine Below.alloc ?_ Qd _))) (hbb.mono Qe);clear hc hf hbb
  go_wp2_with fail
  refine (zck _ _ _).mono ?_
  rintro e w' ⟨rfl,hbb⟩
  obtain ⟨hc,hf⟩:=zch hbb
  have c0:w'.cell? ⟨w.heap.size,0,none⟩=some (.int .i64 an):=(hc _ _ Qe).trans Qi;have f0:w'.frozen? ⟨w.heap.size,0,none⟩=false:=(hf _ _ Qe).trans Qi;have c1:w'.cell? ⟨w.heap.size,1,none⟩=some (.int .i64 ad):=(hc _ _ Qe).trans Qi;have f1:w'.frozen? ⟨w.heap.size,1,none⟩=false:=(hf _ _ Qe).trans Qi;have c2:w'.cell? ⟨w.heap.size+1,0,none⟩=some (.int .i64 bn):=(hc _ _ Qe).trans Qi;have f2:w'.frozen? ⟨w.heap.size+1,0,none⟩=false:=(hf _ _ Qe).trans Qi;have c3:w'.cell? ⟨w.heap.size+1,1,none⟩=some (.int .i64 bd):=(hc _ _ Qe).trans Qi;have f3:w'.frozen? ⟨w.heap.size+1,1,none⟩=false:=(hf _ _ Qe).trans Qi;have k0:w'.cell? ⟨0,0,none⟩=some (.int .i64 0):=(hc _ _ Qe).trans Qi;have k1:w'.cell? ⟨0,1,none⟩=some (.int .i64 1):=(hc _ _ Qe).trans Qi;have hz:w.heap.size+1 < w'.heap.size:=(by have hs:=hbb.size;first|omega|(simp at hs;done)|(simp at hs;omega));have hbA:Below w.heap.size w w':=Below.trans (b:=_) (by repeat (first|with_reducible exact Below.refl _ _|with_reducible assumption|with_reducible refine zc ?_ _|(with_reducible refine Below.setCell ?_ Qf _)|(with_reducible refine Below.alloc ?_ Qd _))) (hbb.mono Qe);clear hc hf hbb
  go_wp2_with fail
  refine za2 (zh w an ad bn bd) ⟨(by repeat (first|with_reducible exact Below.refl _ _|with_reducible assumption|with_reducible refine zc ?_ _|(with_reducible refine Below.setCell ?_ Qf _)|(with_reducible refine Below.alloc ?_ Qd _))),by first|(go_simp;done)|(simp;omega),by go_simp,by go_simp,by go_simp,by go_simp⟩ ?_
  clear c0 c1 c2 c3 f0 f1 f2 f3 k0 k1 hz hbA
  intro V hV
  have hV2:=hSt.out V hV
  clear hV hSt hA hB hC hD ha hb
  have J1:IntKind.i64.wrap (-C) = -C:=IntWalk.i64_in _ ⟨by omega,by omega⟩
  go_region_held3 (fun V=>V.cell? ⟨w.heap.size,0,none⟩=some (.int .i64 A)∧V.cell? ⟨w.heap.size,1,none⟩=some (.int .i64 B)∧V.cell? ⟨w.heap.size+1,0,none⟩=some (.int .i64 C)∧V.cell? ⟨w.heap.size+1,1,none⟩=some (.int .i64 D)∧zh w A B C D V) (first|exact (zh.drew hV2).conj|exact zh.conj (by assumption)) (first|(go_at_call 192;refine (zen _ _ _ ⟨by omega,by omega⟩ ⟨by omega,by omega⟩).mono ?_;rintro e w' ⟨h,l,rfl,HW,hbb⟩;have hst:=zh.step (‹_∧_∧_∧_∧zh _ _ _ _ _ _›.2.2.2.2) hbb)|(go_at_call 193;refine Calls.mono (zhd (m1:=?ma) (m2:=?mb) _ _ _ _ _ _ _ (W1:=?wa) (W2:=?wb) ?wc) ?_;(case wa=>assumption);(case wb=>assumption);(case wc=>exact Nat.lt_of_le_of_lt (Nat.add_le_add M1 M2) Qj);rintro e w' ⟨h,l,rfl,HP,hbb⟩;have hst:=zh.step (‹_∧_∧_∧_∧zh _ _ _ _ _ _›.2.2.2.2) hbb)|(go_at_call 194;refine Calls.mono (zg2 _ _ _ ?md _ ?wd) ?_;(case wd=>assumption);rintro e w' ⟨rfl,hbb⟩;have hst:=zh.step (‹_∧_∧_∧_∧zh _ _ _ _ _ _›.2.2.2.2) hbb))
  all_goals go_wp2_with fail
  all_goals go_ret
  all_goals refine ⟨zm ?_,(‹_∧_∧_∧_∧zh _ _ _ _ _ _›.2.2.2.2).1⟩
  all_goals rw [HR.out,zij,zhh,zdq,zc5]
  all_goals (congr 1;rw [Int.neg_mul];omega)
theorem zq.ext {w w':World} (h:zq w) (e:Ext w w'):zq w':=h.below e
theorem zi0 (v:Val) (A:Option Addr) (c:Nat) (w:World):Calls Tryz.prog 143 #[.agg #[.int .i64 v.kind, .int .i64 v.n, .int .i64 v.d, .string v.s, .slice A v.l.length c]] w fun e w'=>e= .returned (.int .i64 (cls v.kind))∧Ext w w':=by
 by_cases h3:v.kind=3
 ·have HF:=Lib.hid (show cls v.kind=2 by unfold cls;rw [if_pos h3])
  go_enter Tryz.func143,Tryz.ntmps143
  go_wp2
  go_ret
  exact ⟨zai HF.out.symm,(Ext.refl _).alloc _⟩
 ·by_cases h7:v.kind=7
  ·have HF:=Lib.hid (show cls v.kind=9 by unfold cls;rw [if_neg h3,if_pos h7])
   go_enter Tryz.func143,Tryz.ntmps143
   go_wp2
   go_ret
   exact ⟨zai HF.out.symm,(Ext.refl _).alloc _⟩
  ·have HF:=Lib.hid (show cls v.kind=v.kind by unfold cls;rw [if_neg h3,if_neg h7])
   go_enter Tryz.func143,Tryz.ntmps143
   go_wp2
   go_ret
   exact ⟨zai HF.out.symm,(Ext.refl _).alloc _⟩
theorem zpn (v:Val) (ok:Nat→Prop) (A:Option Addr) (c:Nat) (w:World) (hv:zk w ok A v.l) (hV:zab v=true) (hk:v.kind=2∨v.kind=3) :
  Calls Tryz.prog 144 #[.agg #[.int .i64 v.kind, .int .i64 v.n, .int .i64 v.d, .string v.s, .slice A v.l.length c]] w fun e w'=>e= .returned (.tuple #[.agg #[.int .i64 v.n, .int .i64 (dnV v.kind v.d)], .bool true])∧Ext w w':=by
 obtain ⟨g,w1,hg,hw1,⟨c0,c1,c2,c3,c4⟩,hx,-⟩:=zc2 w v.kind v.n v.d v.s A v.l.length c 28
 have hz:g < w1.heap.size:=block_lt_of_cell c0
 obtain ⟨w2,hw2,hx2⟩:∃ w2,w2=w1.alloc (.cells #[.int .i64 0, .int .i64 0] 116)∧Ext w1 w2:=⟨_,rfl,(Ext.refl _).alloc _⟩
 have C:=ziy v ok A c w2 (hv.ext (hx.trans hx2))
 rw [hV] at C
 have HC:=Lib.hid C
 have HB:=Lib.hid (show w2.heap[w1.heap.size]? = some (.cells #[.int .i64 0, .int .i64 0] 116) by rw [hw2];exact heap_alloc_new _ _)
 obtain ⟨g2,hg2⟩:∃ g2,g2=w1.heap.size:=⟨_,rfl⟩
 rw [←hg2] at HB
 have hle:w1.heap.size≤g2:=by omega
 have HW1:=Lib.hid hw1
 have HW2:=Lib.hid hw2
 have HG:=Lib.hid hg
 have HG2:=Lib.hid (show g2=w.heap.size+1 by rw [hg2,hw1];go_simp)
 replace c0:=hx2.cell c0
 replace c1:=hx2.cell c1
 replace c2:=hx2.cell c2
 replace c3:=hx2.cell c3
 replace c4:=hx2.cell c4
 clear hw1 hw2 hg hv hV C hg2
 go_enter Tryz.func144,Tryz.ntmps144
 go_upto_region 1 with (fail)
 rw [←HW1.out,←HW2.out,←HG2.out,←HG.out]
 clear HW1 HG HW2 HG2
 have Hc0:=Lib.hid c0
 have Hc1:=Lib.hid c1
 have Hc2:=Lib.hid c2
 rcases hk with hk|hk
 ·rw [hk] at c0
  have hC0:=HC.out
  rw [hk] at hC0
  replace HC:=Lib.hid hC0
  clear hC0
  have HD:=Lib.hid (show dnV v.kind v.d=1 by unfold dnV;rw [hk];rfl)
  clear hk Hc0
  go_wp2_with fail
  refine (HC.out).mono ?_
  rintro e w3 ⟨rfl,hE⟩
  have hb1:=hE.heap HB.out
  replace c0:=hE.cell c0
  replace c1:=hE.cell c1
  replace c2:=hE.cell c2
  have f0:w3.frozen? ⟨g2,0,none⟩=false:=by simp [World.frozen?,hb1]
  have f1:w3.frozen? ⟨g2,1,none⟩=false:=by simp [World.frozen?,hb1]
  have e0:w3.cell? ⟨g2,0,none⟩=some (.int .i64 0):=by rw [cell_of_row w3 g2 0 _ _ _ hb1];rfl
  have e1:w3.cell? ⟨g2,1,none⟩=some (.int .i64 0):=by rw [cell_of_row w3 g2 1 _ _ _ hb1];rfl
  clear hb1 HB HC c3 c4 Hc1 Hc2
  go_wp2_with fail
  rw [HD.out]
  have hle2:w.heap.size≤g2:=Nat.le_trans hx.le hle
  exact bodyPost_ret (v:= .tuple #[.agg #[.int .i64 v.n, .int .i64 1], .bool true]) (by simp [results,Tryz.results144,go_sem,e0,e1]) rfl ⟨rfl,(hx.trans (hx2.trans hE)).setCell hle2 _ |>.setCell hle2 _⟩
 ·rw [hk] at c0
  have hC0:=HC.out
  rw [hk] at hC0
  replace HC:=Lib.hid hC0
  clear hC0
  have HD:=Lib.hid (show dnV v.kind v.d=v.d by unfold dnV;rw [hk];rfl)
  clear hk Hc0
  go_wp2_with fail
  refine (HC.out).mono ?_
  rintro e w3 ⟨rfl,hE⟩
  have hb1:=hE.heap HB.out
  replace c0:=hE.cell c0
  replace c1:=hE.cell c1
  replace c2:=hE.cell c2
  have f0:w3.frozen? ⟨g2,0,none⟩=false:=by simp [World.frozen?,hb1]
  have f1:w3.frozen? ⟨g2,1,none⟩=false:=by simp [World.frozen?,hb1]
  have e0:w3.cell? ⟨g2,0,none⟩=some (.int .i64 0):=by rw [cell_of_row w3 g2 0 _ _ _ hb1];rfl
  have e1:w3.cell? ⟨g2,1,none⟩=some (.int .i64 0):=by rw [cell_of_row w3 g2 1 _ _ _ hb1];rfl
  clear hb1 HB HC c3 c4 Hc1 Hc2
  go_wp2_with fail
  rw [HD.out]
  have hle2:w.heap.size≤g2:=Nat.le_trans hx.le hle
  exact bodyPost_ret (v:= .tuple #[.agg #[.int .i64 v.n, .int .i64 v.d], .bool true]) (by simp [results,Tryz.results144,go_sem,e0,e1]) rfl ⟨rfl,(hx.trans (hx2.trans hE)).setCell hle2 _ |>.setCell hle2 _⟩
theorem ziv (w:World) (a b:Val) (A B:Option Addr) (c d:Nat) (t:TypeId):∃ (g1 g2:Nat) (w2:World),g1=w.heap.size∧g2=w.heap.size+1∧w2=(w.alloc (.cells #[.int .i64 a.kind, .int .i64 a.n, .int .i64 a.d, .string a.s, .slice A a.l.length c] t)).alloc (.cells #[.int .i64 b.kind, .int .i64 b.n, .int .i64 b.d, .string b.s, .slice B b.l.length d] t)∧V5 w2 g1 0 a A c∧V5 w2 g2 0 b B d∧Ext w w2∧w.heap.size≤g1∧w.heap.size≤g2∧g1 < w2.heap.size∧g2 < w2.heap.size:=by
 obtain ⟨g1,w1,hg1,hw1,h1,hx1,hl1⟩:=zbt w a A c t
 obtain ⟨g2,w2,hg2,hw2,h2,hx2,hl2⟩:=zbt w1 b B d t
 exact ⟨g1,g2,w2,hg1,by rw [hg2,hw1];go_simp,by rw [hw2,hw1],h1.ext hx2,h2,hx1.trans hx2,hl1,Nat.le_trans hx1.le hl2,block_lt_of_cell (h1.ext hx2).1,block_lt_of_cell h2.1⟩
theorem ztx (w:World) (x y:Int) (t:TypeId):∃ (g:Nat) (w1:World),g=w.heap.size∧w1=w.alloc (.cells #[.int .i64 x, .int .i64 y] t)∧w1.cell? ⟨g,0,none⟩=some (.int .i64 x)∧w1.cell? ⟨g,1,none⟩=some (.int .i64 y)∧Ext w w1∧w.heap.size≤g :=
 ⟨_,_,rfl,rfl,by go_simp,by go_simp,(Ext.refl _).alloc _,Nat.le_refl _⟩
theorem zwg {n d n' d':Int} (h:zam n d=true) (h':zam n' d'=true):zmq n d n' d'=zgj n d n' d':=by
 unfold zmq zgj
 rw [(zbs h).1,(zbs h).2,(zbs h').1,(zbs h').2]
 unfold sgn Lib.compareInt
 repeat' split
 all_goals omega
theorem zz1 (a b:List Val) (ok ok':Nat→Prop) (A B:Option Addr) (c d:Nat) (w:World) (hz:zq w) (ha:zk w ok A a) (hb:zk w ok' B b) (hq:(∀ x ∈ a,zab x=true)∧(∀ y ∈ b,zab y=true))
  (hf:∀ x ∈ a,∀ y ∈ b,∀ (Ax By:Option Addr) (cx dy:Nat) (W:World),zq W→zk W ok Ax x.l→zk W ok' By y.l→zab x=true→zab y=true→Calls Tryz.prog 104 #[.agg #[.int .i64 x.kind, .int .i64 x.n, .int .i64 x.d, .string x.s, .slice Ax x.l.length cx], .agg #[.int .i64 y.kind, .int .i64 y.n, .int .i64 y.d, .string y.s, .slice By y.l.length dy]] W fun e W'=>e= .returned (.int .i64 (zbw x y))∧Ext W W') :
  Calls Tryz.prog 107 #[.slice A a.length c, .slice B b.length d, .func (.func 104) #[] #[]] w fun e w'=>e= .returned (.int .i64 (zas a b))∧Ext w w':=by
 have hma:=ha.len
 have hmb:=hb.len
 have HZ:=Lib.hid hz
 have HA:=Lib.hid ha
 have HB:=Lib.hid hb
 have HF:=Lib.hid hf
 have HQ:=Lib.hid hq
 obtain ⟨R,hR⟩:∃ R,R=zas a b:=⟨_,rfl⟩
 rw [←hR]
 have HR:=Lib.hid (show R=zas (a.drop 0) (b.drop 0) from hR)
 clear hz ha hb hf hR hq
 go_enter Tryz.func107,Tryz.ntmps107
 go_wp2
 go_loopw [13] (fun u W => ∃ k:Nat,u= .int .i64 k∧k≤a.length∧k≤b.length∧Hid (R=zas (a.drop k) (b.drop k))∧Ext w W) (fun u _=>a.length - (intOf u).toNat)
 case atStart=>exact ⟨0,rfl,Nat.zero_le _,Nat.zero_le _,HR,Ext.refl _⟩
 case round =>
  obtain ⟨k,rfl,hk,hkb,hS,hE⟩:=hrel
  by_cases hlt:k < a.length
  ·obtain ⟨ba,oa,rfl,hca⟩:=HA.out.2 Qk
   obtain ⟨-,A',c',h5,-,hv'⟩:=zx.iff.1 (hca k hlt)
   obtain ⟨d0,d1,d2,d3,d4⟩:=h5.ext hE
   obtain ⟨g,w1,hg,hw1,h6,hx,-⟩:=zbt wr a[k] A' c' 28
   have HW1:=Lib.hid hw1
   have HG:=Lib.hid hg
   have HVx:=Lib.hid (hv'.ext hE)
   clear hw1 hg hca h5 hv'
   by_cases hltb:k < b.length
   ·obtain ⟨bb,ob,rfl,hcb⟩:=HB.out.2 Qk
    obtain ⟨-,B',d',h5,-,hv'⟩:=zx.iff.1 (hcb k hltb)
    obtain ⟨e0,e1,e2,e3,e4⟩:=h5.ext (hE.trans hx)
    obtain ⟨g2,w2,hg2,hw2,h7,hx2,-⟩:=zbt w1 b[k] B' d' 28
    have HW2:=Lib.hid hw2
    have HG2:=Lib.hid hg2
    have HC:=Lib.hid (HF.out a[k] (List.getElem_mem hlt) b[k] (List.getElem_mem hltb) A' B' c' d' w2 (HZ.out.ext (hE.trans (hx.trans hx2))) (HVx.out.ext (hx.trans hx2)) (hv'.ext (hE.trans (hx.trans hx2))) (HQ.out.1 _ (List.getElem_mem hlt)) (HQ.out.2 _ (List.getElem_mem hltb)))
    have HD:=Lib.hid (show zas (a.drop k) (b.drop k)=zaz (zbw a[k] b[k]) (zas (a.drop (k+1)) (b.drop (k+1))) by rw [List.drop_eq_getElem_cons hlt,List.drop_eq_getElem_cons hltb,zas])
    obtain ⟨p0,p1,p2,p3,p4⟩:=h6.ext hx2
    obtain ⟨q0,q1,q2,q3,q4⟩:=h7
    clear hw2 hg2 hcb h5 hv' h6
    generalize a[k]=x at *
    generalize b[k]=y at *
    generalize zbw x y=z at HC HD
    go_upto_region 4 with (fail)
    rw [←HW1.out,←HG.out]
    clear HW1 HG d0 d1 d2 d3 d4
    go_upto_region 7 with (fail)
    rw [←HW2.out,←HG2.out]
    clear HW2 HG2 e0 e1 e2 e3 e4
    by_cases hz0:z=0
    ·have HT:=Lib.hid (show R=zas (a.drop (k+1)) (b.drop (k+1)) by rw [hS.out,HD.out,hz0];rfl)
     subst hz0
     go_wp2_with (go_at_call 104;((with_reducible refine (HC.out).mono ?_);rintro e w' ⟨rfl,hb⟩;have hb':Ext w2 w':=hb))
     go_roundw
     case rel=>exact ⟨k+1,by go_num,by omega,by omega,HT,hE.trans (hx.trans (hx2.trans hb'))⟩
     case measure=>simp [intOf];omega
    ·have HT:=Lib.hid (show R=z by rw [hS.out,HD.out,za4 hz0])
     have hz':(z != 0)=true:=by simpa using hz0
     clear hz0
     go_wp2_with (go_at_call 104;((with_reducible refine (HC.out).mono ?_);rintro e w' ⟨rfl,hb⟩;have hb':Ext w2 w':=hb))
     go_ret
     exact ⟨zai HT.out.symm,hE.trans (hx.trans (hx2.trans hb'))⟩
   ·have HT:=Lib.hid (show R=1 by rw [hS.out,List.drop_eq_getElem_cons hlt,List.drop_of_length_le (by omega:b.length≤k),zas])
    have hkb':b.length≤k:=by omega
    generalize a[k]=x at *
    go_upto_region 4 with (fail)
    rw [←HW1.out,←HG.out]
    clear HW1 HG d0 d1 d2 d3 d4 h6
    go_wp2
    go_ret
    exact ⟨zai HT.out.symm,hE.trans hx⟩
  ·have hk':k=a.length:=by omega
   by_cases hl:a.length < b.length
   ·have HT:=Lib.hid (show R = -1 by rw [hS.out,hk',List.drop_length,List.drop_eq_getElem_cons hl,zas])
    go_wp2
    go_ret
    exact ⟨zai HT.out.symm,hE⟩
   ·have HT:=Lib.hid (show R=0 by rw [hS.out,hk',List.drop_length,List.drop_of_length_le Qk,zas])
    go_wp2
    go_ret
    exact ⟨zai HT.out.symm,hE⟩
theorem zp9 (a b:Val) (ok ok':Nat→Prop) (A B:Option Addr) (c d:Nat) (w:World) (hz:zq w) (ha:zk w ok A a.l) (hb:zk w ok' B b.l) (hva:zab a=true) (hvb:zab b=true)
  (ih:∀ x ∈ a.l,∀ y ∈ b.l,∀ (Ax By:Option Addr) (cx dy:Nat) (W:World),zq W→zk W ok Ax x.l→zk W ok' By y.l→zab x=true→zab y=true→Calls Tryz.prog 104 #[.agg #[.int .i64 x.kind, .int .i64 x.n, .int .i64 x.d, .string x.s, .slice Ax x.l.length cx], .agg #[.int .i64 y.kind, .int .i64 y.n, .int .i64 y.d, .string y.s, .slice By y.l.length dy]] W fun e W'=>e= .returned (.int .i64 (zbw x y))∧Ext W W') :
  Calls Tryz.prog 104 #[.agg #[.int .i64 a.kind, .int .i64 a.n, .int .i64 a.d, .string a.s, .slice A a.l.length c], .agg #[.int .i64 b.kind, .int .i64 b.n, .int .i64 b.d, .string b.s, .slice B b.l.length d]] w fun e w'=>e= .returned (.int .i64 (zbw a b))∧Ext w w':=by
 have HO:=Lib.hid (show zbw a b=zaz (Lib.compareInt (cls a.kind) (cls b.kind)) (if cls a.kind=2 then zgj a.n (dnV a.kind a.d) b.n (dnV b.kind b.d) else zaz (zn a.s b.s) (zaz (Lib.compareInt a.n b.n) (zas a.l b.l))) by rw [zd9,if_pos hva,if_pos hvb];rfl)
 generalize zbw a b=o at HO ⊢
 have HVA:=Lib.hid hva
 have HVB:=Lib.hid hvb
 have HZ:=Lib.hid hz
 have HA:=Lib.hid ha
 have HB:=Lib.hid hb
 have HCF:=Lib.hid (fun W (e:Ext w W)=>zz1 a.l b.l ok ok' A B c d W (hz.ext e) (ha.ext e) (hb.ext e) ⟨fun x hx=>zks hva hx,fun y hy=>zks hvb hy⟩ ih)
 have hma:=ha.len
 have hmb:=hb.len
 clear hva hvb hz ha hb ih
 obtain ⟨g1,g2,w2,hg1,hg2,hw2,h1,h2,hx,-,-,hl1,hl2⟩:=ziv w a b A B c d 28
 have HG1:=Lib.hid hg1
 have HG2:=Lib.hid hg2
 have HW2:=Lib.hid hw2
 have MK:=Lib.hid (fun V (e:Ext w2 V)=>(⟨(h1.ext e).1,(h1.ext e).2.1,(h1.ext e).2.2.1,(h1.ext e).2.2.2.1,(h1.ext e).2.2.2.2,(h2.ext e).1,(h2.ext e).2.1,(h2.ext e).2.2.1,(h2.ext e).2.2.2.1,(h2.ext e).2.2.2.2,e⟩:V.cell? ⟨g1,0,none⟩=some (.int .i64 a.kind)∧V.cell? ⟨g1,1,none⟩=some (.int .i64 a.n)∧V.cell? ⟨g1,2,none⟩=some (.int .i64 a.d)∧V.cell? ⟨g1,3,none⟩=some (.string a.s)∧V.cell? ⟨g1,4,none⟩=some (.slice A a.l.length c)∧V.cell? ⟨g2,0,none⟩=some (.int .i64 b.kind)∧V.cell? ⟨g2,1,none⟩=some (.int .i64 b.n)∧V.cell? ⟨g2,2,none⟩=some (.int .i64 b.d)∧V.cell? ⟨g2,3,none⟩=some (.string b.s)∧V.cell? ⟨g2,4,none⟩=some (.slice B b.l.length d)∧Ext w2 V))
 clear hg1 hg2 hw2 h1 h2
 replace HCF:=Lib.hid (fun W (e:Ext w2 W)=>HCF.out W (hx.trans e))
 by_cases hcl:cls a.kind=cls b.kind
 ·have hcz:Lib.compareInt (cls a.kind) (cls b.kind)=0:=(zae.int.zero _ _).2 hcl
  have hcz':(Lib.compareInt (cls a.kind) (cls b.kind) != 0)=false:=by rw [hcz];rfl
  by_cases h2:cls a.kind=2
  ·have HO':=Lib.hid (show o=zgj a.n (dnV a.kind a.d) b.n (dnV b.kind b.d) by rw [HO.out,hcz,if_pos h2];rfl)
   have fa:=zax HVA.out
   have fb:=zax HVB.out
   have HQ:=Lib.hid (zwg (zdu fa h2) (zdu fb (hcl ▸ h2)))
   have HNA:=Lib.hid (fun W (e:Ext w2 W)=>zpn a ok A c W (HA.out.ext (hx.trans e)) HVA.out (zcu.1 h2))
   have HNB:=Lib.hid (fun W (e:Ext w2 W)=>zpn b ok' B d W (HB.out.ext (hx.trans e)) HVB.out (zcu.1 (hcl ▸ h2)))
   have h2':(cls a.kind == 2)=true:=by rw [h2];rfl
   clear fa fb hcz hcl h2 HVA HVB HO HCF HA HB
   generalize dnV a.kind a.d=da at *
   generalize dnV b.kind b.d=db at *
   go_enter Tryz.func104,Tryz.ntmps104
   go_upto_region 1 with (fail)
   rw [←HW2.out,←HG2.out,←HG1.out]
   clear HW2 HG2 HG1
   go_region_held3 (fun V=>V.cell? ⟨g1,0,none⟩=some (.int .i64 a.kind)∧V.cell? ⟨g1,1,none⟩=some (.int .i64 a.n)∧V.cell? ⟨g1,2,none⟩=some (.int .i64 a.d)∧V.cell? ⟨g1,3,none⟩=some (.string a.s)∧V.cell? ⟨g1,4,none⟩=some (.slice A a.l.length c)∧V.cell? ⟨g2,0,none⟩=some (.int .i64 b.kind)∧V.cell? ⟨g2,1,none⟩=some (.int .i64 b.n)∧V.cell? ⟨g2,2,none⟩=some (.int .i64 b.d)∧V.cell? ⟨g2,3,none⟩=some (.string b.s)∧V.cell? ⟨g2,4,none⟩=some (.slice B b.l.length d)∧Ext w2 V) ((exact MK.out _ Qg)) ((first|(go_at_call 143;refine (zi0 _ _ _ _).mono ?_;rintro e w' ⟨rfl,hb⟩;replace hb:Ext w2 w':=Ext.trans Qg hb)|(go_at_call 82;refine (zdi _ _ _).mono ?_;rintro e w' ⟨rfl,rfl⟩)))
   obtain ⟨a0,a1,a2,a3,a4,b0,b1,b2,b3,b4,hEw⟩ := ‹_∧_›
   go_wp2_with fail
   refine (zi0 a A c _).mono ?_
   rintro e w5 ⟨rfl,h5⟩
   have hE5:Ext w2 w5:=Ext.trans Qg h5
   clear a0 a1 a2 a3 a4 b0 b1 b2 b3 b4 hEw h5
   obtain ⟨a0,a1,a2,a3,a4,b0,b1,b2,b3,b4,-⟩:=MK.out w5 (hE5)
   go_wp2_with fail
   refine (HNA.out w5 hE5).mono ?_
   rintro e w6 ⟨rfl,h6⟩
   have hE6:Ext w2 w6:=Ext.trans hE5 h6
   obtain ⟨g6,w7,hg6,hw7,p0,p1,h7,-⟩:=ztx w6 a.n da 116
   have hE7:=hE6.trans h7
   have HG6:=Lib.hid hg6
   have HW7:=Lib.hid hw7
   clear a0 a1 a2 a3 a4 b0 b1 b2 b3 b4 h6 hg6 hw7 h7 hE5
   obtain ⟨a0,a1,a2,a3,a4,b0,b1,b2,b3,b4,-⟩:=MK.out w7 (hE7)
   go_upto_region 6 with (fail)
   rw [←HW7.out,←HG6.out]
   clear HW7 HG6
   go_wp2_with fail
   refine (HNB.out w7 hE7).mono ?_
   rintro e w8 ⟨rfl,h8⟩
   obtain ⟨g8,w9,hg8,hw9,q0,q1,h9,-⟩:=ztx w8 b.n db 116
   replace p0:=(h8.trans h9).cell p0
   replace p1:=(h8.trans h9).cell p1
   have hE9:=hE7.trans (h8.trans h9)
   have HG8:=Lib.hid hg8
   have HW9:=Lib.hid hw9
   clear a0 a1 a2 a3 a4 b0 b1 b2 b3 b4 hg8 hw9 h8 h9 hE6 hE7
   go_upto_region 7 with (fail)
   rw [←HW9.out,←HG8.out]
   clear HW9 HG8
   go_wp2_with fail
   refine (zw3 _ _ _ _ _ (HZ.out.ext (hx.trans hE9))).mono ?_
   rintro e w10 ⟨rfl,h10⟩
   have h10':Ext w9 w10:=h10
   go_wp2
   go_ret
   exact ⟨zai (HQ.out.trans HO'.out.symm),hx.trans (hE9.trans h10')⟩
  ·have HO':=Lib.hid (show o=orL [zn a.s b.s,Lib.compareInt a.n b.n,zas a.l b.l] by rw [HO.out,hcz,if_neg h2];unfold orL orL orL orL;rw [ztj];rfl)
   have h2':(cls a.kind == 2)=false:=by simpa using h2
   clear hcz hcl h2 HVA HVB HO HA HB HZ
   go_enter Tryz.func104,Tryz.ntmps104
   go_upto_region 1 with (fail)
   rw [←HW2.out,←HG2.out,←HG1.out]
   clear HW2 HG2 HG1
   go_region_held3 (fun V=>V.cell? ⟨g1,0,none⟩=some (.int .i64 a.kind)∧V.cell? ⟨g1,1,none⟩=some (.int .i64 a.n)∧V.cell? ⟨g1,2,none⟩=some (.int .i64 a.d)∧V.cell? ⟨g1,3,none⟩=some (.string a.s)∧V.cell? ⟨g1,4,none⟩=some (.slice A a.l.length c)∧V.cell? ⟨g2,0,none⟩=some (.int .i64 b.kind)∧V.cell? ⟨g2,1,none⟩=some (.int .i64 b.n)∧V.cell? ⟨g2,2,none⟩=some (.int .i64 b.d)∧V.cell? ⟨g2,3,none⟩=some (.string b.s)∧V.cell? ⟨g2,4,none⟩=some (.slice B b.l.length d)∧Ext w2 V) ((exact MK.out _ Qg)) ((first|(go_at_call 143;refine (zi0 _ _ _ _).mono ?_;rintro e w' ⟨rfl,hb⟩;replace hb:Ext w2 w':=Ext.trans Qg hb)|(go_at_call 82;refine (zdi _ _ _).mono ?_;rintro e w' ⟨rfl,rfl⟩)))
   obtain ⟨a0,a1,a2,a3,a4,b0,b1,b2,b3,b4,hEw⟩ := ‹_∧_›
   go_wp2_with fail
   refine (zi0 a A c _).mono ?_
   rintro e w5 ⟨rfl,h5⟩
   have hE5:Ext w2 w5:=Ext.trans Qg h5
   clear a0 a1 a2 a3 a4 b0 b1 b2 b3 b4 hEw h5
   go_wp2_with fail
   go_region_held3 (fun V=>V.cell? ⟨g1,0,none⟩=some (.int .i64 a.kind)∧V.cell? ⟨g1,1,none⟩=some (.int .i64 a.n)∧V.cell? ⟨g1,2,none⟩=some (.int .i64 a.d)∧V.cell? ⟨g1,3,none⟩=some (.string a.s)∧V.cell? ⟨g1,4,none⟩=some (.slice A a.l.length c)∧V.cell? ⟨g2,0,none⟩=some (.int .i64 b.kind)∧V.cell? ⟨g2,1,none⟩=some (.int .i64 b.n)∧V.cell? ⟨g2,2,none⟩=some (.int .i64 b.d)∧V.cell? ⟨g2,3,none⟩=some (.string b.s)∧V.cell? ⟨g2,4,none⟩=some (.slice B b.l.length d)∧Ext w2 V) ((exact MK.out _ Qg)) ((first|(go_at_call 82;refine (zdi _ _ _).mono ?_;rintro e w' ⟨rfl,rfl⟩)|(go_at_call 106;refine (zi9 _ _ _).mono ?_;rintro e w' ⟨rfl,rfl⟩)|(go_at_call 107;refine (HCF.out _ Qg).mono ?_;rintro e w' ⟨rfl,hb⟩;replace hb:Ext w2 w':=Ext.trans Qg hb)|(go_at_call 105;refine Calls.mono (zp0 _ [zn a.s b.s,Lib.compareInt a.n b.n,zas a.l b.l] _ (by simp) ?hcs) ?_;(case hcs=>(intro j hj;have hj6:j=0∨j=1∨j=2:=(by simp at hj;omega);rcases hj6 with rfl|rfl|rfl <;> (go_simp;done)));rintro e w' ⟨rfl,rfl⟩)))
   all_goals
    clear ‹_∧_›
    go_wp2
    go_ret
    exact ⟨zai HO'.out.symm,hx.trans Qg⟩
 ·have hcz:Lib.compareInt (cls a.kind) (cls b.kind) ≠ 0:=fun h=>hcl ((zae.int.zero _ _).1 h)
  have HO':=Lib.hid (show o=Lib.compareInt (cls a.kind) (cls b.kind) by rw [HO.out,za4 hcz])
  have hcz':(Lib.compareInt (cls a.kind) (cls b.kind) != 0)=true:=by simpa using hcz
  clear hcz hcl HO HCF
  go_enter Tryz.func104,Tryz.ntmps104
  go_upto_region 1 with (fail)
  rw [←HW2.out,←HG2.out,←HG1.out]
  clear HW2 HG2 HG1
  go_region_held3 (fun V=>V.cell? ⟨g1,0,none⟩=some (.int .i64 a.kind)∧V.cell? ⟨g1,1,none⟩=some (.int .i64 a.n)∧V.cell? ⟨g1,2,none⟩=some (.int .i64 a.d)∧V.cell? ⟨g1,3,none⟩=some (.string a.s)∧V.cell? ⟨g1,4,none⟩=some (.slice A a.l.length c)∧V.cell? ⟨g2,0,none⟩=some (.int .i64 b.kind)∧V.cell? ⟨g2,1,none⟩=some (.int .i64 b.n)∧V.cell? ⟨g2,2,none⟩=some (.int .i64 b.d)∧V.cell? ⟨g2,3,none⟩=some (.string b.s)∧V.cell? ⟨g2,4,none⟩=some (.slice B b.l.length d)∧Ext w2 V) ((exact MK.out _ Qg)) ((first|(go_at_call 143;refine (zi0 _ _ _ _).mono ?_;rintro e w' ⟨rfl,hb⟩;replace hb:Ext w2 w':=Ext.trans Qg hb)|(go_at_call 82;refine (zdi _ _ _).mono ?_;rintro e w' ⟨rfl,rfl⟩)))
  all_goals
   go_wp2
   go_ret
   exact ⟨zai HO'.out.symm,hx.trans Qg⟩
theorem zsc {x a:Val} {N:Nat} (h:x ∈ a.l) (hN:wtV a≤N+1):wtV x≤N:=by
 have:=znu h
 unfold wtV at hN ⊢
 unfold wtV at this
 omega
theorem zst:∀ (N:Nat) (a b:Val) (ok ok':Nat→Prop) (A B:Option Addr) (c d:Nat) (w:World),wtV a≤N→zq w→zk w ok A a.l→zk w ok' B b.l→zab a=true→zab b=true →
  Calls Tryz.prog 104 #[.agg #[.int .i64 a.kind, .int .i64 a.n, .int .i64 a.d, .string a.s, .slice A a.l.length c], .agg #[.int .i64 b.kind, .int .i64 b.n, .int .i64 b.d, .string b.s, .slice B b.l.length d]] w fun e w'=>e= .returned (.int .i64 (zbw a b))∧Ext w w'
 | 0,a,b,ok,ok',A,B,c,d,w,hN,_,_,_,_,_=>by unfold wtV at hN;omega
 | N+1,a,b,ok,ok',A,B,c,d,w,hN,hz,ha,hb,hva,hvb =>
  zp9 a b ok ok' A B c d w hz ha hb hva hvb (fun x hx y _ Ax By cx dy W hzW hx' hy' h1 h2=>zst N x y ok ok' Ax By cx dy W (zsc hx hN) hzW hx' hy' h1 h2)
theorem zz9 (a b:List Val) (ok ok':Nat→Prop) (A B:Option Addr) (c d:Nat) (w:World) (hz:zq w) (ha:zk w ok A a) (hb:zk w ok' B b)
  (hf:∀ x ∈ a,∀ y ∈ b,∀ (Ax By:Option Addr) (cx dy:Nat) (W:World),zq W→zk W ok Ax x.l→zk W ok' By y.l→Calls Tryz.prog 61 #[.agg #[.int .i64 x.kind, .int .i64 x.n, .int .i64 x.d, .string x.s, .slice Ax x.l.length cx], .agg #[.int .i64 y.kind, .int .i64 y.n, .int .i64 y.d, .string y.s, .slice By y.l.length dy]] W fun e W'=>e= .returned (.int .i64 (zbw x y))∧Ext W W') :
  Calls Tryz.prog 107 #[.slice A a.length c, .slice B b.length d, .func (.func 61) #[] #[]] w fun e w'=>e= .returned (.int .i64 (zas a b))∧Ext w w':=by
 have hma:=ha.len
 have hmb:=hb.len
 have HZ:=Lib.hid hz
 have HA:=Lib.hid ha
 have HB:=Lib.hid hb
 have HF:=Lib.hid hf
 obtain ⟨R,hR⟩:∃ R,R=zas a b:=⟨_,rfl⟩
 rw [←hR]
 have HR:=Lib.hid (show R=zas (a.drop 0) (b.drop 0) from hR)
 clear hz ha hb hf hR
 go_enter Tryz.func107,Tryz.ntmps107
 go_wp2
 go_loopw [13] (fun u W => ∃ k:Nat,u= .int .i64 k∧k≤a.length∧k≤b.length∧Hid (R=zas (a.drop k) (b.drop k))∧Ext w W) (fun u _=>a.length - (intOf u).toNat)
 case atStart=>exact ⟨0,rfl,Nat.zero_le _,Nat.zero_le _,HR,Ext.refl _⟩
 case round =>
  obtain ⟨k,rfl,hk,hkb,hS,hE⟩:=hrel
  by_cases hlt:k < a.length
  ·obtain ⟨ba,oa,rfl,hca⟩:=HA.out.2 Qk
   obtain ⟨-,A',c',h5,-,hv'⟩:=zx.iff.1 (hca k hlt)
   obtain ⟨d0,d1,d2,d3,d4⟩:=h5.ext hE
   obtain ⟨g,w1,hg,hw1,h6,hx,-⟩:=zbt wr a[k] A' c' 28
   have HW1:=Lib.hid hw1
   have HG:=Lib.hid hg
   have HVx:=Lib.hid (hv'.ext hE)
   clear hw1 hg hca h5 hv'
   by_cases hltb:k < b.length
   ·obtain ⟨bb,ob,rfl,hcb⟩:=HB.out.2 Qk
    obtain ⟨-,B',d',h5,-,hv'⟩:=zx.iff.1 (hcb k hltb)
    obtain ⟨e0,e1,e2,e3,e4⟩:=h5.ext (hE.trans hx)
    obtain ⟨g2,w2,hg2,hw2,h7,hx2,-⟩:=zbt w1 b[k] B' d' 28
    have HW2:=Lib.hid hw2
    have HG2:=Lib.hid hg2
    have HC:=Lib.hid (HF.out a[k] (List.getElem_mem hlt) b[k] (List.getElem_mem hltb) A' B' c' d' w2 (HZ.out.ext (hE.trans (hx.trans hx2))) (HVx.out.ext (hx.trans hx2)) (hv'.ext (hE.trans (hx.trans hx2))))
    have HD:=Lib.hid (show zas (a.drop k) (b.drop k)=zaz (zbw a[k] b[k]) (zas (a.drop (k+1)) (b.drop (k+1))) by rw [List.drop_eq_getElem_cons hlt,List.drop_eq_getElem_cons hltb,zas])
    obtain ⟨p0,p1,p2,p3,p4⟩:=h6.ext hx2
    obtain ⟨q0,q1,q2,q3,q4⟩:=h7
    clear hw2 hg2 hcb h5 hv' h6
    generalize a[k]=x at *
    generalize b[k]=y at *
    generalize zbw x y=z at HC HD
    go_upto_region 4 with (fail)
    rw [←HW1.out,←HG.out]
    clear HW1 HG d0 d1 d2 d3 d4
    go_upto_region 7 with (fail)
    rw [←HW2.out,←HG2.out]
    clear HW2 HG2 e0 e1 e2 e3 e4
    by_cases hz0:z=0
    ·have HT:=Lib.hid (show R=zas (a.drop (k+1)) (b.drop (k+1)) by rw [hS.out,HD.out,hz0];rfl)
     subst hz0
     go_wp2_with (go_at_call 61;((with_reducible refine (HC.out).mono ?_);rintro e w' ⟨rfl,hb⟩;have hb':Ext w2 w':=hb))
     go_roundw
     case rel=>exact ⟨k+1,by go_num,by omega,by omega,HT,hE.trans (hx.trans (hx2.trans hb'))⟩
     case measure=>simp [intOf];omega
    ·have HT:=Lib.hid (show R=z by rw [hS.out,HD.out,za4 hz0])
     have hz':(z != 0)=true:=by simpa using hz0
     clear hz0
     go_wp2_with (go_at_call 61;((with_reducible refine (HC.out).mono ?_);rintro e w' ⟨rfl,hb⟩;have hb':Ext w2 w':=hb))
     go_ret
     exact ⟨zai HT.out.symm,hE.trans (hx.trans (hx2.trans hb'))⟩
   ·have HT:=Lib.hid (show R=1 by rw [hS.out,List.drop_eq_getElem_cons hlt,List.drop_of_length_le (by omega:b.length≤k),zas])
    have hkb':b.length≤k:=by omega
    generalize a[k]=x at *
    go_upto_region 4 with (fail)
    rw [←HW1.out,←HG.out]
    clear HW1 HG d0 d1 d2 d3 d4 h6
    go_wp2
    go_ret
    exact ⟨zai HT.out.symm,hE.trans hx⟩
  ·have hk':k=a.length:=by omega
   by_cases hl:a.length < b.length
   ·have HT:=Lib.hid (show R = -1 by rw [hS.out,hk',List.drop_length,List.drop_eq_getElem_cons hl,zas])
    go_wp2
    go_ret
    exact ⟨zai HT.out.symm,hE⟩
   ·have HT:=Lib.hid (show R=0 by rw [hS.out,hk',List.drop_length,List.drop_of_length_le Qk,zas])
    go_wp2
    go_ret
    exact ⟨zai HT.out.symm,hE⟩
theorem zpr (a b:Val) (ok ok':Nat→Prop) (A B:Option Addr) (c d:Nat) (w:World) (hz:zq w) (ha:zk w ok A a.l) (hb:zk w ok' B b.l) (ih:∀ x ∈ a.l,∀ y ∈ b.l,∀ (Ax By:Option Addr) (cx dy:Nat) (W:World),zq W→zk W ok Ax x.l→zk W ok' By y.l→Calls Tryz.prog 61 #[.agg #[.int .i64 x.kind, .int .i64 x.n, .int .i64 x.d, .string x.s, .slice Ax x.l.length cx], .agg #[.int .i64 y.kind, .int .i64 y.n, .int .i64 y.d, .string y.s, .slice By y.l.length dy]] W fun e W'=>e= .returned (.int .i64 (zbw x y))∧Ext W W') :
  Calls Tryz.prog 61 #[.agg #[.int .i64 a.kind, .int .i64 a.n, .int .i64 a.d, .string a.s, .slice A a.l.length c], .agg #[.int .i64 b.kind, .int .i64 b.n, .int .i64 b.d, .string b.s, .slice B b.l.length d]] w fun e w'=>e= .returned (.int .i64 (zbw a b))∧Ext w w':=by
 have HO:=Lib.hid (zd9 a b)
 have HU:=Lib.hid (fun W (e:Ext w W) h1 h2=>zst (wtV a) a b ok ok' A B c d W (Nat.le_refl _) (hz.ext e) (ha.ext e) (hb.ext e) h1 h2)
 have HVa:=Lib.hid (fun W (e:Ext w W)=>ziy a ok A c W (ha.ext e))
 have HVb:=Lib.hid (fun W (e:Ext w W)=>ziy b ok' B d W (hb.ext e))
 have HCF:=Lib.hid (fun W (e:Ext w W)=>zz9 a.l b.l ok ok' A B c d W (hz.ext e) (ha.ext e) (hb.ext e) ih)
 have hma:=ha.len
 have hmb:=hb.len
 clear hz ha hb ih
 obtain ⟨g1,g2,w2,hg1,hg2,hw2,h1,h2,hx,-,-,hl1,hl2⟩:=ziv w a b A B c d 28
 have HG1:=Lib.hid hg1
 have HG2:=Lib.hid hg2
 have HW2:=Lib.hid hw2
 have MK:=Lib.hid (fun V (e:Ext w2 V)=>(⟨(h1.ext e).1,(h1.ext e).2.1,(h1.ext e).2.2.1,(h1.ext e).2.2.2.1,(h1.ext e).2.2.2.2,(h2.ext e).1,(h2.ext e).2.1,(h2.ext e).2.2.1,(h2.ext e).2.2.2.1,(h2.ext e).2.2.2.2,e⟩:V.cell? ⟨g1,0,none⟩=some (.int .i64 a.kind)∧V.cell? ⟨g1,1,none⟩=some (.int .i64 a.n)∧V.cell? ⟨g1,2,none⟩=some (.int .i64 a.d)∧V.cell? ⟨g1,3,none⟩=some (.string a.s)∧V.cell? ⟨g1,4,none⟩=some (.slice A a.l.length c)∧V.cell? ⟨g2,0,none⟩=some (.int .i64 b.kind)∧V.cell? ⟨g2,1,none⟩=some (.int .i64 b.n)∧V.cell? ⟨g2,2,none⟩=some (.int .i64 b.d)∧V.cell? ⟨g2,3,none⟩=some (.string b.s)∧V.cell? ⟨g2,4,none⟩=some (.slice B b.l.length d)∧Ext w2 V))
 clear hg1 hg2 hw2 h1 h2
 replace HCF:=Lib.hid (fun W (e:Ext w2 W)=>HCF.out W (hx.trans e))
 replace HVa:=Lib.hid (fun W (e:Ext w2 W)=>HVa.out W (hx.trans e))
 replace HVb:=Lib.hid (fun W (e:Ext w2 W)=>HVb.out W (hx.trans e))
 replace HU:=Lib.hid (fun W (e:Ext w2 W)=>HU.out W (hx.trans e))
 generalize zab a=p at *
 generalize zab b=q at *
 cases p
 ·cases q
  ·have HO':=Lib.hid (show zbw a b=orL [Lib.compareInt a.kind b.kind,Lib.compareInt a.n b.n,Lib.compareInt a.d b.d,zn a.s b.s,zas a.l b.l] by rw [HO.out,if_neg (by simp),if_neg (by simp)];unfold zj9 orL orL orL orL orL orL;rw [ztj])
   generalize zbw a b=o at HO' HU ⊢
   clear HU HO
   go_enter Tryz.func61,Tryz.ntmps61
   go_upto_region 1 with (fail)
   rw [←HW2.out,←HG2.out,←HG1.out]
   clear HW2 HG2 HG1
   go_region_held3 (fun V=>V.cell? ⟨g1,0,none⟩=some (.int .i64 a.kind)∧V.cell? ⟨g1,1,none⟩=some (.int .i64 a.n)∧V.cell? ⟨g1,2,none⟩=some (.int .i64 a.d)∧V.cell? ⟨g1,3,none⟩=some (.string a.s)∧V.cell? ⟨g1,4,none⟩=some (.slice A a.l.length c)∧V.cell? ⟨g2,0,none⟩=some (.int .i64 b.kind)∧V.cell? ⟨g2,1,none⟩=some (.int .i64 b.n)∧V.cell? ⟨g2,2,none⟩=some (.int .i64 b.d)∧V.cell? ⟨g2,3,none⟩=some (.string b.s)∧V.cell? ⟨g2,4,none⟩=some (.slice B b.l.length d)∧Ext w2 V) ((exact MK.out _ Qg)) ((go_at_call 73;(first|refine (HVa.out _ Qg).mono ?_|refine (HVb.out _ Qg).mono ?_);rintro e w' ⟨rfl,hb⟩;replace hb:Ext w2 w':=Ext.trans Qg hb))
   obtain ⟨a0,a1,a2,a3,a4,b0,b1,b2,b3,b4,hEw⟩ := ‹_∧_›
   go_wp2_with fail
   clear a0 a1 a2 a3 a4 b0 b1 b2 b3 b4
   go_region_held3 (fun V=>V.cell? ⟨g1,0,none⟩=some (.int .i64 a.kind)∧V.cell? ⟨g1,1,none⟩=some (.int .i64 a.n)∧V.cell? ⟨g1,2,none⟩=some (.int .i64 a.d)∧V.cell? ⟨g1,3,none⟩=some (.string a.s)∧V.cell? ⟨g1,4,none⟩=some (.slice A a.l.length c)∧V.cell? ⟨g2,0,none⟩=some (.int .i64 b.kind)∧V.cell? ⟨g2,1,none⟩=some (.int .i64 b.n)∧V.cell? ⟨g2,2,none⟩=some (.int .i64 b.d)∧V.cell? ⟨g2,3,none⟩=some (.string b.s)∧V.cell? ⟨g2,4,none⟩=some (.slice B b.l.length d)∧Ext w2 V) ((exact MK.out _ Qg)) ((first|(go_at_call 82;refine (zdi _ _ _).mono ?_;rintro e w' ⟨rfl,rfl⟩)|(go_at_call 106;refine (zi9 _ _ _).mono ?_;rintro e w' ⟨rfl,rfl⟩)|(go_at_call 107;refine (HCF.out _ Qg).mono ?_;rintro e w' ⟨rfl,hb⟩;replace hb:Ext w2 w':=Ext.trans Qg hb)|(go_at_call 105;refine Calls.mono (zp0 _ [Lib.compareInt a.kind b.kind,Lib.compareInt a.n b.n,Lib.compareInt a.d b.d,zn a.s b.s,zas a.l b.l] _ (by simp) ?hcs) ?_;(case hcs=>(intro j hj;have hj6:j=0∨j=1∨j=2∨j=3∨j=4:=(by simp at hj;omega);rcases hj6 with rfl|rfl|rfl|rfl|rfl <;> (go_simp;done)));rintro e w' ⟨rfl,rfl⟩)))
   all_goals
    clear ‹_∧_›
    go_wp2
    go_ret
    exact ⟨zai HO'.out.symm,hx.trans Qg⟩
  ·have HO':=Lib.hid (show zbw a b=1 by rw [HO.out,if_neg (by simp),if_pos rfl])
   clear HO HU HCF
   rw [HO'.out]
   go_enter Tryz.func61,Tryz.ntmps61
   go_upto_region 1 with (fail)
   rw [←HW2.out,←HG2.out,←HG1.out]
   clear HW2 HG2 HG1
   go_region_held3 (fun V=>V.cell? ⟨g1,0,none⟩=some (.int .i64 a.kind)∧V.cell? ⟨g1,1,none⟩=some (.int .i64 a.n)∧V.cell? ⟨g1,2,none⟩=some (.int .i64 a.d)∧V.cell? ⟨g1,3,none⟩=some (.string a.s)∧V.cell? ⟨g1,4,none⟩=some (.slice A a.l.length c)∧V.cell? ⟨g2,0,none⟩=some (.int .i64 b.kind)∧V.cell? ⟨g2,1,none⟩=some (.int .i64 b.n)∧V.cell? ⟨g2,2,none⟩=some (.int .i64 b.d)∧V.cell? ⟨g2,3,none⟩=some (.string b.s)∧V.cell? ⟨g2,4,none⟩=some (.slice B b.l.length d)∧Ext w2 V) ((exact MK.out _ Qg)) ((go_at_call 73;(first|refine (HVa.out _ Qg).mono ?_|refine (HVb.out _ Qg).mono ?_);rintro e w' ⟨rfl,hb⟩;replace hb:Ext w2 w':=Ext.trans Qg hb))
   all_goals
    clear ‹_∧_›
    go_wp2_with fail
    go_ret
    exact ⟨rfl,hx.trans Qg⟩
 ·cases q
  ·have HO':=Lib.hid (show zbw a b = -1 by rw [HO.out,if_pos rfl,if_neg (by simp)])
   clear HO HU HCF
   rw [HO'.out]
   go_enter Tryz.func61,Tryz.ntmps61
   go_upto_region 1 with (fail)
   rw [←HW2.out,←HG2.out,←HG1.out]
   clear HW2 HG2 HG1
   go_region_held3 (fun V=>V.cell? ⟨g1,0,none⟩=some (.int .i64 a.kind)∧V.cell? ⟨g1,1,none⟩=some (.int .i64 a.n)∧V.cell? ⟨g1,2,none⟩=some (.int .i64 a.d)∧V.cell? ⟨g1,3,none⟩=some (.string a.s)∧V.cell? ⟨g1,4,none⟩=some (.slice A a.l.length c)∧V.cell? ⟨g2,0,none⟩=some (.int .i64 b.kind)∧V.cell? ⟨g2,1,none⟩=some (.int .i64 b.n)∧V.cell? ⟨g2,2,none⟩=some (.int .i64 b.d)∧V.cell? ⟨g2,3,none⟩=some (.string b.s)∧V.cell? ⟨g2,4,none⟩=some (.slice B b.l.length d)∧Ext w2 V) ((exact MK.out _ Qg)) ((go_at_call 73;(first|refine (HVa.out _ Qg).mono ?_|refine (HVb.out _ Qg).mono ?_);rintro e w' ⟨rfl,hb⟩;replace hb:Ext w2 w':=Ext.trans Qg hb))
   all_goals
    clear ‹_∧_›
    go_wp2_with fail
    go_ret
    exact ⟨rfl,hx.trans Qg⟩
  ·clear HO HCF
   go_enter Tryz.func61,Tryz.ntmps61
   go_upto_region 1 with (fail)
   rw [←HW2.out,←HG2.out,←HG1.out]
   clear HW2 HG2 HG1
   go_region_held3 (fun V=>V.cell? ⟨g1,0,none⟩=some (.int .i64 a.kind)∧V.cell? ⟨g1,1,none⟩=some (.int .i64 a.n)∧V.cell? ⟨g1,2,none⟩=some (.int .i64 a.d)∧V.cell? ⟨g1,3,none⟩=some (.string a.s)∧V.cell? ⟨g1,4,none⟩=some (.slice A a.l.length c)∧V.cell? ⟨g2,0,none⟩=some (.int .i64 b.kind)∧V.cell? ⟨g2,1,none⟩=some (.int .i64 b.n)∧V.cell? ⟨g2,2,none⟩=some (.int .i64 b.d)∧V.cell? ⟨g2,3,none⟩=some (.string b.s)∧V.cell? ⟨g2,4,none⟩=some (.slice B b.l.length d)∧Ext w2 V) ((exact MK.out _ Qg)) ((go_at_call 73;(first|refine (HVa.out _ Qg).mono ?_|refine (HVb.out _ Qg).mono ?_);rintro e w' ⟨rfl,hb⟩;replace hb:Ext w2 w':=Ext.trans Qg hb))
   all_goals
    obtain ⟨a0,a1,a2,a3,a4,b0,b1,b2,b3,b4,hEw⟩ := ‹_∧_›
    go_wp2_with fail
    refine (HU.out _ Qg (by simp) (by simp)).mono ?_
    rintro e w9 ⟨rfl,h9⟩
    have h9':Ext w2 w9:=Ext.trans Qg h9
    clear a0 a1 a2 a3 a4 b0 b1 b2 b3 b4 hEw h9
    go_wp2
    go_ret
    exact ⟨rfl,hx.trans h9'⟩
theorem zqq:∀ (N:Nat) (a b:Val) (ok ok':Nat→Prop) (A B:Option Addr) (c d:Nat) (w:World),wtV a≤N→zq w→zk w ok A a.l→zk w ok' B b.l →
  Calls Tryz.prog 61 #[.agg #[.int .i64 a.kind, .int .i64 a.n, .int .i64 a.d, .string a.s, .slice A a.l.length c], .agg #[.int .i64 b.kind, .int .i64 b.n, .int .i64 b.d, .string b.s, .slice B b.l.length d]] w fun e w'=>e= .returned (.int .i64 (zbw a b))∧Ext w w'
 | 0,a,b,ok,ok',A,B,c,d,w,hN,_,_,_=>by unfold wtV at hN;omega
 | N+1,a,b,ok,ok',A,B,c,d,w,hN,hz,ha,hb =>
  zpr a b ok ok' A B c d w hz ha hb (fun x hx y _ Ax By cx dy W hzW hx' hy'=>zqq N x y ok ok' Ax By cx dy W (zsc hx hN) hzW hx' hy')
theorem zzi (a b:Val) (ok ok':Nat→Prop) (A B:Option Addr) (c d:Nat) (w:World) (hz:zq w) (ha:zk w ok A a.l) (hb:zk w ok' B b.l) :
  Calls Tryz.prog 61 #[.agg #[.int .i64 a.kind, .int .i64 a.n, .int .i64 a.d, .string a.s, .slice A a.l.length c], .agg #[.int .i64 b.kind, .int .i64 b.n, .int .i64 b.d, .string b.s, .slice B b.l.length d]] w fun e w'=>e= .returned (.int .i64 (zbw a b))∧Ext w w' :=
 zqq (wtV a) a b ok ok' A B c d w (Nat.le_refl _) hz ha hb
mutual
def szV:Val→Prop
 | .mk _ _ _ s l=>s.size≤140737488355328∧szL l
def szL:List Val→Prop
 | []=>True
 | v :: vs=>szV v∧szL vs
end
theorem zd7 {v:Val}:szV v ↔ v.s.size≤140737488355328∧szL v.l:=by cases v;rw [szV];rfl
theorem zic {l:List Val} (h:szL l) {v:Val} (hv:v ∈ l):szV v:=by
 induction l with
 | nil=>cases hv
 | cons x l ih =>
  rw [szL] at h
  rcases List.mem_cons.1 hv with e|e
  ·rw [e];exact h.1
  ·exact ih h.2 e
def zdl (p q r t:Bool) (n d:Int) (s:ByteArray) (m:Nat):Bool:=(p || decide (n=0)) && (q || decide (d=0)) && (r || decide (s.size=0)) && (t || decide (m=0))
theorem zns (k n d:Int) (s:ByteArray) (A:Option Addr) (m c:Nat) (w:World):Calls Tryz.prog 163 #[.agg #[.int .i64 k, .int .i64 n, .int .i64 d, .string s, .slice A m c], .bool false, .bool false, .bool false, .bool false] w fun e w'=>e= .returned (.bool (zdl false false false false n d s m))∧Ext w w':=by
 obtain ⟨g,w1,hg,hw1,⟨c0,c1,c2,c3,c4⟩,hx,-⟩:=zc2 w k n d s A m c 28
 have HW1:=Lib.hid hw1
 have HG:=Lib.hid hg
 clear hw1 hg
 go_enter Tryz.func163,Tryz.ntmps163
 go_upto_region 1 with (fail)
 rw [←HW1.out,←HG.out]
 clear HW1 HG
 go_wp2_with fail
 all_goals
  go_ret
  refine ⟨ze ?_,hx⟩
  clear c0 c1 c2 c3 c4
  (try simp only [za7] at *)
  unfold zdl
  (try simp only [zb5])
  first|(simp_all;done)|(simp_all;omega)
theorem zev (k n d:Int) (s:ByteArray) (A:Option Addr) (m c:Nat) (w:World):Calls Tryz.prog 163 #[.agg #[.int .i64 k, .int .i64 n, .int .i64 d, .string s, .slice A m c], .bool true, .bool false, .bool false, .bool false] w fun e w'=>e= .returned (.bool (zdl true false false false n d s m))∧Ext w w':=by
 obtain ⟨g,w1,hg,hw1,⟨c0,c1,c2,c3,c4⟩,hx,-⟩:=zc2 w k n d s A m c 28
 have HW1:=Lib.hid hw1
 have HG:=Lib.hid hg
 clear hw1 hg
 go_enter Tryz.func163,Tryz.ntmps163
 go_upto_region 1 with (fail)
 rw [←HW1.out,←HG.out]
 clear HW1 HG
 go_wp2_with fail
 all_goals
  go_ret
  refine ⟨ze ?_,hx⟩
  clear c0 c1 c2 c3 c4
  (try simp only [za7] at *)
  unfold zdl
  (try simp only [zb5])
  first|(simp_all;done)|(simp_all;omega)
theorem zob (k n d:Int) (s:ByteArray) (A:Option Addr) (m c:Nat) (w:World):Calls Tryz.prog 163 #[.agg #[.int .i64 k, .int .i64 n, .int .i64 d, .string s, .slice A m c], .bool true, .bool true, .bool false, .bool false] w fun e w'=>e= .returned (.bool (zdl true true false false n d s m))∧Ext w w':=by
 obtain ⟨g,w1,hg,hw1,⟨c0,c1,c2,c3,c4⟩,hx,-⟩:=zc2 w k n d s A m c 28
 have HW1:=Lib.hid hw1
 have HG:=Lib.hid hg
 clear hw1 hg
 go_enter Tryz.func163,Tryz.ntmps163
 go_upto_region 1 with (fail)
 rw [←HW1.out,←HG.out]
 clear HW1 HG
 go_wp2_with fail
 all_goals
  go_ret
  refine ⟨ze ?_,hx⟩
  clear c0 c1 c2 c3 c4
  (try simp only [za7] at *)
  unfold zdl
  (try simp only [zb5])
  first|(simp_all;done)|(simp_all;omega)
theorem zn1 (k n d:Int) (s:ByteArray) (A:Option Addr) (m c:Nat) (w:World):Calls Tryz.prog 163 #[.agg #[.int .i64 k, .int .i64 n, .int .i64 d, .string s, .slice A m c], .bool false, .bool false, .bool true, .bool false] w fun e w'=>e= .returned (.bool (zdl false false true false n d s m))∧Ext w w':=by
 obtain ⟨g,w1,hg,hw1,⟨c0,c1,c2,c3,c4⟩,hx,-⟩:=zc2 w k n d s A m c 28
 have HW1:=Lib.hid hw1
 have HG:=Lib.hid hg
 clear hw1 hg
 go_enter Tryz.func163,Tryz.ntmps163
 go_upto_region 1 with (fail)
 rw [←HW1.out,←HG.out]
 clear HW1 HG
 go_wp2_with fail
 all_goals
  go_ret
  refine ⟨ze ?_,hx⟩
  clear c0 c1 c2 c3 c4
  (try simp only [za7] at *)
  unfold zdl
  (try simp only [zb5])
  first|(simp_all;done)|(simp_all;omega)
theorem zib (k n d:Int) (s:ByteArray) (A:Option Addr) (m c:Nat) (w:World):Calls Tryz.prog 163 #[.agg #[.int .i64 k, .int .i64 n, .int .i64 d, .string s, .slice A m c], .bool false, .bool false, .bool false, .bool true] w fun e w'=>e= .returned (.bool (zdl false false false true n d s m))∧Ext w w':=by
 obtain ⟨g,w1,hg,hw1,⟨c0,c1,c2,c3,c4⟩,hx,-⟩:=zc2 w k n d s A m c 28
 have HW1:=Lib.hid hw1
 have HG:=Lib.hid hg
 clear hw1 hg
 go_enter Tryz.func163,Tryz.ntmps163
 go_upto_region 1 with (fail)
 rw [←HW1.out,←HG.out]
 clear HW1 HG
 go_wp2_with fail
 all_goals
  go_ret
  refine ⟨ze ?_,hx⟩
  clear c0 c1 c2 c3 c4
  (try simp only [za7] at *)
  unfold zdl
  (try simp only [zb5])
  first|(simp_all;done)|(simp_all;omega)
theorem zpq (s:ByteArray) (k:Nat) (h:k < s.size):s.get! k=s[k]:=by
 rw [zlw s k h];rfl
theorem zz3 {s:ByteArray} {k:Nat} (hk:k < s.size) (h:zfa s[k].toNat=true):zma s=false:=by
 rw [zdd]
 cases hb:zh9 s
 ·exact Bool.and_false _
 ·have:=(zgr s).1 hb k hk
  rw [zpq s k hk,h] at this;cases this
theorem zzm {s:ByteArray} (h:∀ j (h:j < s.size),zfa s[j].toNat=false):zma s=decide (s.size≤100):=by
 rw [zdd,(zgr s).2 (fun j hj=>by rw [zpq s j hj];exact h j hj),Bool.and_true]
theorem z0o (s:ByteArray) (w:World) (hs:s.size≤140737488355328):Calls Tryz.prog 165 #[.string s] w fun e w'=>e= .returned (.bool (zma s))∧w'=w:=by
 have HY:=Lib.hid (fun h=>zzm (s:=s) h)
 have HN:=Lib.hid (fun (k:Nat) (hk:k < s.size) h=>zz3 (s:=s) hk h)
 go_enter Tryz.func165,Tryz.ntmps165
 go_wp2
 go_loop [3] (fun u => ∃ k:Nat,u= .int .i64 k∧k≤s.size∧Hid (∀ j (h:j < s.size),j < k→zfa s[j].toNat=false)) (fun u=>s.size - (intOf u).toNat)
 case atStart=>exact ⟨0,rfl,Nat.zero_le _,Lib.hid (fun j _ hj=>absurd hj Qk)⟩
 case round =>
  obtain ⟨k,rfl,hk,hA⟩:=hrel
  by_cases hlt:k < s.size
  ·have HB:=Lib.hid (HN.out k hlt)
   have HS:=Lib.hid (fun (h:zfa s[k].toNat=false) j (hj:j < s.size) (hjk:j < k+1)=>(if e:j=k then (by subst e;exact h) else hA.out j hj Qk:zfa s[j].toNat=false))
   by_cases h1:s[k].toNat < 32
   ·have HF:=Lib.hid (HB.out (by unfold zfa;rw [decide_eq_true h1];rfl))
    clear HB HS
    go_wp2
    all_goals first|(go_ret;exact ⟨ze HF.out.symm,rfl⟩)|(exfalso;omega)
   ·by_cases h2:126 < s[k].toNat
    ·have HF:=Lib.hid (HB.out (by unfold zfa;rw [decide_eq_true h2,Bool.or_true]))
     clear HB HS
     go_wp2
     all_goals first|(go_ret;exact ⟨ze HF.out.symm,rfl⟩)|(exfalso;omega)
    ·have HT:=Lib.hid (HS.out (by unfold zfa;rw [decide_eq_false h1,decide_eq_false h2];rfl))
     clear HB HS
     go_wp2
     all_goals first|(go_round;(case rel=>exact ⟨k+1,by go_num,by omega,HT⟩);(case measure=>simp [intOf];omega))|(exfalso;omega)
  ·have HF:=Lib.hid (HY.out (fun j hj=>hA.out j hj Qk))
   by_cases h100:s.size≤100
   ·rw [decide_eq_true h100] at HF
    go_wp2
    go_ret
    exact ⟨ze (by rw [HF.out,decide_eq_true_iff];omega),rfl⟩
   ·rw [decide_eq_false h100] at HF
    go_wp2
    go_ret
    exact ⟨ze (by rw [HF.out,decide_eq_false_iff_not];omega),rfl⟩
theorem zuj (n d:Int) (s:ByteArray) (m:Nat) (A:Option Addr) (c:Nat) (nest:Int) (w:World) (_hs:s.size≤140737488355328):Calls Tryz.prog 121 #[.agg #[.int .i64 0, .int .i64 n, .int .i64 d, .string s, .slice A m c], .int .i64 nest] w fun e w'=>e= .returned (.bool (zbc 0 n d s m))∧Ext w w':=by
 obtain ⟨g,w1,hg,hw1,⟨c0,c1,c2,c3,c4⟩,hx,-⟩:=zc2 w 0 n d s A m c 28
 have HW1:=Lib.hid hw1
 have HG:=Lib.hid hg
 clear hw1 hg
 go_enter Tryz.func121,Tryz.ntmps121
 go_upto_region 1 with (fail)
 rw [←HW1.out,←HG.out]
 clear HW1 HG
 go_wp2_with (go_at_call 163;((with_reducible refine (zns _ _ _ _ _ _ _ _).mono ?_);rintro e w' ⟨rfl,hb⟩;have hb1:Ext w1 w':=hb;replace c0:=hb1.cell c0;replace c1:=hb1.cell c1;replace c2:=hb1.cell c2;replace c3:=hb1.cell c3;replace c4:=hb1.cell c4))
 all_goals
  go_ret
  refine ⟨ze ?_,(by first|exact hx|exact Ext.trans hx (by assumption)|exact Ext.trans hx (Ext.trans hb1 (by assumption)))⟩
  clear c0 c1 c2 c3 c4
  (try simp only [za7] at *)
  unfold zbc
  (try unfold zdl at *)
  skip
  first|(simp_all;done)|(simp_all;omega)
theorem zt0 (n d:Int) (s:ByteArray) (m:Nat) (A:Option Addr) (c:Nat) (nest:Int) (w:World) (_hs:s.size≤140737488355328):Calls Tryz.prog 121 #[.agg #[.int .i64 1, .int .i64 n, .int .i64 d, .string s, .slice A m c], .int .i64 nest] w fun e w'=>e= .returned (.bool (zbc 1 n d s m))∧Ext w w':=by
 obtain ⟨g,w1,hg,hw1,⟨c0,c1,c2,c3,c4⟩,hx,-⟩:=zc2 w 1 n d s A m c 28
 have HW1:=Lib.hid hw1
 have HG:=Lib.hid hg
 clear hw1 hg
 go_enter Tryz.func121,Tryz.ntmps121
 go_upto_region 1 with (fail)
 rw [←HW1.out,←HG.out]
 clear HW1 HG
 go_wp2_with (go_at_call 163;((with_reducible refine (zev _ _ _ _ _ _ _ _).mono ?_);rintro e w' ⟨rfl,hb⟩;have hb1:Ext w1 w':=hb;replace c0:=hb1.cell c0;replace c1:=hb1.cell c1;replace c2:=hb1.cell c2;replace c3:=hb1.cell c3;replace c4:=hb1.cell c4))
 all_goals
  go_ret
  refine ⟨ze ?_,(by first|exact hx|exact Ext.trans hx (by assumption)|exact Ext.trans hx (Ext.trans hb1 (by assumption)))⟩
  clear c0 c1 c2 c3 c4
  (try simp only [za7] at *)
  unfold zbc
  (try unfold zdl at *)
  (try simp only [zb5])
  first|(simp_all;done)|(simp_all;omega)
theorem zvb (n d:Int) (s:ByteArray) (m:Nat) (A:Option Addr) (c:Nat) (nest:Int) (w:World) (_hs:s.size≤140737488355328):Calls Tryz.prog 121 #[.agg #[.int .i64 2, .int .i64 n, .int .i64 d, .string s, .slice A m c], .int .i64 nest] w fun e w'=>e= .returned (.bool (zbc 2 n d s m))∧Ext w w':=by
 obtain ⟨g,w1,hg,hw1,⟨c0,c1,c2,c3,c4⟩,hx,-⟩:=zc2 w 2 n d s A m c 28
 have HW1:=Lib.hid hw1
 have HG:=Lib.hid hg
 clear hw1 hg
 go_enter Tryz.func121,Tryz.ntmps121
 go_upto_region 1 with (fail)
 rw [←HW1.out,←HG.out]
 clear HW1 HG
 go_wp2_with (first|(go_at_call 163;((with_reducible refine (zev _ _ _ _ _ _ _ _).mono ?_);rintro e w' ⟨rfl,hb⟩;have hb1:Ext w1 w':=hb;replace c0:=hb1.cell c0;replace c1:=hb1.cell c1;replace c2:=hb1.cell c2;replace c3:=hb1.cell c3;replace c4:=hb1.cell c4))|(go_at_call 164;refine (z0n _ _).mono ?_;rintro e w' ⟨rfl,rfl⟩))
 all_goals
  go_ret
  refine ⟨ze ?_,(by first|exact hx|exact Ext.trans hx (by assumption)|exact Ext.trans hx (Ext.trans hb1 (by assumption)))⟩
  clear c0 c1 c2 c3 c4
  (try simp only [za7] at *)
  unfold zbc
  (try unfold zdl at *)
  skip
  first|(simp_all;done)|(simp_all;omega)
theorem zt8 (n d:Int) (s:ByteArray) (m:Nat) (A:Option Addr) (c:Nat) (nest:Int) (w:World) (_hs:s.size≤140737488355328):Calls Tryz.prog 121 #[.agg #[.int .i64 3, .int .i64 n, .int .i64 d, .string s, .slice A m c], .int .i64 nest] w fun e w'=>e= .returned (.bool (zbc 3 n d s m))∧Ext w w':=by
 obtain ⟨g,w1,hg,hw1,⟨c0,c1,c2,c3,c4⟩,hx,-⟩:=zc2 w 3 n d s A m c 28
 have HW1:=Lib.hid hw1
 have HG:=Lib.hid hg
 clear hw1 hg
 go_enter Tryz.func121,Tryz.ntmps121
 go_upto_region 1 with (fail)
 rw [←HW1.out,←HG.out]
 clear HW1 HG
 go_wp2_with (first|(go_at_call 163;((with_reducible refine (zob _ _ _ _ _ _ _ _).mono ?_);rintro e w' ⟨rfl,hb⟩;have hb1:Ext w1 w':=hb;replace c0:=hb1.cell c0;replace c1:=hb1.cell c1;replace c2:=hb1.cell c2;replace c3:=hb1.cell c3;replace c4:=hb1.cell c4))|(go_at_call 149;refine (zdz _ _ _).mono ?_;rintro e w' ⟨rfl,hbv⟩;have hb2:Ext _ w':=hbv))
 all_goals
  go_ret
  refine ⟨ze ?_,(by first|exact hx|exact Ext.trans hx (by assumption)|exact Ext.trans hx (Ext.trans hb1 (by assumption)))⟩
  clear c0 c1 c2 c3 c4
  (try simp only [za7] at *)
  unfold zbc
  (try unfold zdl at *)
  skip
  first|(simp_all;done)|(simp_all;omega)
theorem zuu (n d:Int) (s:ByteArray) (m:Nat) (A:Option Addr) (c:Nat) (nest:Int) (w:World) (hs:s.size≤140737488355328):Calls Tryz.prog 121 #[.agg #[.int .i64 4, .int .i64 n, .int .i64 d, .string s, .slice A m c], .int .i64 nest] w fun e w'=>e= .returned (.bool (zbc 4 n d s m))∧Ext w w':=by
 obtain ⟨g,w1,hg,hw1,⟨c0,c1,c2,c3,c4⟩,hx,-⟩:=zc2 w 4 n d s A m c 28
 have HW1:=Lib.hid hw1
 have HG:=Lib.hid hg
 clear hw1 hg
 go_enter Tryz.func121,Tryz.ntmps121
 go_upto_region 1 with (fail)
 rw [←HW1.out,←HG.out]
 clear HW1 HG
 go_wp2_with (first|(go_at_call 163;((with_reducible refine (zn1 _ _ _ _ _ _ _ _).mono ?_);rintro e w' ⟨rfl,hb⟩;have hb1:Ext w1 w':=hb;replace c0:=hb1.cell c0;replace c1:=hb1.cell c1;replace c2:=hb1.cell c2;replace c3:=hb1.cell c3;replace c4:=hb1.cell c4))|(go_at_call 165;refine (z0o _ _ hs).mono ?_;rintro e w' ⟨rfl,rfl⟩))
 all_goals
  go_ret
  refine ⟨ze ?_,(by first|exact hx|exact Ext.trans hx (by assumption)|exact Ext.trans hx (Ext.trans hb1 (by assumption)))⟩
  clear c0 c1 c2 c3 c4
  (try simp only [za7] at *)
  unfold zbc
  (try unfold zdl at *)
  skip
  first|(simp_all;done)|(simp_all;omega)
theorem zvd (n d:Int) (s:ByteArray) (m:Nat) (A:Option Addr) (c:Nat) (nest:Int) (w:World) (_hs:s.size≤140737488355328):Calls Tryz.prog 121 #[.agg #[.int .i64 5, .int .i64 n, .int .i64 d, .string s, .slice A m c], .int .i64 nest] w fun e w'=>e= .returned (.bool (zbc 5 n d s m))∧Ext w w':=by
 obtain ⟨g,w1,hg,hw1,⟨c0,c1,c2,c3,c4⟩,hx,-⟩:=zc2 w 5 n d s A m c 28
 have HW1:=Lib.hid hw1
 have HG:=Lib.hid hg
 clear hw1 hg
 go_enter Tryz.func121,Tryz.ntmps121
 go_upto_region 1 with (fail)
 rw [←HW1.out,←HG.out]
 clear HW1 HG
 go_wp2_with (go_at_call 163;((with_reducible refine (zev _ _ _ _ _ _ _ _).mono ?_);rintro e w' ⟨rfl,hb⟩;have hb1:Ext w1 w':=hb;replace c0:=hb1.cell c0;replace c1:=hb1.cell c1;replace c2:=hb1.cell c2;replace c3:=hb1.cell c3;replace c4:=hb1.cell c4))
 all_goals
  go_ret
  refine ⟨ze ?_,(by first|exact hx|exact Ext.trans hx (by assumption)|exact Ext.trans hx (Ext.trans hb1 (by assumption)))⟩
  clear c0 c1 c2 c3 c4
  (try simp only [za7] at *)
  unfold zbc
  (try unfold zdl at *)
  skip
  first|(simp_all;done)|(simp_all;omega)
theorem zur (n d:Int) (s:ByteArray) (m:Nat) (A:Option Addr) (c:Nat) (nest:Int) (w:World) (_hs:s.size≤140737488355328):Calls Tryz.prog 121 #[.agg #[.int .i64 6, .int .i64 n, .int .i64 d, .string s, .slice A m c], .int .i64 nest] w fun e w'=>e= .returned (.bool (zbc 6 n d s m))∧Ext w w':=by
 obtain ⟨g,w1,hg,hw1,⟨c0,c1,c2,c3,c4⟩,hx,-⟩:=zc2 w 6 n d s A m c 28
 have HW1:=Lib.hid hw1
 have HG:=Lib.hid hg
 clear hw1 hg
 go_enter Tryz.func121,Tryz.ntmps121
 go_upto_region 1 with (fail)
 rw [←HW1.out,←HG.out]
 clear HW1 HG
 go_wp2_with (go_at_call 163;((with_reducible refine (zev _ _ _ _ _ _ _ _).mono ?_);rintro e w' ⟨rfl,hb⟩;have hb1:Ext w1 w':=hb;replace c0:=hb1.cell c0;replace c1:=hb1.cell c1;replace c2:=hb1.cell c2;replace c3:=hb1.cell c3;replace c4:=hb1.cell c4))
 all_goals
  go_ret
  refine ⟨ze ?_,(by first|exact hx|exact Ext.trans hx (by assumption)|exact Ext.trans hx (Ext.trans hb1 (by assumption)))⟩
  clear c0 c1 c2 c3 c4
  (try simp only [za7] at *)
  unfold zbc
  (try unfold zdl at *)
  skip
  first|(simp_all;done)|(simp_all;omega)
theorem zu8 (k:Int) (hk:(k == 0)=false∧(k == 1)=false∧(k == 2)=false∧(k == 3)=false∧(k == 4)=false∧(k == 5)=false∧(k == 6)=false∧(k == 7)=false∧(k == 8)=false) (n d:Int) (s:ByteArray) (m:Nat) (A:Option Addr) (c:Nat) (nest:Int) (w:World) (_hs:s.size≤140737488355328):Calls Tryz.prog 121 #[.agg #[.int .i64 k, .int .i64 n, .int .i64 d, .string s, .slice A m c], .int .i64 nest] w fun e w'=>e= .returned (.bool (zbc k n d s m))∧Ext w w':=by
 have hne:=zwr hk
 obtain ⟨h0,h1,h2,h3,h4,h5,h6,h7,h8⟩:=hk
 obtain ⟨n0,n1,n2,n3,n4,n5,n6,n7,n8⟩:=hne
 obtain ⟨g,w1,hg,hw1,⟨c0,c1,c2,c3,c4⟩,hx,-⟩:=zc2 w k n d s A m c 28
 have HW1:=Lib.hid hw1
 have HG:=Lib.hid hg
 clear hw1 hg
 go_enter Tryz.func121,Tryz.ntmps121
 go_upto_region 1 with (fail)
 rw [←HW1.out,←HG.out]
 clear HW1 HG
 go_wp2_with fail
 all_goals
  go_ret
  refine ⟨ze ?_,(by first|exact hx|exact Ext.trans hx (by assumption)|exact Ext.trans hx (Ext.trans hb1 (by assumption)))⟩
  clear c0 c1 c2 c3 c4
  (try simp only [za7] at *)
  unfold zbc
  (try unfold zdl at *)
  skip
  first|(simp_all;done)|(simp_all;omega)
open Go.ChangeShapes Go.WideShapes Go.ChangeAt Go.RowKit
open Go.ChangeMaps (open_string shut_string)
theorem zti:∀ {l:List Val},(∀ v ∈ l,szV v)→szL l
 | [],_=>by rw [szL];trivial
 | v :: l,h=>by rw [szL];exact ⟨h v (by simp),zti (fun x hx=>h x (by simp [hx]))⟩
theorem own:ownKnob Tryz.prog.godebug=none:=by kernel_rfl
theorem z1e:laidOutB Tryz.prog=true:=by kernel_rfl
theorem zgz:Tryz.prog.cellsOf 28=5:=by kernel_rfl
theorem zbv:Tryz.prog.cellsOf 3=1:=by kernel_rfl
theorem zfx:Tryz.prog.cellsOf 9=1:=by kernel_rfl
theorem zm3:Tryz.prog.cellsOf 26=1:=by kernel_rfl
theorem ztz:Tryz.prog.cellsOf 52=1:=by kernel_rfl
theorem zok {w:World} {a:Addr} {v:Value} (h:w.cell? a=some v):a=⟨a.block,a.off,none⟩:=by
 obtain ⟨b,o,sp⟩:=a
 cases sp with
 | none=>rfl
 | some k =>
  exfalso
  unfold World.cell? at h
  split at h
  ·simp at h
  ·cases h
theorem zx9 (b o i j:Nat):((⟨b,o,none⟩:Addr).add i).add j=⟨b,o+i+j,none⟩:=by
 unfold Addr.add
 by_cases h:i=0 <;> by_cases k:j=0 <;> simp [h,k]
theorem zs0 {α:Type} (P:Nat→α→Prop):∀ n,(∀ i,i < n→∃ x,P i x)→∃ l:List α,l.length=n∧∀ i (h:i < l.length),P i l[i]
 | 0,_=>⟨[],rfl,fun i h=>absurd h (Nat.not_lt_zero _)⟩
 | n+1,h=>by
  obtain ⟨l,hl,hp⟩:=zs0 P n (fun i hi=>h i Qk)
  obtain ⟨x,hx⟩:=h n Qk
  refine ⟨l ++ [x],by simp [hl],fun i hi=>?_⟩
  rcases Nat.lt_or_ge i l.length with h1|h1
  ·rw [List.getElem_append_left h1];exact hp i h1
  ·have:i=l.length:=by simp at hi;omega
   subst this
   rw [List.getElem_append_right Qk]
   simpa [hl] using hx
section
variable {H:Type} {enc:TypeId × Value→H} {w:World} {base:Nat} {spare:Nat→Bool} {held:Bool}
theorem zgv {P:Program} {e:TypeId}:∀ {l:List (DataW H)} {d:DataW H},d ∈ l→∀ n ∈ d.weights P e,n ∈ DataW.weightsAll P e l
 | d0 :: r,d,h,n,hn=>by
  simp only [DataW.weightsAll,List.mem_append]
  rcases List.mem_cons.1 h with rfl|h
  ·exact .inl hn
  ·exact .inr (zgv h n hn)
theorem zfu {α:Type} {t e size fuel:Nat} {cs:List Value} {x:DataW H × List MemPlace} (ht:Tryz.prog.underlying t=some (.slice e)) (he:Tryz.prog.cellsOf e=size) (hbe:0 < Tryz.prog.bytesOf e) (hs:0 < size) (R:Nat→Nat→α→Prop) (Q:α→Prop)
  (hel:∀ n cs' (y:DataW H × List MemPlace),fuel=n+1→(∀ k ∈ y.1.weights Tryz.prog e,k≤reachBytes)→DataW.trod enc Tryz.prog w base spare held n e cs'=some y→∃ v:α,Q v∧∀ b o,(∀ j u,cs'[j]? = some u→w.cell? ⟨b,o+j,none⟩=some u)→R b o v)
  (hwt:∀ k ∈ x.1.weights Tryz.prog t,k≤reachBytes) (h:DataW.trod enc Tryz.prog w base spare held fuel t cs=some x):∃ (l:List α) (A:Option Addr) (c:Nat),cs=[.slice A l.length c]∧l.length≤c∧zo R size A l∧∀ v ∈ l,Q v:=by
 rcases DataW.trod_slice ht h with ⟨rfl,-⟩|⟨a,len,cap,elems,rest,n,hfu,rfl,hxx,-,hl,hm,hlen,hel2,-,-⟩
 ·exact ⟨[],none,0,rfl,Nat.le_refl _,zo.nil _ _ _,fun v hv=>absurd hv (by simp)⟩
 ·rw [hxx] at hwt
  simp only [DataW.weights,ht,List.mem_cons,List.mem_append,List.length_map] at hwt
  have hlen2:len≤140737488355328:=by
   have h1:=hwt _ (.inl rfl)
   have h2:(elems.length+rest.length)*1≤(elems.length+rest.length)*Tryz.prog.bytesOf e:=Nat.mul_le_mul_left _ hbe
   have h3:=reachBytes_lt
   omega
  have H:∀ i,i < len→∃ v:α,Q v∧R a.block (a.off+i*size) v∧a=⟨a.block,a.off,none⟩:=fun i hi=>by
   have h1:=hel2 i hi
   rw [he,List.getElem?_eq_getElem Qk] at h1
   obtain ⟨cs',hc,ht'⟩:=Option.bind_eq_some_iff.1 h1
   obtain ⟨v,hq,hr⟩:=hel n cs' _ hfu (fun k hk=>hwt k (.inr (.inl (zgv (List.mem_map_of_mem (List.getElem_mem _)) k hk)))) ht'
   obtain ⟨-,hlen',hat⟩:=World.cells?_some hc
   have hspot:a=⟨a.block,a.off,none⟩:=by
    have h1':=hel2 0 Qk
    rw [he,List.getElem?_eq_getElem Qk] at h1'
    obtain ⟨cs0,hc0,-⟩:=Option.bind_eq_some_iff.1 h1'
    obtain ⟨-,hl0,hat0⟩:=World.cells?_some hc0
    have h2:=hat0 0 hs
    rw [Nat.zero_mul] at h2
    obtain ⟨u,hu⟩:∃ u,cs0[0]? = some u:=⟨cs0[0]'Qk,List.getElem?_eq_getElem Qk⟩
    rw [hu] at h2
    exact zok (v:=u) (by simpa [Addr.add] using h2)
   refine ⟨v,hq,hr _ _ (fun j u hu=>?_),hspot⟩
   have hj:j < size:=by have:=(List.getElem?_eq_some_iff.1 hu).1;omega
   have h2:=hat j hj
   rw [hspot,zx9,hu] at h2
   exact h2
  obtain ⟨l,hll,hp⟩:=zs0 (fun i v=>Q v∧R a.block (a.off+i*size) v∧a=⟨a.block,a.off,none⟩) len H
  refine ⟨l,some a,cap,by rw [hll],by omega,⟨by omega,fun hpos=>⟨a.block,a.off,congrArg some (hp 0 hpos).2.2,fun k hk=>(hp k hk).2.1⟩⟩,fun v hv=>?_⟩
  obtain ⟨i,hi,rfl⟩:=List.getElem_of_mem hv
  exact (hp i hi).1
theorem z0s {α:Type} {l:List α} (h:l.length=5):∃ a b c d e,l=[a,b,c,d,e]:=by
 match l,h with
 | [a,b,c,d,e],_=>exact ⟨a,b,c,d,e,rfl⟩
theorem two {α:Type} {l:List α} (h:l.length=2):∃ a b,l=[a,b]:=by
 match l,h with
 | [a,b],_=>exact ⟨a,b,rfl⟩
theorem zwj:0 < Tryz.prog.bytesOf 28:=of_decide_eq_true (by kernel_rfl)
theorem zwk:0 < Tryz.prog.bytesOf 9:=of_decide_eq_true (by kernel_rfl)
theorem zex {s:ByteArray} {p:DataW H × List MemPlace} (hx:p=(.lit (.string s.data.toList),[])) (h:∀ k ∈ p.1.weights Tryz.prog 9,k≤reachBytes):s.size≤140737488355328:=by
 subst hx
 have h1:=h s.data.toList.length (by simp [DataW.weights])
 have h2:=reachBytes_lt
 rw [Array.length_toList] at h1
 have h3:s.data.size=s.size:=rfl
 omega
theorem zja:∀ fuel:Nat,
  (∀ (cs:List Value) (x:DataW H × List MemPlace),(∀ k ∈ x.1.weights Tryz.prog 28,k≤reachBytes)→DataW.trod enc Tryz.prog w base spare held fuel 28 cs=some x→∃ v:Val,szV v∧∀ b o,(∀ j u,cs[j]? = some u→w.cell? ⟨b,o+j,none⟩=some u)→zx w (fun _=>True) b o v) ∧
  (∀ (t:TypeId) (cs:List Value) (x:DataW H × List MemPlace),Tryz.prog.underlying t=some (.slice 28)→(∀ k ∈ x.1.weights Tryz.prog t,k≤reachBytes)→DataW.trod enc Tryz.prog w base spare held fuel t cs=some x→∃ (l:List Val) (A:Option Addr) (c:Nat),cs=[.slice A l.length c]∧l.length≤c∧zk w (fun _=>True) A l∧szL l)
 | 0=>⟨fun cs x _ h=>by simp [DataW.trod] at h,fun t cs x _ _ h=>by simp [DataW.trod] at h⟩
 | n+1=>by
  obtain ⟨ih1,ih2⟩:=zja n
  refine ⟨fun cs x hwt h=>?_,fun t cs x ht hwt h=>?_⟩
  ·obtain ⟨xs,m,hm,rfl,hl,hlen,hg⟩:=DataW.trod_struct Tryz.underlying28 h
   obtain rfl:m=n:=by omega
   rw [zgz] at hl
   obtain ⟨c0,c1,c2,c3,c4,rfl⟩:=z0s hl
   obtain ⟨y0,y1,y2,y3,y4,rfl⟩:=z0s (show xs.length=5 from hlen)
   have g0:DataW.trod enc Tryz.prog w base spare held m 3 (([c0,c1,c2,c3,c4].drop 0).take (Tryz.prog.cellsOf 3))=some y0:=hg 0 _ rfl
   rw [zbv] at g0
   have g1:DataW.trod enc Tryz.prog w base spare held m 3 (([c0,c1,c2,c3,c4].drop 1).take (Tryz.prog.cellsOf 3))=some y1:=hg 1 _ rfl
   rw [zbv] at g1
   have g2:DataW.trod enc Tryz.prog w base spare held m 3 (([c0,c1,c2,c3,c4].drop 2).take (Tryz.prog.cellsOf 3))=some y2:=hg 2 _ rfl
   rw [zbv] at g2
   have g3:DataW.trod enc Tryz.prog w base spare held m 9 (([c0,c1,c2,c3,c4].drop 3).take (Tryz.prog.cellsOf 9))=some y3:=hg 3 _ rfl
   rw [zfx] at g3
   have g4:DataW.trod enc Tryz.prog w base spare held m 26 (([c0,c1,c2,c3,c4].drop 4).take (Tryz.prog.cellsOf 26))=some y4:=hg 4 _ rfl
   rw [zm3] at g4
   have hwe:∀ k ∈ DataW.weightsEach Tryz.prog [3,3,3,9,26] [y0.1,y1.1,y2.1,y3.1,y4.1],k≤reachBytes:=fun k hk=>hwt k (by
    simp only [DataW.weights,Tryz.underlying28]
    exact hk)
   obtain ⟨k0,e0,-,-⟩:=DataW.trod_int (k:= .i64) Tryz.underlying3 g0
   obtain ⟨k1,e1,-,-⟩:=DataW.trod_int (k:= .i64) Tryz.underlying3 g1
   obtain ⟨k2,e2,-,-⟩:=DataW.trod_int (k:= .i64) Tryz.underlying3 g2
   obtain ⟨s,e3,x3,-⟩:=DataW.trod_string Tryz.underlying9 g3
   have hsz:=zex x3 (fun k hk=>hwe k (DataW.weights_mem_each (j:=3) rfl rfl k hk))
   obtain ⟨l,A,c,e4,hlc,hv,hszl⟩:=ih2 _ _ _ Tryz.underlying26 (fun k hk=>hwe k (DataW.weights_mem_each (j:=4) rfl rfl k hk)) g4
   cases e0;cases e1;cases e2;cases e3;cases e4
   refine ⟨.mk k0 k1 k2 s l,zd7.2 ⟨hsz,hszl⟩,fun b o hc=>zx.iff.2 ⟨trivial,A,c,⟨hc 0 _ rfl,hc 1 _ rfl,hc 2 _ rfl,hc 3 _ rfl,hc 4 _ rfl⟩,hlc,hv⟩⟩
  ·obtain ⟨l,A,c,e,hlc,hv,hq⟩:=zfu (α:=Val) ht zgz zwj Qj (zx w (fun _=>True)) szV (fun m cs' y hm hk hy=>by
    obtain rfl:m=n:=by omega
    exact ih1 cs' y hk hy) hwt h
   exact ⟨l,A,c,e,hlc,hv,zti hq⟩
theorem zt5 {t:TypeId} {fuel:Nat} {cs:List Value} {x:DataW H × List MemPlace} (ht:Tryz.prog.underlying t=some (.slice 9)) (hwt:∀ k ∈ x.1.weights Tryz.prog t,k≤reachBytes) (h:DataW.trod enc Tryz.prog w base spare held fuel t cs=some x) :
  ∃ (l:List ByteArray) (A:Option Addr) (c:Nat),cs=[.slice A l.length c]∧l.length≤c∧zcq w (fun _=>True) A l∧∀ s ∈ l,s.size≤140737488355328 :=
 zfu (α:=ByteArray) ht zfx zwk Qj (zzj w (fun _=>True)) (fun s=>s.size≤140737488355328) (fun _ cs' y _ hk hy=>by
  obtain ⟨s,e,x3,-⟩:=DataW.trod_string Tryz.underlying9 hy
  have hsz:=zex x3 hk
  subst e
  exact ⟨s,hsz,fun b o hc=>⟨trivial,hc 0 _ rfl⟩⟩) hwt h
end
section
variable {H:Type} {enc:TypeId × Value→H} {P:Program}
theorem zya {f:Func} {s:ChangeSpec} {apart fresh handsOn again:Bool} {W W':World} {args:Array Value} {v:Value} {ds gs:List (DataW H)} {before pa pv:List MemPlace}
  (hW:DataW.Whole enc P f.params.toList s.vars apart W args.toList ds gs before)
  (hres:∀ (b:Nat) (sp:Nat→Bool) (hd:Bool),DataW.TrodAll enc P W' b sp hd f.resultTypes.toList (v.resultList f.resultTypes.size) (s.fn H (ds ++ gs)).results [])
  (hargs:∀ sp:Nat→Bool,(∀ p ∈ before,sp p.block=true)→DataW.TrodAll enc P W' 0 sp true f.params.toList args.toList (s.fn H (ds ++ gs)).args pa)
  (hvars:∀ sp:Nat→Bool,(∀ p ∈ before,sp p.block=true)→DataW.TrodVars enc P W' sp s.vars (s.fn H (ds ++ gs)).vars pv)
  (hps:before=pa ++ pv) (hb:Below W.heap.size W W')
  (hok:∀ (j:Nat) (t:TypeId) (r:Value),f.resultTypes[j]? = some t→(v.resultList f.resultTypes.size)[j]? = some r→Value.okWide P W' .any 0 t r) :
  s.post enc P f apart fresh handsOn again W args v W':=by
 have hlt:∀ p ∈ before,p.block < W.heap.size:=fun p hp=>hW.lt p hp
 have hold:∀ p ∈ before,(fun b=>decide (b < W.heap.size)) p.block=true:=fun p hp=>by simpa using hlt p hp
 refine ⟨ds,gs,before,[],pa,pv,hW,hres _ _ _,hargs _ hold,hvars _ hold,World.keptBut_mono (fun p hp=>⟨hp,?_⟩) (hb.frame (· ∈ before)),fun _=>?_⟩
 ·rw [hps,List.mem_append] at hp
  exact Or.inr hp
 ·obtain ⟨_,_,_,_,_,hz,hn⟩:=hW
  refine ⟨hok,_,_,([] ++ pa) ++ pv,⟨[] ++ pa,pv,trodAll_append (hargs _ (fun _ _=>rfl)) (hres _ _ _),hvars _ (fun _ _=>rfl),rfl,?_,?_⟩,?_⟩
  ·intro b off hp
   have hin:MemPlace.cell b off ∈ before:=by rw [hps];simpa using hp
   rw [hb.frozen (hlt _ hin)]
   exact hz b off hin
  ·intro ha
   have:=hn ha
   rw [hps] at this
   simpa using this
  ·intro p hp _
   rw [hps]
   simpa using hp
end
end Go.Proofs.YtfhekbacigoblaaGreatDoor
