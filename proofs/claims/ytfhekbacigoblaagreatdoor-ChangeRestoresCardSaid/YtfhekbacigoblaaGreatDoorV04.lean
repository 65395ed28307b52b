import Derived.Test.YtfhekbacigoblaaGreatDoorV03
import Derived.Deep.RegionHeld3
import Derived.Test.YtfhekbacigoblaaGreatDoorCards
import Derived.Test.YtfhekbacigoblaaGreatDoorTie
import Derived.ProofKit
import Derived.Deep.Fields
import Derived.OpenShut
import Derived.LaidMore
import Derived.Deep.DeepHandedRow
import Derived.Deep.DeepWitnessRowRef
import Derived.SizedLaws
import Derived.Deep.Slices
import Derived.Lib.SmallJoins
import Derived.Lay
import Derived.Carry
import Derived.MakeChecks
namespace Go.Proofs.YtfhekbacigoblaaGreatDoor
open Go.RowKit
def fixN (n d:Int):Int:=if validB n d then n else 0
def fixD (n d:Int):Int:=if validB n d then d else 1
def cmpS (an ad bn bd:Int):Int:=sgn (fixN an ad*fixD bn bd - fixN bn bd*fixD an ad)
theorem fix_bounds (n d:Int):(-1000000000000000≤fixN n d∧fixN n d≤1000000000000000)∧(-1000000000000000≤fixD n d∧fixD n d≤1000000000000000):=by
 unfold fixN fixD
 cases h:validB n d
 ·simp
 ·obtain ⟨h1,h2,h3,h4⟩:=validB_iff.1 h
  simp only [if_true];omega
def CmpSt (w:World) (A B C D:Int) (V:World):Prop :=
 Below w.heap.size w V∧w.heap.size+1 < V.heap.size∧V.cell? ⟨w.heap.size,0,none⟩=some (.int .i64 A)∧V.cell? ⟨w.heap.size,1,none⟩=some (.int .i64 B)∧V.cell? ⟨w.heap.size+1,0,none⟩=some (.int .i64 C)∧V.cell? ⟨w.heap.size+1,1,none⟩=some (.int .i64 D)
theorem CmpSt.step {w:World} {A B C D:Int} {V V':World} (q:CmpSt w A B C D V) (hb:Below V.heap.size V V'):CmpSt w A B C D V':=by
 obtain ⟨q0,q1,q2,q3,q4,q5⟩:=q
 obtain ⟨hc,hf⟩:=bcell hb
 have hs:=hb.size
 exact ⟨below_step q0 hb,by omega,(hc _ _ (by omega)).trans q2,(hc _ _ (by omega)).trans q3,(hc _ _ (by omega)).trans q4,(hc _ _ (by omega)).trans q5⟩
theorem CmpSt.conj {w:World} {A B C D:Int} {V:World} (q:CmpSt w A B C D V):V.cell? ⟨w.heap.size,0,none⟩=some (.int .i64 A)∧V.cell? ⟨w.heap.size,1,none⟩=some (.int .i64 B)∧V.cell? ⟨w.heap.size+1,0,none⟩=some (.int .i64 C)∧V.cell? ⟨w.heap.size+1,1,none⟩=some (.int .i64 D)∧CmpSt w A B C D V :=
 ⟨q.2.2.1,q.2.2.2.1,q.2.2.2.2.1,q.2.2.2.2.2,q⟩
theorem CmpSt.drew {w:World} {A B C D:Int} {V:World} (q:CmpSt w A B C D V):CmpSt w A B C D V.drew:=q.step (below_drew' (Below.refl _ _))
theorem wval_product_neg (C B:Int):wval (decide (0 < C) != decide (B < 0)) (C.natAbs*B.natAbs) = -C*B:=by
 have h:=wval_product (-C) B
 rw [Int.natAbs_neg] at h
 rw [show decide (0 < C)=decide (-C < 0) from decide_eq_decide.2 (by omega)]
 exact h
theorem fix_no {n d:Int} (h:validB n d=false):fixN n d=0∧fixD n d=1:=by unfold fixN fixD;rw [h];exact ⟨rfl,rfl⟩
theorem fix_yes {n d:Int} (h:validB n d=true):fixN n d=n∧fixD n d=d:=by unfold fixN fixD;rw [h];exact ⟨rfl,rfl⟩
set_option maxHeartbeats 3200000 in
theorem frac_Cmp (an ad bn bd:Int) (w:World) (hZ0:ZeroAt w) :
  Calls Tryz.prog 145 #[.agg #[.int .i64 an, .int .i64 ad], .agg #[.int .i64 bn, .int .i64 bd]] w fun e w'=>e = .returned (.int .i64 (cmpS an ad bn bd))∧Below w.heap.size w w':=by
 obtain ⟨⟨x1,x2⟩,x3,x4⟩:=fix_bounds an ad
 obtain ⟨⟨y1,y2⟩,y3,y4⟩:=fix_bounds bn bd
 have HR:Hid (cmpS an ad bn bd=sgn (fixN an ad*fixD bn bd - fixN bn bd*fixD an ad)):=Lib.hid rfl
 generalize cmpS an ad bn bd=R at *
 obtain ⟨z0,z1,z2⟩:=hZ0
 obtain ⟨A,hA⟩:∃ A,Hid (fixN an ad=A):=⟨_,rfl⟩
 obtain ⟨B,hB⟩:∃ B,Hid (fixD an ad=B):=⟨_,rfl⟩
 obtain ⟨C,hC⟩:∃ C,Hid (fixN bn bd=C):=⟨_,rfl⟩
 obtain ⟨D,hD⟩:∃ D,Hid (fixD bn bd=D):=⟨_,rfl⟩
 rw [hA.out,hB.out,hC.out,hD.out] at HR
 rw [hA.out] at x1 x2
 rw [hB.out] at x3 x4
 rw [hC.out] at y1 y2
 rw [hD.out] at y3 y4
 have M1:=mul_lt_wide (a:=A) (b:=D) ⟨x1,x2⟩ ⟨y3,y4⟩
 have M2:=mul_lt_wide (a := -C) (b:=B) ⟨by omega,by omega⟩ ⟨x3,x4⟩
 have hn0:¬w.heap.size=0:=by omega
 have hm0:¬0=w.heap.size:=by omega
 cases ha:validB an ad <;> cases hb:validB bn bd
 ·have hSt:Hid (∀ V,CmpSt w 0 1 0 1 V→CmpSt w A B C D V):=by
   intro V hV
   rw [←hA.out,←hB.out,←hC.out,←hD.out,(fix_no ha).1,(fix_no ha).2,(fix_no hb).1,(fix_no hb).2]
   exact hV
  go_enter Tryz.func145,Tryz.ntmps145
  go_wp2_with fail
  refine (frac_Valid _ _ _).mono ?_
  rintro e w' ⟨rfl,hbb⟩
  obtain ⟨hc,hf⟩:=bcell hbb
  have c0:w'.cell? ⟨w.heap.size,0,none⟩=some (.int .i64 an):=(hc _ _ (by first|omega|(simp;done)|(simp;omega))).trans (by go_simp);have f0:w'.frozen? ⟨w.heap.size,0,none⟩=false:=(hf _ _ (by first|omega|(simp;done)|(simp;omega))).trans (by go_simp);have c1:w'.cell? ⟨w.heap.size,1,none⟩=some (.int .i64 ad):=(hc _ _ (by first|omega|(simp;done)|(simp;omega))).trans (by go_simp);have f1:w'.frozen? ⟨w.heap.size,1,none⟩=false:=(hf _ _ (by first|omega|(simp;done)|(simp;omega))).trans (by go_simp);have c2:w'.cell? ⟨w.heap.size+1,0,none⟩=some (.int .i64 bn):=(hc _ _ (by first|omega|(simp;done)|(simp;omega))).trans (by go_simp);have f2:w'.frozen? ⟨w.heap.size+1,0,none⟩=false:=(hf _ _ (by first|omega|(simp;done)|(simp;omega))).trans (by go_simp);have c3:w'.cell? ⟨w.heap.size+1,1,none⟩=some (.int .i64 bd):=(hc _ _ (by first|omega|(simp;done)|(simp;omega))).trans (by go_simp);have f3:w'.frozen? ⟨w.heap.size+1,1,none⟩=false:=(hf _ _ (by first|omega|(simp;done)|(simp;omega))).trans (by go_simp);have k0:w'.cell? ⟨0,0,none⟩=some (.int .i64 0):=(hc _ _ (by first|omega|(simp;done)|(simp;omega))).trans (by go_simp);have k1:w'.cell? ⟨0,1,none⟩=some (.int .i64 1):=(hc _ _ (by first|omega|(simp;done)|(simp;omega))).trans (by go_simp);have hz:w.heap.size+1 < w'.heap.size:=(by have hs:=hbb.size;first|omega|(simp at hs;done)|(simp at hs;omega));have hbA:Below w.heap.size w w':=Below.trans (b:=_) (by repeat (first|with_reducible exact Below.refl _ _|with_reducible assumption|with_reducible refine below_drewN' ?_ _|(with_reducible refine Below.setCell ?_ (by first|(simp;done)|(simp;omega)) _)|(with_reducible refine Below.alloc ?_ (by first|exact Nat.le_refl _|(simp;done)|(simp;omega)) _))) (hbb.mono (by first|omega|(simp;done)|(simp;omega)));clear hc hf hbb
  go_wp2_with fail
  refine (frac_Valid _ _ _).mono ?_
  rintro e w' ⟨rfl,hbb⟩
  obtain ⟨hc,hf⟩:=bcell hbb
  have c0:w'.cell? ⟨w.heap.size,0,none⟩=some (.int .i64 0):=(hc _ _ (by first|omega|(simp;done)|(simp;omega))).trans (by go_simp);have f0:w'.frozen? ⟨w.heap.size,0,none⟩=false:=(hf _ _ (by first|omega|(simp;done)|(simp;omega))).trans (by go_simp);have c1:w'.cell? ⟨w.heap.size,1,none⟩=some (.int .i64 1):=(hc _ _ (by first|omega|(simp;done)|(simp;omega))).trans (by go_simp);have f1:w'.frozen? ⟨w.heap.size,1,none⟩=false:=(hf _ _ (by first|omega|(simp;done)|(simp;omega))).trans (by go_simp);have c2:w'.cell? ⟨w.heap.size+1,0,none⟩=some (.int .i64 bn):=(hc _ _ (by first|omega|(simp;done)|(simp;omega))).trans (by go_simp);have f2:w'.frozen? ⟨w.heap.size+1,0,none⟩=false:=(hf _ _ (by first|omega|(simp;done)|(simp;omega))).trans (by go_simp);have c3:w'.cell? ⟨w.heap.size+1,1,none⟩=some (.int .i64 bd):=(hc _ _ (by first|omega|(simp;done)|(simp;omega))).trans (by go_simp);have f3:w'.frozen? ⟨w.heap.size+1,1,none⟩=false:=(hf _ _ (by first|omega|(simp;done)|(simp;omega))).trans (by go_simp);have k0:w'.cell? ⟨0,0,none⟩=some (.int .i64 0):=(hc _ _ (by first|omega|(simp;done)|(simp;omega))).trans (by go_simp);have k1:w'.cell? ⟨0,1,none⟩=some (.int .i64 1):=(hc _ _ (by first|omega|(simp;done)|(simp;omega))).trans (by go_simp);have hz:w.heap.size+1 < w'.heap.size:=(by have hs:=hbb.size;first|omega|(simp at hs;done)|(simp at hs;omega));have hbA:Below w.heap.size w w':=Below.trans (b:=_) (by repeat (first|with_reducible exact Below.refl _ _|with_reducible assumption|with_reducible refine below_drewN' ?_ _|(with_reducible refine Below.setCell ?_ (by first|(simp;done)|(simp;omega)) _)|(with_reducible refine Below.alloc ?_ (by first|exact Nat.le_refl _|(simp;done)|(simp;omega)) _))) (hbb.mono (by first|omega|(simp;done)|(simp;omega)));clear hc hf hbb
  go_wp2_with fail
  refine forget_world (CmpSt w 0 1 0 1) ⟨(by repeat (first|with_reducible exact Below.refl _ _|with_reducible assumption|with_reducible refine below_drewN' ?_ _|(with_reducible refine Below.setCell ?_ (by first|(simp;done)|(simp;omega)) _)|(with_reducible refine Below.alloc ?_ (by first|exact Nat.le_refl _|(simp;done)|(simp;omega)) _))),by first|(go_simp;done)|(simp;omega),by go_simp,by go_simp,by go_simp,by go_simp⟩ ?_
  clear c0 c1 c2 c3 f0 f1 f2 f3 k0 k1 hz hbA
  intro V hV
  have hV2:=hSt.out V hV
  clear hV hSt hA hB hC hD ha hb
  have J1:IntKind.i64.wrap (-C) = -C:=IntWalk.i64_in _ ⟨by omega,by omega⟩
  go_region_held3 (fun V=>V.cell? ⟨w.heap.size,0,none⟩=some (.int .i64 A)∧V.cell? ⟨w.heap.size,1,none⟩=some (.int .i64 B)∧V.cell? ⟨w.heap.size+1,0,none⟩=some (.int .i64 C)∧V.cell? ⟨w.heap.size+1,1,none⟩=some (.int .i64 D)∧CmpSt w A B C D V) (first|exact (CmpSt.drew hV2).conj|exact CmpSt.conj (by assumption)) (first|(go_at_call 192;refine (frac_product _ _ _ ⟨by omega,by omega⟩ ⟨by omega,by omega⟩).mono ?_;rintro e w' ⟨h,l,rfl,HW,hbb⟩;have hst:=CmpSt.step (‹_∧_∧_∧_∧CmpSt _ _ _ _ _ _›.2.2.2.2) hbb)|(go_at_call 193;refine Calls.mono (wide_plus (m1:=?ma) (m2:=?mb) _ _ _ _ _ _ _ (W1:=?wa) (W2:=?wb) ?wc) ?_;(case wa=>assumption);(case wb=>assumption);(case wc=>exact Nat.lt_of_le_of_lt (Nat.add_le_add M1 M2) (by decide));rintro e w' ⟨h,l,rfl,HP,hbb⟩;have hst:=CmpSt.step (‹_∧_∧_∧_∧CmpSt _ _ _ _ _ _›.2.2.2.2) hbb)|(go_at_call 194;refine Calls.mono (wide_sign _ _ _ ?md _ ?wd) ?_;(case wd=>assumption);rintro e w' ⟨rfl,hbb⟩;have hst:=CmpSt.step (‹_∧_∧_∧_∧CmpSt _ _ _ _ _ _›.2.2.2.2) hbb))
  all_goals go_wp2_with fail
  all_goals go_ret
  all_goals refine ⟨ret_int ?_,(‹_∧_∧_∧_∧CmpSt _ _ _ _ _ _›.2.2.2.2).1⟩
  all_goals rw [HR.out,sgnW_sgn,wval_plus,wval_product,wval_product_neg]
  all_goals (congr 1;rw [Int.neg_mul];omega)
 ·have hSt:Hid (∀ V,CmpSt w 0 1 bn bd V→CmpSt w A B C D V):=by
   intro V hV
   rw [←hA.out,←hB.out,←hC.out,←hD.out,(fix_no ha).1,(fix_no ha).2,(fix_yes hb).1,(fix_yes hb).2]
   exact hV
  go_enter Tryz.func145,Tryz.ntmps145
  go_wp2_with fail
  refine (frac_Valid _ _ _).mono ?_
  rintro e w' ⟨rfl,hbb⟩
  obtain ⟨hc,hf⟩:=bcell hbb
  have c0:w'.cell? ⟨w.heap.size,0,none⟩=some (.int .i64 an):=(hc _ _ (by first|omega|(simp;done)|(simp;omega))).trans (by go_simp);have f0:w'.frozen? ⟨w.heap.size,0,none⟩=false:=(hf _ _ (by first|omega|(simp;done)|(simp;omega))).trans (by go_simp);have c1:w'.cell? ⟨w.heap.size,1,none⟩=some (.int .i64 ad):=(hc _ _ (by first|omega|(simp;done)|(simp;omega))).trans (by go_simp);have f1:w'.frozen? ⟨w.heap.size,1,none⟩=false:=(hf _ _ (by first|omega|(simp;done)|(simp;omega))).trans (by go_simp);have c2:w'.cell? ⟨w.heap.size+1,0,none⟩=some (.int .i64 bn):=(hc _ _ (by first|omega|(simp;done)|(simp;omega))).trans (by go_simp);have f2:w'.frozen? ⟨w.heap.size+1,0,none⟩=false:=(hf _ _ (by first|omega|(simp;done)|(simp;omega))).trans (by go_simp);have c3:w'.cell? ⟨w.heap.size+1,1,none⟩=some (.int .i64 bd):=(hc _ _ (by first|omega|(simp;done)|(simp;omega))).trans (by go_simp);have f3:w'.frozen? ⟨w.heap.size+1,1,none⟩=false:=(hf _ _ (by first|omega|(simp;done)|(simp;omega))).trans (by go_simp);have k0:w'.cell? ⟨0,0,none⟩=some (.int .i64 0):=(hc _ _ (by first|omega|(simp;done)|(simp;omega))).trans (by go_simp);have k1:w'.cell? ⟨0,1,none⟩=some (.int .i64 1):=(hc _ _ (by first|omega|(simp;done)|(simp;omega))).trans (by go_simp);have hz:w.heap.size+1 < w'.heap.size:=(by have hs:=hbb.size;first|omega|(simp at hs;done)|(simp at hs;omega));have hbA:Below w.heap.size w w':=Below.trans (b:=_) (by repeat (first|with_reducible exact Below.refl _ _|with_reducible assumption|with_reducible refine below_drewN' ?_ _|(with_reducible refine Below.setCell ?_ (by first|(simp;done)|(simp;omega)) _)|(with_reducible refine Below.alloc ?_ (by first|exact Nat.le_refl _|(simp;done)|(simp;omega)) _))) (hbb.mono (by first|omega|(simp;done)|(simp;omega)));clear hc hf hbb
  go_wp2_with fail
  refine (frac_Valid _ _ _).mono ?_
  rintro e w' ⟨rfl,hbb⟩
  obtain ⟨hc,hf⟩:=bcell hbb
  have c0:w'.cell? ⟨w.heap.size,0,none⟩=some (.int .i64 0):=(hc _ _ (by first|omega|(simp;done)|(simp;omega))).trans (by go_simp);have f0:w'.frozen? ⟨w.heap.size,0,none⟩=false:=(hf _ _ (by first|omega|(simp;done)|(simp;omega))).trans (by go_simp);have c1:w'.cell? ⟨w.heap.size,1,none⟩=some (.int .i64 1):=(hc _ _ (by first|omega|(simp;done)|(simp;omega))).trans (by go_simp);have f1:w'.frozen? ⟨w.heap.size,1,none⟩=false:=(hf _ _ (by first|omega|(simp;done)|(simp;omega))).trans (by go_simp);have c2:w'.cell? ⟨w.heap.size+1,0,none⟩=some (.int .i64 bn):=(hc _ _ (by first|omega|(simp;done)|(simp;omega))).trans (by go_simp);have f2:w'.frozen? ⟨w.heap.size+1,0,none⟩=false:=(hf _ _ (by first|omega|(simp;done)|(simp;omega))).trans (by go_simp);have c3:w'.cell? ⟨w.heap.size+1,1,none⟩=some (.int .i64 bd):=(hc _ _ (by first|omega|(simp;done)|(simp;omega))).trans (by go_simp);have f3:w'.frozen? ⟨w.heap.size+1,1,none⟩=false:=(hf _ _ (by first|omega|(simp;done)|(simp;omega))).trans (by go_simp);have k0:w'.cell? ⟨0,0,none⟩=some (.int .i64 0):=(hc _ _ (by first|omega|(simp;done)|(simp;omega))).trans (by go_simp);have k1:w'.cell? ⟨0,1,none⟩=some (.int .i64 1):=(hc _ _ (by first|omega|(simp;done)|(simp;omega))).trans (by go_simp);have hz:w.heap.size+1 < w'.heap.size:=(by have hs:=hbb.size;first|omega|(simp at hs;done)|(simp at hs;omega));have hbA:Below w.heap.size w w':=Below.trans (b:=_) (by repeat (first|with_reducible exact Below.refl _ _|with_reducible assumption|with_reducible refine below_drewN' ?_ _|(with_reducible refine Below.setCell ?_ (by first|(simp;done)|(simp;omega)) _)|(with_reducible refine Below.alloc ?_ (by first|exact Nat.le_refl _|(simp;done)|(simp;omega)) _))) (hbb.mono (by first|omega|(simp;done)|(simp;omega)));clear hc hf hbb
  go_wp2_with fail
  refine forget_world (CmpSt w 0 1 bn bd) ⟨(by repeat (first|with_reducible exact Below.refl _ _|with_reducible assumption|with_reducible refine below_drewN' ?_ _|(with_reducible refine Below.setCell ?_ (by first|(simp;done)|(simp;omega)) _)|(with_reducible refine Below.alloc ?_ (by first|exact Nat.le_refl _|(simp;done)|(simp;omega)) _))),by first|(go_simp;done)|(simp;omega),by go_simp,by go_simp,by go_simp,by go_simp⟩ ?_
  clear c0 c1 c2 c3 f0 f1 f2 f3 k0 k1 hz hbA
  intro V hV
  have hV2:=hSt.out V hV
  clear hV hSt hA hB hC hD ha hb
  have J1:IntKind.i64.wrap (-C) = -C:=IntWalk.i64_in _ ⟨by omega,by omega⟩
  go_region_held3 (fun V=>V.cell? ⟨w.heap.size,0,none⟩=some (.int .i64 A)∧V.cell? ⟨w.heap.size,1,none⟩=some (.int .i64 B)∧V.cell? ⟨w.heap.size+1,0,none⟩=some (.int .i64 C)∧V.cell? ⟨w.heap.size+1,1,none⟩=some (.int .i64 D)∧CmpSt w A B C D V) (first|exact (CmpSt.drew hV2).conj|exact CmpSt.conj (by assumption)) (first|(go_at_call 192;refine (frac_product _ _ _ ⟨by omega,by omega⟩ ⟨by omega,by omega⟩).mono ?_;rintro e w' ⟨h,l,rfl,HW,hbb⟩;have hst:=CmpSt.step (‹_∧_∧_∧_∧CmpSt _ _ _ _ _ _›.2.2.2.2) hbb)|(go_at_call 193;refine Calls.mono (wide_plus (m1:=?ma) (m2:=?mb) _ _ _ _ _ _ _ (W1:=?wa) (W2:=?wb) ?wc) ?_;(case wa=>assumption);(case wb=>assumption);(case wc=>exact Nat.lt_of_le_of_lt (Nat.add_le_add M1 M2) (by decide));rintro e w' ⟨h,l,rfl,HP,hbb⟩;have hst:=CmpSt.step (‹_∧_∧_∧_∧CmpSt _ _ _ _ _ _›.2.2.2.2) hbb)|(go_at_call 194;refine Calls.mono (wide_sign _ _ _ ?md _ ?wd) ?_;(case wd=>assumption);rintro e w' ⟨rfl,hbb⟩;have hst:=CmpSt.step (‹_∧_∧_∧_∧CmpSt _ _ _ _ _ _›.2.2.2.2) hbb))
  all_goals go_wp2_with fail
  all_goals go_ret
  all_goals refine ⟨ret_int ?_,(‹_∧_∧_∧_∧CmpSt _ _ _ _ _ _›.2.2.2.2).1⟩
  all_goals rw [HR.out,sgnW_sgn,wval_plus,wval_product,wval_product_neg]
  all_goals (congr 1;rw [Int.neg_mul];omega)
 ·have hSt:Hid (∀ V,CmpSt w an ad 0 1 V→CmpSt w A B C D V):=by
   intro V hV
   rw [←hA.out,←hB.out,←hC.out,←hD.out,(fix_yes ha).1,(fix_yes ha).2,(fix_no hb).1,(fix_no hb).2]
   exact hV
  go_enter Tryz.func145,Tryz.ntmps145
  go_wp2_with fail
  refine (frac_Valid _ _ _).mono ?_
  rintro e w' ⟨rfl,hbb⟩
  obtain ⟨hc,hf⟩:=bcell hbb
  have c0:w'.cell? ⟨w.heap.size,0,none⟩=some (.int .i64 an):=(hc _ _ (by first|omega|(simp;done)|(simp;omega))).trans (by go_simp);have f0:w'.frozen? ⟨w.heap.size,0,none⟩=false:=(hf _ _ (by first|omega|(simp;done)|(simp;omega))).trans (by go_simp);have c1:w'.cell? ⟨w.heap.size,1,none⟩=some (.int .i64 ad):=(hc _ _ (by first|omega|(simp;done)|(simp;omega))).trans (by go_simp);have f1:w'.frozen? ⟨w.heap.size,1,none⟩=false:=(hf _ _ (by first|omega|(simp;done)|(simp;omega))).trans (by go_simp);have c2:w'.cell? ⟨w.heap.size+1,0,none⟩=some (.int .i64 bn):=(hc _ _ (by first|omega|(simp;done)|(simp;omega))).trans (by go_simp);have f2:w'.frozen? ⟨w.heap.size+1,0,none⟩=false:=(hf _ _ (by first|omega|(simp;done)|(simp;omega))).trans (by go_simp);have c3:w'.cell? ⟨w.heap.size+1,1,none⟩=some (.int .i64 bd):=(hc _ _ (by first|omega|(simp;done)|(simp;omega))).trans (by go_simp);have f3:w'.frozen? ⟨w.heap.size+1,1,none⟩=false:=(hf _ _ (by first|omega|(simp;done)|(simp;omega))).trans (by go_simp);have k0:w'.cell? ⟨0,0,none⟩=some (.int .i64 0):=(hc _ _ (by first|omega|(simp;done)|(simp;omega))).trans (by go_simp);have k1:w'.cell? ⟨0,1,none⟩=some (.int .i64 1):=(hc _ _ (by first|omega|(simp;done)|(simp;omega))).trans (by go_simp);have hz:w.heap.size+1 < w'.heap.size:=(by have hs:=hbb.size;first|omega|(simp at hs;done)|(simp at hs;omega));have hbA:Below w.heap.size w w':=Below.trans (b:=_) (by repeat (first|with_reducible exact Below.refl _ _|with_reducible assumption|with_reducible refine below_drewN' ?_ _|(with_reducible refine Below.setCell ?_ (by first|(simp;done)|(simp;omega)) _)|(with_reducible refine Below.alloc ?_ (by first|exact Nat.le_refl _|(simp;done)|(simp;omega)) _))) (hbb.mono (by first|omega|(simp;done)|(simp;omega)));clear hc hf hbb
  go_wp2_with fail
  refine (frac_Valid _ _ _).mono ?_
  rintro e w' ⟨rfl,hbb⟩
  obtain ⟨hc,hf⟩:=bcell hbb
  have c0:w'.cell? ⟨w.heap.size,0,none⟩=some (.int .i64 an):=(hc _ _ (by first|omega|(simp;done)|(simp;omega))).trans (by go_simp);have f0:w'.frozen? ⟨w.heap.size,0,none⟩=false:=(hf _ _ (by first|omega|(simp;done)|(simp;omega))).trans (by go_simp);have c1:w'.cell? ⟨w.heap.size,1,none⟩=some (.int .i64 ad):=(hc _ _ (by first|omega|(simp;done)|(simp;omega))).trans (by go_simp);have f1:w'.frozen? ⟨w.heap.size,1,none⟩=false:=(hf _ _ (by first|omega|(simp;done)|(simp;omega))).trans (by go_simp);have c2:w'.cell? ⟨w.heap.size+1,0,none⟩=some (.int .i64 bn):=(hc _ _ (by first|omega|(simp;done)|(simp;omega))).trans (by go_simp);have f2:w'.frozen? ⟨w.heap.size+1,0,none⟩=false:=(hf _ _ (by first|omega|(simp;done)|(simp;omega))).trans (by go_simp);have c3:w'.cell? ⟨w.heap.size+1,1,none⟩=some (.int .i64 bd):=(hc _ _ (by first|omega|(simp;done)|(simp;omega))).trans (by go_simp);have f3:w'.frozen? ⟨w.heap.size+1,1,none⟩=false:=(hf _ _ (by first|omega|(simp;done)|(simp;omega))).trans (by go_simp);have k0:w'.cell? ⟨0,0,none⟩=some (.int .i64 0):=(hc _ _ (by first|omega|(simp;done)|(simp;omega))).trans (by go_simp);have k1:w'.cell? ⟨0,1,none⟩=some (.int .i64 1):=(hc _ _ (by first|omega|(simp;done)|(simp;omega))).trans (by go_simp);have hz:w.heap.size+1 < w'.heap.size:=(by have hs:=hbb.size;first|omega|(simp at hs;done)|(simp at hs;omega));have hbA:Below w.heap.size w w':=Below.trans (b:=_) (by repeat (first|with_reducible exact Below.refl _ _|with_reducible assumption|with_reducible refine below_drewN' ?_ _|(with_reducible refine Below.setCell ?_ (by first|(simp;done)|(simp;omega)) _)|(with_reducible refine Below.alloc ?_ (by first|exact Nat.le_refl _|(simp;done)|(simp;omega)) _))) (hbb.mono (by first|omega|(simp;done)|(simp;omega)));clear hc hf hbb
  go_wp2_with fail
  refine forget_world (CmpSt w an ad 0 1) ⟨(by repeat (first|with_reducible exact Below.refl _ _|with_reducible assumption|with_reducible refine below_drewN' ?_ _|(with_reducible refine Below.setCell ?_ (by first|(simp;done)|(simp;omega)) _)|(with_reducible refine Below.alloc ?_ (by first|exact Nat.le_refl _|(simp;done)|(simp;omega)) _))),by first|(go_simp;done)|(simp;omega),by go_simp,by go_simp,by go_simp,by go_simp⟩ ?_
  clear c0 c1 c2 c3 f0 f1 f2 f3 k0 k1 hz hbA
  intro V hV
  have hV2:=hSt.out V hV
  clear hV hSt hA hB hC hD ha hb
  have J1:IntKind.i64.wrap (-C) = -C:=IntWalk.i64_in _ ⟨by omega,by omega⟩
  go_region_held3 (fun V=>V.cell? ⟨w.heap.size,0,none⟩=some (.int .i64 A)∧V.cell? ⟨w.heap.size,1,none⟩=some (.int .i64 B)∧V.cell? ⟨w.heap.size+1,0,none⟩=some (.int .i64 C)∧V.cell? ⟨w.heap.size+1,1,none⟩=some (.int .i64 D)∧CmpSt w A B C D V) (first|exact (CmpSt.drew hV2).conj|exact CmpSt.conj (by assumption)) (first|(go_at_call 192;refine (frac_product _ _ _ ⟨by omega,by omega⟩ ⟨by omega,by omega⟩).mono ?_;rintro e w' ⟨h,l,rfl,HW,hbb⟩;have hst:=CmpSt.step (‹_∧_∧_∧_∧CmpSt _ _ _ _ _ _›.2.2.2.2) hbb)|(go_at_call 193;refine Calls.mono (wide_plus (m1:=?ma) (m2:=?mb) _ _ _ _ _ _ _ (W1:=?wa) (W2:=?wb) ?wc) ?_;(case wa=>assumption);(case wb=>assumption);(case wc=>exact Nat.lt_of_le_of_lt (Nat.add_le_add M1 M2) (by decide));rintro e w' ⟨h,l,rfl,HP,hbb⟩;have hst:=CmpSt.step (‹_∧_∧_∧_∧CmpSt _ _ _ _ _ _›.2.2.2.2) hbb)|(go_at_call 194;refine Calls.mono (wide_sign _ _ _ ?md _ ?wd) ?_;(case wd=>assumption);rintro e w' ⟨rfl,hbb⟩;have hst:=CmpSt.step (‹_∧_∧_∧_∧CmpSt _ _ _ _ _ _›.2.2.2.2) hbb))
  all_goals go_wp2_with fail
  all_goals go_ret
  all_goals refine ⟨ret_int ?_,(‹_∧_∧_∧_∧CmpSt _ _ _ _ _ _›.2.2.2.2).1⟩
  all_goals rw [HR.out,sgnW_sgn,wval_plus,wval_product,wval_product_neg]
  all_goals (congr 1;rw [Int.neg_mul];omega)
 ·have hSt:Hid (∀ V,CmpSt w an ad bn bd V→CmpSt w A B C D V):=by
   intro V hV
   rw [←hA.out,←hB.out,←hC.out,←hD.out,(fix_yes ha).1,(fix_yes ha).2,(fix_yes hb).1,(fix_yes hb).2]
   exact hV
  go_enter Tryz.func145,Tryz.ntmps145
  go_wp2_with fail
  refine (frac_Valid _ _ _).mono ?_
  rintro e w' ⟨rfl,hbb⟩
  obtain ⟨hc,hf⟩:=bcell hbb
  have c0:w'.cell? ⟨w.heap.size,0,none⟩=some (.int .i64 an):=(hc _ _ (by first|omega|(simp;done)|(simp;omega))).trans (by go_simp);have f0:w'.frozen? ⟨w.heap.size,0,none⟩=false:=(hf _ _ (by first|omega|(simp;done)|(simp;omega))).trans (by go_simp);have c1:w'.cell? ⟨w.heap.size,1,none⟩=some (.int .i64 ad):=(hc _ _ (by first|omega|(simp;done)|(simp;omega))).trans (by go_simp);have f1:w'.frozen? ⟨w.heap.size,1,none⟩=false:=(hf _ _ (by first|omega|(simp;done)|(simp;omega))).trans (by go_simp);have c2:w'.cell? ⟨w.heap.size+1,0,none⟩=some (.int .i64 bn):=(hc _ _ (by first|omega|(simp;done)|(simp;omega))).trans (by go_simp);have f2:w'.frozen? ⟨w.heap.size+1,0,none⟩=false:=(hf _ _ (by first|omega|(simp;done)|(simp;omega))).trans (by go_simp);have c3:w'.cell? ⟨w.heap.size+1,1,none⟩=some (.int .i64 bd):=(hc _ _ (by first|omega|(simp;done)|(simp;omega))).trans (by go_simp);have f3:w'.frozen? ⟨w.heap.size+1,1,none⟩=false:=(hf _ _ (by first|omega|(simp;done)|(simp;omega))).trans (by go_simp);have k0:w'.cell? ⟨0,0,none⟩=some (.int .i64 0):=(hc _ _ (by first|omega|(simp;done)|(simp;omega))).trans (by go_simp);have k1:w'.cell? ⟨0,1,none⟩=some (.int .i64 1):=(hc _ _ (by first|omega|(simp;done)|(simp;omega))).trans (by go_simp);have hz:w.heap.size+1 < w'.heap.size:=(by have hs:=hbb.size;first|omega|(simp at hs;done)|(simp at hs;omega));have hbA:Below w.heap.size w w':=Below.trans (b:=_) (by repeat (first|with_reducible exact Below.refl _ _|with_reducible assumption|with_reducible refine below_drewN' ?_ _|(with_reducible refine Below.setCell ?_ (by first|(simp;done)|(simp;omega)) _)|(with_reducible refine Below.alloc ?_ (by first|exact Nat.le_refl _|(simp;done)|(simp;omega)) _))) (hbb.mono (by first|omega|(simp;done)|(simp;omega)));clear hc hf hbb
  go_wp2_with fail
  refine (frac_Valid _ _ _).mono ?_
  rintro e w' ⟨rfl,hbb⟩
  obtain ⟨hc,hf⟩:=bcell hbb
  have c0:w'.cell? ⟨w.heap.size,0,none⟩=some (.int .i64 an):=(hc _ _ (by first|omega|(simp;done)|(simp;omega))).trans (by go_simp);have f0:w'.frozen? ⟨w.heap.size,0,none⟩=false:=(hf _ _ (by first|omega|(simp;done)|(simp;omega))).trans (by go_simp);have c1:w'.cell? ⟨w.heap.size,1,none⟩=some (.int .i64 ad):=(hc _ _ (by first|omega|(simp;done)|(simp;omega))).trans (by go_simp);have f1:w'.frozen? ⟨w.heap.size,1,none⟩=false:=(hf _ _ (by first|omega|(simp;done)|(simp;omega))).trans (by go_simp);have c2:w'.cell? ⟨w.heap.size+1,0,none⟩=some (.int .i64 bn):=(hc _ _ (by first|omega|(simp;done)|(simp;omega))).trans (by go_simp);have f2:w'.frozen? ⟨w.heap.size+1,0,none⟩=false:=(hf _ _ (by first|omega|(simp;done)|(simp;omega))).trans (by go_simp);have c3:w'.cell? ⟨w.heap.size+1,1,none⟩=some (.int .i64 bd):=(hc _ _ (by first|omega|(simp;done)|(simp;omega))).trans (by go_simp);have f3:w'.frozen? ⟨w.heap.size+1,1,none⟩=false:=(hf _ _ (by first|omega|(simp;done)|(simp;omega))).trans (by go_simp);have k0:w'.cell? ⟨0,0,none⟩=some (.int .i64 0):=(hc _ _ (by first|omega|(simp;done)|(simp;omega))).trans (by go_simp);have k1:w'.cell? ⟨0,1,none⟩=some (.int .i64 1):=(hc _ _ (by first|omega|(simp;done)|(simp;omega))).trans (by go_simp);have hz:w.heap.size+1 < w'.heap.size:=(by have hs:=hbb.size;first|omega|(simp at hs;done)|(simp at hs;omega));have hbA:Below w.heap.size w w':=Below.trans (b:=_) (by repeat (first|with_reducible exact Below.refl _ _|with_reducible assumption|with_reducible refine below_drewN' ?_ _|(with_reducible refine Below.setCell ?_ (by first|(simp;done)|(simp;omega)) _)|(with_reducible refine Below.alloc ?_ (by first|exact Nat.le_refl _|(simp;done)|(simp;omega)) _))) (hbb.mono (by first|omega|(simp;done)|(simp;omega)));clear hc hf hbb
  go_wp2_with fail
  refine forget_world (CmpSt w an ad bn bd) ⟨(by repeat (first|with_reducible exact Below.refl _ _|with_reducible assumption|with_reducible refine below_drewN' ?_ _|(with_reducible refine Below.setCell ?_ (by first|(simp;done)|(simp;omega)) _)|(with_reducible refine Below.alloc ?_ (by first|exact Nat.le_refl _|(simp;done)|(simp;omega)) _))),by first|(go_simp;done)|(simp;omega),by go_simp,by go_simp,by go_simp,by go_simp⟩ ?_
  clear c0 c1 c2 c3 f0 f1 f2 f3 k0 k1 hz hbA
  intro V hV
  have hV2:=hSt.out V hV
  clear hV hSt hA hB hC hD ha hb
  have J1:IntKind.i64.wrap (-C) = -C:=IntWalk.i64_in _ ⟨by omega,by omega⟩
  go_region_held3 (fun V=>V.cell? ⟨w.heap.size,0,none⟩=some (.int .i64 A)∧V.cell? ⟨w.heap.size,1,none⟩=some (.int .i64 B)∧V.cell? ⟨w.heap.size+1,0,none⟩=some (.int .i64 C)∧V.cell? ⟨w.heap.size+1,1,none⟩=some (.int .i64 D)∧CmpSt w A B C D V) (first|exact (CmpSt.drew hV2).conj|exact CmpSt.conj (by assumption)) (first|(go_at_call 192;refine (frac_product _ _ _ ⟨by omega,by omega⟩ ⟨by omega,by omega⟩).mono ?_;rintro e w' ⟨h,l,rfl,HW,hbb⟩;have hst:=CmpSt.step (‹_∧_∧_∧_∧CmpSt _ _ _ _ _ _›.2.2.2.2) hbb)|(go_at_call 193;refine Calls.mono (wide_plus (m1:=?ma) (m2:=?mb) _ _ _ _ _ _ _ (W1:=?wa) (W2:=?wb) ?wc) ?_;(case wa=>assumption);(case wb=>assumption);(case wc=>exact Nat.lt_of_le_of_lt (Nat.add_le_add M1 M2) (by decide));rintro e w' ⟨h,l,rfl,HP,hbb⟩;have hst:=CmpSt.step (‹_∧_∧_∧_∧CmpSt _ _ _ _ _ _›.2.2.2.2) hbb)|(go_at_call 194;refine Calls.mono (wide_sign _ _ _ ?md _ ?wd) ?_;(case wd=>assumption);rintro e w' ⟨rfl,hbb⟩;have hst:=CmpSt.step (‹_∧_∧_∧_∧CmpSt _ _ _ _ _ _›.2.2.2.2) hbb))
  all_goals go_wp2_with fail
  all_goals go_ret
  all_goals refine ⟨ret_int ?_,(‹_∧_∧_∧_∧CmpSt _ _ _ _ _ _›.2.2.2.2).1⟩
  all_goals rw [HR.out,sgnW_sgn,wval_plus,wval_product,wval_product_neg]
  all_goals (congr 1;rw [Int.neg_mul];omega)
theorem ZeroAt.ext {w w':World} (h:ZeroAt w) (e:Ext w w'):ZeroAt w':=h.below e
theorem v_class (v:Val) (A:Option Addr) (c:Nat) (w:World):Calls Tryz.prog 143 #[.agg #[.int .i64 v.kind, .int .i64 v.n, .int .i64 v.d, .string v.s, .slice A v.l.length c]] w fun e w'=>e = .returned (.int .i64 (cls v.kind))∧Ext w w':=by
 by_cases h3:v.kind=3
 ·have HF:=Lib.hid (show cls v.kind=2 by unfold cls;rw [if_pos h3])
  go_enter Tryz.func143,Tryz.ntmps143
  go_wp2
  go_ret
  exact ⟨ret_i64 HF.out.symm,(Ext.refl _).alloc _⟩
 ·by_cases h7:v.kind=7
  ·have HF:=Lib.hid (show cls v.kind=9 by unfold cls;rw [if_neg h3,if_pos h7])
   go_enter Tryz.func143,Tryz.ntmps143
   go_wp2
   go_ret
   exact ⟨ret_i64 HF.out.symm,(Ext.refl _).alloc _⟩
  ·have HF:=Lib.hid (show cls v.kind=v.kind by unfold cls;rw [if_neg h3,if_neg h7])
   go_enter Tryz.func143,Tryz.ntmps143
   go_wp2
   go_ret
   exact ⟨ret_i64 HF.out.symm,(Ext.refl _).alloc _⟩
set_option maxRecDepth 100000 in
set_option maxHeartbeats 1600000 in
theorem v_Number (v:Val) (ok:Nat→Prop) (A:Option Addr) (c:Nat) (w:World) (hv:Vals w ok A v.l) (hV:validV v=true) (hk:v.kind=2∨v.kind=3) :
  Calls Tryz.prog 144 #[.agg #[.int .i64 v.kind, .int .i64 v.n, .int .i64 v.d, .string v.s, .slice A v.l.length c]] w fun e w'=>e = .returned (.tuple #[.agg #[.int .i64 v.n, .int .i64 (dnV v.kind v.d)], .bool true])∧Ext w w':=by
 obtain ⟨g,w1,hg,hw1,⟨c0,c1,c2,c3,c4⟩,hx,-⟩:=box5 w v.kind v.n v.d v.s A v.l.length c 28
 have hz:g < w1.heap.size:=block_lt_of_cell c0
 obtain ⟨w2,hw2,hx2⟩:∃ w2,w2=w1.alloc (.cells #[.int .i64 0, .int .i64 0] 116)∧Ext w1 w2:=⟨_,rfl,(Ext.refl _).alloc _⟩
 have C:=v_Valid v ok A c w2 (hv.ext (hx.trans hx2))
 rw [hV] at C
 have HC:=Lib.hid C
 have HB:=Lib.hid (show w2.heap[w1.heap.size]? = some (.cells #[.int .i64 0, .int .i64 0] 116) by rw [hw2];exact heap_alloc_new _ _)
 obtain ⟨g2,hg2⟩:∃ g2,g2=w1.heap.size:=⟨_,rfl⟩
 rw [←hg2] at HB
 have hle:w1.heap.size≤g2:=by omega
 have HW1:=Lib.hid hw1
 have HW2:=Lib.hid hw2
 have HG:=Lib.hid hg
 have HG2:=Lib.hid (show g2=w.heap.size+1 by rw [hg2,hw1];go_simp)
 replace c0:=hx2.cell c0
 replace c1:=hx2.cell c1
 replace c2:=hx2.cell c2
 replace c3:=hx2.cell c3
 replace c4:=hx2.cell c4
 clear hw1 hw2 hg hv hV C hg2
 go_enter Tryz.func144,Tryz.ntmps144
 go_upto_region 1 with (fail)
 rw [←HW1.out,←HW2.out,←HG2.out,←HG.out]
 clear HW1 HG HW2 HG2
 have Hc0:=Lib.hid c0
 have Hc1:=Lib.hid c1
 have Hc2:=Lib.hid c2
 rcases hk with hk|hk
 ·rw [hk] at c0
  have hC0:=HC.out
  rw [hk] at hC0
  replace HC:=Lib.hid hC0
  clear hC0
  have HD:=Lib.hid (show dnV v.kind v.d=1 by unfold dnV;rw [hk];rfl)
  clear hk Hc0
  go_wp2_with fail
  refine (HC.out).mono ?_
  rintro e w3 ⟨rfl,hE⟩
  have hb1:=hE.heap HB.out
  replace c0:=hE.cell c0
  replace c1:=hE.cell c1
  replace c2:=hE.cell c2
  have f0:w3.frozen? ⟨g2,0,none⟩=false:=by simp [World.frozen?,hb1]
  have f1:w3.frozen? ⟨g2,1,none⟩=false:=by simp [World.frozen?,hb1]
  have e0:w3.cell? ⟨g2,0,none⟩=some (.int .i64 0):=by rw [cell_of_row w3 g2 0 _ _ _ hb1];rfl
  have e1:w3.cell? ⟨g2,1,none⟩=some (.int .i64 0):=by rw [cell_of_row w3 g2 1 _ _ _ hb1];rfl
  clear hb1 HB HC c3 c4 Hc1 Hc2
  go_wp2_with fail
  rw [HD.out]
  have hle2:w.heap.size≤g2:=Nat.le_trans hx.le hle
  exact bodyPost_ret (v := .tuple #[.agg #[.int .i64 v.n, .int .i64 1], .bool true]) (by simp [results,Tryz.results144,go_sem,e0,e1]) rfl ⟨rfl,(hx.trans (hx2.trans hE)).setCell hle2 _ |>.setCell hle2 _⟩
 ·rw [hk] at c0
  have hC0:=HC.out
  rw [hk] at hC0
  replace HC:=Lib.hid hC0
  clear hC0
  have HD:=Lib.hid (show dnV v.kind v.d=v.d by unfold dnV;rw [hk];rfl)
  clear hk Hc0
  go_wp2_with fail
  refine (HC.out).mono ?_
  rintro e w3 ⟨rfl,hE⟩
  have hb1:=hE.heap HB.out
  replace c0:=hE.cell c0
  replace c1:=hE.cell c1
  replace c2:=hE.cell c2
  have f0:w3.frozen? ⟨g2,0,none⟩=false:=by simp [World.frozen?,hb1]
  have f1:w3.frozen? ⟨g2,1,none⟩=false:=by simp [World.frozen?,hb1]
  have e0:w3.cell? ⟨g2,0,none⟩=some (.int .i64 0):=by rw [cell_of_row w3 g2 0 _ _ _ hb1];rfl
  have e1:w3.cell? ⟨g2,1,none⟩=some (.int .i64 0):=by rw [cell_of_row w3 g2 1 _ _ _ hb1];rfl
  clear hb1 HB HC c3 c4 Hc1 Hc2
  go_wp2_with fail
  rw [HD.out]
  have hle2:w.heap.size≤g2:=Nat.le_trans hx.le hle
  exact bodyPost_ret (v := .tuple #[.agg #[.int .i64 v.n, .int .i64 v.d], .bool true]) (by simp [results,Tryz.results144,go_sem,e0,e1]) rfl ⟨rfl,(hx.trans (hx2.trans hE)).setCell hle2 _ |>.setCell hle2 _⟩
theorem two_vals (w:World) (a b:Val) (A B:Option Addr) (c d:Nat) (t:TypeId):∃ (g1 g2:Nat) (w2:World),g1=w.heap.size∧g2=w.heap.size+1∧w2=(w.alloc (.cells #[.int .i64 a.kind, .int .i64 a.n, .int .i64 a.d, .string a.s, .slice A a.l.length c] t)).alloc (.cells #[.int .i64 b.kind, .int .i64 b.n, .int .i64 b.d, .string b.s, .slice B b.l.length d] t)∧V5 w2 g1 0 a A c∧V5 w2 g2 0 b B d∧Ext w w2∧w.heap.size≤g1∧w.heap.size≤g2∧g1 < w2.heap.size∧g2 < w2.heap.size:=by
 obtain ⟨g1,w1,hg1,hw1,h1,hx1,hl1⟩:=box_val w a A c t
 obtain ⟨g2,w2,hg2,hw2,h2,hx2,hl2⟩:=box_val w1 b B d t
 exact ⟨g1,g2,w2,hg1,by rw [hg2,hw1];go_simp,by rw [hw2,hw1],h1.ext hx2,h2,hx1.trans hx2,hl1,Nat.le_trans hx1.le hl2,block_lt_of_cell (h1.ext hx2).1,block_lt_of_cell h2.1⟩
theorem box2 (w:World) (x y:Int) (t:TypeId):∃ (g:Nat) (w1:World),g=w.heap.size∧w1=w.alloc (.cells #[.int .i64 x, .int .i64 y] t)∧w1.cell? ⟨g,0,none⟩=some (.int .i64 x)∧w1.cell? ⟨g,1,none⟩=some (.int .i64 y)∧Ext w w1∧w.heap.size≤g :=
 ⟨_,_,rfl,rfl,by go_simp,by go_simp,(Ext.refl _).alloc _,Nat.le_refl _⟩
theorem cmpS_q {n d n' d':Int} (h:validB n d=true) (h':validB n' d'=true):cmpS n d n' d'=cmpQ n d n' d':=by
 unfold cmpS cmpQ
 rw [(fix_yes h).1,(fix_yes h).2,(fix_yes h').1,(fix_yes h').2]
 unfold sgn Lib.compareInt
 repeat' split
 all_goals omega
set_option maxRecDepth 100000 in
set_option maxHeartbeats 3200000 in
theorem v_cmpU (a b:List Val) (ok ok':Nat→Prop) (A B:Option Addr) (c d:Nat) (w:World) (hz:ZeroAt w) (ha:Vals w ok A a) (hb:Vals w ok' B b) (hq:(∀ x ∈ a,validV x=true)∧(∀ y ∈ b,validV y=true))
  (hf:∀ x ∈ a,∀ y ∈ b,∀ (Ax By:Option Addr) (cx dy:Nat) (W:World),ZeroAt W→Vals W ok Ax x.l→Vals W ok' By y.l→validV x=true→validV y=true→Calls Tryz.prog 104 #[.agg #[.int .i64 x.kind, .int .i64 x.n, .int .i64 x.d, .string x.s, .slice Ax x.l.length cx], .agg #[.int .i64 y.kind, .int .i64 y.n, .int .i64 y.d, .string y.s, .slice By y.l.length dy]] W fun e W'=>e = .returned (.int .i64 (ordV x y))∧Ext W W') :
  Calls Tryz.prog 107 #[.slice A a.length c, .slice B b.length d, .func (.func 104) #[] #[]] w fun e w'=>e = .returned (.int .i64 (ordL a b))∧Ext w w':=by
 have hma:=ha.len
 have hmb:=hb.len
 have HZ:=Lib.hid hz
 have HA:=Lib.hid ha
 have HB:=Lib.hid hb
 have HF:=Lib.hid hf
 have HQ:=Lib.hid hq
 obtain ⟨R,hR⟩:∃ R,R=ordL a b:=⟨_,rfl⟩
 rw [←hR]
 have HR:=Lib.hid (show R=ordL (a.drop 0) (b.drop 0) from hR)
 clear hz ha hb hf hR hq
 go_enter Tryz.func107,Tryz.ntmps107
 go_wp2
 go_loopw [13] (fun u W => ∃ k:Nat,u = .int .i64 k∧k≤a.length∧k≤b.length∧Hid (R=ordL (a.drop k) (b.drop k))∧Ext w W) (fun u _=>a.length - (intOf u).toNat)
 case atStart=>exact ⟨0,rfl,Nat.zero_le _,Nat.zero_le _,HR,Ext.refl _⟩
 case round =>
  obtain ⟨k,rfl,hk,hkb,hS,hE⟩:=hrel
  by_cases hlt:k < a.length
  ·obtain ⟨ba,oa,rfl,hca⟩:=HA.out.2 (by omega)
   obtain ⟨-,A',c',h5,-,hv'⟩:=VCells.iff.1 (hca k hlt)
   obtain ⟨d0,d1,d2,d3,d4⟩:=h5.ext hE
   obtain ⟨g,w1,hg,hw1,h6,hx,-⟩:=box_val wr a[k] A' c' 28
   have HW1:=Lib.hid hw1
   have HG:=Lib.hid hg
   have HVx:=Lib.hid (hv'.ext hE)
   clear hw1 hg hca h5 hv'
   by_cases hltb:k < b.length
   ·obtain ⟨bb,ob,rfl,hcb⟩:=HB.out.2 (by omega)
    obtain ⟨-,B',d',h5,-,hv'⟩:=VCells.iff.1 (hcb k hltb)
    obtain ⟨e0,e1,e2,e3,e4⟩:=h5.ext (hE.trans hx)
    obtain ⟨g2,w2,hg2,hw2,h7,hx2,-⟩:=box_val w1 b[k] B' d' 28
    have HW2:=Lib.hid hw2
    have HG2:=Lib.hid hg2
    have HC:=Lib.hid (HF.out a[k] (List.getElem_mem hlt) b[k] (List.getElem_mem hltb) A' B' c' d' w2 (HZ.out.ext (hE.trans (hx.trans hx2))) (HVx.out.ext (hx.trans hx2)) (hv'.ext (hE.trans (hx.trans hx2))) (HQ.out.1 _ (List.getElem_mem hlt)) (HQ.out.2 _ (List.getElem_mem hltb)))
    have HD:=Lib.hid (show ordL (a.drop k) (b.drop k)=thenC (ordV a[k] b[k]) (ordL (a.drop (k+1)) (b.drop (k+1))) by rw [List.drop_eq_getElem_cons hlt,List.drop_eq_getElem_cons hltb,ordL])
    obtain ⟨p0,p1,p2,p3,p4⟩:=h6.ext hx2
    obtain ⟨q0,q1,q2,q3,q4⟩:=h7
    clear hw2 hg2 hcb h5 hv' h6
    generalize a[k]=x at *
    generalize b[k]=y at *
    generalize ordV x y=z at HC HD
    go_upto_region 4 with (fail)
    rw [←HW1.out,←HG.out]
    clear HW1 HG d0 d1 d2 d3 d4
    go_upto_region 7 with (fail)
    rw [←HW2.out,←HG2.out]
    clear HW2 HG2 e0 e1 e2 e3 e4
    by_cases hz0:z=0
    ·have HT:=Lib.hid (show R=ordL (a.drop (k+1)) (b.drop (k+1)) by rw [hS.out,HD.out,hz0];rfl)
     subst hz0
     go_wp2_with (go_at_call 104;((with_reducible refine (HC.out).mono ?_);rintro e w' ⟨rfl,hb⟩;have hb':Ext w2 w':=hb))
     go_roundw
     case rel=>exact ⟨k+1,by go_num,by omega,by omega,HT,hE.trans (hx.trans (hx2.trans hb'))⟩
     case measure=>simp [intOf];omega
    ·have HT:=Lib.hid (show R=z by rw [hS.out,HD.out,thenC_ne hz0])
     have hz':(z != 0)=true:=by simpa using hz0
     clear hz0
     go_wp2_with (go_at_call 104;((with_reducible refine (HC.out).mono ?_);rintro e w' ⟨rfl,hb⟩;have hb':Ext w2 w':=hb))
     go_ret
     exact ⟨ret_i64 HT.out.symm,hE.trans (hx.trans (hx2.trans hb'))⟩
   ·have HT:=Lib.hid (show R=1 by rw [hS.out,List.drop_eq_getElem_cons hlt,List.drop_of_length_le (by omega:b.length≤k),ordL])
    have hkb':b.length≤k:=by omega
    generalize a[k]=x at *
    go_upto_region 4 with (fail)
    rw [←HW1.out,←HG.out]
    clear HW1 HG d0 d1 d2 d3 d4 h6
    go_wp2
    go_ret
    exact ⟨ret_i64 HT.out.symm,hE.trans hx⟩
  ·have hk':k=a.length:=by omega
   by_cases hl:a.length < b.length
   ·have HT:=Lib.hid (show R = -1 by rw [hS.out,hk',List.drop_length,List.drop_eq_getElem_cons hl,ordL])
    go_wp2
    go_ret
    exact ⟨ret_i64 HT.out.symm,hE⟩
   ·have HT:=Lib.hid (show R=0 by rw [hS.out,hk',List.drop_length,List.drop_of_length_le (by omega),ordL])
    go_wp2
    go_ret
    exact ⟨ret_i64 HT.out.symm,hE⟩
set_option maxRecDepth 100000 in
set_option maxHeartbeats 6400000 in
theorem v_orderStep (a b:Val) (ok ok':Nat→Prop) (A B:Option Addr) (c d:Nat) (w:World) (hz:ZeroAt w) (ha:Vals w ok A a.l) (hb:Vals w ok' B b.l) (hva:validV a=true) (hvb:validV b=true)
  (ih:∀ x ∈ a.l,∀ y ∈ b.l,∀ (Ax By:Option Addr) (cx dy:Nat) (W:World),ZeroAt W→Vals W ok Ax x.l→Vals W ok' By y.l→validV x=true→validV y=true→Calls Tryz.prog 104 #[.agg #[.int .i64 x.kind, .int .i64 x.n, .int .i64 x.d, .string x.s, .slice Ax x.l.length cx], .agg #[.int .i64 y.kind, .int .i64 y.n, .int .i64 y.d, .string y.s, .slice By y.l.length dy]] W fun e W'=>e = .returned (.int .i64 (ordV x y))∧Ext W W') :
  Calls Tryz.prog 104 #[.agg #[.int .i64 a.kind, .int .i64 a.n, .int .i64 a.d, .string a.s, .slice A a.l.length c], .agg #[.int .i64 b.kind, .int .i64 b.n, .int .i64 b.d, .string b.s, .slice B b.l.length d]] w fun e w'=>e = .returned (.int .i64 (ordV a b))∧Ext w w':=by
 have HO:=Lib.hid (show ordV a b=thenC (Lib.compareInt (cls a.kind) (cls b.kind)) (if cls a.kind=2 then cmpQ a.n (dnV a.kind a.d) b.n (dnV b.kind b.d) else thenC (cmpT a.s b.s) (thenC (Lib.compareInt a.n b.n) (ordL a.l b.l))) by rw [ordV_eq,if_pos hva,if_pos hvb];rfl)
 generalize ordV a b=o at HO ⊢
 have HVA:=Lib.hid hva
 have HVB:=Lib.hid hvb
 have HZ:=Lib.hid hz
 have HA:=Lib.hid ha
 have HB:=Lib.hid hb
 have HCF:=Lib.hid (fun W (e:Ext w W)=>v_cmpU a.l b.l ok ok' A B c d W (hz.ext e) (ha.ext e) (hb.ext e) ⟨fun x hx=>validV_mem hva hx,fun y hy=>validV_mem hvb hy⟩ ih)
 have hma:=ha.len
 have hmb:=hb.len
 clear hva hvb hz ha hb ih
 obtain ⟨g1,g2,w2,hg1,hg2,hw2,h1,h2,hx,-,-,hl1,hl2⟩:=two_vals w a b A B c d 28
 have HG1:=Lib.hid hg1
 have HG2:=Lib.hid hg2
 have HW2:=Lib.hid hw2
 have MK:=Lib.hid (fun V (e:Ext w2 V)=>(⟨(h1.ext e).1,(h1.ext e).2.1,(h1.ext e).2.2.1,(h1.ext e).2.2.2.1,(h1.ext e).2.2.2.2,(h2.ext e).1,(h2.ext e).2.1,(h2.ext e).2.2.1,(h2.ext e).2.2.2.1,(h2.ext e).2.2.2.2,e⟩:V.cell? ⟨g1,0,none⟩=some (.int .i64 a.kind)∧V.cell? ⟨g1,1,none⟩=some (.int .i64 a.n)∧V.cell? ⟨g1,2,none⟩=some (.int .i64 a.d)∧V.cell? ⟨g1,3,none⟩=some (.string a.s)∧V.cell? ⟨g1,4,none⟩=some (.slice A a.l.length c)∧V.cell? ⟨g2,0,none⟩=some (.int .i64 b.kind)∧V.cell? ⟨g2,1,none⟩=some (.int .i64 b.n)∧V.cell? ⟨g2,2,none⟩=some (.int .i64 b.d)∧V.cell? ⟨g2,3,none⟩=some (.string b.s)∧V.cell? ⟨g2,4,none⟩=some (.slice B b.l.length d)∧Ext w2 V))
 clear hg1 hg2 hw2 h1 h2
 replace HCF:=Lib.hid (fun W (e:Ext w2 W)=>HCF.out W (hx.trans e))
 by_cases hcl:cls a.kind=cls b.kind
 ·have hcz:Lib.compareInt (cls a.kind) (cls b.kind)=0:=(TotC.int.zero _ _).2 hcl
  have hcz':(Lib.compareInt (cls a.kind) (cls b.kind) != 0)=false:=by rw [hcz];rfl
  by_cases h2:cls a.kind=2
  ·have HO':=Lib.hid (show o=cmpQ a.n (dnV a.kind a.d) b.n (dnV b.kind b.d) by rw [HO.out,hcz,if_pos h2];rfl)
   have fa:=validV_facts HVA.out
   have fb:=validV_facts HVB.out
   have HQ:=Lib.hid (cmpS_q (dnV_num fa h2) (dnV_num fb (hcl ▸ h2)))
   have HNA:=Lib.hid (fun W (e:Ext w2 W)=>v_Number a ok A c W (HA.out.ext (hx.trans e)) HVA.out (cls_two.1 h2))
   have HNB:=Lib.hid (fun W (e:Ext w2 W)=>v_Number b ok' B d W (HB.out.ext (hx.trans e)) HVB.out (cls_two.1 (hcl ▸ h2)))
   have h2':(cls a.kind == 2)=true:=by rw [h2];rfl
   clear fa fb hcz hcl h2 HVA HVB HO HCF HA HB
   generalize dnV a.kind a.d=da at *
   generalize dnV b.kind b.d=db at *
   go_enter Tryz.func104,Tryz.ntmps104
   go_upto_region 1 with (fail)
   rw [←HW2.out,←HG2.out,←HG1.out]
   clear HW2 HG2 HG1
   go_region_held3 (fun V=>V.cell? ⟨g1,0,none⟩=some (.int .i64 a.kind)∧V.cell? ⟨g1,1,none⟩=some (.int .i64 a.n)∧V.cell? ⟨g1,2,none⟩=some (.int .i64 a.d)∧V.cell? ⟨g1,3,none⟩=some (.string a.s)∧V.cell? ⟨g1,4,none⟩=some (.slice A a.l.length c)∧V.cell? ⟨g2,0,none⟩=some (.int .i64 b.kind)∧V.cell? ⟨g2,1,none⟩=some (.int .i64 b.n)∧V.cell? ⟨g2,2,none⟩=some (.int .i64 b.d)∧V.cell? ⟨g2,3,none⟩=some (.string b.s)∧V.cell? ⟨g2,4,none⟩=some (.slice B b.l.length d)∧Ext w2 V) ((exact MK.out _ (by solve_by_elim [X0,X1,X2,X3]))) ((first|(go_at_call 143;refine (v_class _ _ _ _).mono ?_;rintro e w' ⟨rfl,hb⟩;replace hb:Ext w2 w':=Ext.trans (by solve_by_elim [X0,X1,X2,X3]) hb)|(go_at_call 82;refine (c_cmp_int _ _ _).mono ?_;rintro e w' ⟨rfl,rfl⟩)))
   obtain ⟨a0,a1,a2,a3,a4,b0,b1,b2,b3,b4,hEw⟩ := ‹_∧_›
   go_wp2_with fail
   refine (v_class a A c _).mono ?_
   rintro e w5 ⟨rfl,h5⟩
   have hE5:Ext w2 w5:=Ext.trans (by solve_by_elim [X0,X1,X2,X3]) h5
   clear a0 a1 a2 a3 a4 b0 b1 b2 b3 b4 hEw h5
   obtain ⟨a0,a1,a2,a3,a4,b0,b1,b2,b3,b4,-⟩:=MK.out w5 (hE5)
   go_wp2_with fail
   refine (HNA.out w5 hE5).mono ?_
   rintro e w6 ⟨rfl,h6⟩
   have hE6:Ext w2 w6:=Ext.trans hE5 h6
   obtain ⟨g6,w7,hg6,hw7,p0,p1,h7,-⟩:=box2 w6 a.n da 116
   have hE7:=hE6.trans h7
   have HG6:=Lib.hid hg6
   have HW7:=Lib.hid hw7
   clear a0 a1 a2 a3 a4 b0 b1 b2 b3 b4 h6 hg6 hw7 h7 hE5
   obtain ⟨a0,a1,a2,a3,a4,b0,b1,b2,b3,b4,-⟩:=MK.out w7 (hE7)
   go_upto_region 6 with (fail)
   rw [←HW7.out,←HG6.out]
   clear HW7 HG6
   go_wp2_with fail
   refine (HNB.out w7 hE7).mono ?_
   rintro e w8 ⟨rfl,h8⟩
   obtain ⟨g8,w9,hg8,hw9,q0,q1,h9,-⟩:=box2 w8 b.n db 116
   replace p0:=(h8.trans h9).cell p0
   replace p1:=(h8.trans h9).cell p1
   have hE9:=hE7.trans (h8.trans h9)
   have HG8:=Lib.hid hg8
   have HW9:=Lib.hid hw9
   clear a0 a1 a2 a3 a4 b0 b1 b2 b3 b4 hg8 hw9 h8 h9 hE6 hE7
   go_upto_region 7 with (fail)
   rw [←HW9.out,←HG8.out]
   clear HW9 HG8
   go_wp2_with fail
   refine (frac_Cmp _ _ _ _ _ (HZ.out.ext (hx.trans hE9))).mono ?_
   rintro e w10 ⟨rfl,h10⟩
   have h10':Ext w9 w10:=h10
   go_wp2
   go_ret
   exact ⟨ret_i64 (HQ.out.trans HO'.out.symm),hx.trans (hE9.trans h10')⟩
  ·have HO':=Lib.hid (show o=orL [cmpT a.s b.s,Lib.compareInt a.n b.n,ordL a.l b.l] by rw [HO.out,hcz,if_neg h2];unfold orL orL orL orL;rw [thenC_0];rfl)
   have h2':(cls a.kind == 2)=false:=by simpa using h2
   clear hcz hcl h2 HVA HVB HO HA HB HZ
   go_enter Tryz.func104,Tryz.ntmps104
   go_upto_region 1 with (fail)
   rw [←HW2.out,←HG2.out,←HG1.out]
   clear HW2 HG2 HG1
   go_region_held3 (fun V=>V.cell? ⟨g1,0,none⟩=some (.int .i64 a.kind)∧V.cell? ⟨g1,1,none⟩=some (.int .i64 a.n)∧V.cell? ⟨g1,2,none⟩=some (.int .i64 a.d)∧V.cell? ⟨g1,3,none⟩=some (.string a.s)∧V.cell? ⟨g1,4,none⟩=some (.slice A a.l.length c)∧V.cell? ⟨g2,0,none⟩=some (.int .i64 b.kind)∧V.cell? ⟨g2,1,none⟩=some (.int .i64 b.n)∧V.cell? ⟨g2,2,none⟩=some (.int .i64 b.d)∧V.cell? ⟨g2,3,none⟩=some (.string b.s)∧V.cell? ⟨g2,4,none⟩=some (.slice B b.l.length d)∧Ext w2 V) ((exact MK.out _ (by solve_by_elim [X0,X1,X2,X3]))) ((first|(go_at_call 143;refine (v_class _ _ _ _).mono ?_;rintro e w' ⟨rfl,hb⟩;replace hb:Ext w2 w':=Ext.trans (by solve_by_elim [X0,X1,X2,X3]) hb)|(go_at_call 82;refine (c_cmp_int _ _ _).mono ?_;rintro e w' ⟨rfl,rfl⟩)))
   obtain ⟨a0,a1,a2,a3,a4,b0,b1,b2,b3,b4,hEw⟩ := ‹_∧_›
   go_wp2_with fail
   refine (v_class a A c _).mono ?_
   rintro e w5 ⟨rfl,h5⟩
   have hE5:Ext w2 w5:=Ext.trans (by solve_by_elim [X0,X1,X2,X3]) h5
   clear a0 a1 a2 a3 a4 b0 b1 b2 b3 b4 hEw h5
   go_wp2_with fail
   go_region_held3 (fun V=>V.cell? ⟨g1,0,none⟩=some (.int .i64 a.kind)∧V.cell? ⟨g1,1,none⟩=some (.int .i64 a.n)∧V.cell? ⟨g1,2,none⟩=some (.int .i64 a.d)∧V.cell? ⟨g1,3,none⟩=some (.string a.s)∧V.cell? ⟨g1,4,none⟩=some (.slice A a.l.length c)∧V.cell? ⟨g2,0,none⟩=some (.int .i64 b.kind)∧V.cell? ⟨g2,1,none⟩=some (.int .i64 b.n)∧V.cell? ⟨g2,2,none⟩=some (.int .i64 b.d)∧V.cell? ⟨g2,3,none⟩=some (.string b.s)∧V.cell? ⟨g2,4,none⟩=some (.slice B b.l.length d)∧Ext w2 V) ((exact MK.out _ (by solve_by_elim [X0,X1,X2,X3]))) ((first|(go_at_call 82;refine (c_cmp_int _ _ _).mono ?_;rintro e w' ⟨rfl,rfl⟩)|(go_at_call 106;refine (c_cmp_str _ _ _).mono ?_;rintro e w' ⟨rfl,rfl⟩)|(go_at_call 107;refine (HCF.out _ (by solve_by_elim [X0,X1,X2,X3])).mono ?_;rintro e w' ⟨rfl,hb⟩;replace hb:Ext w2 w':=Ext.trans (by solve_by_elim [X0,X1,X2,X3]) hb)|(go_at_call 105;refine Calls.mono (c_or_int _ [cmpT a.s b.s,Lib.compareInt a.n b.n,ordL a.l b.l] _ (by simp) ?hcs) ?_;(case hcs=>(intro j hj;have hj6:j=0∨j=1∨j=2:=(by simp at hj;omega);rcases hj6 with rfl|rfl|rfl <;> (go_simp;done)));rintro e w' ⟨rfl,rfl⟩)))
   all_goals
    clear ‹_∧_›
    go_wp2
    go_ret
    exact ⟨ret_i64 HO'.out.symm,hx.trans (by solve_by_elim [X0,X1,X2,X3])⟩
 ·have hcz:Lib.compareInt (cls a.kind) (cls b.kind) ≠ 0:=fun h=>hcl ((TotC.int.zero _ _).1 h)
  have HO':=Lib.hid (show o=Lib.compareInt (cls a.kind) (cls b.kind) by rw [HO.out,thenC_ne hcz])
  have hcz':(Lib.compareInt (cls a.kind) (cls b.kind) != 0)=true:=by simpa using hcz
  clear hcz hcl HO HCF
  go_enter Tryz.func104,Tryz.ntmps104
  go_upto_region 1 with (fail)
  rw [←HW2.out,←HG2.out,←HG1.out]
  clear HW2 HG2 HG1
  go_region_held3 (fun V=>V.cell? ⟨g1,0,none⟩=some (.int .i64 a.kind)∧V.cell? ⟨g1,1,none⟩=some (.int .i64 a.n)∧V.cell? ⟨g1,2,none⟩=some (.int .i64 a.d)∧V.cell? ⟨g1,3,none⟩=some (.string a.s)∧V.cell? ⟨g1,4,none⟩=some (.slice A a.l.length c)∧V.cell? ⟨g2,0,none⟩=some (.int .i64 b.kind)∧V.cell? ⟨g2,1,none⟩=some (.int .i64 b.n)∧V.cell? ⟨g2,2,none⟩=some (.int .i64 b.d)∧V.cell? ⟨g2,3,none⟩=some (.string b.s)∧V.cell? ⟨g2,4,none⟩=some (.slice B b.l.length d)∧Ext w2 V) ((exact MK.out _ (by solve_by_elim [X0,X1,X2,X3]))) ((first|(go_at_call 143;refine (v_class _ _ _ _).mono ?_;rintro e w' ⟨rfl,hb⟩;replace hb:Ext w2 w':=Ext.trans (by solve_by_elim [X0,X1,X2,X3]) hb)|(go_at_call 82;refine (c_cmp_int _ _ _).mono ?_;rintro e w' ⟨rfl,rfl⟩)))
  all_goals
   go_wp2
   go_ret
   exact ⟨ret_i64 HO'.out.symm,hx.trans (by solve_by_elim [X0,X1,X2,X3])⟩
theorem wt_kid {x a:Val} {N:Nat} (h:x ∈ a.l) (hN:wtV a≤N+1):wtV x≤N:=by
 have:=wtL_mem h
 unfold wtV at hN ⊢
 unfold wtV at this
 omega
theorem v_order:∀ (N:Nat) (a b:Val) (ok ok':Nat→Prop) (A B:Option Addr) (c d:Nat) (w:World),wtV a≤N→ZeroAt w→Vals w ok A a.l→Vals w ok' B b.l→validV a=true→validV b=true →
  Calls Tryz.prog 104 #[.agg #[.int .i64 a.kind, .int .i64 a.n, .int .i64 a.d, .string a.s, .slice A a.l.length c], .agg #[.int .i64 b.kind, .int .i64 b.n, .int .i64 b.d, .string b.s, .slice B b.l.length d]] w fun e w'=>e = .returned (.int .i64 (ordV a b))∧Ext w w'
 | 0,a,b,ok,ok',A,B,c,d,w,hN,_,_,_,_,_=>by unfold wtV at hN;omega
 | N+1,a,b,ok,ok',A,B,c,d,w,hN,hz,ha,hb,hva,hvb =>
  v_orderStep a b ok ok' A B c d w hz ha hb hva hvb (fun x hx y _ Ax By cx dy W hzW hx' hy' h1 h2=>v_order N x y ok ok' Ax By cx dy W (wt_kid hx hN) hzW hx' hy' h1 h2)
set_option maxRecDepth 100000 in
set_option maxHeartbeats 3200000 in
theorem v_cmpV (a b:List Val) (ok ok':Nat→Prop) (A B:Option Addr) (c d:Nat) (w:World) (hz:ZeroAt w) (ha:Vals w ok A a) (hb:Vals w ok' B b)
  (hf:∀ x ∈ a,∀ y ∈ b,∀ (Ax By:Option Addr) (cx dy:Nat) (W:World),ZeroAt W→Vals W ok Ax x.l→Vals W ok' By y.l→Calls Tryz.prog 61 #[.agg #[.int .i64 x.kind, .int .i64 x.n, .int .i64 x.d, .string x.s, .slice Ax x.l.length cx], .agg #[.int .i64 y.kind, .int .i64 y.n, .int .i64 y.d, .string y.s, .slice By y.l.length dy]] W fun e W'=>e = .returned (.int .i64 (ordV x y))∧Ext W W') :
  Calls Tryz.prog 107 #[.slice A a.length c, .slice B b.length d, .func (.func 61) #[] #[]] w fun e w'=>e = .returned (.int .i64 (ordL a b))∧Ext w w':=by
 have hma:=ha.len
 have hmb:=hb.len
 have HZ:=Lib.hid hz
 have HA:=Lib.hid ha
 have HB:=Lib.hid hb
 have HF:=Lib.hid hf
 obtain ⟨R,hR⟩:∃ R,R=ordL a b:=⟨_,rfl⟩
 rw [←hR]
 have HR:=Lib.hid (show R=ordL (a.drop 0) (b.drop 0) from hR)
 clear hz ha hb hf hR
 go_enter Tryz.func107,Tryz.ntmps107
 go_wp2
 go_loopw [13] (fun u W => ∃ k:Nat,u = .int .i64 k∧k≤a.length∧k≤b.length∧Hid (R=ordL (a.drop k) (b.drop k))∧Ext w W) (fun u _=>a.length - (intOf u).toNat)
 case atStart=>exact ⟨0,rfl,Nat.zero_le _,Nat.zero_le _,HR,Ext.refl _⟩
 case round =>
  obtain ⟨k,rfl,hk,hkb,hS,hE⟩:=hrel
  by_cases hlt:k < a.length
  ·obtain ⟨ba,oa,rfl,hca⟩:=HA.out.2 (by omega)
   obtain ⟨-,A',c',h5,-,hv'⟩:=VCells.iff.1 (hca k hlt)
   obtain ⟨d0,d1,d2,d3,d4⟩:=h5.ext hE
   obtain ⟨g,w1,hg,hw1,h6,hx,-⟩:=box_val wr a[k] A' c' 28
   have HW1:=Lib.hid hw1
   have HG:=Lib.hid hg
   have HVx:=Lib.hid (hv'.ext hE)
   clear hw1 hg hca h5 hv'
   by_cases hltb:k < b.length
   ·obtain ⟨bb,ob,rfl,hcb⟩:=HB.out.2 (by omega)
    obtain ⟨-,B',d',h5,-,hv'⟩:=VCells.iff.1 (hcb k hltb)
    obtain ⟨e0,e1,e2,e3,e4⟩:=h5.ext (hE.trans hx)
    obtain ⟨g2,w2,hg2,hw2,h7,hx2,-⟩:=box_val w1 b[k] B' d' 28
    have HW2:=Lib.hid hw2
    have HG2:=Lib.hid hg2
    have HC:=Lib.hid (HF.out a[k] (List.getElem_mem hlt) b[k] (List.getElem_mem hltb) A' B' c' d' w2 (HZ.out.ext (hE.trans (hx.trans hx2))) (HVx.out.ext (hx.trans hx2)) (hv'.ext (hE.trans (hx.trans hx2))))
    have HD:=Lib.hid (show ordL (a.drop k) (b.drop k)=thenC (ordV a[k] b[k]) (ordL (a.drop (k+1)) (b.drop (k+1))) by rw [List.drop_eq_getElem_cons hlt,List.drop_eq_getElem_cons hltb,ordL])
    obtain ⟨p0,p1,p2,p3,p4⟩:=h6.ext hx2
    obtain ⟨q0,q1,q2,q3,q4⟩:=h7
    clear hw2 hg2 hcb h5 hv' h6
    generalize a[k]=x at *
    generalize b[k]=y at *
    generalize ordV x y=z at HC HD
    go_upto_region 4 with (fail)
    rw [←HW1.out,←HG.out]
    clear HW1 HG d0 d1 d2 d3 d4
    go_upto_region 7 with (fail)
    rw [←HW2.out,←HG2.out]
    clear HW2 HG2 e0 e1 e2 e3 e4
    by_cases hz0:z=0
    ·have HT:=Lib.hid (show R=ordL (a.drop (k+1)) (b.drop (k+1)) by rw [hS.out,HD.out,hz0];rfl)
     subst hz0
     go_wp2_with (go_at_call 61;((with_reducible refine (HC.out).mono ?_);rintro e w' ⟨rfl,hb⟩;have hb':Ext w2 w':=hb))
     go_roundw
     case rel=>exact ⟨k+1,by go_num,by omega,by omega,HT,hE.trans (hx.trans (hx2.trans hb'))⟩
     case measure=>simp [intOf];omega
    ·have HT:=Lib.hid (show R=z by rw [hS.out,HD.out,thenC_ne hz0])
     have hz':(z != 0)=true:=by simpa using hz0
     clear hz0
     go_wp2_with (go_at_call 61;((with_reducible refine (HC.out).mono ?_);rintro e w' ⟨rfl,hb⟩;have hb':Ext w2 w':=hb))
     go_ret
     exact ⟨ret_i64 HT.out.symm,hE.trans (hx.trans (hx2.trans hb'))⟩
   ·have HT:=Lib.hid (show R=1 by rw [hS.out,List.drop_eq_getElem_cons hlt,List.drop_of_length_le (by omega:b.length≤k),ordL])
    have hkb':b.length≤k:=by omega
    generalize a[k]=x at *
    go_upto_region 4 with (fail)
    rw [←HW1.out,←HG.out]
    clear HW1 HG d0 d1 d2 d3 d4 h6
    go_wp2
    go_ret
    exact ⟨ret_i64 HT.out.symm,hE.trans hx⟩
  ·have hk':k=a.length:=by omega
   by_cases hl:a.length < b.length
   ·have HT:=Lib.hid (show R = -1 by rw [hS.out,hk',List.drop_length,List.drop_eq_getElem_cons hl,ordL])
    go_wp2
    go_ret
    exact ⟨ret_i64 HT.out.symm,hE⟩
   ·have HT:=Lib.hid (show R=0 by rw [hS.out,hk',List.drop_length,List.drop_of_length_le (by omega),ordL])
    go_wp2
    go_ret
    exact ⟨ret_i64 HT.out.symm,hE⟩
set_option maxRecDepth 100000 in
set_option maxHeartbeats 6400000 in
theorem v_OrderStep (a b:Val) (ok ok':Nat→Prop) (A B:Option Addr) (c d:Nat) (w:World) (hz:ZeroAt w) (ha:Vals w ok A a.l) (hb:Vals w ok' B b.l) (ih:∀ x ∈ a.l,∀ y ∈ b.l,∀ (Ax By:Option Addr) (cx dy:Nat) (W:World),ZeroAt W→Vals W ok Ax x.l→Vals W ok' By y.l→Calls Tryz.prog 61 #[.agg #[.int .i64 x.kind, .int .i64 x.n, .int .i64 x.d, .string x.s, .slice Ax x.l.length cx], .agg #[.int .i64 y.kind, .int .i64 y.n, .int .i64 y.d, .string y.s, .slice By y.l.length dy]] W fun e W'=>e = .returned (.int .i64 (ordV x y))∧Ext W W') :
  Calls Tryz.prog 61 #[.agg #[.int .i64 a.kind, .int .i64 a.n, .int .i64 a.d, .string a.s, .slice A a.l.length c], .agg #[.int .i64 b.kind, .int .i64 b.n, .int .i64 b.d, .string b.s, .slice B b.l.length d]] w fun e w'=>e = .returned (.int .i64 (ordV a b))∧Ext w w':=by
 have HO:=Lib.hid (ordV_eq a b)
 have HU:=Lib.hid (fun W (e:Ext w W) h1 h2=>v_order (wtV a) a b ok ok' A B c d W (Nat.le_refl _) (hz.ext e) (ha.ext e) (hb.ext e) h1 h2)
 have HVa:=Lib.hid (fun W (e:Ext w W)=>v_Valid a ok A c W (ha.ext e))
 have HVb:=Lib.hid (fun W (e:Ext w W)=>v_Valid b ok' B d W (hb.ext e))
 have HCF:=Lib.hid (fun W (e:Ext w W)=>v_cmpV a.l b.l ok ok' A B c d W (hz.ext e) (ha.ext e) (hb.ext e) ih)
 have hma:=ha.len
 have hmb:=hb.len
 clear hz ha hb ih
 obtain ⟨g1,g2,w2,hg1,hg2,hw2,h1,h2,hx,-,-,hl1,hl2⟩:=two_vals w a b A B c d 28
 have HG1:=Lib.hid hg1
 have HG2:=Lib.hid hg2
 have HW2:=Lib.hid hw2
 have MK:=Lib.hid (fun V (e:Ext w2 V)=>(⟨(h1.ext e).1,(h1.ext e).2.1,(h1.ext e).2.2.1,(h1.ext e).2.2.2.1,(h1.ext e).2.2.2.2,(h2.ext e).1,(h2.ext e).2.1,(h2.ext e).2.2.1,(h2.ext e).2.2.2.1,(h2.ext e).2.2.2.2,e⟩:V.cell? ⟨g1,0,none⟩=some (.int .i64 a.kind)∧V.cell? ⟨g1,1,none⟩=some (.int .i64 a.n)∧V.cell? ⟨g1,2,none⟩=some (.int .i64 a.d)∧V.cell? ⟨g1,3,none⟩=some (.string a.s)∧V.cell? ⟨g1,4,none⟩=some (.slice A a.l.length c)∧V.cell? ⟨g2,0,none⟩=some (.int .i64 b.kind)∧V.cell? ⟨g2,1,none⟩=some (.int .i64 b.n)∧V.cell? ⟨g2,2,none⟩=some (.int .i64 b.d)∧V.cell? ⟨g2,3,none⟩=some (.string b.s)∧V.cell? ⟨g2,4,none⟩=some (.slice B b.l.length d)∧Ext w2 V))
 clear hg1 hg2 hw2 h1 h2
 replace HCF:=Lib.hid (fun W (e:Ext w2 W)=>HCF.out W (hx.trans e))
 replace HVa:=Lib.hid (fun W (e:Ext w2 W)=>HVa.out W (hx.trans e))
 replace HVb:=Lib.hid (fun W (e:Ext w2 W)=>HVb.out W (hx.trans e))
 replace HU:=Lib.hid (fun W (e:Ext w2 W)=>HU.out W (hx.trans e))
 generalize validV a=p at *
 generalize validV b=q at *
 cases p
 ·cases q
  ·have HO':=Lib.hid (show ordV a b=orL [Lib.compareInt a.kind b.kind,Lib.compareInt a.n b.n,Lib.compareInt a.d b.d,cmpT a.s b.s,ordL a.l b.l] by rw [HO.out,if_neg (by simp),if_neg (by simp)];unfold ordI orL orL orL orL orL orL;rw [thenC_0])
   generalize ordV a b=o at HO' HU ⊢
   clear HU HO
   go_enter Tryz.func61,Tryz.ntmps61
   go_upto_region 1 with (fail)
   rw [←HW2.out,←HG2.out,←HG1.out]
   clear HW2 HG2 HG1
   go_region_held3 (fun V=>V.cell? ⟨g1,0,none⟩=some (.int .i64 a.kind)∧V.cell? ⟨g1,1,none⟩=some (.int .i64 a.n)∧V.cell? ⟨g1,2,none⟩=some (.int .i64 a.d)∧V.cell? ⟨g1,3,none⟩=some (.string a.s)∧V.cell? ⟨g1,4,none⟩=some (.slice A a.l.length c)∧V.cell? ⟨g2,0,none⟩=some (.int .i64 b.kind)∧V.cell? ⟨g2,1,none⟩=some (.int .i64 b.n)∧V.cell? ⟨g2,2,none⟩=some (.int .i64 b.d)∧V.cell? ⟨g2,3,none⟩=some (.string b.s)∧V.cell? ⟨g2,4,none⟩=some (.slice B b.l.length d)∧Ext w2 V) ((exact MK.out _ (by solve_by_elim [X0,X1,X2,X3]))) ((go_at_call 73;(first|refine (HVa.out _ (by solve_by_elim [X0,X1,X2,X3])).mono ?_|refine (HVb.out _ (by solve_by_elim [X0,X1,X2,X3])).mono ?_);rintro e w' ⟨rfl,hb⟩;replace hb:Ext w2 w':=Ext.trans (by solve_by_elim [X0,X1,X2,X3]) hb))
   obtain ⟨a0,a1,a2,a3,a4,b0,b1,b2,b3,b4,hEw⟩ := ‹_∧_›
   go_wp2_with fail
   clear a0 a1 a2 a3 a4 b0 b1 b2 b3 b4
   go_region_held3 (fun V=>V.cell? ⟨g1,0,none⟩=some (.int .i64 a.kind)∧V.cell? ⟨g1,1,none⟩=some (.int .i64 a.n)∧V.cell? ⟨g1,2,none⟩=some (.int .i64 a.d)∧V.cell? ⟨g1,3,none⟩=some (.string a.s)∧V.cell? ⟨g1,4,none⟩=some (.slice A a.l.length c)∧V.cell? ⟨g2,0,none⟩=some (.int .i64 b.kind)∧V.cell? ⟨g2,1,none⟩=some (.int .i64 b.n)∧V.cell? ⟨g2,2,none⟩=some (.int .i64 b.d)∧V.cell? ⟨g2,3,none⟩=some (.string b.s)∧V.cell? ⟨g2,4,none⟩=some (.slice B b.l.length d)∧Ext w2 V) ((exact MK.out _ (by solve_by_elim [X0,X1,X2,X3]))) ((first|(go_at_call 82;refine (c_cmp_int _ _ _).mono ?_;rintro e w' ⟨rfl,rfl⟩)|(go_at_call 106;refine (c_cmp_str _ _ _).mono ?_;rintro e w' ⟨rfl,rfl⟩)|(go_at_call 107;refine (HCF.out _ (by solve_by_elim [X0,X1,X2,X3])).mono ?_;rintro e w' ⟨rfl,hb⟩;replace hb:Ext w2 w':=Ext.trans (by solve_by_elim [X0,X1,X2,X3]) hb)|(go_at_call 105;refine Calls.mono (c_or_int _ [Lib.compareInt a.kind b.kind,Lib.compareInt a.n b.n,Lib.compareInt a.d b.d,cmpT a.s b.s,ordL a.l b.l] _ (by simp) ?hcs) ?_;(case hcs=>(intro j hj;have hj6:j=0∨j=1∨j=2∨j=3∨j=4:=(by simp at hj;omega);rcases hj6 with rfl|rfl|rfl|rfl|rfl <;> (go_simp;done)));rintro e w' ⟨rfl,rfl⟩)))
   all_goals
    clear ‹_∧_›
    go_wp2
    go_ret
    exact ⟨ret_i64 HO'.out.symm,hx.trans (by solve_by_elim [X0,X1,X2,X3])⟩
  ·have HO':=Lib.hid (show ordV a b=1 by rw [HO.out,if_neg (by simp),if_pos rfl])
   clear HO HU HCF
   rw [HO'.out]
   go_enter Tryz.func61,Tryz.ntmps61
   go_upto_region 1 with (fail)
   rw [←HW2.out,←HG2.out,←HG1.out]
   clear HW2 HG2 HG1
   go_region_held3 (fun V=>V.cell? ⟨g1,0,none⟩=some (.int .i64 a.kind)∧V.cell? ⟨g1,1,none⟩=some (.int .i64 a.n)∧V.cell? ⟨g1,2,none⟩=some (.int .i64 a.d)∧V.cell? ⟨g1,3,none⟩=some (.string a.s)∧V.cell? ⟨g1,4,none⟩=some (.slice A a.l.length c)∧V.cell? ⟨g2,0,none⟩=some (.int .i64 b.kind)∧V.cell? ⟨g2,1,none⟩=some (.int .i64 b.n)∧V.cell? ⟨g2,2,none⟩=some (.int .i64 b.d)∧V.cell? ⟨g2,3,none⟩=some (.string b.s)∧V.cell? ⟨g2,4,none⟩=some (.slice B b.l.length d)∧Ext w2 V) ((exact MK.out _ (by solve_by_elim [X0,X1,X2,X3]))) ((go_at_call 73;(first|refine (HVa.out _ (by solve_by_elim [X0,X1,X2,X3])).mono ?_|refine (HVb.out _ (by solve_by_elim [X0,X1,X2,X3])).mono ?_);rintro e w' ⟨rfl,hb⟩;replace hb:Ext w2 w':=Ext.trans (by solve_by_elim [X0,X1,X2,X3]) hb))
   all_goals
    clear ‹_∧_›
    go_wp2_with fail
    go_ret
    exact ⟨rfl,hx.trans (by solve_by_elim [X0,X1,X2,X3])⟩
 ·cases q
  ·have HO':=Lib.hid (show ordV a b = -1 by rw [HO.out,if_pos rfl,if_neg (by simp)])
   clear HO HU HCF
   rw [HO'.out]
   go_enter Tryz.func61,Tryz.ntmps61
   go_upto_region 1 with (fail)
   rw [←HW2.out,←HG2.out,←HG1.out]
   clear HW2 HG2 HG1
   go_region_held3 (fun V=>V.cell? ⟨g1,0,none⟩=some (.int .i64 a.kind)∧V.cell? ⟨g1,1,none⟩=some (.int .i64 a.n)∧V.cell? ⟨g1,2,none⟩=some (.int .i64 a.d)∧V.cell? ⟨g1,3,none⟩=some (.string a.s)∧V.cell? ⟨g1,4,none⟩=some (.slice A a.l.length c)∧V.cell? ⟨g2,0,none⟩=some (.int .i64 b.kind)∧V.cell? ⟨g2,1,none⟩=some (.int .i64 b.n)∧V.cell? ⟨g2,2,none⟩=some (.int .i64 b.d)∧V.cell? ⟨g2,3,none⟩=some (.string b.s)∧V.cell? ⟨g2,4,none⟩=some (.slice B b.l.length d)∧Ext w2 V) ((exact MK.out _ (by solve_by_elim [X0,X1,X2,X3]))) ((go_at_call 73;(first|refine (HVa.out _ (by solve_by_elim [X0,X1,X2,X3])).mono ?_|refine (HVb.out _ (by solve_by_elim [X0,X1,X2,X3])).mono ?_);rintro e w' ⟨rfl,hb⟩;replace hb:Ext w2 w':=Ext.trans (by solve_by_elim [X0,X1,X2,X3]) hb))
   all_goals
    clear ‹_∧_›
    go_wp2_with fail
    go_ret
    exact ⟨rfl,hx.trans (by solve_by_elim [X0,X1,X2,X3])⟩
  ·clear HO HCF
   go_enter Tryz.func61,Tryz.ntmps61
   go_upto_region 1 with (fail)
   rw [←HW2.out,←HG2.out,←HG1.out]
   clear HW2 HG2 HG1
   go_region_held3 (fun V=>V.cell? ⟨g1,0,none⟩=some (.int .i64 a.kind)∧V.cell? ⟨g1,1,none⟩=some (.int .i64 a.n)∧V.cell? ⟨g1,2,none⟩=some (.int .i64 a.d)∧V.cell? ⟨g1,3,none⟩=some (.string a.s)∧V.cell? ⟨g1,4,none⟩=some (.slice A a.l.length c)∧V.cell? ⟨g2,0,none⟩=some (.int .i64 b.kind)∧V.cell? ⟨g2,1,none⟩=some (.int .i64 b.n)∧V.cell? ⟨g2,2,none⟩=some (.int .i64 b.d)∧V.cell? ⟨g2,3,none⟩=some (.string b.s)∧V.cell? ⟨g2,4,none⟩=some (.slice B b.l.length d)∧Ext w2 V) ((exact MK.out _ (by solve_by_elim [X0,X1,X2,X3]))) ((go_at_call 73;(first|refine (HVa.out _ (by solve_by_elim [X0,X1,X2,X3])).mono ?_|refine (HVb.out _ (by solve_by_elim [X0,X1,X2,X3])).mono ?_);rintro e w' ⟨rfl,hb⟩;replace hb:Ext w2 w':=Ext.trans (by solve_by_elim [X0,X1,X2,X3]) hb))
   all_goals
    obtain ⟨a0,a1,a2,a3,a4,b0,b1,b2,b3,b4,hEw⟩ := ‹_∧_›
    go_wp2_with fail
    refine (HU.out _ (by solve_by_elim [X0,X1,X2,X3]) (by simp) (by simp)).mono ?_
    rintro e w9 ⟨rfl,h9⟩
    have h9':Ext w2 w9:=Ext.trans (by solve_by_elim [X0,X1,X2,X3]) h9
    clear a0 a1 a2 a3 a4 b0 b1 b2 b3 b4 hEw h9
    go_wp2
    go_ret
    exact ⟨rfl,hx.trans h9'⟩
theorem v_OrderN:∀ (N:Nat) (a b:Val) (ok ok':Nat→Prop) (A B:Option Addr) (c d:Nat) (w:World),wtV a≤N→ZeroAt w→Vals w ok A a.l→Vals w ok' B b.l →
  Calls Tryz.prog 61 #[.agg #[.int .i64 a.kind, .int .i64 a.n, .int .i64 a.d, .string a.s, .slice A a.l.length c], .agg #[.int .i64 b.kind, .int .i64 b.n, .int .i64 b.d, .string b.s, .slice B b.l.length d]] w fun e w'=>e = .returned (.int .i64 (ordV a b))∧Ext w w'
 | 0,a,b,ok,ok',A,B,c,d,w,hN,_,_,_=>by unfold wtV at hN;omega
 | N+1,a,b,ok,ok',A,B,c,d,w,hN,hz,ha,hb =>
  v_OrderStep a b ok ok' A B c d w hz ha hb (fun x hx y _ Ax By cx dy W hzW hx' hy'=>v_OrderN N x y ok ok' Ax By cx dy W (wt_kid hx hN) hzW hx' hy')
theorem v_Order (a b:Val) (ok ok':Nat→Prop) (A B:Option Addr) (c d:Nat) (w:World) (hz:ZeroAt w) (ha:Vals w ok A a.l) (hb:Vals w ok' B b.l) :
  Calls Tryz.prog 61 #[.agg #[.int .i64 a.kind, .int .i64 a.n, .int .i64 a.d, .string a.s, .slice A a.l.length c], .agg #[.int .i64 b.kind, .int .i64 b.n, .int .i64 b.d, .string b.s, .slice B b.l.length d]] w fun e w'=>e = .returned (.int .i64 (ordV a b))∧Ext w w' :=
 v_OrderN (wtV a) a b ok ok' A B c d w (Nat.le_refl _) hz ha hb
mutual
def szV:Val→Prop
 | .mk _ _ _ s l=>s.size≤140737488355328∧szL l
def szL:List Val→Prop
 | []=>True
 | v :: vs=>szV v∧szL vs
end
theorem szV_iff {v:Val}:szV v ↔ v.s.size≤140737488355328∧szL v.l:=by cases v;rw [szV];rfl
theorem szL_mem {l:List Val} (h:szL l) {v:Val} (hv:v ∈ l):szV v:=by
 induction l with
 | nil=>cases hv
 | cons x l ih =>
  rw [szL] at h
  rcases List.mem_cons.1 hv with e|e
  ·rw [e];exact h.1
  ·exact ih h.2 e
def bareF (p q r t:Bool) (n d:Int) (s:ByteArray) (m:Nat):Bool:=(p || decide (n=0)) && (q || decide (d=0)) && (r || decide (s.size=0)) && (t || decide (m=0))
set_option maxRecDepth 100000 in
set_option maxHeartbeats 1600000 in
theorem r4_bare_ffff (k n d:Int) (s:ByteArray) (A:Option Addr) (m c:Nat) (w:World):Calls Tryz.prog 163 #[.agg #[.int .i64 k, .int .i64 n, .int .i64 d, .string s, .slice A m c], .bool false, .bool false, .bool false, .bool false] w fun e w'=>e = .returned (.bool (bareF false false false false n d s m))∧Ext w w':=by
 obtain ⟨g,w1,hg,hw1,⟨c0,c1,c2,c3,c4⟩,hx,-⟩:=box5 w k n d s A m c 28
 have HW1:=Lib.hid hw1
 have HG:=Lib.hid hg
 clear hw1 hg
 go_enter Tryz.func163,Tryz.ntmps163
 go_upto_region 1 with (fail)
 rw [←HW1.out,←HG.out]
 clear HW1 HG
 go_wp2_with fail
 all_goals
  go_ret
  refine ⟨ret_bool ?_,hx⟩
  clear c0 c1 c2 c3 c4
  (try simp only [nil_iff] at *)
  unfold bareF
  (try simp only [beq_decI])
  first|(simp_all;done)|(simp_all;omega)
set_option maxRecDepth 100000 in
set_option maxHeartbeats 1600000 in
theorem r4_bare_tfff (k n d:Int) (s:ByteArray) (A:Option Addr) (m c:Nat) (w:World):Calls Tryz.prog 163 #[.agg #[.int .i64 k, .int .i64 n, .int .i64 d, .string s, .slice A m c], .bool true, .bool false, .bool false, .bool false] w fun e w'=>e = .returned (.bool (bareF true false false false n d s m))∧Ext w w':=by
 obtain ⟨g,w1,hg,hw1,⟨c0,c1,c2,c3,c4⟩,hx,-⟩:=box5 w k n d s A m c 28
 have HW1:=Lib.hid hw1
 have HG:=Lib.hid hg
 clear hw1 hg
 go_enter Tryz.func163,Tryz.ntmps163
 go_upto_region 1 with (fail)
 rw [←HW1.out,←HG.out]
 clear HW1 HG
 go_wp2_with fail
 all_goals
  go_ret
  refine ⟨ret_bool ?_,hx⟩
  clear c0 c1 c2 c3 c4
  (try simp only [nil_iff] at *)
  unfold bareF
  (try simp only [beq_decI])
  first|(simp_all;done)|(simp_all;omega)
set_option maxRecDepth 100000 in
set_option maxHeartbeats 1600000 in
theorem r4_bare_ttff (k n d:Int) (s:ByteArray) (A:Option Addr) (m c:Nat) (w:World):Calls Tryz.prog 163 #[.agg #[.int .i64 k, .int .i64 n, .int .i64 d, .string s, .slice A m c], .bool true, .bool true, .bool false, .bool false] w fun e w'=>e = .returned (.bool (bareF true true false false n d s m))∧Ext w w':=by
 obtain ⟨g,w1,hg,hw1,⟨c0,c1,c2,c3,c4⟩,hx,-⟩:=box5 w k n d s A m c 28
 have HW1:=Lib.hid hw1
 have HG:=Lib.hid hg
 clear hw1 hg
 go_enter Tryz.func163,Tryz.ntmps163
 go_upto_region 1 with (fail)
 rw [←HW1.out,←HG.out]
 clear HW1 HG
 go_wp2_with fail
 all_goals
  go_ret
  refine ⟨ret_bool ?_,hx⟩
  clear c0 c1 c2 c3 c4
  (try simp only [nil_iff] at *)
  unfold bareF
  (try simp only [beq_decI])
  first|(simp_all;done)|(simp_all;omega)
set_option maxRecDepth 100000 in
set_option maxHeartbeats 1600000 in
theorem r4_bare_fftf (k n d:Int) (s:ByteArray) (A:Option Addr) (m c:Nat) (w:World):Calls Tryz.prog 163 #[.agg #[.int .i64 k, .int .i64 n, .int .i64 d, .string s, .slice A m c], .bool false, .bool false, .bool true, .bool false] w fun e w'=>e = .returned (.bool (bareF false false true false n d s m))∧Ext w w':=by
 obtain ⟨g,w1,hg,hw1,⟨c0,c1,c2,c3,c4⟩,hx,-⟩:=box5 w k n d s A m c 28
 have HW1:=Lib.hid hw1
 have HG:=Lib.hid hg
 clear hw1 hg
 go_enter Tryz.func163,Tryz.ntmps163
 go_upto_region 1 with (fail)
 rw [←HW1.out,←HG.out]
 clear HW1 HG
 go_wp2_with fail
 all_goals
  go_ret
  refine ⟨ret_bool ?_,hx⟩
  clear c0 c1 c2 c3 c4
  (try simp only [nil_iff] at *)
  unfold bareF
  (try simp only [beq_decI])
  first|(simp_all;done)|(simp_all;omega)
set_option maxRecDepth 100000 in
set_option maxHeartbeats 1600000 in
theorem r4_bare_ffft (k n d:Int) (s:ByteArray) (A:Option Addr) (m c:Nat) (w:World):Calls Tryz.prog 163 #[.agg #[.int .i64 k, .int .i64 n, .int .i64 d, .string s, .slice A m c], .bool false, .bool false, .bool false, .bool true] w fun e w'=>e = .returned (.bool (bareF false false false true n d s m))∧Ext w w':=by
 obtain ⟨g,w1,hg,hw1,⟨c0,c1,c2,c3,c4⟩,hx,-⟩:=box5 w k n d s A m c 28
 have HW1:=Lib.hid hw1
 have HG:=Lib.hid hg
 clear hw1 hg
 go_enter Tryz.func163,Tryz.ntmps163
 go_upto_region 1 with (fail)
 rw [←HW1.out,←HG.out]
 clear HW1 HG
 go_wp2_with fail
 all_goals
  go_ret
  refine ⟨ret_bool ?_,hx⟩
  clear c0 c1 c2 c3 c4
  (try simp only [nil_iff] at *)
  unfold bareF
  (try simp only [beq_decI])
  first|(simp_all;done)|(simp_all;omega)
theorem get_elem (s:ByteArray) (k:Nat) (h:k < s.size):s.get! k=s[k]:=by
 rw [get_data s k h];rfl
theorem str_no {s:ByteArray} {k:Nat} (hk:k < s.size) (h:pBad s[k].toNat=true):strOk s=false:=by
 rw [strOk_eq]
 cases hb:bytesOk s
 ·exact Bool.and_false _
 ·have:=(bytesOk_iff s).1 hb k hk
  rw [get_elem s k hk,h] at this;cases this
theorem str_yes {s:ByteArray} (h:∀ j (h:j < s.size),pBad s[j].toNat=false):strOk s=decide (s.size≤100):=by
 rw [strOk_eq,(bytesOk_iff s).2 (fun j hj=>by rw [get_elem s j hj];exact h j hj),Bool.and_true]
set_option maxHeartbeats 1600000 in
theorem r4_str (s:ByteArray) (w:World) (hs:s.size≤140737488355328):Calls Tryz.prog 165 #[.string s] w fun e w'=>e = .returned (.bool (strOk s))∧w'=w:=by
 have HY:=Lib.hid (fun h=>str_yes (s:=s) h)
 have HN:=Lib.hid (fun (k:Nat) (hk:k < s.size) h=>str_no (s:=s) hk h)
 go_enter Tryz.func165,Tryz.ntmps165
 go_wp2
 go_loop [3] (fun u => ∃ k:Nat,u = .int .i64 k∧k≤s.size∧Hid (∀ j (h:j < s.size),j < k→pBad s[j].toNat=false)) (fun u=>s.size - (intOf u).toNat)
 case atStart=>exact ⟨0,rfl,Nat.zero_le _,Lib.hid (fun j _ hj=>absurd hj (by omega))⟩
 case round =>
  obtain ⟨k,rfl,hk,hA⟩:=hrel
  by_cases hlt:k < s.size
  ·have HB:=Lib.hid (HN.out k hlt)
   have HS:=Lib.hid (fun (h:pBad s[k].toNat=false) j (hj:j < s.size) (hjk:j < k+1)=>(if e:j=k then (by subst e;exact h) else hA.out j hj (by omega):pBad s[j].toNat=false))
   by_cases h1:s[k].toNat < 32
   ·have HF:=Lib.hid (HB.out (by unfold pBad;rw [decide_eq_true h1];rfl))
    clear HB HS
    go_wp2
    all_goals first|(go_ret;exact ⟨ret_bool HF.out.symm,rfl⟩)|(exfalso;omega)
   ·by_cases h2:126 < s[k].toNat
    ·have HF:=Lib.hid (HB.out (by unfold pBad;rw [decide_eq_true h2,Bool.or_true]))
     clear HB HS
     go_wp2
     all_goals first|(go_ret;exact ⟨ret_bool HF.out.symm,rfl⟩)|(exfalso;omega)
    ·have HT:=Lib.hid (HS.out (by unfold pBad;rw [decide_eq_false h1,decide_eq_false h2];rfl))
     clear HB HS
     go_wp2
     all_goals first|(go_round;(case rel=>exact ⟨k+1,by go_num,by omega,HT⟩);(case measure=>simp [intOf];omega))|(exfalso;omega)
  ·have HF:=Lib.hid (HY.out (fun j hj=>hA.out j hj (by omega)))
   by_cases h100:s.size≤100
   ·rw [decide_eq_true h100] at HF
    go_wp2
    go_ret
    exact ⟨ret_bool (by rw [HF.out,decide_eq_true_iff];omega),rfl⟩
   ·rw [decide_eq_false h100] at HF
    go_wp2
    go_ret
    exact ⟨ret_bool (by rw [HF.out,decide_eq_false_iff_not];omega),rfl⟩
set_option maxRecDepth 100000 in
set_option maxHeartbeats 1600000 in
theorem r4_valid0 (n d:Int) (s:ByteArray) (m:Nat) (A:Option Addr) (c:Nat) (nest:Int) (w:World) (_hs:s.size≤140737488355328):Calls Tryz.prog 121 #[.agg #[.int .i64 0, .int .i64 n, .int .i64 d, .string s, .slice A m c], .int .i64 nest] w fun e w'=>e = .returned (.bool (leafF 0 n d s m))∧Ext w w':=by
 obtain ⟨g,w1,hg,hw1,⟨c0,c1,c2,c3,c4⟩,hx,-⟩:=box5 w 0 n d s A m c 28
 have HW1:=Lib.hid hw1
 have HG:=Lib.hid hg
 clear hw1 hg
 go_enter Tryz.func121,Tryz.ntmps121
 go_upto_region 1 with (fail)
 rw [←HW1.out,←HG.out]
 clear HW1 HG
 go_wp2_with (go_at_call 163;((with_reducible refine (r4_bare_ffff _ _ _ _ _ _ _ _).mono ?_);rintro e w' ⟨rfl,hb⟩;have hb1:Ext w1 w':=hb;replace c0:=hb1.cell c0;replace c1:=hb1.cell c1;replace c2:=hb1.cell c2;replace c3:=hb1.cell c3;replace c4:=hb1.cell c4))
 all_goals
  go_ret
  refine ⟨ret_bool ?_,(by first|exact hx|exact Ext.trans hx (by assumption)|exact Ext.trans hx (Ext.trans hb1 (by assumption)))⟩
  clear c0 c1 c2 c3 c4
  (try simp only [nil_iff] at *)
  unfold leafF
  (try unfold bareF at *)
  skip
  first|(simp_all;done)|(simp_all;omega)
set_option maxRecDepth 100000 in
set_option maxHeartbeats 1600000 in
theorem r4_valid1 (n d:Int) (s:ByteArray) (m:Nat) (A:Option Addr) (c:Nat) (nest:Int) (w:World) (_hs:s.size≤140737488355328):Calls Tryz.prog 121 #[.agg #[.int .i64 1, .int .i64 n, .int .i64 d, .string s, .slice A m c], .int .i64 nest] w fun e w'=>e = .returned (.bool (leafF 1 n d s m))∧Ext w w':=by
 obtain ⟨g,w1,hg,hw1,⟨c0,c1,c2,c3,c4⟩,hx,-⟩:=box5 w 1 n d s A m c 28
 have HW1:=Lib.hid hw1
 have HG:=Lib.hid hg
 clear hw1 hg
 go_enter Tryz.func121,Tryz.ntmps121
 go_upto_region 1 with (fail)
 rw [←HW1.out,←HG.out]
 clear HW1 HG
 go_wp2_with (go_at_call 163;((with_reducible refine (r4_bare_tfff _ _ _ _ _ _ _ _).mono ?_);rintro e w' ⟨rfl,hb⟩;have hb1:Ext w1 w':=hb;replace c0:=hb1.cell c0;replace c1:=hb1.cell c1;replace c2:=hb1.cell c2;replace c3:=hb1.cell c3;replace c4:=hb1.cell c4))
 all_goals
  go_ret
  refine ⟨ret_bool ?_,(by first|exact hx|exact Ext.trans hx (by assumption)|exact Ext.trans hx (Ext.trans hb1 (by assumption)))⟩
  clear c0 c1 c2 c3 c4
  (try simp only [nil_iff] at *)
  unfold leafF
  (try unfold bareF at *)
  (try simp only [beq_decI])
  first|(simp_all;done)|(simp_all;omega)
set_option maxRecDepth 100000 in
set_option maxHeartbeats 1600000 in
theorem r4_valid2 (n d:Int) (s:ByteArray) (m:Nat) (A:Option Addr) (c:Nat) (nest:Int) (w:World) (_hs:s.size≤140737488355328):Calls Tryz.prog 121 #[.agg #[.int .i64 2, .int .i64 n, .int .i64 d, .string s, .slice A m c], .int .i64 nest] w fun e w'=>e = .returned (.bool (leafF 2 n d s m))∧Ext w w':=by
 obtain ⟨g,w1,hg,hw1,⟨c0,c1,c2,c3,c4⟩,hx,-⟩:=box5 w 2 n d s A m c 28
 have HW1:=Lib.hid hw1
 have HG:=Lib.hid hg
 clear hw1 hg
 go_enter Tryz.func121,Tryz.ntmps121
 go_upto_region 1 with (fail)
 rw [←HW1.out,←HG.out]
 clear HW1 HG
 go_wp2_with (first|(go_at_call 163;((with_reducible refine (r4_bare_tfff _ _ _ _ _ _ _ _).mono ?_);rintro e w' ⟨rfl,hb⟩;have hb1:Ext w1 w':=hb;replace c0:=hb1.cell c0;replace c1:=hb1.cell c1;replace c2:=hb1.cell c2;replace c3:=hb1.cell c3;replace c4:=hb1.cell c4))|(go_at_call 164;refine (ref_In _ _).mono ?_;rintro e w' ⟨rfl,rfl⟩))
 all_goals
  go_ret
  refine ⟨ret_bool ?_,(by first|exact hx|exact Ext.trans hx (by assumption)|exact Ext.trans hx (Ext.trans hb1 (by assumption)))⟩
  clear c0 c1 c2 c3 c4
  (try simp only [nil_iff] at *)
  unfold leafF
  (try unfold bareF at *)
  skip
  first|(simp_all;done)|(simp_all;omega)
set_option maxRecDepth 100000 in
set_option maxHeartbeats 1600000 in
theorem r4_valid3 (n d:Int) (s:ByteArray) (m:Nat) (A:Option Addr) (c:Nat) (nest:Int) (w:World) (_hs:s.size≤140737488355328):Calls Tryz.prog 121 #[.agg #[.int .i64 3, .int .i64 n, .int .i64 d, .string s, .slice A m c], .int .i64 nest] w fun e w'=>e = .returned (.bool (leafF 3 n d s m))∧Ext w w':=by
 obtain ⟨g,w1,hg,hw1,⟨c0,c1,c2,c3,c4⟩,hx,-⟩:=box5 w 3 n d s A m c 28
 have HW1:=Lib.hid hw1
 have HG:=Lib.hid hg
 clear hw1 hg
 go_enter Tryz.func121,Tryz.ntmps121
 go_upto_region 1 with (fail)
 rw [←HW1.out,←HG.out]
 clear HW1 HG
 go_wp2_with (first|(go_at_call 163;((with_reducible refine (r4_bare_ttff _ _ _ _ _ _ _ _).mono ?_);rintro e w' ⟨rfl,hb⟩;have hb1:Ext w1 w':=hb;replace c0:=hb1.cell c0;replace c1:=hb1.cell c1;replace c2:=hb1.cell c2;replace c3:=hb1.cell c3;replace c4:=hb1.cell c4))|(go_at_call 149;refine (r3_Valid _ _ _).mono ?_;rintro e w' ⟨rfl,hbv⟩;have hb2:Ext _ w':=hbv))
 all_goals
  go_ret
  refine ⟨ret_bool ?_,(by first|exact hx|exact Ext.trans hx (by assumption)|exact Ext.trans hx (Ext.trans hb1 (by assumption)))⟩
  clear c0 c1 c2 c3 c4
  (try simp only [nil_iff] at *)
  unfold leafF
  (try unfold bareF at *)
  skip
  first|(simp_all;done)|(simp_all;omega)
set_option maxRecDepth 100000 in
set_option maxHeartbeats 1600000 in
theorem r4_valid4 (n d:Int) (s:ByteArray) (m:Nat) (A:Option Addr) (c:Nat) (nest:Int) (w:World) (hs:s.size≤140737488355328):Calls Tryz.prog 121 #[.agg #[.int .i64 4, .int .i64 n, .int .i64 d, .string s, .slice A m c], .int .i64 nest] w fun e w'=>e = .returned (.bool (leafF 4 n d s m))∧Ext w w':=by
 obtain ⟨g,w1,hg,hw1,⟨c0,c1,c2,c3,c4⟩,hx,-⟩:=box5 w 4 n d s A m c 28
 have HW1:=Lib.hid hw1
 have HG:=Lib.hid hg
 clear hw1 hg
 go_enter Tryz.func121,Tryz.ntmps121
 go_upto_region 1 with (fail)
 rw [←HW1.out,←HG.out]
 clear HW1 HG
 go_wp2_with (first|(go_at_call 163;((with_reducible refine (r4_bare_fftf _ _ _ _ _ _ _ _).mono ?_);rintro e w' ⟨rfl,hb⟩;have hb1:Ext w1 w':=hb;replace c0:=hb1.cell c0;replace c1:=hb1.cell c1;replace c2:=hb1.cell c2;replace c3:=hb1.cell c3;replace c4:=hb1.cell c4))|(go_at_call 165;refine (r4_str _ _ hs).mono ?_;rintro e w' ⟨rfl,rfl⟩))
 all_goals
  go_ret
  refine ⟨ret_bool ?_,(by first|exact hx|exact Ext.trans hx (by assumption)|exact Ext.trans hx (Ext.trans hb1 (by assumption)))⟩
  clear c0 c1 c2 c3 c4
  (try simp only [nil_iff] at *)
  unfold leafF
  (try unfold bareF at *)
  skip
  first|(simp_all;done)|(simp_all;omega)
set_option maxRecDepth 100000 in
set_option maxHeartbeats 1600000 in
theorem r4_valid5 (n d:Int) (s:ByteArray) (m:Nat) (A:Option Addr) (c:Nat) (nest:Int) (w:World) (_hs:s.size≤140737488355328):Calls Tryz.prog 121 #[.agg #[.int .i64 5, .int .i64 n, .int .i64 d, .string s, .slice A m c], .int .i64 nest] w fun e w'=>e = .returned (.bool (leafF 5 n d s m))∧Ext w w':=by
 obtain ⟨g,w1,hg,hw1,⟨c0,c1,c2,c3,c4⟩,hx,-⟩:=box5 w 5 n d s A m c 28
 have HW1:=Lib.hid hw1
 have HG:=Lib.hid hg
 clear hw1 hg
 go_enter Tryz.func121,Tryz.ntmps121
 go_upto_region 1 with (fail)
 rw [←HW1.out,←HG.out]
 clear HW1 HG
 go_wp2_with (go_at_call 163;((with_reducible refine (r4_bare_tfff _ _ _ _ _ _ _ _).mono ?_);rintro e w' ⟨rfl,hb⟩;have hb1:Ext w1 w':=hb;replace c0:=hb1.cell c0;replace c1:=hb1.cell c1;replace c2:=hb1.cell c2;replace c3:=hb1.cell c3;replace c4:=hb1.cell c4))
 all_goals
  go_ret
  refine ⟨ret_bool ?_,(by first|exact hx|exact Ext.trans hx (by assumption)|exact Ext.trans hx (Ext.trans hb1 (by assumption)))⟩
  clear c0 c1 c2 c3 c4
  (try simp only [nil_iff] at *)
  unfold leafF
  (try unfold bareF at *)
  skip
  first|(simp_all;done)|(simp_all;omega)
set_option maxRecDepth 100000 in
set_option maxHeartbeats 1600000 in
theorem r4_valid6 (n d:Int) (s:ByteArray) (m:Nat) (A:Option Addr) (c:Nat) (nest:Int) (w:World) (_hs:s.size≤140737488355328):Calls Tryz.prog 121 #[.agg #[.int .i64 6, .int .i64 n, .int .i64 d, .string s, .slice A m c], .int .i64 nest] w fun e w'=>e = .returned (.bool (leafF 6 n d s m))∧Ext w w':=by
 obtain ⟨g,w1,hg,hw1,⟨c0,c1,c2,c3,c4⟩,hx,-⟩:=box5 w 6 n d s A m c 28
 have HW1:=Lib.hid hw1
 have HG:=Lib.hid hg
 clear hw1 hg
 go_enter Tryz.func121,Tryz.ntmps121
 go_upto_region 1 with (fail)
 rw [←HW1.out,←HG.out]
 clear HW1 HG
 go_wp2_with (go_at_call 163;((with_reducible refine (r4_bare_tfff _ _ _ _ _ _ _ _).mono ?_);rintro e w' ⟨rfl,hb⟩;have hb1:Ext w1 w':=hb;replace c0:=hb1.cell c0;replace c1:=hb1.cell c1;replace c2:=hb1.cell c2;replace c3:=hb1.cell c3;replace c4:=hb1.cell c4))
 all_goals
  go_ret
  refine ⟨ret_bool ?_,(by first|exact hx|exact Ext.trans hx (by assumption)|exact Ext.trans hx (Ext.trans hb1 (by assumption)))⟩
  clear c0 c1 c2 c3 c4
  (try simp only [nil_iff] at *)
  unfold leafF
  (try unfold bareF at *)
  skip
  first|(simp_all;done)|(simp_all;omega)
set_option maxRecDepth 100000 in
set_option maxHeartbeats 1600000 in
theorem r4_valido (k:Int) (hk:(k == 0)=false∧(k == 1)=false∧(k == 2)=false∧(k == 3)=false∧(k == 4)=false∧(k == 5)=false∧(k == 6)=false∧(k == 7)=false∧(k == 8)=false) (n d:Int) (s:ByteArray) (m:Nat) (A:Option Addr) (c:Nat) (nest:Int) (w:World) (_hs:s.size≤140737488355328):Calls Tryz.prog 121 #[.agg #[.int .i64 k, .int .i64 n, .int .i64 d, .string s, .slice A m c], .int .i64 nest] w fun e w'=>e = .returned (.bool (leafF k n d s m))∧Ext w w':=by
 have hne:=other9 hk
 obtain ⟨h0,h1,h2,h3,h4,h5,h6,h7,h8⟩:=hk
 obtain ⟨n0,n1,n2,n3,n4,n5,n6,n7,n8⟩:=hne
 obtain ⟨g,w1,hg,hw1,⟨c0,c1,c2,c3,c4⟩,hx,-⟩:=box5 w k n d s A m c 28
 have HW1:=Lib.hid hw1
 have HG:=Lib.hid hg
 clear hw1 hg
 go_enter Tryz.func121,Tryz.ntmps121
 go_upto_region 1 with (fail)
 rw [←HW1.out,←HG.out]
 clear HW1 HG
 go_wp2_with fail
 all_goals
  go_ret
  refine ⟨ret_bool ?_,(by first|exact hx|exact Ext.trans hx (by assumption)|exact Ext.trans hx (Ext.trans hb1 (by assumption)))⟩
  clear c0 c1 c2 c3 c4
  (try simp only [nil_iff] at *)
  unfold leafF
  (try unfold bareF at *)
  skip
  first|(simp_all;done)|(simp_all;omega)
open Go.ChangeShapes Go.WideShapes Go.ChangeAt Go.RowKit
open Go.ChangeMaps (open_string shut_string)
theorem szL_ofV:∀ {l:List Val},(∀ v ∈ l,szV v)→szL l
 | [],_=>by rw [szL];trivial
 | v :: l,h=>by rw [szL];exact ⟨h v (by simp),szL_ofV (fun x hx=>h x (by simp [hx]))⟩
theorem own:ownKnob Tryz.prog.godebug=none:=by kernel_rfl
theorem laidOut:laidOutB Tryz.prog=true:=by kernel_rfl
theorem cellsVal:Tryz.prog.cellsOf 28=5:=by kernel_rfl
theorem cellsInt:Tryz.prog.cellsOf 3=1:=by kernel_rfl
theorem cellsStr:Tryz.prog.cellsOf 9=1:=by kernel_rfl
theorem cellsVals:Tryz.prog.cellsOf 26=1:=by kernel_rfl
theorem cellsStrs:Tryz.prog.cellsOf 52=1:=by kernel_rfl
theorem spot_of_cell {w:World} {a:Addr} {v:Value} (h:w.cell? a=some v):a=⟨a.block,a.off,none⟩:=by
 obtain ⟨b,o,sp⟩:=a
 cases sp with
 | none=>rfl
 | some k =>
  exfalso
  unfold World.cell? at h
  split at h
  ·simp at h
  ·cases h
theorem add_none (b o i j:Nat):((⟨b,o,none⟩:Addr).add i).add j=⟨b,o+i+j,none⟩:=by
 unfold Addr.add
 by_cases h:i=0 <;> by_cases k:j=0 <;> simp [h,k]
theorem list_of {α:Type} (P:Nat→α→Prop):∀ n,(∀ i,i < n→∃ x,P i x)→∃ l:List α,l.length=n∧∀ i (h:i < l.length),P i l[i]
 | 0,_=>⟨[],rfl,fun i h=>absurd h (Nat.not_lt_zero _)⟩
 | n+1,h=>by
  obtain ⟨l,hl,hp⟩:=list_of P n (fun i hi=>h i (by omega))
  obtain ⟨x,hx⟩:=h n (by omega)
  refine ⟨l ++ [x],by simp [hl],fun i hi=>?_⟩
  rcases Nat.lt_or_ge i l.length with h1|h1
  ·rw [List.getElem_append_left h1];exact hp i h1
  ·have:i=l.length:=by simp at hi;omega
   subst this
   rw [List.getElem_append_right (by omega)]
   simpa [hl] using hx
section
variable {H:Type} {enc:TypeId × Value→H} {w:World} {base:Nat} {spare:Nat→Bool} {held:Bool}
theorem weightsAll_mem {P:Program} {e:TypeId}:∀ {l:List (DataW H)} {d:DataW H},d ∈ l→∀ n ∈ d.weights P e,n ∈ DataW.weightsAll P e l
 | d0 :: r,d,h,n,hn=>by
  simp only [DataW.weightsAll,List.mem_append]
  rcases List.mem_cons.1 h with rfl|h
  ·exact .inl hn
  ·exact .inr (weightsAll_mem h n hn)
theorem slice_gen {α:Type} {t e size fuel:Nat} {cs:List Value} {x:DataW H × List MemPlace} (ht:Tryz.prog.underlying t=some (.slice e)) (he:Tryz.prog.cellsOf e=size) (hbe:0 < Tryz.prog.bytesOf e) (hs:0 < size) (R:Nat→Nat→α→Prop) (Q:α→Prop)
  (hel:∀ n cs' (y:DataW H × List MemPlace),fuel=n+1→(∀ k ∈ y.1.weights Tryz.prog e,k≤reachBytes)→DataW.trod enc Tryz.prog w base spare held n e cs'=some y→∃ v:α,Q v∧∀ b o,(∀ j u,cs'[j]? = some u→w.cell? ⟨b,o+j,none⟩=some u)→R b o v)
  (hwt:∀ k ∈ x.1.weights Tryz.prog t,k≤reachBytes) (h:DataW.trod enc Tryz.prog w base spare held fuel t cs=some x):∃ (l:List α) (A:Option Addr) (c:Nat),cs=[.slice A l.length c]∧l.length≤c∧SliceR R size A l∧∀ v ∈ l,Q v:=by
 rcases DataW.trod_slice ht h with ⟨rfl,-⟩|⟨a,len,cap,elems,rest,n,hfu,rfl,hxx,-,hl,hm,hlen,hel2,-,-⟩
 ·exact ⟨[],none,0,rfl,Nat.le_refl _,SliceR.nil _ _ _,fun v hv=>absurd hv (by simp)⟩
 ·rw [hxx] at hwt
  simp only [DataW.weights,ht,List.mem_cons,List.mem_append,List.length_map] at hwt
  have hlen2:len≤140737488355328:=by
   have h1:=hwt _ (.inl rfl)
   have h2:(elems.length+rest.length)*1≤(elems.length+rest.length)*Tryz.prog.bytesOf e:=Nat.mul_le_mul_left _ hbe
   have h3:=reachBytes_lt
   omega
  have H:∀ i,i < len→∃ v:α,Q v∧R a.block (a.off+i*size) v∧a=⟨a.block,a.off,none⟩:=fun i hi=>by
   have h1:=hel2 i hi
   rw [he,List.getElem?_eq_getElem (by omega)] at h1
   obtain ⟨cs',hc,ht'⟩:=Option.bind_eq_some_iff.1 h1
   obtain ⟨v,hq,hr⟩:=hel n cs' _ hfu (fun k hk=>hwt k (.inr (.inl (weightsAll_mem (List.mem_map_of_mem (List.getElem_mem _)) k hk)))) ht'
   obtain ⟨-,hlen',hat⟩:=World.cells?_some hc
   have hspot:a=⟨a.block,a.off,none⟩:=by
    have h1':=hel2 0 (by omega)
    rw [he,List.getElem?_eq_getElem (by omega)] at h1'
    obtain ⟨cs0,hc0,-⟩:=Option.bind_eq_some_iff.1 h1'
    obtain ⟨-,hl0,hat0⟩:=World.cells?_some hc0
    have h2:=hat0 0 hs
    rw [Nat.zero_mul] at h2
    obtain ⟨u,hu⟩:∃ u,cs0[0]? = some u:=⟨cs0[0]'(by omega),List.getElem?_eq_getElem (by omega)⟩
    rw [hu] at h2
    exact spot_of_cell (v:=u) (by simpa [Addr.add] using h2)
   refine ⟨v,hq,hr _ _ (fun j u hu=>?_),hspot⟩
   have hj:j < size:=by have:=(List.getElem?_eq_some_iff.1 hu).1;omega
   have h2:=hat j hj
   rw [hspot,add_none,hu] at h2
   exact h2
  obtain ⟨l,hll,hp⟩:=list_of (fun i v=>Q v∧R a.block (a.off+i*size) v∧a=⟨a.block,a.off,none⟩) len H
  refine ⟨l,some a,cap,by rw [hll],by omega,⟨by omega,fun hpos=>⟨a.block,a.off,congrArg some (hp 0 hpos).2.2,fun k hk=>(hp k hk).2.1⟩⟩,fun v hv=>?_⟩
  obtain ⟨i,hi,rfl⟩:=List.getElem_of_mem hv
  exact (hp i hi).1
theorem five {α:Type} {l:List α} (h:l.length=5):∃ a b c d e,l=[a,b,c,d,e]:=by
 match l,h with
 | [a,b,c,d,e],_=>exact ⟨a,b,c,d,e,rfl⟩
theorem two {α:Type} {l:List α} (h:l.length=2):∃ a b,l=[a,b]:=by
 match l,h with
 | [a,b],_=>exact ⟨a,b,rfl⟩
theorem bytesVal:0 < Tryz.prog.bytesOf 28:=of_decide_eq_true (by kernel_rfl)
theorem bytesStr:0 < Tryz.prog.bytesOf 9:=of_decide_eq_true (by kernel_rfl)
theorem str_small {s:ByteArray} {p:DataW H × List MemPlace} (hx:p=(.lit (.string s.data.toList),[])) (h:∀ k ∈ p.1.weights Tryz.prog 9,k≤reachBytes):s.size≤140737488355328:=by
 subst hx
 have h1:=h s.data.toList.length (by simp [DataW.weights])
 have h2:=reachBytes_lt
 rw [Array.length_toList] at h1
 have h3:s.data.size=s.size:=rfl
 omega
set_option maxRecDepth 100000 in
theorem open_both:∀ fuel:Nat,
  (∀ (cs:List Value) (x:DataW H × List MemPlace),(∀ k ∈ x.1.weights Tryz.prog 28,k≤reachBytes)→DataW.trod enc Tryz.prog w base spare held fuel 28 cs=some x→∃ v:Val,szV v∧∀ b o,(∀ j u,cs[j]? = some u→w.cell? ⟨b,o+j,none⟩=some u)→VCells w (fun _=>True) b o v) ∧
  (∀ (t:TypeId) (cs:List Value) (x:DataW H × List MemPlace),Tryz.prog.underlying t=some (.slice 28)→(∀ k ∈ x.1.weights Tryz.prog t,k≤reachBytes)→DataW.trod enc Tryz.prog w base spare held fuel t cs=some x→∃ (l:List Val) (A:Option Addr) (c:Nat),cs=[.slice A l.length c]∧l.length≤c∧Vals w (fun _=>True) A l∧szL l)
 | 0=>⟨fun cs x _ h=>by simp [DataW.trod] at h,fun t cs x _ _ h=>by simp [DataW.trod] at h⟩
 | n+1=>by
  obtain ⟨ih1,ih2⟩:=open_both n
  refine ⟨fun cs x hwt h=>?_,fun t cs x ht hwt h=>?_⟩
  ·obtain ⟨xs,m,hm,rfl,hl,hlen,hg⟩:=DataW.trod_struct Tryz.underlying28 h
   obtain rfl:m=n:=by omega
   rw [cellsVal] at hl
   obtain ⟨c0,c1,c2,c3,c4,rfl⟩:=five hl
   obtain ⟨y0,y1,y2,y3,y4,rfl⟩:=five (show xs.length=5 from hlen)
   have g0:DataW.trod enc Tryz.prog w base spare held m 3 (([c0,c1,c2,c3,c4].drop 0).take (Tryz.prog.cellsOf 3))=some y0:=hg 0 _ rfl
   rw [cellsInt] at g0
   have g1:DataW.trod enc Tryz.prog w base spare held m 3 (([c0,c1,c2,c3,c4].drop 1).take (Tryz.prog.cellsOf 3))=some y1:=hg 1 _ rfl
   rw [cellsInt] at g1
   have g2:DataW.trod enc Tryz.prog w base spare held m 3 (([c0,c1,c2,c3,c4].drop 2).take (Tryz.prog.cellsOf 3))=some y2:=hg 2 _ rfl
   rw [cellsInt] at g2
   have g3:DataW.trod enc Tryz.prog w base spare held m 9 (([c0,c1,c2,c3,c4].drop 3).take (Tryz.prog.cellsOf 9))=some y3:=hg 3 _ rfl
   rw [cellsStr] at g3
   have g4:DataW.trod enc Tryz.prog w base spare held m 26 (([c0,c1,c2,c3,c4].drop 4).take (Tryz.prog.cellsOf 26))=some y4:=hg 4 _ rfl
   rw [cellsVals] at g4
   have hwe:∀ k ∈ DataW.weightsEach Tryz.prog [3,3,3,9,26] [y0.1,y1.1,y2.1,y3.1,y4.1],k≤reachBytes:=fun k hk=>hwt k (by
    simp only [DataW.weights,Tryz.underlying28]
    exact hk)
   obtain ⟨k0,e0,-,-⟩:=DataW.trod_int (k := .i64) Tryz.underlying3 g0
   obtain ⟨k1,e1,-,-⟩:=DataW.trod_int (k := .i64) Tryz.underlying3 g1
   obtain ⟨k2,e2,-,-⟩:=DataW.trod_int (k := .i64) Tryz.underlying3 g2
   obtain ⟨s,e3,x3,-⟩:=DataW.trod_string Tryz.underlying9 g3
   have hsz:=str_small x3 (fun k hk=>hwe k (DataW.weights_mem_each (j:=3) rfl rfl k hk))
   obtain ⟨l,A,c,e4,hlc,hv,hszl⟩:=ih2 _ _ _ Tryz.underlying26 (fun k hk=>hwe k (DataW.weights_mem_each (j:=4) rfl rfl k hk)) g4
   cases e0;cases e1;cases e2;cases e3;cases e4
   refine ⟨.mk k0 k1 k2 s l,szV_iff.2 ⟨hsz,hszl⟩,fun b o hc=>VCells.iff.2 ⟨trivial,A,c,⟨hc 0 _ rfl,hc 1 _ rfl,hc 2 _ rfl,hc 3 _ rfl,hc 4 _ rfl⟩,hlc,hv⟩⟩
  ·obtain ⟨l,A,c,e,hlc,hv,hq⟩:=slice_gen (α:=Val) ht cellsVal bytesVal (by decide) (VCells w (fun _=>True)) szV (fun m cs' y hm hk hy=>by
    obtain rfl:m=n:=by omega
    exact ih1 cs' y hk hy) hwt h
   exact ⟨l,A,c,e,hlc,hv,szL_ofV hq⟩
theorem open_strs {t:TypeId} {fuel:Nat} {cs:List Value} {x:DataW H × List MemPlace} (ht:Tryz.prog.underlying t=some (.slice 9)) (hwt:∀ k ∈ x.1.weights Tryz.prog t,k≤reachBytes) (h:DataW.trod enc Tryz.prog w base spare held fuel t cs=some x) :
  ∃ (l:List ByteArray) (A:Option Addr) (c:Nat),cs=[.slice A l.length c]∧l.length≤c∧Strs w (fun _=>True) A l∧∀ s ∈ l,s.size≤140737488355328 :=
 slice_gen (α:=ByteArray) ht cellsStr bytesStr (by decide) (StrC w (fun _=>True)) (fun s=>s.size≤140737488355328) (fun _ cs' y _ hk hy=>by
  obtain ⟨s,e,x3,-⟩:=DataW.trod_string Tryz.underlying9 hy
  have hsz:=str_small x3 hk
  subst e
  exact ⟨s,hsz,fun b o hc=>⟨trivial,hc 0 _ rfl⟩⟩) hwt h
end
section
variable {H:Type} {enc:TypeId × Value→H} {P:Program}
theorem post_of_below {f:Func} {s:ChangeSpec} {apart fresh handsOn again:Bool} {W W':World} {args:Array Value} {v:Value} {ds gs:List (DataW H)} {before pa pv:List MemPlace}
  (hW:DataW.Whole enc P f.params.toList s.vars apart W args.toList ds gs before)
  (hres:∀ (b:Nat) (sp:Nat→Bool) (hd:Bool),DataW.TrodAll enc P W' b sp hd f.resultTypes.toList (v.resultList f.resultTypes.size) (s.fn H (ds ++ gs)).results [])
  (hargs:∀ sp:Nat→Bool,(∀ p ∈ before,sp p.block=true)→DataW.TrodAll enc P W' 0 sp true f.params.toList args.toList (s.fn H (ds ++ gs)).args pa)
  (hvars:∀ sp:Nat→Bool,(∀ p ∈ before,sp p.block=true)→DataW.TrodVars enc P W' sp s.vars (s.fn H (ds ++ gs)).vars pv)
  (hps:before=pa ++ pv) (hb:Below W.heap.size W W')
  (hok:∀ (j:Nat) (t:TypeId) (r:Value),f.resultTypes[j]? = some t→(v.resultList f.resultTypes.size)[j]? = some r→Value.okWide P W' .any 0 t r) :
  s.post enc P f apart fresh handsOn again W args v W':=by
 have hlt:∀ p ∈ before,p.block < W.heap.size:=fun p hp=>hW.lt p hp
 have hold:∀ p ∈ before,(fun b=>decide (b < W.heap.size)) p.block=true:=fun p hp=>by simpa using hlt p hp
 refine ⟨ds,gs,before,[],pa,pv,hW,hres _ _ _,hargs _ hold,hvars _ hold,World.keptBut_mono (fun p hp=>⟨hp,?_⟩) (hb.frame (· ∈ before)),fun _=>?_⟩
 ·rw [hps,List.mem_append] at hp
  exact Or.inr hp
 ·obtain ⟨_,_,_,_,_,hz,hn⟩:=hW
  refine ⟨hok,_,_,([] ++ pa) ++ pv,⟨[] ++ pa,pv,trodAll_append (hargs _ (fun _ _=>rfl)) (hres _ _ _),hvars _ (fun _ _=>rfl),rfl,?_,?_⟩,?_⟩
  ·intro b off hp
   have hin:MemPlace.cell b off ∈ before:=by rw [hps];simpa using hp
   rw [hb.frozen (hlt _ hin)]
   exact hz b off hin
  ·intro ha
   have:=hn ha
   rw [hps] at this
   simpa using this
  ·intro p hp _
   rw [hps]
   simpa using hp
end
end Go.Proofs.YtfhekbacigoblaaGreatDoor
