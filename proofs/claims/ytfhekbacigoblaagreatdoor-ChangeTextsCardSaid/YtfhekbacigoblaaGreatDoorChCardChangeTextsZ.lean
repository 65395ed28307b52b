/- graphdblaw08.ChangeTexts (row and card): for every input the law returns true, and the input reads as it did; the listed variables as the text lays them. -/
import Derived.Test.YtfhekbacigoblaaGreatDoorWT05
import Derived.Lib.LaidTab
import Derived.Stop.LaidErr
import Derived.Test.YtfhekbacigoblaaGreatDoorCards
import Derived.Test.YtfhekbacigoblaaGreatDoorTie
import Derived.ProofKit
import Derived.Deep.Fields
import Derived.OpenShut
import Derived.LaidMore
import Derived.Deep.DeepHandedRow
import Derived.Deep.DeepWitnessRowRef
import Derived.SizedLaws
import Derived.Deep.Slices
import Derived.Lib.SmallJoins
import Derived.Lay
import Derived.Carry
import Derived.MakeChecks
namespace Go.Proofs.YtfhekbacigoblaaGreatDoor.lawChangeTexts
open Go.ChangeShapes Go.WideShapes Go.ChangeAt Go.RowKit
open Go.ChangeMaps (open_string shut_string)
abbrev Z0:Value:=.agg #[.int .i64 0, .int .i64 0, .int .i64 0, .int .i64 0, .string ByteArray.empty, .int .i64 0, .int .i64 0, .int .i64 0, .string ByteArray.empty, .slice none 0 0]
set_option maxRecDepth 100000 in
theorem contract (H:Type) (enc:TypeId × Value→H) (W:World) (base:Nat) (args:Array Value) (ds gs:List (DataW H)) (before:List MemPlace)
  (hval:∀ (j:Nat) t v,Tryz.f8.params[j]? = some t→args[j]? = some v→Value.okWide Tryz.prog W .any base t v)
  (hW:DataW.Whole enc Tryz.prog Tryz.f8.params.toList Rows.changeTextsSpec.vars false W args.toList ds gs before) (hwt:(DataW.weightsEach Tryz.prog Tryz.f8.params.toList ds).all (· ≤ reachBytes)=true) (hL:laidMetH Tryz.prog Rows.changeTextsRow.laid W) (hSh:W.ShapedOpen Tryz.prog) :
  Calls Tryz.prog 8 args W fun e W' => ∃ v,e = .returned v∧Rows.changeTextsSpec.post enc Tryz.prog Tryz.f8 false true false false W args v W':=by
 have hz:zq W:=z1g hL
 have hp:zgc W:=z1q hL
 have hb:BrW W:=z1w hSh
 have hW':=hW
 obtain ⟨p,q,hA0,hV,rfl,hfz,hnd⟩:=hW
 have hA:DataW.TrodAll enc Tryz.prog W 0 (fun _=>true) true Tryz.f8.params.toList args.toList ds p:=hA0
 rw [Tryz.params8] at hA hval hwt
 obtain ⟨v0,vs0,d0,ds0,p0,q0,hargs,rfl,rfl,h0,r0⟩:=trodAll_cons hA
 obtain ⟨v1,vs1,d1,ds1,p1,q1,rfl,rfl,rfl,h1,r1⟩:=trodAll_cons r0
 obtain ⟨rfl,rfl,rfl⟩:=trodAll_nil r1
 obtain rfl:args=#[v0,v1]:=by cases args;simp_all
 obtain ⟨rfl,rfl⟩:=trodVars_none hV
 have k0:=h0
 obtain ⟨x0,A0,c0,rfl,lc0,T0,s0⟩:=z1t (hval 0 30 v0 rfl rfl) (fun k hk=>of_decide_eq_true (List.all_eq_true.1 hwt k (DataW.weights_mem_each (j:=0) rfl rfl k hk))) h0
 have k1:=h1
 obtain ⟨x1,A1,c1,rfl,lc1,T1,s1⟩:=z1t (hval 1 30 v1 rfl rfl) (fun k hk=>of_decide_eq_true (List.all_eq_true.1 hwt k (DataW.weights_mem_each (j:=1) rfl rfl k hk))) h1
 clear hA0
 simp only [List.append_nil] at hW'
 refine (l_ChangeTexts x0 x1 (fun _=>True) (fun _=>True) A0 A1 c0 c1 W hz hp hb T0 lc0 s0 T1 lc1 s1).mono fun e W' ⟨he,hg⟩=>?_
 subst he
 have hlt0:∀ x ∈ p0,x.block < W.heap.size:=fun x hx=>hW'.lt x (by first|exact hx|(simp only [List.mem_append];simp [hx]))
 have hlt1:∀ x ∈ p1,x.block < W.heap.size:=fun x hx=>hW'.lt x (by first|exact hx|(simp only [List.mem_append];simp [hx]))
 exact ⟨_,rfl,zya (pa:=p0 ++ (p1)) (pv:=[]) hW' (fun _ _ _=>trodAll_cons_mk (shut_bool Tryz.underlying4 _) trodAll_mk0) (fun sp hsp=>by have q:=(trodAll_cons_mk (WideElems.Trod_stays (base:=0) z1e (by kernel_rfl) (of_decide_eq_true (by kernel_rfl)) k0 (fun x hx=>hg.same (hlt0 x hx)) (fun x hx=>hsp x (by first|exact hx|(simp only [List.mem_append];simp [hx])))) (trodAll_cons_mk (WideElems.Trod_stays (base:=0) z1e (by kernel_rfl) (of_decide_eq_true (by kernel_rfl)) k1 (fun x hx=>hg.same (hlt1 x hx)) (fun x hx=>hsp x (by first|exact hx|(simp only [List.mem_append];simp [hx])))) trodAll_mk0));simp only [List.append_nil] at q;exact q) (fun _ _=>rfl) (List.append_nil _).symm hg (ok_one (by kernel_rfl) rfl (okWide_bool_mk Tryz.underlying4 _))⟩
theorem reads (os:Os) {H:Type} (enc:TypeId × Value→H):∃ places,DataW.whole enc Tryz.prog ((World.laidAll Tryz.prog os zf2).forCall (fun _ _=>0) ⟨#[],#[Z0, Z0],[]⟩).memory Tryz.f8.params.toList Rows.changeTextsSpec.vars false #[Z0,Z0].toList 8=some ([.agg [.lit (.int .i64 0), .lit (.int .i64 0), .lit (.int .i64 0), .lit (.int .i64 0), .lit (.string []), .agg [.lit (.int .i64 0), .lit (.int .i64 0), .lit (.int .i64 0), .lit (.string []), .nil]], .agg [.lit (.int .i64 0), .lit (.int .i64 0), .lit (.int .i64 0), .lit (.int .i64 0), .lit (.string []), .agg [.lit (.int .i64 0), .lit (.int .i64 0), .lit (.int .i64 0), .lit (.string []), .nil]]],[],places) :=
 ⟨[],by kernel_rfl⟩
set_option maxRecDepth 100000 in
theorem lifted (os:Os) (started:os.Started) (H:Type) (enc:TypeId × Value→H) (F:Stop.Interp) :
  ReturnsInHanded {} Tryz.checked os 8 .any ((OpenSpec.ofChange Rows.changeTextsSpec).preRow enc Tryz.prog Tryz.f8 Rows.changeTextsRow.domain false Rows.changeTextsRow.laid) (((OpenSpec.ofChange Rows.changeTextsSpec).at F).post enc Tryz.prog Tryz.f8 false true false false):=by
 obtain ⟨places,hx⟩:=reads os enc
 refine returnsInHanded_of_row (C:=Tryz.checked) (s:=OpenSpec.ofChange Rows.changeTextsSpec) own started (by kernel_rfl) Tryz.func8
  (witness_row_atRef (enc:=enc) (C:=Tryz.checked) false (World.laidAll Tryz.prog os zf2) #[Z0, Z0] (World.laidAll_os _ _ _) (by kernel_rfl) (by kernel_rfl) (by kernel_rfl)
   (OpenSpec.preRow_of_cond 8 hx (by kernel_rfl) (fun k hk=>by cases hk) (by kernel_rfl) (z0y os _))) ?_
 intro W base args ds gs before hval hW _ _ hwt hL hSh _
 have hgs:gs=[]:=by obtain ⟨_,_,_,hV,_⟩:=hW;exact (trodVars_none hV).1
 subst hgs
 simp only [List.append_nil] at hwt
 exact contract H enc W base args ds [] before hval hW hwt hL hSh
theorem said:Rows.ChangeTextsSaid :=
 OpenClaim.holds_of_cond 8 Tryz.f8 rfl rfl rfl rfl rfl rfl rfl ⟨rfl,rfl,rfl,rfl,rfl⟩ rfl rfl rfl rfl rfl (by kernel_rfl) Tryz.func8 (by kernel_rfl)
  (of_decide_eq_true (by kernel_rfl)) (by unfold Func.isWrapper;first|(rw [if_pos (by decide +kernel)];kernel_rfl)|(rw [if_neg (by decide +kernel)];exact ⟨rfl,rfl⟩))
  (fun os started H enc _ F=>by rw [OpenClaim.pre_eq_preRow];exact lifted os started H enc F)
theorem plain (f:FuncId) (fn:Func) (hf:Tryz.pinned.checked.prog.funcNamed "graphdb/graphdblaw08.ChangeTexts" = some f) (hfn:Tryz.pinned.checked.prog.funcs[f]? = some fn) :
  true=Tryz.pinned.checked.prog.looks []∧∀ (j:Nat) t,fn.params[j]? = some t→Tryz.pinned.checked.prog.wantsStandIn t=false:=by
 obtain rfl:f=8:=Option.some.inj ((show Tryz.prog.funcNamed "graphdb/graphdblaw08.ChangeTexts" = some 8 by kernel_rfl).symm.trans hf) |>.symm
 obtain rfl:fn=Tryz.f8:=(Option.some.inj (Tryz.func8.symm.trans hfn)).symm
 refine ⟨by kernel_rfl,fun j t ht=>?_⟩
 have hall:(Tryz.f8.params.toList.all fun t => !Tryz.prog.wantsStandIn t)=true:=by kernel_rfl
 have:=List.all_eq_true.1 hall t (Array.mem_toList_iff.2 (Array.mem_of_getElem? ht))
 rwa [Bool.not_eq_true'] at this
theorem card:Rows.ChangeTextsCardSaid :=
 Claim7.holds_tied_plain_at .later [] _ _ _ _ said (fun _ h=>by cases h) (by kernel_rfl) (fun _ h=>by cases h) changeTexts_row_tie rfl ⟨rfl,rfl⟩ (by kernel_rfl) rfl plain (by kernel_rfl)
#print axioms card
end Go.Proofs.YtfhekbacigoblaaGreatDoor.lawChangeTexts
