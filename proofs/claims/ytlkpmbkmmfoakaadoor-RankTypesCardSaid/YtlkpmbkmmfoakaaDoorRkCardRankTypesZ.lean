/- THE ROW AND THE CARD of graphdblaw51.RankTypes: for every input the law returns true, and the input reads as it did; the listed package variables as the program's text lays them. -/
import Derived.Test.YtlkpmbkmmfoakaaDoorU00
import Derived.Test.YtlkpmbkmmfoakaaDoorU01
import Derived.Test.YtlkpmbkmmfoakaaDoorU02
import Derived.Test.YtlkpmbkmmfoakaaDoorU03
import Derived.Test.YtlkpmbkmmfoakaaDoorU04
import Derived.Test.YtlkpmbkmmfoakaaDoorU05
import Derived.Test.YtlkpmbkmmfoakaaDoorU06
import Derived.Test.YtlkpmbkmmfoakaaDoorU07
import Derived.Test.YtlkpmbkmmfoakaaDoorU08
import Derived.Test.YtlkpmbkmmfoakaaDoorU09
import Derived.Test.YtlkpmbkmmfoakaaDoorU10
import Derived.Test.YtlkpmbkmmfoakaaDoorU11
import Derived.Test.YtlkpmbkmmfoakaaDoorU12
import Derived.Test.YtlkpmbkmmfoakaaDoorU13
import Derived.Test.YtlkpmbkmmfoakaaDoorU14
import Derived.Test.YtlkpmbkmmfoakaaDoorU15
import Derived.Test.YtlkpmbkmmfoakaaDoorU16
import Derived.Test.YtlkpmbkmmfoakaaDoorU17
import Derived.Deep.RegionHeld3
import Derived.Deep.CutBlock
import Derived.Deep.DeepCutAuto
import Derived.Lib.BitFns
import Derived.Test.YtlkpmbkmmfoakaaDoorShelf
import Derived.Shelf.Spec.BitsCarry
import Derived.Deep.Cut
import Derived.Lib.ItoaNum
import Derived.Lib.AtoiAll
import Derived.Deep.QuietTactic
import Derived.BigQuiet
import Derived.Test.YtlkpmbkmmfoakaaDoorProg
import Derived.WalkKit
import Derived.WalkSpells
import Derived.WalkLawsBesides
import Derived.Lib.Hide
import Derived.Laws.BitsAllLaws
import Derived.BigRegion
import Derived.Deep.RegionHeld
import Derived.Below
import Derived.Laws.Rows
import Derived.Laws.OwnMore
import Derived.Deep.Draws
import Derived.Maps.AppendAt
import Derived.Sort.Walk0
import Derived.Lib.Small
import Derived.Laws.CopyRow
import Derived.Lib.AppendZerosOnto
import Derived.Lib.SlFresh
import Derived.Laws.AppendOwn
import Derived.OwnWalk
import Derived.Deep.AppendLies
import Derived.Deep.MidRow
import Derived.Maps.OwnSet
import Derived.Maps.OwnOps
import Derived.Sort.LotA
import Derived.Carry
import Derived.Test.YtlkpmbkmmfoakaaDoorCards
import Derived.Test.YtlkpmbkmmfoakaaDoorTie
import Derived.ProofKit
import Derived.Deep.Fields
import Derived.OpenShut
import Derived.LaidMore
import Derived.Deep.DeepHandedRow
import Derived.Deep.DeepWitnessRowRef
import Derived.SizedLaws
import Derived.Deep.Slices
import Derived.Lib.SmallJoins
import Derived.Lay
import Derived.MakeChecks

namespace Go.Proofs.YtlkpmbkmmfoakaaDoor.lawRankTypes
open Go.ChangeShapes Go.WideShapes Go.ChangeAt Go.RowKit
open Go.ChangeMaps (open_string shut_string)
set_option maxRecDepth 100000 in
theorem contract (H : Type) (enc : TypeId × Value → H) (W : World) (base : Nat) (args : Array Value) (ds gs : List (DataW H)) (before : List MemPlace)
    (hval : ∀ (j : Nat) t v, Tryd.f6.params[j]? = some t → args[j]? = some v → Value.okWide Tryd.prog W .any base t v)
    (hW : DataW.Whole enc Tryd.prog Tryd.f6.params.toList Rows.rankTypesSpec.vars false W args.toList ds gs before) (hwt : (DataW.weightsEach Tryd.prog Tryd.f6.params.toList ds).all (· ≤ reachBytes) = true) (hL : laidMetH Tryd.prog Rows.rankTypesRow.laid W) :
    Calls Tryd.prog 6 args W fun e W' => ∃ v, e = .returned v ∧ Rows.rankTypesSpec.post enc Tryd.prog Tryd.f6 false true false false W args v W' := by
  have hz : ZeroAt W := zero_of hL
  have hW' := hW
  obtain ⟨p, q, hA0, hV, rfl, hfz, hnd⟩ := hW
  have hA : DataW.TrodAll enc Tryd.prog W 0 (fun _ => true) true Tryd.f6.params.toList args.toList ds p := hA0
  rw [Tryd.params6] at hA hval hwt
  obtain ⟨v0, vs0, d0, ds0, p0, q0, hargs, rfl, rfl, h0, r0⟩ := trodAll_cons hA
  obtain ⟨v1, vs1, d1, ds1, p1, q1, rfl, rfl, rfl, h1, r1⟩ := trodAll_cons r0
  obtain ⟨v2, vs2, d2, ds2, p2, q2, rfl, rfl, rfl, h2, r2⟩ := trodAll_cons r1
  obtain ⟨v3, vs3, d3, ds3, p3, q3, rfl, rfl, rfl, h3, r3⟩ := trodAll_cons r2
  obtain ⟨rfl, rfl, rfl⟩ := trodAll_nil r3
  obtain rfl : args = #[v0, v1, v2, v3] := by cases args; simp_all
  obtain ⟨rfl, rfl⟩ := trodVars_none hV
  have k0 := h0
  obtain ⟨x0, A0, B0, c0, e0, rfl, lc0, le0, T0, s0⟩ := open_graph (hval 0 34 v0 rfl rfl) (fun k hk => of_decide_eq_true (List.all_eq_true.1 hwt k (DataW.weights_mem_each (j := 0) rfl rfl k hk))) h0
  have k1 := h1
  obtain ⟨x1, rfl, -, -, b1⟩ := open_string Tryd.underlying9 (hval 1 9 v1 rfl rfl) h1
  have k2 := h2
  obtain ⟨x2, y2, rfl⟩ := top_frac (hval 2 25 v2 rfl rfl) h2
  have k3 := h3
  obtain ⟨x3, rfl, -, -, b3⟩ := open_int Tryd.underlying3 (hval 3 3 v3 rfl rfl) h3
  clear hA0
  simp only [List.append_nil] at hW'
  refine (l_RankTypes x0 x1 (x2, y2) x3 (fun _ => True) A0 B0 c0 e0 W hz T0 s0).mono fun e W' ⟨he, hg⟩ => ?_
  subst he
  have hlt0 : ∀ x ∈ p0, x.block < W.heap.size := fun x hx => hW'.lt x (by first | exact hx | (simp only [List.mem_append]; simp [hx]))
  have hlt1 : ∀ x ∈ p1, x.block < W.heap.size := fun x hx => hW'.lt x (by first | exact hx | (simp only [List.mem_append]; simp [hx]))
  have hlt2 : ∀ x ∈ p2, x.block < W.heap.size := fun x hx => hW'.lt x (by first | exact hx | (simp only [List.mem_append]; simp [hx]))
  have hlt3 : ∀ x ∈ p3, x.block < W.heap.size := fun x hx => hW'.lt x (by first | exact hx | (simp only [List.mem_append]; simp [hx]))
  exact ⟨_, rfl, post_of_below (pa := p0 ++ (p1 ++ (p2 ++ (p3)))) (pv := []) hW' (fun _ _ _ => trodAll_cons_mk (shut_bool Tryd.underlying4 _) trodAll_mk0) (fun sp hsp => by have q := (trodAll_cons_mk (WideElems.Trod_stays (base := 0) laidOut (by kernel_rfl) (of_decide_eq_true (by kernel_rfl)) k0 (fun x hx => hg.same (hlt0 x hx)) (fun x hx => hsp x (by first | exact hx | (simp only [List.mem_append]; simp [hx])))) (trodAll_cons_mk (WideElems.Trod_stays (base := 0) laidOut (by kernel_rfl) (of_decide_eq_true (by kernel_rfl)) k1 (fun x hx => hg.same (hlt1 x hx)) (fun x hx => hsp x (by first | exact hx | (simp only [List.mem_append]; simp [hx])))) (trodAll_cons_mk (WideElems.Trod_stays (base := 0) laidOut (by kernel_rfl) (of_decide_eq_true (by kernel_rfl)) k2 (fun x hx => hg.same (hlt2 x hx)) (fun x hx => hsp x (by first | exact hx | (simp only [List.mem_append]; simp [hx])))) (trodAll_cons_mk (WideElems.Trod_stays (base := 0) laidOut (by kernel_rfl) (of_decide_eq_true (by kernel_rfl)) k3 (fun x hx => hg.same (hlt3 x hx)) (fun x hx => hsp x (by first | exact hx | (simp only [List.mem_append]; simp [hx])))) trodAll_mk0)))); simp only [List.append_nil] at q; exact q) (fun _ _ => rfl) (List.append_nil _).symm hg (ok_one (by kernel_rfl) rfl (okWide_bool_mk Tryd.underlying4 _))⟩
theorem reads (os : Os) {H : Type} (enc : TypeId × Value → H) : ∃ places, DataW.whole enc Tryd.prog ((World.laidAll Tryd.prog os laidList).forCall (fun _ _ => 0) ⟨#[], #[.agg #[.slice none 0 0, .slice none 0 0, .int .i64 0, .int .i64 0], .string ByteArray.empty, .agg #[.int .i64 0, .int .i64 0], .int .i64 0], []⟩).memory Tryd.f6.params.toList Rows.rankTypesSpec.vars false #[Value.agg #[.slice none 0 0, .slice none 0 0, .int .i64 0, .int .i64 0], Value.string ByteArray.empty, Value.agg #[.int .i64 0, .int .i64 0], Value.int .i64 0].toList 8 = some ([.agg [.nil, .nil, .lit (.int .i64 0), .lit (.int .i64 0)], .lit (.string []), .agg [.lit (.int .i64 0), .lit (.int .i64 0)], .lit (.int .i64 0)], [], places) :=
  ⟨[], by kernel_rfl⟩
set_option maxRecDepth 100000 in
theorem lifted (os : Os) (started : os.Started) (H : Type) (enc : TypeId × Value → H) (F : Stop.Interp) :
    ReturnsInHanded {} Tryd.checked os 6 .any ((OpenSpec.ofChange Rows.rankTypesSpec).preRow enc Tryd.prog Tryd.f6 Rows.rankTypesRow.domain false Rows.rankTypesRow.laid) (((OpenSpec.ofChange Rows.rankTypesSpec).at F).post enc Tryd.prog Tryd.f6 false true false false) := by
  obtain ⟨places, hx⟩ := reads os enc
  refine returnsInHanded_of_row (C := Tryd.checked) (s := OpenSpec.ofChange Rows.rankTypesSpec) own started (by kernel_rfl) Tryd.func6
    (witness_row_atRef (enc := enc) (C := Tryd.checked) false (World.laidAll Tryd.prog os laidList) #[.agg #[.slice none 0 0, .slice none 0 0, .int .i64 0, .int .i64 0], .string ByteArray.empty, .agg #[.int .i64 0, .int .i64 0], .int .i64 0] (World.laidAll_os _ _ _) (by kernel_rfl) (by kernel_rfl) (by kernel_rfl)
      (OpenSpec.preRow_of_cond 8 hx (by kernel_rfl) (fun k hk => by cases hk) (by kernel_rfl) (door_met os _))) ?_
  intro W base args ds gs before hval hW _ _ hwt hL _ _
  have hgs : gs = [] := by obtain ⟨_, _, _, hV, _⟩ := hW; exact (trodVars_none hV).1
  subst hgs
  simp only [List.append_nil] at hwt
  exact contract H enc W base args ds [] before hval hW hwt hL
theorem said : Rows.RankTypesSaid :=
  OpenClaim.holds_of_cond 6 Tryd.f6 rfl rfl rfl rfl rfl rfl rfl ⟨rfl, rfl, rfl, rfl, rfl⟩ rfl rfl rfl rfl rfl (by kernel_rfl) Tryd.func6 (by kernel_rfl)
    (of_decide_eq_true (by kernel_rfl)) (by unfold Func.isWrapper; first | (rw [if_pos (by decide +kernel)]; kernel_rfl) | (rw [if_neg (by decide +kernel)]; exact ⟨rfl, rfl⟩))
    (fun os started H enc _ F => by rw [OpenClaim.pre_eq_preRow]; exact lifted os started H enc F)
/-- What the card asks of the parameters and of the program's own looks. -/
theorem plain (f : FuncId) (fn : Func) (hf : Tryd.pinned.checked.prog.funcNamed "graphdb/graphdblaw51.RankTypes" = some f) (hfn : Tryd.pinned.checked.prog.funcs[f]? = some fn) :
    false = Tryd.pinned.checked.prog.looks [] ∧ ∀ (j : Nat) t, fn.params[j]? = some t → Tryd.pinned.checked.prog.wantsStandIn t = false := by
  obtain rfl : f = 6 := Option.some.inj ((show Tryd.prog.funcNamed "graphdb/graphdblaw51.RankTypes" = some 6 by kernel_rfl).symm.trans hf) |>.symm
  obtain rfl : fn = Tryd.f6 := (Option.some.inj (Tryd.func6.symm.trans hfn)).symm
  refine ⟨by kernel_rfl, fun j t ht => ?_⟩
  have hall : (Tryd.f6.params.toList.all fun t => !Tryd.prog.wantsStandIn t) = true := by kernel_rfl
  have := List.all_eq_true.1 hall t (Array.mem_toList_iff.2 (Array.mem_of_getElem? ht))
  rwa [Bool.not_eq_true'] at this
theorem card : Rows.RankTypesCardSaid :=
  Claim7.holds_tied_plain_at .later [] _ _ _ _ said (fun _ h => by cases h) (by kernel_rfl) (fun _ h => by cases h) rankTypes_row_tie rfl ⟨rfl, rfl⟩ (by kernel_rfl) rfl plain (by kernel_rfl)
#print axioms card
end Go.Proofs.YtlkpmbkmmfoakaaDoor.lawRankTypes
