/- THE ROW of graphdblaw12.ColumnSteps: for every input the law returns true, and the input reads as it did. -/
import Derived.Test.YtnheioehadldmaaT00
import Derived.Test.YtnheioehadldmaaT01
import Derived.Test.YtnheioehadldmaaT02
import Derived.Test.YtnheioehadldmaaT03
import Derived.Test.YtnheioehadldmaaT04
import Derived.Test.YtnheioehadldmaaT05
import Derived.Test.YtnheioehadldmaaT06
import Derived.Test.YtnheioehadldmaaT07
import Derived.Test.YtnheioehadldmaaT08
import Derived.Test.YtnheioehadldmaaT09
import Derived.Test.YtnheioehadldmaaT10
import Derived.Test.YtnheioehadldmaaT11
import Derived.Test.YtnheioehadldmaaT12
import Derived.Test.YtnheioehadldmaaT13
import Derived.Test.YtnheioehadldmaaT14
import Derived.Test.YtnheioehadldmaaT15
import Derived.Test.YtnheioehadldmaaT16
import Derived.Test.YtnheioehadldmaaT17
import Derived.Test.YtnheioehadldmaaT18
import Derived.Test.YtnheioehadldmaaT19
import Derived.Test.YtnheioehadldmaaT20
import Derived.Laws.BytesArg
import Derived.Deep.CutBlock
import Derived.Maps.AppendAt
import Derived.Lib.ItoaNum
import Derived.Lib.AtoiAll
import Derived.Sort.Walk0
import Derived.Lib.Small
import Derived.Laws.CopyRow
import Derived.Lib.AppendZerosOnto
import Derived.Lib.SlFresh
import Derived.Laws.AppendOwn
import Derived.Laws.OwnMore
import Derived.OwnWalk
import Derived.Deep.AppendLies
import Derived.Deep.MidRow
import Derived.Below
import Derived.Laws.Rows
import Derived.Deep.Draws
import Derived.Lib.Hide
import Derived.OrdersHeld
import Derived.Test.YtnheioehadldmaaProg
import Derived.Sort.LotA
import Derived.Deep.RegionHeld
import Derived.WalkSpells
import Derived.Deep.Cut
import Derived.Deep.RegionHeld3
import Derived.Deep.DeepCutAuto
import Derived.Lib.BitFns
import Derived.Test.YtnheioehadldmaaShelf
import Derived.Shelf.Spec.BitsCarry
import Derived.Deep.QuietTactic
import Derived.BigQuiet
import Derived.WalkKit
import Derived.WalkLawsBesides
import Derived.Maps.OwnSet
import Derived.Maps.OwnOps
import Derived.Laws.BitsAllLaws
import Derived.BigRegion
import Derived.Laws.DeepNot64
import Derived.RangeFuncNested
import Derived.RangeFuncBox
import Derived.RangeFuncLeaves
import Derived.Shelf.Abstract
import Derived.OwnWalkIn
import Derived.TacticsInMore
import Derived.LoopNIn
import Derived.LoopIn
import Derived.Shelf.SlSortCmp.NoneTotal
import Derived.Test.YtnheioehadldmaaShelfG
import Derived.Shelf.SlSortCmp.WholeK
import Derived.Calls
import Derived.Test.YtnheioehadldmaaRows
import Derived.ProofKit
import Derived.Deep.Fields
import Derived.OpenShut
import Derived.LaidMore
import Derived.Deep.DeepHandedRow
import Derived.Deep.DeepWitnessRowRef
import Derived.SizedLaws
import Derived.Deep.Slices
import Derived.Lib.SmallJoins
import Derived.Lay
import Derived.Carry
import Derived.MakeChecks

namespace Go.Proofs.Ytnheioehadldmaa.lawColumnSteps
open Go.ChangeShapes Go.WideShapes Go.ChangeAt Go.RowKit
open Go.ChangeMaps (open_string shut_string)
set_option maxRecDepth 100000 in
theorem contract (H : Type) (enc : TypeId × Value → H) (W : World) (base : Nat) (args : Array Value) (ds gs : List (DataW H)) (before : List MemPlace)
    (hval : ∀ (j : Nat) t v, Try.f6.params[j]? = some t → args[j]? = some v → Value.okWide Try.prog W .any base t v)
    (hW : DataW.Whole enc Try.prog Try.f6.params.toList Rows.columnStepsSpec.vars false W args.toList ds gs before) (hwt : (DataW.weightsEach Try.prog Try.f6.params.toList ds).all (· ≤ reachBytes) = true) (_hL : laidMetH Try.prog Rows.columnStepsRow.laid W) :
    Calls Try.prog 6 args W fun e W' => ∃ v, e = .returned v ∧ Rows.columnStepsSpec.post enc Try.prog Try.f6 false true false false W args v W' := by
  have hW' := hW
  obtain ⟨p, q, hA0, hV, rfl, hfz, hnd⟩ := hW
  have hA : DataW.TrodAll enc Try.prog W 0 (fun _ => true) true Try.f6.params.toList args.toList ds p := hA0
  rw [Try.params6] at hA hval hwt
  obtain ⟨v0, vs0, d0, ds0, p0, q0, hargs, rfl, rfl, h0, r0⟩ := trodAll_cons hA
  obtain ⟨v1, vs1, d1, ds1, p1, q1, rfl, rfl, rfl, h1, r1⟩ := trodAll_cons r0
  obtain ⟨rfl, rfl, rfl⟩ := trodAll_nil r1
  obtain rfl : args = #[v0, v1] := by cases args; simp_all
  obtain ⟨rfl, rfl⟩ := trodVars_none hV
  have k0 := h0
  obtain ⟨x0, A0, B0, c0, e0, rfl, lc0, le0, T0, s0⟩ := open_graph (hval 0 46 v0 rfl rfl) (fun k hk => of_decide_eq_true (List.all_eq_true.1 hwt k (DataW.weights_mem_each (j := 0) rfl rfl k hk))) h0
  have k1 := h1
  obtain ⟨x1, rfl, -, -, b1⟩ := open_string Try.underlying9 (hval 1 9 v1 rfl rfl) h1
  clear hA0
  simp only [List.append_nil] at hW'
  refine (l_ColumnSteps x0 x1 (fun _ => True) A0 B0 c0 e0 W T0).mono fun e W' ⟨he, hg⟩ => ?_
  subst he
  have hlt0 : ∀ x ∈ p0, x.block < W.heap.size := fun x hx => hW'.lt x (by first | exact hx | (simp only [List.mem_append]; simp [hx]))
  have hlt1 : ∀ x ∈ p1, x.block < W.heap.size := fun x hx => hW'.lt x (by first | exact hx | (simp only [List.mem_append]; simp [hx]))
  exact ⟨_, rfl, post_of_below (pa := p0 ++ (p1)) (pv := []) hW' (fun _ _ _ => trodAll_cons_mk (shut_bool Try.underlying4 _) trodAll_mk0) (fun sp hsp => by have q := (trodAll_cons_mk (WideElems.Trod_stays (base := 0) laidOut (by kernel_rfl) (of_decide_eq_true (by kernel_rfl)) k0 (fun x hx => hg.same (hlt0 x hx)) (fun x hx => hsp x (by first | exact hx | (simp only [List.mem_append]; simp [hx])))) (trodAll_cons_mk (WideElems.Trod_stays (base := 0) laidOut (by kernel_rfl) (of_decide_eq_true (by kernel_rfl)) k1 (fun x hx => hg.same (hlt1 x hx)) (fun x hx => hsp x (by first | exact hx | (simp only [List.mem_append]; simp [hx])))) trodAll_mk0)); simp only [List.append_nil] at q; exact q) (fun _ _ => rfl) (List.append_nil _).symm hg (ok_one (by kernel_rfl) rfl (okWide_bool_mk Try.underlying4 _))⟩
theorem reads (os : Os) {H : Type} (enc : TypeId × Value → H) : ∃ places, DataW.whole enc Try.prog ((World.laidAll Try.prog os laidList).forCall (fun _ _ => 0) ⟨#[], #[.agg #[.slice none 0 0, .slice none 0 0, .int .i64 0, .int .i64 0], .string ByteArray.empty], []⟩).memory Try.f6.params.toList Rows.columnStepsSpec.vars false #[Value.agg #[.slice none 0 0, .slice none 0 0, .int .i64 0, .int .i64 0], Value.string ByteArray.empty].toList 8 = some ([.agg [.nil, .nil, .lit (.int .i64 0), .lit (.int .i64 0)], .lit (.string [])], [], places) :=
  ⟨[], by kernel_rfl⟩
set_option maxRecDepth 100000 in
theorem lifted (os : Os) (started : os.Started) (H : Type) (enc : TypeId × Value → H) (F : Stop.Interp) :
    ReturnsInHanded {} Try.checked os 6 .any ((OpenSpec.ofChange Rows.columnStepsSpec).preRow enc Try.prog Try.f6 Rows.columnStepsRow.domain false Rows.columnStepsRow.laid) (((OpenSpec.ofChange Rows.columnStepsSpec).at F).post enc Try.prog Try.f6 false true false false) := by
  obtain ⟨places, hx⟩ := reads os enc
  refine returnsInHanded_of_row (C := Try.checked) (s := OpenSpec.ofChange Rows.columnStepsSpec) own started (by kernel_rfl) Try.func6
    (witness_row_atRef (enc := enc) (C := Try.checked) false (World.laidAll Try.prog os laidList) #[.agg #[.slice none 0 0, .slice none 0 0, .int .i64 0, .int .i64 0], .string ByteArray.empty] (World.laidAll_os _ _ _) (by kernel_rfl) (by kernel_rfl) (by kernel_rfl)
      (OpenSpec.preRow_of_cond 8 hx (by kernel_rfl) (fun k hk => by cases hk) (by kernel_rfl) (door_met os _))) ?_
  intro W base args ds gs before hval hW _ _ hwt hL _ _
  have hgs : gs = [] := by obtain ⟨_, _, _, hV, _⟩ := hW; exact (trodVars_none hV).1
  subst hgs
  simp only [List.append_nil] at hwt
  exact contract H enc W base args ds [] before hval hW hwt hL
theorem said : Rows.ColumnStepsSaid :=
  OpenClaim.holds_of_cond 6 Try.f6 rfl rfl rfl rfl rfl rfl rfl ⟨rfl, rfl, rfl, rfl, rfl⟩ rfl rfl rfl rfl rfl (by kernel_rfl) Try.func6 (by kernel_rfl)
    (of_decide_eq_true (by kernel_rfl)) (by unfold Func.isWrapper; first | (rw [if_pos (by decide +kernel)]; kernel_rfl) | (rw [if_neg (by decide +kernel)]; exact ⟨rfl, rfl⟩))
    (fun os started H enc _ F => by rw [OpenClaim.pre_eq_preRow]; exact lifted os started H enc F)
#print axioms said
end Go.Proofs.Ytnheioehadldmaa.lawColumnSteps
