/- THE ROW of graphdblaw12.ColumnCodes: for every input the law returns true, and the input reads as it did. -/
import Derived.Test.YtnheioehadldmaaGreatR00
import Derived.Test.YtnheioehadldmaaGreatR01
import Derived.Test.YtnheioehadldmaaGreatR02
import Derived.Test.YtnheioehadldmaaGreatR03
import Derived.Test.YtnheioehadldmaaGreatR04
import Derived.Test.YtnheioehadldmaaGreatR05
import Derived.Test.YtnheioehadldmaaGreatR06
import Derived.Test.YtnheioehadldmaaGreatR07
import Derived.Test.YtnheioehadldmaaGreatR08
import Derived.Test.YtnheioehadldmaaGreatR09
import Derived.Test.YtnheioehadldmaaGreatR10
import Derived.Test.YtnheioehadldmaaGreatR11
import Derived.Test.YtnheioehadldmaaGreatR12
import Derived.Test.YtnheioehadldmaaGreatR13
import Derived.Test.YtnheioehadldmaaGreatR14
import Derived.Test.YtnheioehadldmaaGreatR15
import Derived.Test.YtnheioehadldmaaGreatR16
import Derived.Test.YtnheioehadldmaaGreatR17
import Derived.Test.YtnheioehadldmaaGreatR18
import Derived.Test.YtnheioehadldmaaGreatR19
import Derived.Test.YtnheioehadldmaaGreatR20
import Derived.Test.YtnheioehadldmaaGreatR21
import Derived.Test.YtnheioehadldmaaGreatR22
import Derived.Laws.BytesArg
import Derived.Deep.CutBlock
import Derived.Maps.AppendAt
import Derived.Lib.ItoaNum
import Derived.Lib.AtoiAll
import Derived.Sort.Walk0
import Derived.Lib.Small
import Derived.Laws.CopyRow
import Derived.Lib.AppendZerosOnto
import Derived.Lib.SlFresh
import Derived.Laws.AppendOwn
import Derived.Laws.OwnMore
import Derived.OwnWalk
import Derived.Deep.AppendLies
import Derived.Deep.MidRow
import Derived.Below
import Derived.Laws.Rows
import Derived.Deep.Draws
import Derived.Lib.Hide
import Derived.OrdersHeld
import Derived.Test.YtnheioehadldmaaGreatProg
import Derived.Sort.LotA
import Derived.Deep.RegionHeld
import Derived.WalkSpells
import Derived.Deep.Cut
import Derived.Deep.RegionHeld3
import Derived.Deep.DeepCutAuto
import Derived.Lib.BitFns
import Derived.Test.YtnheioehadldmaaGreatShelf
import Derived.Shelf.Spec.BitsCarry
import Derived.Deep.QuietTactic
import Derived.BigQuiet
import Derived.WalkKit
import Derived.WalkLawsBesides
import Derived.Maps.OwnSet
import Derived.Maps.OwnOps
import Derived.Laws.BitsAllLaws
import Derived.BigRegion
import Derived.Laws.DeepNot64
import Derived.RangeFuncNested
import Derived.RangeFuncBox
import Derived.RangeFuncLeaves
import Derived.Shelf.Abstract
import Derived.OwnWalkIn
import Derived.TacticsInMore
import Derived.LoopNIn
import Derived.LoopIn
import Derived.Shelf.SlSortCmp.NoneTotal
import Derived.Test.YtnheioehadldmaaGreatShelfG
import Derived.Shelf.SlSortCmp.WholeK
import Derived.Calls
import Derived.Test.YtnheioehadldmaaGreatRows
import Derived.ProofKit
import Derived.Deep.Fields
import Derived.OpenShut
import Derived.LaidMore
import Derived.Deep.DeepHandedRow
import Derived.Deep.DeepWitnessRowRef
import Derived.SizedLaws
import Derived.Deep.Slices
import Derived.Lib.SmallJoins
import Derived.Lay
import Derived.Carry
import Derived.MakeChecks

namespace Go.Proofs.YtnheioehadldmaaGreat.lawColumnCodes
open Go.ChangeShapes Go.WideShapes Go.ChangeAt Go.RowKit
open Go.ChangeMaps (open_string shut_string)
set_option maxRecDepth 100000 in
theorem contract (H : Type) (enc : TypeId × Value → H) (W : World) (base : Nat) (args : Array Value) (ds gs : List (DataW H)) (before : List MemPlace)
    (hval : ∀ (j : Nat) t v, Tryz.f4.params[j]? = some t → args[j]? = some v → Value.okWide Tryz.prog W .any base t v)
    (hW : DataW.Whole enc Tryz.prog Tryz.f4.params.toList Rows.columnCodesSpec.vars false W args.toList ds gs before) (hwt : (DataW.weightsEach Tryz.prog Tryz.f4.params.toList ds).all (· ≤ reachBytes) = true) (_hL : laidMetH Tryz.prog Rows.columnCodesRow.laid W) :
    Calls Tryz.prog 4 args W fun e W' => ∃ v, e = .returned v ∧ Rows.columnCodesSpec.post enc Tryz.prog Tryz.f4 false true false false W args v W' := by
  have hW' := hW
  obtain ⟨p, q, hA0, hV, rfl, hfz, hnd⟩ := hW
  have hA : DataW.TrodAll enc Tryz.prog W 0 (fun _ => true) true Tryz.f4.params.toList args.toList ds p := hA0
  rw [Tryz.params4] at hA hval hwt
  obtain ⟨v0, vs0, d0, ds0, p0, q0, hargs, rfl, rfl, h0, r0⟩ := trodAll_cons hA
  obtain ⟨v1, vs1, d1, ds1, p1, q1, rfl, rfl, rfl, h1, r1⟩ := trodAll_cons r0
  obtain ⟨rfl, rfl, rfl⟩ := trodAll_nil r1
  obtain rfl : args = #[v0, v1] := by cases args; simp_all
  obtain ⟨rfl, rfl⟩ := trodVars_none hV
  have k0 := h0
  obtain ⟨x0, A0, B0, C0, D0, j00, j10, j20, j30, rfl, T0⟩ := top_col (hval 0 29 v0 rfl rfl) (fun k hk => of_decide_eq_true (List.all_eq_true.1 hwt k (DataW.weights_mem_each (j := 0) rfl rfl k hk))) h0
  have k1 := h1
  obtain ⟨x1, A1, c1, rfl, lc1, T1, b1⟩ := top_bytes (hval 1 35 v1 rfl rfl) (fun k hk => of_decide_eq_true (List.all_eq_true.1 hwt k (DataW.weights_mem_each (j := 1) rfl rfl k hk))) h1
  clear hA0
  simp only [List.append_nil] at hW'
  refine (l_ColumnCodes x0 x1 (fun _ => True) (fun _ => True) A0 B0 C0 D0 A1 j00 j10 j20 j30 c1 W T0 T1 b1 lc1).mono fun e W' ⟨he, hg⟩ => ?_
  subst he
  have hlt0 : ∀ x ∈ p0, x.block < W.heap.size := fun x hx => hW'.lt x (by first | exact hx | (simp only [List.mem_append]; simp [hx]))
  have hlt1 : ∀ x ∈ p1, x.block < W.heap.size := fun x hx => hW'.lt x (by first | exact hx | (simp only [List.mem_append]; simp [hx]))
  exact ⟨_, rfl, post_of_below (pa := p0 ++ (p1)) (pv := []) hW' (fun _ _ _ => trodAll_cons_mk (shut_bool Tryz.underlying4 _) trodAll_mk0) (fun sp hsp => by have q := (trodAll_cons_mk (WideElems.Trod_stays (base := 0) laidOut (by kernel_rfl) (of_decide_eq_true (by kernel_rfl)) k0 (fun x hx => hg.same (hlt0 x hx)) (fun x hx => hsp x (by first | exact hx | (simp only [List.mem_append]; simp [hx])))) (trodAll_cons_mk (WideElems.Trod_stays (base := 0) laidOut (by kernel_rfl) (of_decide_eq_true (by kernel_rfl)) k1 (fun x hx => hg.same (hlt1 x hx)) (fun x hx => hsp x (by first | exact hx | (simp only [List.mem_append]; simp [hx])))) trodAll_mk0)); simp only [List.append_nil] at q; exact q) (fun _ _ => rfl) (List.append_nil _).symm hg (ok_one (by kernel_rfl) rfl (okWide_bool_mk Tryz.underlying4 _))⟩
theorem reads (os : Os) {H : Type} (enc : TypeId × Value → H) : ∃ places, DataW.whole enc Tryz.prog ((World.laidAll Tryz.prog os laidList).forCall (fun _ _ => 0) ⟨#[], #[.agg #[.slice none 0 0, .slice none 0 0, .slice none 0 0, .slice none 0 0], .slice none 0 0], []⟩).memory Tryz.f4.params.toList Rows.columnCodesSpec.vars false #[Value.agg #[.slice none 0 0, .slice none 0 0, .slice none 0 0, .slice none 0 0], Value.slice none 0 0].toList 8 = some ([.agg [.nil, .nil, .nil, .nil], .nil], [], places) :=
  ⟨[], by kernel_rfl⟩
set_option maxRecDepth 100000 in
theorem lifted (os : Os) (started : os.Started) (H : Type) (enc : TypeId × Value → H) (F : Stop.Interp) :
    ReturnsInHanded {} Tryz.checked os 4 .any ((OpenSpec.ofChange Rows.columnCodesSpec).preRow enc Tryz.prog Tryz.f4 Rows.columnCodesRow.domain false Rows.columnCodesRow.laid) (((OpenSpec.ofChange Rows.columnCodesSpec).at F).post enc Tryz.prog Tryz.f4 false true false false) := by
  obtain ⟨places, hx⟩ := reads os enc
  refine returnsInHanded_of_row (C := Tryz.checked) (s := OpenSpec.ofChange Rows.columnCodesSpec) own started (by kernel_rfl) Tryz.func4
    (witness_row_atRef (enc := enc) (C := Tryz.checked) false (World.laidAll Tryz.prog os laidList) #[.agg #[.slice none 0 0, .slice none 0 0, .slice none 0 0, .slice none 0 0], .slice none 0 0] (World.laidAll_os _ _ _) (by kernel_rfl) (by kernel_rfl) (by kernel_rfl)
      (OpenSpec.preRow_of_cond 8 hx (by kernel_rfl) (fun k hk => by cases hk) (by kernel_rfl) (door_met os _))) ?_
  intro W base args ds gs before hval hW _ _ hwt hL _ _
  have hgs : gs = [] := by obtain ⟨_, _, _, hV, _⟩ := hW; exact (trodVars_none hV).1
  subst hgs
  simp only [List.append_nil] at hwt
  exact contract H enc W base args ds [] before hval hW hwt hL
theorem said : Rows.ColumnCodesSaid :=
  OpenClaim.holds_of_cond 4 Tryz.f4 rfl rfl rfl rfl rfl rfl rfl ⟨rfl, rfl, rfl, rfl, rfl⟩ rfl rfl rfl rfl rfl (by kernel_rfl) Tryz.func4 (by kernel_rfl)
    (of_decide_eq_true (by kernel_rfl)) (by unfold Func.isWrapper; first | (rw [if_pos (by decide +kernel)]; kernel_rfl) | (rw [if_neg (by decide +kernel)]; exact ⟨rfl, rfl⟩))
    (fun os started H enc _ F => by rw [OpenClaim.pre_eq_preRow]; exact lifted os started H enc F)
#print axioms said
end Go.Proofs.YtnheioehadldmaaGreat.lawColumnCodes
