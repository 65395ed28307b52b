/- WHAT THE ROWS OF CHAPTER 1 LIST, AND WHAT IT GIVES THE WALKS. -/
import Derived.Test.YtbknklhkhcbioaaDoorCards
import Derived.Test.YtbknklhkhcbioaaDoorTie
import Derived.Test.YtbknklhkhcbioaaDoorNumT
import Derived.ProofKit
import Derived.OpenShut
import Derived.LaidMore
import Derived.Deep.DeepHandedRow
import Derived.Deep.DeepWitnessRowRef
import Derived.Lib.LaidTab
import Derived.Stop.LaidErr
namespace Go.Proofs.YtbknklhkhcbioaaDoor
open Go.ChangeShapes Go.WideShapes Go.ChangeAt Go.RowKit
open Go.ChangeMaps (open_string shut_string)

theorem own : ownKnob Tryd.prog.godebug = none := by kernel_rfl
theorem gPow : Tryd.prog.globalNamed "internal/strconv.uint64pow10" = some 2 := by kernel_rfl
theorem gPowType : (Tryd.prog.globals[2]?).map (·.type) = some 69 := by kernel_rfl
theorem cellsPow : Tryd.prog.cellsOf 69 = 20 := by kernel_rfl
theorem cellsU64 : Tryd.prog.cellsOf 49 = 1 := by kernel_rfl
theorem gBad : Tryd.prog.globalNamed "strconv.ErrSyntax" = some 0 := by kernel_rfl
theorem gBadType : (Tryd.prog.globals[0]?).map (·.type) = some 35 := by kernel_rfl
theorem gFar : Tryd.prog.globalNamed "strconv.ErrRange" = some 1 := by kernel_rfl
theorem gFarType : (Tryd.prog.globals[1]?).map (·.type) = some 35 := by kernel_rfl
theorem cellsErr : Tryd.prog.cellsOf 67 = 1 := by kernel_rfl
theorem cellsStr : Tryd.prog.cellsOf 9 = 1 := by kernel_rfl
theorem rowErr (u : TypeId) (h : Tryd.prog.typeName? 3 u = some "*errors.errorString") : u = 65 :=
  typeName_ptr_named (nm := "errors.errorString") (tp := 65) (by kernel_rfl) (by kernel_rfl) (by decide) u h

/-- THE LIST OF THE ROWS OF THIS SEAT. -/
abbrev laidList : List (String × DataW Unit) := Rows.numTextRow.laid
theorem laidW_of {W : World} (h : laidMetH Tryd.prog laidList W) : LaidW W := by
  have h0 : laidMet Tryd.prog laidList W := h
  have h2 := h0.tail.tail
  have h3 := h2.tail
  refine ⟨Lib.tabIs_of_head gPow gPowType Tryd.underlying69 Tryd.underlying49 cellsU64 cellsPow h2, ?_, ?_⟩
  · obtain ⟨a1, s1, hv, -, -, -⟩ := laid_sentinel h3.tail gBad gBadType Tryd.underlying35 rowErr Tryd.underlying65 Tryd.underlying67 rfl rfl Tryd.underlying9 cellsErr cellsStr
    exact ⟨_, _, hv⟩
  · obtain ⟨a1, s1, hv, -, -, -⟩ := laid_sentinel h3 gFar gFarType Tryd.underlying35 rowErr Tryd.underlying65 Tryd.underlying67 rfl rfl Tryd.underlying9 cellsErr cellsStr
    exact ⟨_, _, hv⟩

/-- The door's own heap meets the condition. -/
theorem door_met (os : Os) (args : Array Value) : laidMetH Tryd.prog laidList ((World.doorLaid Tryd.prog 62 os).forCall (fun _ _ => 0) ⟨#[], args, []⟩).memory :=
  laidMetH_of_parts3 (fuel := 8) (laidMet_of_run' 8 (by kernel_rfl) (by kernel_rfl)) (by kernel_rfl) (by kernel_rfl)

section
variable {H : Type} {enc : TypeId × Value → H} {P : Program}
/-- The row's last step where all that was there stands. -/
theorem post_of_below {f : Func} {s : ChangeSpec} {apart fresh handsOn again : Bool} {W W' : World} {args : Array Value} {v : Value} {ds gs : List (DataW H)} {before pa pv : List MemPlace}
    (hW : DataW.Whole enc P f.params.toList s.vars apart W args.toList ds gs before)
    (hres : ∀ (b : Nat) (sp : Nat → Bool) (hd : Bool), DataW.TrodAll enc P W' b sp hd f.resultTypes.toList (v.resultList f.resultTypes.size) (s.fn H (ds ++ gs)).results [])
    (hargs : ∀ sp : Nat → Bool, (∀ p ∈ before, sp p.block = true) → DataW.TrodAll enc P W' 0 sp true f.params.toList args.toList (s.fn H (ds ++ gs)).args pa)
    (hvars : ∀ sp : Nat → Bool, (∀ p ∈ before, sp p.block = true) → DataW.TrodVars enc P W' sp s.vars (s.fn H (ds ++ gs)).vars pv)
    (hps : before = pa ++ pv) (hb : Below W.heap.size W W')
    (hok : ∀ (j : Nat) (t : TypeId) (r : Value), f.resultTypes[j]? = some t → (v.resultList f.resultTypes.size)[j]? = some r → Value.okWide P W' .any 0 t r) :
    s.post enc P f apart fresh handsOn again W args v W' := by
  have hlt : ∀ p ∈ before, p.block < W.heap.size := fun p hp => hW.lt p hp
  have hold : ∀ p ∈ before, (fun b => decide (b < W.heap.size)) p.block = true := fun p hp => by simpa using hlt p hp
  refine ⟨ds, gs, before, [], pa, pv, hW, hres _ _ _, hargs _ hold, hvars _ hold, World.keptBut_mono (fun p hp => ⟨hp, ?_⟩) (hb.frame (· ∈ before)), fun _ => ?_⟩
  · rw [hps, List.mem_append] at hp
    exact Or.inr hp
  · obtain ⟨_, _, _, _, _, hz, hn⟩ := hW
    refine ⟨hok, _, _, ([] ++ pa) ++ pv, ⟨[] ++ pa, pv, trodAll_append (hargs _ (fun _ _ => rfl)) (hres _ _ _), hvars _ (fun _ _ => rfl), rfl, ?_, ?_⟩, ?_⟩
    · intro b off hp
      have hin : MemPlace.cell b off ∈ before := by rw [hps]; simpa using hp
      rw [hb.frozen (hlt _ hin)]
      exact hz b off hin
    · intro ha
      have := hn ha
      rw [hps] at this
      simpa using this
    · intro p hp _
      rw [hps]
      simpa using hp
end
end Go.Proofs.YtbknklhkhcbioaaDoor
