/- WHAT THE ROWS OF CHAPTER 3 LIST, AND WHAT IT GIVES THE WALKS. -/
import Derived.Test.YtemmgehaddghfaaDoorCards
import Derived.Test.YtemmgehaddghfaaDoorTie
import Derived.Test.YtemmgehaddghfaaDoorFracN
import Derived.ProofKit
import Derived.OpenShut
import Derived.LaidMore
import Derived.Deep.DeepHandedRow
import Derived.Deep.DeepWitnessRowRef
import Derived.SizedLaws
import Derived.Lib.SmallJoins
import Derived.Lib.LaidTab
import Derived.Stop.LaidErr
namespace Go.Proofs.YtemmgehaddghfaaDoor
open Go.ChangeShapes Go.WideShapes Go.ChangeAt Go.RowKit
open Go.ChangeMaps (open_string shut_string)

theorem own : ownKnob Tryd.prog.godebug = none := by kernel_rfl
theorem gPow : Tryd.prog.globalNamed "internal/strconv.uint64pow10" = some 6 := by kernel_rfl
theorem gPowType : (Tryd.prog.globals[6]?).map (·.type) = some 102 := by kernel_rfl
theorem cellsPow : Tryd.prog.cellsOf 102 = 20 := by kernel_rfl
theorem cellsU64 : Tryd.prog.cellsOf 41 = 1 := by kernel_rfl
theorem gBad : Tryd.prog.globalNamed "strconv.ErrSyntax" = some 4 := by kernel_rfl
theorem gBadType : (Tryd.prog.globals[4]?).map (·.type) = some 72 := by kernel_rfl
theorem gFar : Tryd.prog.globalNamed "strconv.ErrRange" = some 5 := by kernel_rfl
theorem gFarType : (Tryd.prog.globals[5]?).map (·.type) = some 72 := by kernel_rfl
theorem cellsErr : Tryd.prog.cellsOf 110 = 1 := by kernel_rfl
theorem cellsStr : Tryd.prog.cellsOf 9 = 1 := by kernel_rfl
theorem rowErr (u : TypeId) (h : Tryd.prog.typeName? 3 u = some "*errors.errorString") : u = 108 :=
  typeName_ptr_named (nm := "errors.errorString") (tp := 108) (by kernel_rfl) (by kernel_rfl) (by decide) u h

/-- THE LIST OF THE ROWS OF THIS SEAT. -/
abbrev laidList : List (String × DataW Unit) := Rows.fracOfsRow.laid
theorem laidW_of {W : World} (h : laidMetH Tryd.prog laidList W) : LaidW W := by
  have h0 : laidMet Tryd.prog laidList W := h
  have h2 := h0.tail.tail
  have h3 := h2.tail
  refine ⟨Lib.tabIs_of_head gPow gPowType Tryd.underlying102 Tryd.underlying41 cellsU64 cellsPow h2, ?_, ?_⟩
  · obtain ⟨a1, s1, hv, -, -, -⟩ := laid_sentinel h3.tail gBad gBadType Tryd.underlying72 rowErr Tryd.underlying108 Tryd.underlying110 rfl rfl Tryd.underlying9 cellsErr cellsStr
    exact ⟨_, _, hv⟩
  · obtain ⟨a1, s1, hv, -, -, -⟩ := laid_sentinel h3 gFar gFarType Tryd.underlying72 rowErr Tryd.underlying108 Tryd.underlying110 rfl rfl Tryd.underlying9 cellsErr cellsStr
    exact ⟨_, _, hv⟩

theorem gZero : Tryd.prog.globalNamed "graphdb/frac.zero" = some 0 := by kernel_rfl
theorem gZeroType : (Tryd.prog.globals[0]?).map (·.type) = some 23 := by kernel_rfl
theorem cellsFrac : Tryd.prog.cellsOf 23 = 2 := by kernel_rfl
theorem zero_of {W : World} (h : laidMetH Tryd.prog laidList W) : ZeroAt W := by
  have h0 : laidMet Tryd.prog laidList W := h
  obtain ⟨ps, ⟨g', t', cs, fuel, p, q, hg', ht', hvar, hd, -, -⟩, -⟩ := h0.tail.tail.tail.tail.tail
  obtain rfl := Option.some.inj (gZero.symm.trans hg')
  obtain rfl := Option.some.inj (gZeroType.symm.trans ht')
  obtain ⟨y0, y1, n, hx, hl, h0, h1⟩ := trod_struct2 Tryd.underlying23 hd
  rw [cellsFrac] at hl
  obtain ⟨c0, c1, rfl⟩ := Joins.array2 (show cs.size = 2 by simpa using hl)
  obtain ⟨a, e0, x0, -⟩ := DataW.trod_int (k := .i64) Tryd.underlying3 h0
  obtain ⟨b, e1, x1, -⟩ := DataW.trod_int (k := .i64) Tryd.underlying3 h1
  rw [x0, x1] at hx
  simp only [Rows.laid_graphdb_frac_zero, Prod.mk.injEq, DataW.agg.injEq, List.cons.injEq, DataW.lit.injEq, Lit.int.injEq] at hx
  have k0 : c0 = .int .i64 a := by simpa [show Tryd.prog.cellsOf 3 = 1 from by kernel_rfl] using e0
  have k1 : c1 = .int .i64 b := by simpa [show Tryd.prog.cellsOf 3 = 1 from by kernel_rfl] using e1
  have ha : (0 : Int) = a := hx.1.1.2
  have hb : (1 : Int) = b := hx.1.2.1.2
  subst ha hb k0 k1
  have z0 := World.var?_cell gZero hvar 0
  have z1 := World.var?_cell gZero hvar 1
  refine ⟨z0, z1, ?_⟩
  unfold World.var? at hvar
  rw [gZero] at hvar
  rcases Nat.lt_or_ge 0 W.heap.size with k | k
  · exact k
  · simp only [Option.bind_some, Array.getElem?_eq_none k] at hvar; cases hvar

set_option maxRecDepth 100000 in
/-- A fraction that came in. -/
theorem open_frac {H : Type} {enc : TypeId × Value → H} {w : World} {base : Nat} {spare : Nat → Bool} {held : Bool} {r : Reach} {b0 : Nat} {v : Value} {d : DataW H} {p : List MemPlace}
    (hv : Value.okWide Tryd.prog w r b0 23 v) (h : DataW.Trod enc Tryd.prog w base spare held 23 v d p) :
    ∃ n m : Int, v = .agg #[.int .i64 n, .int .i64 m] ∧ d = .agg [.lit (.int .i64 n), .lit (.int .i64 m)] ∧ p = [] ∧ (-9223372036854775808 ≤ n ∧ n ≤ 9223372036854775807) ∧ (-9223372036854775808 ≤ m ∧ m ≤ 9223372036854775807) := by
  obtain ⟨v0, v1, y0, y1, n, rfl, rfl, rfl, h0, h1⟩ := Joins.open_agg2 Tryd.underlying23 (by kernel_rfl) cellsFrac hv h
  obtain ⟨a, e0, x0, wa⟩ := DataW.trod_int (k := .i64) Tryd.underlying3 h0
  obtain ⟨b, e1, x1, wb⟩ := DataW.trod_int (k := .i64) Tryd.underlying3 h1
  obtain rfl := (List.cons.inj e0).1
  obtain rfl := (List.cons.inj e1).1
  subst x0 x1
  exact ⟨a, b, rfl, rfl, rfl, bounds_i64 wa, bounds_i64 wb⟩

theorem wf_i64 {n : Int} (h : -9223372036854775808 ≤ n ∧ n ≤ 9223372036854775807) : (Lit.int .i64 n).wf = true := by
  simp [Lit.wf, IntKind.min, IntKind.max, IntKind.signed, IntKind.bits]; omega

set_option maxRecDepth 100000 in
theorem shut_frac {H : Type} {enc : TypeId × Value → H} {w : World} {base : Nat} {spare : Nat → Bool} {held : Bool} {n m : Int} (hn : -9223372036854775808 ≤ n ∧ n ≤ 9223372036854775807) (hm : -9223372036854775808 ≤ m ∧ m ≤ 9223372036854775807) :
    DataW.Trod enc Tryd.prog w base spare held 23 (.agg #[.int .i64 n, .int .i64 m]) (.agg [.lit (.int .i64 n), .lit (.int .i64 m)]) [] :=
  Joins.shut_agg2 (y0 := (.lit (.int .i64 n), [])) (y1 := (.lit (.int .i64 m), [])) Tryd.underlying23 (by kernel_rfl) cellsFrac (Joins.field_of_Trod (shut_int Tryd.underlying3 (wf_i64 hn)) rfl) (Joins.field_of_Trod (shut_int Tryd.underlying3 (wf_i64 hm)) rfl)

/-- The door's own heap meets the condition. -/
theorem door_met (os : Os) (args : Array Value) : laidMetH Tryd.prog laidList ((World.doorLaid Tryd.prog 67 os).forCall (fun _ _ => 0) ⟨#[], args, []⟩).memory :=
  laidMetH_of_parts3 (fuel := 8) (laidMet_of_run' 8 (by kernel_rfl) (by kernel_rfl)) (by kernel_rfl) (by kernel_rfl)

section
variable {H : Type} {enc : TypeId × Value → H} {P : Program}
/-- The row's last step where all that was there stands. -/
theorem post_of_below {f : Func} {s : ChangeSpec} {apart fresh handsOn again : Bool} {W W' : World} {args : Array Value} {v : Value} {ds gs : List (DataW H)} {before pa pv : List MemPlace}
    (hW : DataW.Whole enc P f.params.toList s.vars apart W args.toList ds gs before)
    (hres : ∀ (b : Nat) (sp : Nat → Bool) (hd : Bool), DataW.TrodAll enc P W' b sp hd f.resultTypes.toList (v.resultList f.resultTypes.size) (s.fn H (ds ++ gs)).results [])
    (hargs : ∀ sp : Nat → Bool, (∀ p ∈ before, sp p.block = true) → DataW.TrodAll enc P W' 0 sp true f.params.toList args.toList (s.fn H (ds ++ gs)).args pa)
    (hvars : ∀ sp : Nat → Bool, (∀ p ∈ before, sp p.block = true) → DataW.TrodVars enc P W' sp s.vars (s.fn H (ds ++ gs)).vars pv)
    (hps : before = pa ++ pv) (hb : Below W.heap.size W W')
    (hok : ∀ (j : Nat) (t : TypeId) (r : Value), f.resultTypes[j]? = some t → (v.resultList f.resultTypes.size)[j]? = some r → Value.okWide P W' .any 0 t r) :
    s.post enc P f apart fresh handsOn again W args v W' := by
  have hlt : ∀ p ∈ before, p.block < W.heap.size := fun p hp => hW.lt p hp
  have hold : ∀ p ∈ before, (fun b => decide (b < W.heap.size)) p.block = true := fun p hp => by simpa using hlt p hp
  refine ⟨ds, gs, before, [], pa, pv, hW, hres _ _ _, hargs _ hold, hvars _ hold, World.keptBut_mono (fun p hp => ⟨hp, ?_⟩) (hb.frame (· ∈ before)), fun _ => ?_⟩
  · rw [hps, List.mem_append] at hp
    exact Or.inr hp
  · obtain ⟨_, _, _, _, _, hz, hn⟩ := hW
    refine ⟨hok, _, _, ([] ++ pa) ++ pv, ⟨[] ++ pa, pv, trodAll_append (hargs _ (fun _ _ => rfl)) (hres _ _ _), hvars _ (fun _ _ => rfl), rfl, ?_, ?_⟩, ?_⟩
    · intro b off hp
      have hin : MemPlace.cell b off ∈ before := by rw [hps]; simpa using hp
      rw [hb.frozen (hlt _ hin)]
      exact hz b off hin
    · intro ha
      have := hn ha
      rw [hps] at this
      simpa using this
    · intro p hp _
      rw [hps]
      simpa using hp
end
end Go.Proofs.YtemmgehaddghfaaDoor
