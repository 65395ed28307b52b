/- WHAT THE ROWS OF CHAPTER 9 LIST, AND WHAT IT GIVES THE WALKS. -/
import Derived.Test.YtanclhcoiagcfaaDoorCards
import Derived.Test.YtanclhcoiagcfaaDoorTie
import Derived.Test.YtanclhcoiagcfaaDoorSchLLen
import Derived.ProofKit
import Derived.Deep.Fields
import Derived.OpenShut
import Derived.LaidMore
import Derived.Deep.DeepHandedRow
import Derived.Deep.DeepWitnessRowRef
import Derived.SizedLaws
import Derived.Deep.Slices
import Derived.Lib.SmallJoins
import Derived.Lib.LaidTab
import Derived.Lay
import Derived.Carry
import Derived.MakeChecks
import Derived.Stop.LaidErr
namespace Go.Proofs.YtanclhcoiagcfaaDoor
open Go.ChangeShapes Go.WideShapes Go.ChangeAt Go.RowKit
open Go.ChangeMaps (open_string shut_string)

theorem own : ownKnob Tryd.prog.godebug = none := by kernel_rfl
theorem gPow : Tryd.prog.globalNamed "internal/strconv.uint64pow10" = some 3 := by kernel_rfl
theorem gPowType : (Tryd.prog.globals[3]?).map (·.type) = some 111 := by kernel_rfl
theorem cellsPow : Tryd.prog.cellsOf 111 = 20 := by kernel_rfl
theorem cellsU64 : Tryd.prog.cellsOf 97 = 1 := by kernel_rfl
theorem gBad : Tryd.prog.globalNamed "strconv.ErrSyntax" = some 1 := by kernel_rfl
theorem gBadType : (Tryd.prog.globals[1]?).map (·.type) = some 70 := by kernel_rfl
theorem gFar : Tryd.prog.globalNamed "strconv.ErrRange" = some 2 := by kernel_rfl
theorem gFarType : (Tryd.prog.globals[2]?).map (·.type) = some 70 := by kernel_rfl
theorem cellsErr : Tryd.prog.cellsOf 124 = 1 := by kernel_rfl
theorem cellsStr : Tryd.prog.cellsOf 9 = 1 := by kernel_rfl
theorem rowErr (u : TypeId) (h : Tryd.prog.typeName? 3 u = some "*errors.errorString") : u = 122 :=
  typeName_ptr_named (nm := "errors.errorString") (tp := 122) (by kernel_rfl) (by kernel_rfl) (by decide) u h

/-- THE LIST OF THE ROWS OF THIS SEAT. -/
abbrev laidList : List (String × DataW Unit) := Rows.schemaOrderRow.laid
theorem laidW_of {W : World} (h : laidMetH Tryd.prog laidList W) : LaidW W := by
  have h0 : laidMet Tryd.prog laidList W := h
  have h2 := h0.tail.tail
  have h3 := h2.tail.tail
  refine ⟨Lib.tabIs_of_head gPow gPowType Tryd.underlying111 Tryd.underlying97 cellsU64 cellsPow h2, ?_, ?_⟩
  · obtain ⟨a1, s1, hv, -, -, -⟩ := laid_sentinel h3.tail gBad gBadType Tryd.underlying70 rowErr Tryd.underlying122 Tryd.underlying124 rfl rfl Tryd.underlying9 cellsErr cellsStr
    exact ⟨_, _, hv⟩
  · obtain ⟨a1, s1, hv, -, -, -⟩ := laid_sentinel h3 gFar gFarType Tryd.underlying70 rowErr Tryd.underlying122 Tryd.underlying124 rfl rfl Tryd.underlying9 cellsErr cellsStr
    exact ⟨_, _, hv⟩

theorem laidOut : laidOutB Tryd.prog = true := by kernel_rfl
theorem cellsRule : Tryd.prog.cellsOf 23 = 6 := by kernel_rfl
theorem cellsInt : Tryd.prog.cellsOf 3 = 1 := by kernel_rfl
theorem wf_i64 {n : Int} (h : -9223372036854775808 ≤ n ∧ n ≤ 9223372036854775807) : (Lit.int .i64 n).wf = true := by
  simp [Lit.wf, IntKind.min, IntKind.max, IntKind.signed, IntKind.bits]; omega

/-- a rule as it reads -/
def ruleD {H : Type} (r : RuleP) : DataW H := .agg [.lit (.int .i64 r.kind), .lit (.int .i64 r.n), .lit (.string r.name.data.toList), .lit (.string r.key.data.toList), .lit (.string r.frm.data.toList), .lit (.string r.tov.data.toList)]
structure WfR (r : RuleP) : Prop where
  kind : (Lit.int .i64 r.kind).wf = true
  n : (Lit.int .i64 r.n).wf = true
  name : r.name.size ≤ maxLen
  key : r.key.size ≤ maxLen
  frm : r.frm.size ≤ maxLen
  tov : r.tov.size ≤ maxLen

theorem six {α : Type} {l : List α} (h : l.length = 6) : ∃ a b c d e f, l = [a, b, c, d, e, f] := by
  match l, h with
  | [a, b, c, d, e, f], _ => exact ⟨a, b, c, d, e, f, rfl⟩

set_option maxRecDepth 100000 in
/-- the six cells of a rule that reads -/
theorem rule_cells {H : Type} {enc : TypeId × Value → H} {w : World} {base : Nat} {spare : Nat → Bool} {held : Bool} {fuel : Nat} {cs : List Value} {x : DataW H × List MemPlace}
    (h : DataW.trod enc Tryd.prog w base spare held fuel 23 cs = some x) : ∃ r : RuleP, cs = r.cells ∧ x = (ruleD r, []) ∧ WfR r := by
  obtain ⟨xs, n, -, rfl, hl, hlen, hg⟩ := DataW.trod_struct Tryd.underlying23 h
  rw [cellsRule] at hl
  obtain ⟨c0, c1, c2, c3, c4, c5, rfl⟩ := six hl
  obtain ⟨y0, y1, y2, y3, y4, y5, rfl⟩ := six (show xs.length = 6 from hlen)
  have g0 : DataW.trod enc Tryd.prog w base spare held n 3 (([c0, c1, c2, c3, c4, c5].drop 0).take (Tryd.prog.cellsOf 3)) = some y0 := hg 0 _ rfl
  rw [cellsInt] at g0
  have g1 : DataW.trod enc Tryd.prog w base spare held n 3 (([c0, c1, c2, c3, c4, c5].drop 1).take (Tryd.prog.cellsOf 3)) = some y1 := hg 1 _ rfl
  rw [cellsInt] at g1
  have g2 : DataW.trod enc Tryd.prog w base spare held n 9 (([c0, c1, c2, c3, c4, c5].drop 2).take (Tryd.prog.cellsOf 9)) = some y2 := hg 2 _ rfl
  rw [cellsStr] at g2
  have g3 : DataW.trod enc Tryd.prog w base spare held n 9 (([c0, c1, c2, c3, c4, c5].drop 3).take (Tryd.prog.cellsOf 9)) = some y3 := hg 3 _ rfl
  rw [cellsStr] at g3
  have g4 : DataW.trod enc Tryd.prog w base spare held n 9 (([c0, c1, c2, c3, c4, c5].drop 4).take (Tryd.prog.cellsOf 9)) = some y4 := hg 4 _ rfl
  rw [cellsStr] at g4
  have g5 : DataW.trod enc Tryd.prog w base spare held n 9 (([c0, c1, c2, c3, c4, c5].drop 5).take (Tryd.prog.cellsOf 9)) = some y5 := hg 5 _ rfl
  rw [cellsStr] at g5
  obtain ⟨k, e0, x0, w0⟩ := DataW.trod_int (k := .i64) Tryd.underlying3 g0
  obtain ⟨m, e1, x1, w1⟩ := DataW.trod_int (k := .i64) Tryd.underlying3 g1
  obtain ⟨s2, e2, x2, w2⟩ := DataW.trod_string Tryd.underlying9 g2
  obtain ⟨s3, e3, x3, w3⟩ := DataW.trod_string Tryd.underlying9 g3
  obtain ⟨s4, e4, x4, w4⟩ := DataW.trod_string Tryd.underlying9 g4
  obtain ⟨s5, e5, x5, w5⟩ := DataW.trod_string Tryd.underlying9 g5
  cases e0; cases e1; cases e2; cases e3; cases e4; cases e5
  subst x0 x1 x2 x3 x4 x5
  exact ⟨⟨k, m, s2, s3, s4, s5⟩, rfl, rfl, w0, w1, w2, w3, w4, w5⟩

set_option maxRecDepth 100000 in
/-- A rule that came in, by value. -/
theorem open_rule {H : Type} {enc : TypeId × Value → H} {w : World} {base : Nat} {spare : Nat → Bool} {held : Bool} {r : Reach} {b0 : Nat} {v : Value} {d : DataW H} {p : List MemPlace}
    (hv : Value.okWide Tryd.prog w r b0 23 v) (h : DataW.Trod enc Tryd.prog w base spare held 23 v d p) : ∃ a : RuleP, v = a.val ∧ d = ruleD a ∧ p = [] ∧ WfR a := by
  obtain ⟨cs, rfl, -⟩ := okWide_struct Tryd.underlying23 hv
  obtain ⟨fuel, hf⟩ := h
  obtain ⟨a, hc, hx, hw⟩ := rule_cells (show DataW.trod enc Tryd.prog w base spare held fuel 23 cs.toList = some (d, p) from hf)
  refine ⟨a, ?_, congrArg Prod.fst hx, congrArg Prod.snd hx, hw⟩
  cases cs
  exact congrArg (fun l => Value.agg ⟨l⟩) hc

set_option maxRecDepth 100000 in
theorem shut_rule {H : Type} {enc : TypeId × Value → H} {w : World} {base : Nat} {spare : Nat → Bool} {held : Bool} {a : RuleP} (hw : WfR a) : DataW.Trod enc Tryd.prog w base spare held 23 a.val (ruleD a) [] := by
  obtain ⟨n0, t0⟩ := shut_int (enc := enc) (P := Tryd.prog) (w := w) (base := base) (spare := spare) (held := held) Tryd.underlying3 hw.kind
  obtain ⟨n1, t1⟩ := shut_int (enc := enc) (P := Tryd.prog) (w := w) (base := base) (spare := spare) (held := held) Tryd.underlying3 hw.n
  obtain ⟨n2, t2⟩ := shut_string (enc := enc) (P := Tryd.prog) (w := w) (base := base) (sp := spare) (held := held) Tryd.underlying9 hw.name
  obtain ⟨n3, t3⟩ := shut_string (enc := enc) (P := Tryd.prog) (w := w) (base := base) (sp := spare) (held := held) Tryd.underlying9 hw.key
  obtain ⟨n4, t4⟩ := shut_string (enc := enc) (P := Tryd.prog) (w := w) (base := base) (sp := spare) (held := held) Tryd.underlying9 hw.frm
  obtain ⟨n5, t5⟩ := shut_string (enc := enc) (P := Tryd.prog) (w := w) (base := base) (sp := spare) (held := held) Tryd.underlying9 hw.tov
  have l0 := DataW.trod_le (show n0 ≤ n0 + n1 + n2 + n3 + n4 + n5 by omega) t0
  have l1 := DataW.trod_le (show n1 ≤ n0 + n1 + n2 + n3 + n4 + n5 by omega) t1
  have l2 := DataW.trod_le (show n2 ≤ n0 + n1 + n2 + n3 + n4 + n5 by omega) t2
  have l3 := DataW.trod_le (show n3 ≤ n0 + n1 + n2 + n3 + n4 + n5 by omega) t3
  have l4 := DataW.trod_le (show n4 ≤ n0 + n1 + n2 + n3 + n4 + n5 by omega) t4
  have l5 := DataW.trod_le (show n5 ≤ n0 + n1 + n2 + n3 + n4 + n5 by omega) t5
  refine ⟨n0 + n1 + n2 + n3 + n4 + n5 + 1, trod_struct_mk (cs := a.cells) (xs := [(.lit (.int .i64 a.kind), []), (.lit (.int .i64 a.n), []), (.lit (.string a.name.data.toList), []), (.lit (.string a.key.data.toList), []), (.lit (.string a.frm.data.toList), []), (.lit (.string a.tov.data.toList), [])]) Tryd.underlying23 (by rw [cellsRule]; rfl) ?_⟩
  simp only [List.mapM_cons, List.mapM_nil, cellsInt, cellsStr]
  simp only [Value.cells] at l0 l1 l2 l3 l4 l5
  simp [RuleP.cells, l0, l1, l2, l3, l4, l5]

theorem spot_of_cell {w : World} {a : Addr} {v : Value} (h : w.cell? a = some v) : a = ⟨a.block, a.off, none⟩ := by
  obtain ⟨b, o, sp⟩ := a
  cases sp with
  | none => rfl
  | some k =>
    exfalso
    unfold World.cell? at h
    split at h
    · simp at h
    · cases h

theorem add_none (b o i j : Nat) : ((⟨b, o, none⟩ : Addr).add i).add j = ⟨b, o + i + j, none⟩ := by
  unfold Addr.add
  by_cases h : i = 0 <;> by_cases k : j = 0 <;> simp [h, k]

set_option maxRecDepth 100000 in
/-- A slice of rules that came in. -/
theorem open_rules {H : Type} {enc : TypeId × Value → H} {w : World} {base : Nat} {spare : Nat → Bool} {held : Bool} {r : Reach} {b0 : Nat} {v : Value} {d : DataW H} {p : List MemPlace}
    (hv : Value.okWide Tryd.prog w r b0 27 v) (h : DataW.Trod enc Tryd.prog w base spare held 27 v d p) : ∃ (s : List RuleP) (A : Option Addr) (c : Nat), v = .slice A s.length c ∧ Rules w A s ∧ (A = none → s.length = 0) := by
  obtain ⟨A, n, c, rfl⟩ := okWide_slice Tryd.underlying27 hv
  obtain ⟨fuel, hf⟩ := h
  rcases Deep.open_slice Tryd.underlying27 hf with ⟨hcs, -⟩ | ⟨a, len, cap, m, k, D, Pl, hcs, -, hl, -, hm, -, hi⟩
  · have e : (.slice A n c : Value) = .slice none 0 0 := by simpa [Value.cells] using hcs
    injection e with e1 e2 e3
    subst e1 e2 e3
    exact ⟨[], none, 0, rfl, fun h => absurd h (by simp), fun _ => rfl⟩
  · have e : (.slice A n c : Value) = .slice (some a) len cap := by simpa [Value.cells] using hcs
    injection e with e1 e2 e3
    subst e1 e2 e3
    have H : ∀ i, ∃ x : RuleP, i < n → CellsR w a.block (a.off + i * 6) x ∧ a = ⟨a.block, a.off, none⟩ := by
      intro i
      by_cases hin : i < n
      · have hspot : a = ⟨a.block, a.off, none⟩ := by
          obtain ⟨cs0, hc0, ht0⟩ := hi 0 (by rw [hm]; split <;> omega)
          obtain ⟨x0, rfl, -, -⟩ := rule_cells ht0
          have hat := (World.cells?_some hc0).2.2 0 (by rw [cellsRule]; omega)
          rw [Nat.zero_mul] at hat
          exact spot_of_cell (v := .int .i64 x0.kind) (by simpa [Addr.add, RuleP.cells] using hat)
        obtain ⟨cs', hc', ht'⟩ := hi i (by rw [hm]; split <;> omega)
        obtain ⟨x, rfl, -, -⟩ := rule_cells ht'
        have hat := (World.cells?_some hc').2.2
        rw [cellsRule] at hat
        refine ⟨x, fun _ => ⟨?_, hspot⟩⟩
        obtain ⟨b, o, sp⟩ := a
        injection hspot with _ _ h3
        subst h3
        have h0 := hat 0 (by omega)
        have h1 := hat 1 (by omega)
        have h2 := hat 2 (by omega)
        have h3 := hat 3 (by omega)
        have h4 := hat 4 (by omega)
        have h5 := hat 5 (by omega)
        rw [add_none] at h0 h1 h2 h3 h4 h5
        exact ⟨h0, h1, h2, h3, h4, h5⟩
      · exact ⟨default, fun h => absurd h hin⟩
    refine ⟨(List.range n).map (fun i => Classical.choose (H i)), some a, c, by simp, fun hp => ⟨a.block, a.off, ?_, fun k hk => ?_⟩, fun h => by cases h⟩
    · have hp' : 0 < n := by simpa using hp
      exact congrArg some (Classical.choose_spec (H 0) hp').2
    · have hk' : k < n := by simpa using hk
      rw [getElem!_pos _ k hk]
      simp only [List.getElem_map, List.getElem_range]
      exact (Classical.choose_spec (H k) hk').1

/-- The laid heap meets the condition. -/
theorem door_met (os : Os) (args : Array Value) : laidMetH Tryd.prog laidList ((World.laidAll Tryd.prog os laidList).forCall (fun _ _ => 0) ⟨#[], args, []⟩).memory := by
  rw [MakeChecks.laidMetH_plain _ _ _ (by kernel_rfl)]
  exact laidMet_laidAll _ (by kernel_rfl) (by kernel_rfl)

section
variable {H : Type} {enc : TypeId × Value → H} {P : Program}
/-- The row's last step where all that was there stands. -/
theorem post_of_below {f : Func} {s : ChangeSpec} {apart fresh handsOn again : Bool} {W W' : World} {args : Array Value} {v : Value} {ds gs : List (DataW H)} {before pa pv : List MemPlace}
    (hW : DataW.Whole enc P f.params.toList s.vars apart W args.toList ds gs before)
    (hres : ∀ (b : Nat) (sp : Nat → Bool) (hd : Bool), DataW.TrodAll enc P W' b sp hd f.resultTypes.toList (v.resultList f.resultTypes.size) (s.fn H (ds ++ gs)).results [])
    (hargs : ∀ sp : Nat → Bool, (∀ p ∈ before, sp p.block = true) → DataW.TrodAll enc P W' 0 sp true f.params.toList args.toList (s.fn H (ds ++ gs)).args pa)
    (hvars : ∀ sp : Nat → Bool, (∀ p ∈ before, sp p.block = true) → DataW.TrodVars enc P W' sp s.vars (s.fn H (ds ++ gs)).vars pv)
    (hps : before = pa ++ pv) (hb : Below W.heap.size W W')
    (hok : ∀ (j : Nat) (t : TypeId) (r : Value), f.resultTypes[j]? = some t → (v.resultList f.resultTypes.size)[j]? = some r → Value.okWide P W' .any 0 t r) :
    s.post enc P f apart fresh handsOn again W args v W' := by
  have hlt : ∀ p ∈ before, p.block < W.heap.size := fun p hp => hW.lt p hp
  have hold : ∀ p ∈ before, (fun b => decide (b < W.heap.size)) p.block = true := fun p hp => by simpa using hlt p hp
  refine ⟨ds, gs, before, [], pa, pv, hW, hres _ _ _, hargs _ hold, hvars _ hold, World.keptBut_mono (fun p hp => ⟨hp, ?_⟩) (hb.frame (· ∈ before)), fun _ => ?_⟩
  · rw [hps, List.mem_append] at hp
    exact Or.inr hp
  · obtain ⟨_, _, _, _, _, hz, hn⟩ := hW
    refine ⟨hok, _, _, ([] ++ pa) ++ pv, ⟨[] ++ pa, pv, trodAll_append (hargs _ (fun _ _ => rfl)) (hres _ _ _), hvars _ (fun _ _ => rfl), rfl, ?_, ?_⟩, ?_⟩
    · intro b off hp
      have hin : MemPlace.cell b off ∈ before := by rw [hps]; simpa using hp
      rw [hb.frozen (hlt _ hin)]
      exact hz b off hin
    · intro ha
      have := hn ha
      rw [hps] at this
      simpa using this
    · intro p hp _
      rw [hps]
      simpa using hp
end
end Go.Proofs.YtanclhcoiagcfaaDoor
