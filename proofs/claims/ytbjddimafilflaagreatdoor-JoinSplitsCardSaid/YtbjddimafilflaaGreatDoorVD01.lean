/- PARTS OF THE WALKS, joined: Li, OwnT, PlainM. -/
import Derived.Test.YtbjddimafilflaaGreatDoorV00
import Derived.Test.YtbjddimafilflaaGreatDoorV01
import Derived.Test.YtbjddimafilflaaGreatDoorV02
import Derived.Test.YtbjddimafilflaaGreatDoorV03
import Derived.Test.YtbjddimafilflaaGreatDoorV04
import Derived.Test.YtbjddimafilflaaGreatDoorV05
import Derived.Test.YtbjddimafilflaaGreatDoorV06
import Derived.Test.YtbjddimafilflaaGreatDoorV07
import Derived.Test.YtbjddimafilflaaGreatDoorV08
import Derived.Test.YtbjddimafilflaaGreatDoorV09
import Derived.Test.YtbjddimafilflaaGreatDoorV10
import Derived.Test.YtbjddimafilflaaGreatDoorV11
import Derived.Test.YtbjddimafilflaaGreatDoorV12
import Derived.Test.YtbjddimafilflaaGreatDoorV13
import Derived.Test.YtbjddimafilflaaGreatDoorV14
import Derived.Test.YtbjddimafilflaaGreatDoorV15
import Derived.Test.YtbjddimafilflaaGreatDoorV16
import Derived.Test.YtbjddimafilflaaGreatDoorV17
import Derived.Test.YtbjddimafilflaaGreatDoorV18
import Derived.Test.YtbjddimafilflaaGreatDoorV19
import Derived.Test.YtbjddimafilflaaGreatDoorV20
import Derived.Test.YtbjddimafilflaaGreatDoorV21
import Derived.Test.YtbjddimafilflaaGreatDoorVD00
import Derived.Maps.OwnOps
import Derived.Maps.OwnSet
import Derived.Lib.AppendZerosOnto
import Derived.Deep.RegionHeld3
import Derived.Lib.ItoaNum
import Derived.Lib.AtoiAll
import Derived.Deep.CutBlock
import Derived.Deep.DeepCutAuto
import Derived.Lib.BitFns
import Derived.Test.YtbjddimafilflaaGreatDoorShelf
import Derived.Shelf.Spec.BitsCarry
import Derived.Deep.Cut
import Derived.Deep.QuietTactic
import Derived.BigQuiet
import Derived.Test.YtbjddimafilflaaGreatDoorProg
import Derived.WalkKit
import Derived.WalkSpells
import Derived.WalkLawsBesides
import Derived.Lib.Hide
import Derived.Sort.Walk0
import Derived.Lib.Small
import Derived.Laws.CopyRow
import Derived.Lib.SlFresh
import Derived.Laws.AppendOwn
import Derived.Laws.OwnMore
import Derived.OwnWalk
import Derived.Deep.AppendLies
import Derived.Deep.MidRow
import Derived.Below
import Derived.Laws.Rows
import Derived.Deep.Draws
import Derived.Maps.AppendAt
import Derived.Laws.MakeOwn
import Derived.Laws.BitsAllLaws
import Derived.BigRegion
import Derived.Sort.LotA
import Derived.OneCell
import Derived.Deep.RegionHeld
/- THE WALK over the law JoinCommutes. -/
namespace Go.Proofs.YtbjddimafilflaaGreatDoor
open Go.RowKit Go.Sort
theorem natT_fit40 {a b : Tab} (ha : Sm a) (hb : Sm b) (hsa : ∀ r ∈ a.rows, szL r) (hsb : ∀ r ∈ b.rows, szL r) (ca : chkT a = 0) (cb : chkT b = 0) : TabFit (natT a b) := by
  rw [natT_ok ca cb]
  obtain ⟨nb, lb⟩ := chkT_zero cb
  refine ⟨Nat.le_trans cols_small (by have := ha.1; have := hb.1; omega), ?_, fun r hr => ?_⟩
  · show (sortO ordL (natR a b)).length ≤ 2000
    rw [sortO_len TotC.row]
    have h3 := natR_len2 a b
    have h4 : a.rows.length * b.rows.length ≤ 40 * 40 := Nat.mul_le_mul ha.2.2 hb.2.2
    omega
  · obtain ⟨x, hx, y, hy, -, rfl⟩ := natR_mem (sortO_mem hr)
    have k1 := wtR_mem hx
    have k2 := wtR_mem hy
    have k3 := ha.2.1
    have k4 := hb.2.1
    have k5 := rest_small (a := a.cols) (lb y hy) (by omega) hb.1
    refine ⟨szL_app (hsa x hx) (part_sz (hsb y hy) (fun i hi => by rw [lb y hy]; exact othersK_lt hi)), ?_⟩
    rw [wtL_append]; omega
end Go.Proofs.YtbjddimafilflaaGreatDoor

/- ROWS APPENDED TO COLLECTED ROWS, all at once. -/
namespace Go.Proofs.YtbjddimafilflaaGreatDoor
open Go.RowKit Go.Sort
theorem run_catR (ty : TypeId) {w : World} (base : Nat) (ok0 : Nat → Prop) (v : Value) (acc l : List (List Val)) (A : Option Addr) (c : Nat) (hown : OwnRows w base ok0 v acc) (hb : base ≤ w.heap.size)
    (hl : Rows w (fun b => ok0 b ∧ some b ≠ v.ownBlock) A l) (h63 : acc.length + l.length ≤ 8000000) :
    ∃ v' w', (Builtin.append_ #[23, 23] ty #[v, .slice A l.length c]).run Tryz.prog w = .ok v' w' ∧ OwnRows w' base ok0 v' (acc ++ l) ∧ w.grownBy w' v.ownBlock := by
  obtain ⟨ps, h1, h2, h3⟩ := hown
  obtain ⟨z, hz, hzc⟩ := T_row.hi
  obtain ⟨i, hi, hz0, hz1, hz2⟩ := info_parts hz
  have hpl : ps.length = acc.length := by rw [← h1, List.length_map]
  obtain ⟨qs, e1, e2, e3⟩ := hl.flat
  have hql : qs.length = l.length := by rw [← e1, List.length_map]
  cases A with
  | none =>
    have h0 : l.length = 0 := hl.none_ rfl
    have hr := run_append_none (P := Tryz.prog) (w := w) base 23 ty 37 i 1 T_row.ht hi v ps.length c (ps.map encP) h2
    have hle : l = [] := List.eq_nil_of_length_eq_zero h0
    refine ⟨v, w, by rw [h0]; exact hr, ?_, World.grownBy.refl _ _⟩
    rw [hle, List.append_nil]
    exact ⟨ps, h1, h2, h3⟩
  | some ad =>
    obtain ⟨v', w', hr, k2, k3, -, k5⟩ := run_append_own_at (P := Tryz.prog) w base 23 ty 37 i z 1 24 T_row.ht hi hz0 hz1 hz2 hzc T_row.hs v ps.length (ps.map encP) h2 ad l.length c (qs.map encP) (by rw [List.length_map, hql, Nat.mul_one]) (e3 ad rfl) (fun u hu => by
      obtain ⟨p, -, rfl⟩ := List.mem_map.1 hu; rfl) (by unfold maxLen; omega) (by omega) hb
    have hcell : ∀ b o x, (some b ≠ v.ownBlock) → w.cell? ⟨b, o, none⟩ = some x → w'.cell? ⟨b, o, none⟩ = some x ∧ some b ≠ v'.ownBlock := fun b o x hb hc => by
      have hlt : b < w.heap.size := block_lt_of_cell hc
      refine ⟨(World.cell?_of_block (k3.block b hlt hb)).trans hc, ?_⟩
      rcases k5 with e | e
      · rw [e]; exact hb
      · rw [e]
        intro e2
        injection e2 with e2
        omega
    refine ⟨v', w', hr, ⟨ps ++ qs, by rw [List.map_append, h1, e1], ?_, fun p hq => ?_⟩, k3⟩
    · rw [List.length_append, List.map_append, hql]; exact k2
    · rcases List.mem_append.1 hq with hq | hq
      · exact (h3 p hq).keep' (fun b o x hb hc => ⟨(hcell b o x hb.2 hc).1, hb.1, (hcell b o x hb.2 hc).2⟩)
      · exact (e2 p hq).keep' (fun b o x hb hc => ⟨(hcell b o x hb.2 hc).1, hb.1, (hcell b o x hb.2 hc).2⟩)
theorem step_catR {ops : Array Oper} {o : Oper} {a : Act} {w : World} {K : Act → World → Prop} {Q : Exit → Act → World → Prop} {E : Prop} (hg : o.guard = none) (s x : Operand)
    (ho : o.op = .call { callee := .builtin .append, args := #[s, x], argTypes := #[23, 23] }) (base : Nat) (ok0 : Nat → Prop) (v : Value) (acc l : List (List Val)) (A : Option Addr) (c : Nat) (hs : a.eval s = v) (hown : OwnRows w base ok0 v acc) (hb : base ≤ w.heap.size)
    (hx : a.eval x = .slice A l.length c) (hl : Rows w (fun b => ok0 b ∧ some b ≠ v.ownBlock) A l) (h63 : acc.length + l.length ≤ 8000000)
    (hK : ∀ v' w', OwnRows w' base ok0 v' (acc ++ l) → w.grownBy w' v.ownBlock → K (a.put o.dst v') w') : if Region.wanted o (yielded ops a.tmps) = true then Oper.wp Tryz.prog o a w K Q else E := by
  obtain ⟨v', w', hr, h1, h2⟩ := run_catR o.type base ok0 v acc l A c hown hb hl h63
  exact step_append_run' hg s x _ _ ho v _ hs hx hr (hK v' w' h1 h2)
theorem own_catR {ops : Array Oper} {rest : List Oper} {o : Oper} {a : Act} {Q : Exit → Act → World → Prop} {w : World} (hgd : o.guard = none) (s x : Operand)
    (ho : o.op = .call { callee := .builtin .append, args := #[s, x], argTypes := #[23, 23] }) (base : Nat) (ok0 : Nat → Prop) (v : Value) (acc l : List (List Val)) (A : Option Addr) (c : Nat) (hs : a.eval s = v) (hown : OwnRows w base ok0 v acc) (hb : base ≤ w.heap.size)
    (hx : a.eval x = .slice A l.length c) (hl : Rows w (fun b => ok0 b ∧ some b ≠ v.ownBlock) A l) (h63 : acc.length + l.length ≤ 8000000)
    (h : ∀ v' w', OwnRows w' base ok0 v' (acc ++ l) → w.grownBy w' v.ownBlock → wpList Tryz.prog ops Q rest (a.put o.dst v') w') : wpList Tryz.prog ops Q (o :: rest) a w := by
  obtain ⟨v', w', hr, h1, h2⟩ := run_catR o.type base ok0 v acc l A c hown hb hl h63
  refine wpList_plain hgd fun _ hK => ?_
  unfold Oper.wp execOp
  simp only [ho, resolve, invoke, builtin, Sem.run_bind, Sem.run_pure, Result.andThen_ok, List.map_toArray, List.map_cons, List.map_nil, hs, hx, hr]
  exact hK _ _ (h v' w' h1 h2)
/-- a fresh empty slice of rows -/
theorem own_made (w : World) (ok0 : Nat → Prop) : OwnRows (w.alloc (.cells #[] 37)) w.heap.size ok0 (.slice (some ⟨w.heap.size, 0, none⟩) 0 0) [] :=
  ⟨[], rfl, World.ownsRow_made w #[] 0 (Nat.le_refl _) (by unfold maxLen; omega) rfl, fun p hp => absurd hp (by simp)⟩
end Go.Proofs.YtbjddimafilflaaGreatDoor

/- THE PLAIN LAW of the halves and of the left join. -/
namespace Go.Proofs.YtbjddimafilflaaGreatDoor
open Go.RowKit Go.Sort
theorem half_rows {a b : Tab} (ca : chkT a = 0) (cb : chkT b = 0) (wt : Bool) : (halfT a b wt).rows = sortO ordL (halfR a b wt) := by
  unfold halfT; rw [if_pos (errJ_ok ca cb)]
theorem half_yes (a b : Tab) : halfR a b true = a.rows.filter (hasJ a b) := by
  unfold halfR; exact List.filter_congr (fun x _ => by cases hasJ a b x <;> rfl)
theorem half_no (a b : Tab) : halfR a b false = a.rows.filter (fun x => !hasJ a b x) := by
  unfold halfR; exact List.filter_congr (fun x _ => by cases hasJ a b x <;> rfl)
theorem splits_bag {a b : Tab} (ca : chkT a = 0) (cb : chkT b = 0) : sortO ordL ((halfT a b true).rows ++ (halfT a b false).rows) = sortO ordL a.rows := by
  refine sortO_of_perm ?_
  rw [half_rows ca cb, half_rows ca cb, half_yes, half_no]
  exact ((sortO_perm TotC.row _).append (sortO_perm TotC.row _)).trans (filter_perm _ _)
theorem splits_left {a b : Tab} (ca : chkT a = 0) (cb : chkT b = 0) : (leftT a b).rows = sortO ordL ((natT a b).rows ++ (halfT a b false).rows.map (extJ a.cols b.cols)) := by
  have h : (leftT a b).rows = sortO ordL (leftR a b) := by unfold leftT; rw [if_pos (errJ_ok ca cb)]
  rw [h, natT_ok ca cb, half_rows ca cb, half_no]
  refine sortO_of_perm ?_
  unfold leftR
  exact ((sortO_perm TotC.row _).symm).append ((sortO_perm TotC.row _).symm.map _)
theorem half_len {a b : Tab} (ca : chkT a = 0) (cb : chkT b = 0) (wt : Bool) : (halfT a b wt).rows.length ≤ a.rows.length := by
  rw [half_rows ca cb, sortO_len TotC.row]
  exact List.length_filter_le _ _
theorem half_mem {a b : Tab} (ca : chkT a = 0) (cb : chkT b = 0) {wt : Bool} {r : List Val} (h : r ∈ (halfT a b wt).rows) : r ∈ a.rows := by
  rw [half_rows ca cb] at h
  exact (List.mem_filter.1 (sortO_mem h)).1
end Go.Proofs.YtbjddimafilflaaGreatDoor
