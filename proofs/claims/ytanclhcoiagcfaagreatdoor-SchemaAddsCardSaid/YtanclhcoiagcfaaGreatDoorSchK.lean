/- THE WALKS over the reference's Same and Valid. -/
import Derived.Test.YtanclhcoiagcfaaGreatDoorSchJ
import Derived.Laws.StructEq
namespace Go.Proofs.YtanclhcoiagcfaaGreatDoor
open Go.RowKit

theorem guard_rule : Tryz.prog.eqGuardType Tryz.prog.depth 23 = false := by kernel_rfl

theorem eqin_rule (a b : RuleP) (w : World) : (Op.equalIn 10000 23 (.agg #[.int .i64 a.kind, .int .i64 a.n, .string a.name, .string a.key, .string a.frm, .string a.tov]) (.agg #[.int .i64 b.kind, .int .i64 b.n, .string b.name, .string b.key, .string b.frm, .string b.tov])).run Tryz.prog w = .ok (decide (a = b)) w := by
  have u3 := Tryz.underlying3
  have u9 := Tryz.underlying9
  have a3 := Tryz.isAgg3
  have a9 := Tryz.isAgg9
  have hS : Tryz.prog.underlying 23 = some (.struct (Tryz.prog.fieldsOf 23)) := by kernel_rfl
  have hp : Tryz.prog.stoodInHeld 23 = false := by kernel_rfl
  rw [show (10000 : Nat) = 9999 + 1 from rfl, run_equalIn_agg w 9999 23 _ _ hS hp]
  obtain ⟨a1, a2, a3', a4, a5, a6⟩ := a
  obtain ⟨b1, b2, b3, b4, b5, b6⟩ := b
  simp only [Program.fieldsOf, Tryz.underlying23]
  go_simp
  have y : ∀ p q : ByteArray, (p.toList = q.toList) = (p = q) := fun p q => propext ⟨bytes_eq, fun h => by rw [h]⟩
  simp only [y]
  by_cases h1 : a1 = b1
  · by_cases h2 : a2 = b2
    · by_cases h3 : a3' = b3
      · by_cases h4 : a4 = b4
        · by_cases h5 : a5 = b5
          · by_cases h6 : a6 = b6 <;> simp [h1, h2, h3, h4, h5, h6]
          · simp [h1, h2, h3, h4, h5]
        · simp [h1, h2, h3, h4]
      · simp [h1, h2, h3]
    · simp [h1, h2]
  · simp [h1]

theorem eql_rule (a b : RuleP) (w : World) : (binOp .eql 23 (.agg #[.int .i64 a.kind, .int .i64 a.n, .string a.name, .string a.key, .string a.frm, .string a.tov]) (.agg #[.int .i64 b.kind, .int .i64 b.n, .string b.name, .string b.key, .string b.frm, .string b.tov])).run Tryz.prog w = .ok (.bool (decide (a = b))) w := by
  rw [run_eql_struct, eqin_rule]; rfl
theorem neq_rule (a b : RuleP) (w : World) : (binOp .neq 23 (.agg #[.int .i64 a.kind, .int .i64 a.n, .string a.name, .string a.key, .string a.frm, .string a.tov]) (.agg #[.int .i64 b.kind, .int .i64 b.n, .string b.name, .string b.key, .string b.frm, .string b.tov])).run Tryz.prog w = .ok (.bool (!decide (a = b))) w := by
  rw [run_neq_struct, eqin_rule]; rfl

theorem same_no {s t : List RuleP} {k : Nat} (h : s[k]! ≠ t[k]!) : decide (s = t) = false :=
  decide_eq_false (fun e => h (by rw [e]))
theorem same_yes {s t : List RuleP} (hl : s.length = t.length) (h : ∀ j, j < s.length → s[j]! = t[j]!) : decide (s = t) = true :=
  decide_eq_true (List.ext_getElem hl (fun j h1 h2 => by have := h j h1; rwa [getB h1, getB h2] at this))

set_option maxRecDepth 100000 in
set_option maxHeartbeats 1600000 in
theorem r9_Same (s t : List RuleP) (A B : Option Addr) (c d : Nat) (w : World) (hs : Rules w A s) (ht : Rules w B t) (hl : s.length ≤ 1000) (hm : t.length ≤ 1000) :
    Calls Tryz.prog 15 #[.slice A s.length c, .slice B t.length d] w fun e w' => e = .returned (.bool (decide (s = t))) ∧ Ext w w' := by
  have hs1 := Lib.hid hs
  have ht1 := Lib.hid ht
  have hG := guard_rule
  clear hs ht
  by_cases hn : s.length = t.length
  · have HY := Lib.hid (same_yes hn)
    have HNO := Lib.hid (fun k => same_no (s := s) (t := t) (k := k))
    have HL := Lib.hid hn
    have hne : ((s.length : Int) != (t.length : Int)) = false := by simp [hn]
    clear hn
    go_enter Tryz.func15, Tryz.ntmps15
    go_wp2_with fail
    go_loopw [5] (fun u W => ∃ k : Nat, u = .int .i64 k ∧ k ≤ s.length ∧ Hid (∀ j, j < k → s[j]! = t[j]!) ∧ Ext w W) (fun u _ => s.length - (intOf u).toNat)
    case atStart => exact ⟨0, rfl, Nat.zero_le _, Lib.hid (fun j hj => absurd hj (Nat.not_lt_zero _)), Ext.refl _⟩
    case round =>
      obtain ⟨k, rfl, hk, hn, hE⟩ := hrel
      by_cases hlt : k < s.length
      · have hlt2 : k < t.length := by have := HL.out; omega
        obtain ⟨b, off, rfl, hc⟩ := hs1.out (by omega)
        obtain ⟨b', off', rfl, hc'⟩ := ht1.out (by omega)
        have hd := (hc k hlt).ext hE
        have hr := (hc' k hlt2).ext hE
        have HS := Lib.hid (fun (h : s[k]! = t[k]!) j (hj : j < k + 1) => (if e : j = k then e ▸ h else hn.out j (by omega) : s[j]! = t[j]!))
        have HT := Lib.hid (HNO.out k)
        clear hc hc' HNO
        generalize s[k]! = x at hd HS HT
        generalize t[k]! = y at hr HS HT
        have MK := Lib.hid (fun V (e : Ext wr V) => mk_two hd hr e)
        have hq := fun W => neq_rule x y W
        clear hd hr
        by_cases hxy : x = y
        · have HX := Lib.hid (HS.out hxy)
          rw [decide_eq_true hxy] at hq
          clear hxy HT HS
          go_wp2_with fail
          go_region_held3 (fun V => V.cell? ⟨b, off + k * 6, none⟩ = some (.int .i64 x.kind) ∧ V.cell? ⟨b, off + k * 6 + 1, none⟩ = some (.int .i64 x.n) ∧ V.cell? ⟨b, off + k * 6 + 2, none⟩ = some (.string x.name) ∧ V.cell? ⟨b, off + k * 6 + 3, none⟩ = some (.string x.key) ∧ V.cell? ⟨b, off + k * 6 + 4, none⟩ = some (.string x.frm) ∧ V.cell? ⟨b, off + k * 6 + 5, none⟩ = some (.string x.tov) ∧ V.cell? ⟨b', off' + k * 6, none⟩ = some (.int .i64 y.kind) ∧ V.cell? ⟨b', off' + k * 6 + 1, none⟩ = some (.int .i64 y.n) ∧ V.cell? ⟨b', off' + k * 6 + 2, none⟩ = some (.string y.name) ∧ V.cell? ⟨b', off' + k * 6 + 3, none⟩ = some (.string y.key) ∧ V.cell? ⟨b', off' + k * 6 + 4, none⟩ = some (.string y.frm) ∧ V.cell? ⟨b', off' + k * 6 + 5, none⟩ = some (.string y.tov) ∧ Ext wr V) ((exact MK.out _ (by repeat (first | with_reducible exact Ext.refl _ | with_reducible assumption | with_reducible refine Ext.drew ?_ | with_reducible refine Ext.drewN ?_ _ | with_reducible refine Ext.alloc ?_ _)))) (fail)
          all_goals
            go_wp2_with fail
            go_roundw
            case rel => exact ⟨k + 1, by go_num, by omega, HX, hE.trans (by repeat (first | with_reducible exact Ext.refl _ | with_reducible assumption | with_reducible refine Ext.drew ?_ | with_reducible refine Ext.drewN ?_ _ | with_reducible refine Ext.alloc ?_ _))⟩
            case measure => simp [intOf]; omega
        · have HX := Lib.hid (HT.out hxy)
          rw [decide_eq_false hxy] at hq
          clear hxy HT HS
          go_wp2_with fail
          go_region_held3 (fun V => V.cell? ⟨b, off + k * 6, none⟩ = some (.int .i64 x.kind) ∧ V.cell? ⟨b, off + k * 6 + 1, none⟩ = some (.int .i64 x.n) ∧ V.cell? ⟨b, off + k * 6 + 2, none⟩ = some (.string x.name) ∧ V.cell? ⟨b, off + k * 6 + 3, none⟩ = some (.string x.key) ∧ V.cell? ⟨b, off + k * 6 + 4, none⟩ = some (.string x.frm) ∧ V.cell? ⟨b, off + k * 6 + 5, none⟩ = some (.string x.tov) ∧ V.cell? ⟨b', off' + k * 6, none⟩ = some (.int .i64 y.kind) ∧ V.cell? ⟨b', off' + k * 6 + 1, none⟩ = some (.int .i64 y.n) ∧ V.cell? ⟨b', off' + k * 6 + 2, none⟩ = some (.string y.name) ∧ V.cell? ⟨b', off' + k * 6 + 3, none⟩ = some (.string y.key) ∧ V.cell? ⟨b', off' + k * 6 + 4, none⟩ = some (.string y.frm) ∧ V.cell? ⟨b', off' + k * 6 + 5, none⟩ = some (.string y.tov) ∧ Ext wr V) ((exact MK.out _ (by repeat (first | with_reducible exact Ext.refl _ | with_reducible assumption | with_reducible refine Ext.drew ?_ | with_reducible refine Ext.drewN ?_ _ | with_reducible refine Ext.alloc ?_ _)))) (fail)
          all_goals
            go_wp2_with fail
            go_ret
            exact ⟨ret_bool HX.out.symm, hE.trans (by repeat (first | with_reducible exact Ext.refl _ | with_reducible assumption | with_reducible refine Ext.drew ?_ | with_reducible refine Ext.drewN ?_ _ | with_reducible refine Ext.alloc ?_ _))⟩
      · have HF := Lib.hid (HY.out (fun j hj => hn.out j (by omega)))
        go_wp2
        go_ret
        exact ⟨ret_bool HF.out.symm, hE⟩
  · have HF := Lib.hid (decide_eq_false (fun e => hn (by rw [e])) : decide (s = t) = false)
    have hne : ((s.length : Int) != (t.length : Int)) = true := by simp; omega
    clear hn
    go_enter Tryz.func15, Tryz.ntmps15
    go_wp2_with fail
    go_ret
    exact ⟨ret_bool HF.out.symm, Ext.refl _⟩

end Go.Proofs.YtanclhcoiagcfaaGreatDoor
