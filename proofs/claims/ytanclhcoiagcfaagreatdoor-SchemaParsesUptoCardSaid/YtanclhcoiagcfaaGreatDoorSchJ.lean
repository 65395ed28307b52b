/- RULES IN MEMORY; THE WALKS over the reference's Has, Valid and Same. -/
import Derived.Test.YtanclhcoiagcfaaGreatDoorSchI
import Derived.Test.YtanclhcoiagcfaaGreatDoorExt
namespace Go.Proofs.YtanclhcoiagcfaaGreatDoor
open Go.RowKit

/-- six cells that are a rule -/
def CellsR (w : World) (b o : Nat) (r : RuleP) : Prop := w.cell? ⟨b, o, none⟩ = some (.int .i64 r.kind) ∧ w.cell? ⟨b, o + 1, none⟩ = some (.int .i64 r.n) ∧ w.cell? ⟨b, o + 2, none⟩ = some (.string r.name) ∧ w.cell? ⟨b, o + 3, none⟩ = some (.string r.key) ∧ w.cell? ⟨b, o + 4, none⟩ = some (.string r.frm) ∧ w.cell? ⟨b, o + 5, none⟩ = some (.string r.tov)
theorem CellsR.ext {a w : World} {b o : Nat} {r : RuleP} (h : CellsR a b o r) (e : Ext a w) : CellsR w b o r :=
  ⟨e.cell h.1, e.cell h.2.1, e.cell h.2.2.1, e.cell h.2.2.2.1, e.cell h.2.2.2.2.1, e.cell h.2.2.2.2.2⟩

/-- a slice that reads as a list of rules -/
def Rules (w : World) (A : Option Addr) (s : List RuleP) : Prop := 0 < s.length → ∃ b off, A = some ⟨b, off, none⟩ ∧ ∀ k, k < s.length → CellsR w b (off + k * 6) s[k]!
theorem Rules.ext {a w : World} {A : Option Addr} {s : List RuleP} (h : Rules a A s) (e : Ext a w) : Rules w A s := fun hp =>
  let ⟨b, off, hA, hc⟩ := h hp
  ⟨b, off, hA, fun k hk => (hc k hk).ext e⟩

theorem mk_two {a V : World} {b o b' o' : Nat} {x r : RuleP} (h : CellsR a b o x) (h' : CellsR a b' o' r) (e : Ext a V) : V.cell? ⟨b, o, none⟩ = some (.int .i64 x.kind) ∧ V.cell? ⟨b, o + 1, none⟩ = some (.int .i64 x.n) ∧ V.cell? ⟨b, o + 2, none⟩ = some (.string x.name) ∧ V.cell? ⟨b, o + 3, none⟩ = some (.string x.key) ∧ V.cell? ⟨b, o + 4, none⟩ = some (.string x.frm) ∧ V.cell? ⟨b, o + 5, none⟩ = some (.string x.tov) ∧ V.cell? ⟨b', o', none⟩ = some (.int .i64 r.kind) ∧ V.cell? ⟨b', o' + 1, none⟩ = some (.int .i64 r.n) ∧ V.cell? ⟨b', o' + 2, none⟩ = some (.string r.name) ∧ V.cell? ⟨b', o' + 3, none⟩ = some (.string r.key) ∧ V.cell? ⟨b', o' + 4, none⟩ = some (.string r.frm) ∧ V.cell? ⟨b', o' + 5, none⟩ = some (.string r.tov) ∧ Ext a V :=
  let ⟨h0, h1, h2, h3, h4, h5⟩ := h.ext e
  let ⟨k0, k1, k2, k3, k4, k5⟩ := h'.ext e
  ⟨h0, h1, h2, h3, h4, h5, k0, k1, k2, k3, k4, k5, e⟩

/-- a rule in a box of the call's own -/
theorem box_rule (w : World) (r : RuleP) (t : TypeId) : ∃ (g : Nat) (w1 : World), g = w.heap.size ∧ w1 = w.alloc (.cells #[.int .i64 r.kind, .int .i64 r.n, .string r.name, .string r.key, .string r.frm, .string r.tov] t) ∧ CellsR w1 g 0 r ∧ Ext w w1 ∧ w.heap.size ≤ g :=
  ⟨_, _, rfl, rfl, ⟨by go_simp, by go_simp, by go_simp, by go_simp, by go_simp, by go_simp⟩, (Ext.refl _).alloc _, Nat.le_refl _⟩

set_option maxRecDepth 100000 in
set_option maxHeartbeats 1600000 in
theorem r9_Has (s : List RuleP) (A : Option Addr) (c : Nat) (r : RuleP) (w : World) (hs : Rules w A s) (hl : s.length ≤ 1000) :
    Calls Tryz.prog 39 #[.slice A s.length c, r.val] w fun e w' => e = .returned (.bool (decide (r ∈ s))) ∧ Ext w w' := by
  obtain ⟨g, w1, hg, hw1, hb, hx, -⟩ := box_rule w r 23
  have hs1 := Lib.hid (hs.ext hx)
  have HY := Lib.hid (fun k (hk : k < s.length) (h : s[k]! = r) => (decide_eq_true (by rw [← h, getB hk]; exact List.getElem_mem _) : decide (r ∈ s) = true))
  have HN := Lib.hid (fun (h : ∀ j, j < s.length → s[j]! ≠ r) => (decide_eq_false (fun hm => by
    obtain ⟨j, hj, e⟩ := List.getElem_of_mem hm
    exact h j hj (by rw [getB hj]; exact e)) : decide (r ∈ s) = false))
  clear hs
  show Calls Tryz.prog _ #[.slice A s.length c, .agg #[.int .i64 r.kind, .int .i64 r.n, .string r.name, .string r.key, .string r.frm, .string r.tov]] w _
  go_enter Tryz.func39, Tryz.ntmps39
  go_wp2_with fail
  rw [← hw1, ← hg]
  clear hw1 hg
  go_loopw [5] (fun u W => ∃ k : Nat, u = .int .i64 k ∧ k ≤ s.length ∧ Hid (∀ j, j < k → s[j]! ≠ r) ∧ Ext w1 W) (fun u _ => s.length - (intOf u).toNat)
  case atStart => exact ⟨0, rfl, Nat.zero_le _, Lib.hid (fun j hj => absurd hj (Nat.not_lt_zero _)), Ext.refl _⟩
  case round =>
    obtain ⟨k, rfl, hk, hn, hE⟩ := hrel
    by_cases hlt : k < s.length
    · obtain ⟨b, off, rfl, hc⟩ := hs1.out (by omega)
      have hd := (hc k hlt).ext hE
      have hr := hb.ext hE
      have HS := Lib.hid (fun (h : s[k]! ≠ r) j (hj : j < k + 1) => (if e : j = k then e ▸ h else hn.out j (by omega) : s[j]! ≠ r))
      have HT := Lib.hid (HY.out k hlt)
      clear hc hb HY
      generalize s[k]! = x at hd HS HT
      have MK := Lib.hid (fun V (e : Ext wr V) => mk_two hd hr e)
      clear hd hr
      by_cases hz : ordR x r = 0
      · have HO := Lib.hid hz
        clear hz
        go_wp2_with fail
        go_region_held3 (fun V => V.cell? ⟨b, off + k * 6, none⟩ = some (.int .i64 x.kind) ∧ V.cell? ⟨b, off + k * 6 + 1, none⟩ = some (.int .i64 x.n) ∧ V.cell? ⟨b, off + k * 6 + 2, none⟩ = some (.string x.name) ∧ V.cell? ⟨b, off + k * 6 + 3, none⟩ = some (.string x.key) ∧ V.cell? ⟨b, off + k * 6 + 4, none⟩ = some (.string x.frm) ∧ V.cell? ⟨b, off + k * 6 + 5, none⟩ = some (.string x.tov) ∧ V.cell? ⟨g, 0, none⟩ = some (.int .i64 r.kind) ∧ V.cell? ⟨g, 1, none⟩ = some (.int .i64 r.n) ∧ V.cell? ⟨g, 2, none⟩ = some (.string r.name) ∧ V.cell? ⟨g, 3, none⟩ = some (.string r.key) ∧ V.cell? ⟨g, 4, none⟩ = some (.string r.frm) ∧ V.cell? ⟨g, 5, none⟩ = some (.string r.tov) ∧ Ext wr V) ((exact MK.out _ (by repeat (first | with_reducible exact Ext.refl _ | with_reducible assumption | with_reducible refine Ext.drew ?_ | with_reducible refine Ext.drewN ?_ _ | with_reducible refine Ext.alloc ?_ _)))) ((go_at_call 40; refine (r9_Order x r _).mono ?_; rintro e w' ⟨rfl, hb⟩; replace hb : Ext wr w' := Ext.trans (by repeat (first | with_reducible exact Ext.refl _ | with_reducible assumption | with_reducible refine Ext.drew ?_ | with_reducible refine Ext.drewN ?_ _ | with_reducible refine Ext.alloc ?_ _)) hb; rw [HO.out]))
        all_goals
          go_wp2_with fail
          go_ret
          exact ⟨ret_bool (HT.out ((TotC.rule.zero _ _).1 HO.out)).symm, hx.trans (hE.trans (by repeat (first | with_reducible exact Ext.refl _ | with_reducible assumption | with_reducible refine Ext.drew ?_ | with_reducible refine Ext.drewN ?_ _ | with_reducible refine Ext.alloc ?_ _)))⟩
      · have HO := Lib.hid (fun e : x = r => hz ((TotC.rule.zero _ _).2 e))
        have hz' : (ordR x r == 0) = false := by simpa using hz
        clear hz
        go_wp2_with fail
        go_region_held3 (fun V => V.cell? ⟨b, off + k * 6, none⟩ = some (.int .i64 x.kind) ∧ V.cell? ⟨b, off + k * 6 + 1, none⟩ = some (.int .i64 x.n) ∧ V.cell? ⟨b, off + k * 6 + 2, none⟩ = some (.string x.name) ∧ V.cell? ⟨b, off + k * 6 + 3, none⟩ = some (.string x.key) ∧ V.cell? ⟨b, off + k * 6 + 4, none⟩ = some (.string x.frm) ∧ V.cell? ⟨b, off + k * 6 + 5, none⟩ = some (.string x.tov) ∧ V.cell? ⟨g, 0, none⟩ = some (.int .i64 r.kind) ∧ V.cell? ⟨g, 1, none⟩ = some (.int .i64 r.n) ∧ V.cell? ⟨g, 2, none⟩ = some (.string r.name) ∧ V.cell? ⟨g, 3, none⟩ = some (.string r.key) ∧ V.cell? ⟨g, 4, none⟩ = some (.string r.frm) ∧ V.cell? ⟨g, 5, none⟩ = some (.string r.tov) ∧ Ext wr V) ((exact MK.out _ (by repeat (first | with_reducible exact Ext.refl _ | with_reducible assumption | with_reducible refine Ext.drew ?_ | with_reducible refine Ext.drewN ?_ _ | with_reducible refine Ext.alloc ?_ _)))) ((go_at_call 40; refine (r9_Order x r _).mono ?_; rintro e w' ⟨rfl, hb⟩; replace hb : Ext wr w' := Ext.trans (by repeat (first | with_reducible exact Ext.refl _ | with_reducible assumption | with_reducible refine Ext.drew ?_ | with_reducible refine Ext.drewN ?_ _ | with_reducible refine Ext.alloc ?_ _)) hb))
        all_goals
          go_wp2_with fail
          go_roundw
          case rel => exact ⟨k + 1, by go_num, by omega, Lib.hid (HS.out HO.out), hE.trans (by repeat (first | with_reducible exact Ext.refl _ | with_reducible assumption | with_reducible refine Ext.drew ?_ | with_reducible refine Ext.drewN ?_ _ | with_reducible refine Ext.alloc ?_ _))⟩
          case measure => simp [intOf]; omega
    · have hk' : k = s.length := by omega
      have HF := Lib.hid (HN.out (fun j hj => hn.out j (by omega)))
      go_wp2
      go_ret
      exact ⟨ret_bool HF.out.symm, hx.trans hE⟩

end Go.Proofs.YtanclhcoiagcfaaGreatDoor
