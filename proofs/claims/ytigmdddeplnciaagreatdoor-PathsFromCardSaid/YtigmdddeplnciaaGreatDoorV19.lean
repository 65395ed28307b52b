/- PARTS OF THE WALKS, joined: PtT, PtUa. -/
import Derived.Test.YtigmdddeplnciaaGreatDoorV18
/- THE WALK over the law's path. -/
namespace Go.Proofs.YtigmdddeplnciaaGreatDoor
open Go.RowKit
/-- a node or an edge at place i -/
def altE (i : Nat) (n : Int) : Val := .mk (if i % 2 = 0 then 5 else 6) n 0 ByteArray.empty []
def altV (ids : List Int) : List Val := (List.range ids.length).map (fun i => altE i ids[i]!)
theorem altV_len (ids : List Int) : (altV ids).length = ids.length := by unfold altV; simp
theorem altV_take (ids : List Int) {k : Nat} (hk : k < ids.length) : (altV ids).take (k + 1) = (altV ids).take k ++ [altE k ids[k]!] := by
  rw [List.take_succ_eq_append_getElem (by rw [altV_len]; exact hk)]
  congr 2
  unfold altV
  rw [List.getElem_map, List.getElem_range]
theorem rem2 (i : Nat) : 5 + (i : Int) % 2 = if i % 2 = 0 then 5 else 6 := by split <;> omega
set_option maxRecDepth 100000 in
set_option maxHeartbeats 1600000 in
theorem l_path (ids : List Int) (ok : Nat → Prop) (A : Option Addr) (c : Nat) (w : World) (hv : Nums w ok A ids) (hl : ids.length ≤ 100) :
    Calls Tryz.prog 21 #[.slice A ids.length c] w fun r w' => ∃ A' c', r = .returned (agV (pathV (altV ids)) A' c') ∧ (altV ids).length ≤ c' ∧ Vals w' (fun b => w.heap.size ≤ b) A' (altV ids) ∧ Ext w w' := by
  obtain ⟨q, w1, hq, hw1, z0, z1, z2, z3, z4, f0, hx1⟩ : ∃ (q : Nat) (w1 : World), q = w.heap.size ∧ w1 = w.alloc (.cells #[.int .i64 0, .int .i64 0, .int .i64 0, .string ⟨#[]⟩, .slice none 0 0] 37) ∧ w1.cell? ⟨q, 0, none⟩ = some (.int .i64 0) ∧ w1.cell? ⟨q, 1, none⟩ = some (.int .i64 0) ∧ w1.cell? ⟨q, 2, none⟩ = some (.int .i64 0) ∧ w1.cell? ⟨q, 3, none⟩ = some (.string ⟨#[]⟩) ∧ w1.cell? ⟨q, 4, none⟩ = some (.slice none 0 0) ∧ (∀ j, w1.frozen? ⟨q, j, none⟩ = false) ∧ Ext w w1 := ⟨_, _, rfl, rfl, by go_simp, by go_simp, by go_simp, by go_simp, by go_simp, fun j => by go_simp, (by solve_by_elim [X0, X1, X2, X3])⟩
  have hq1 : w1.heap.size = q + 1 := by rw [hw1, hq]; simp
  have HW1 := Lib.hid hw1
  have HG := Lib.hid hq
  have HX := Lib.hid hx1
  have HQ1 := Lib.hid hq1
  have HNU := Lib.hid (hv.ext hx1)
  have HZF := Lib.hid (fun V (e' : Ext w1 V) => (⟨⟨e'.cell z0, e'.cell z1, e'.cell z2, e'.cell z3, e'.cell z4⟩, fun j => (frz_heap (a := w1) (b := V) (p := ⟨q, j, none⟩) (e'.block q (block_lt_of_cell z0))).trans (f0 j)⟩ : (V.cell? ⟨q, 0, none⟩ = some (.int .i64 0) ∧ V.cell? ⟨q, 1, none⟩ = some (.int .i64 0) ∧ V.cell? ⟨q, 2, none⟩ = some (.int .i64 0) ∧ V.cell? ⟨q, 3, none⟩ = some (.string ⟨#[]⟩) ∧ V.cell? ⟨q, 4, none⟩ = some (.slice none 0 0)) ∧ ∀ j, V.frozen? ⟨q, j, none⟩ = false))
  clear hw1 hq hv hx1 z0 z1 z2 z3 z4 f0 hq1
  go_enter Tryz.func21, Tryz.ntmps21
  go_upto_region 1 with (fail)
  rw [← HW1.out, ← HG.out]
  clear HW1
  go_wp2_with fail
  go_loopw [3, 4] (fun v3 u W => ∃ (vO : Value) (k : Nat) (hs : List HV), vO = v3 ∧ u = .int .i64 k ∧ k ≤ ids.length ∧ Hid (Ext w1 W) ∧ Hid (OwnV W w1.heap.size (fun _ => False) vO hs) ∧ Hid (hs.map HV.v = (altV ids).take k)) (fun _ u _ => ids.length - (intOf u).toNat)
  case atStart => exact ⟨_, 0, [], rfl, rfl, Nat.zero_le _, Lib.hid (Ext.refl _), Lib.hid (OwnG.nil _ _ _ _ _), Lib.hid (by rw [List.take_zero]; rfl)⟩
  case round =>
    obtain ⟨vO, k, hs, rfl, rfl, hk, hE, HO, HM⟩ := hrel
    by_cases hlt : k < ids.length
    · obtain ⟨b, o, rfl, hc⟩ := HNU.out.at_ hlt
      have n0 := hE.out.cell (hc k hlt)
      have hrem := rem2 k
      have HT := Lib.hid (fun (x : HV) (hx : x.v = altE k ids[k]!) => (by rw [List.map_append, HM.out, altV_take ids hlt, List.map_singleton, hx] : (hs ++ [x]).map HV.v = (altV ids).take (k + 1)))
      have HOL := Lib.hid (by have := congrArg List.length HM.out; rw [List.length_map, List.length_take] at this; omega : hs.length + 1 ≤ 8388608)
      obtain ⟨kd, hkd⟩ : ∃ kd : Int, kd = if k % 2 = 0 then 5 else 6 := ⟨_, rfl⟩
      rw [← hkd] at hrem
      have HKD := Lib.hid (show ∀ n, altE k n = .mk kd n 0 ByteArray.empty [] from fun n => by unfold altE; rw [hkd])
      clear hkd hc HM
      generalize ids[k]! = n at *
      go_wp2_with (at_builtin; go_loud (refine own_pushG (v := vO) (hs := hs) T_hv rfl (.tmp 11) (.tmp 20) rfl wr rfl HO.out hE.out.le ⟨none, 0, .mk kd n 0 ByteArray.empty []⟩ ⟨Nat.le_refl _, SliceR.nil _ _ _⟩ rfl _ rfl rfl HOL.out (by decide) ?_); intro v6 w6 hO6 hg6 hd6)
      have hE6 : Ext w1 w6 := hE.out.grown hg6 (fun g2 h2 => (OwnG.lt HO.out h2).1)
      have HO6 := Lib.hid hO6
      have HT6 := Lib.hid (HT.out ⟨none, 0, .mk kd n 0 ByteArray.empty []⟩ (HKD.out n).symm)
      clear hO6 hg6 hd6 HKD HT
      go_roundw
      case rel => exact ⟨_, k + 1, _, rfl, by go_num, by omega, Lib.hid hE6, HO6, HT6⟩
      case measure => simp [intOf]; omega
    · have hke : k = (altV ids).length := by rw [altV_len]; omega
      have hmm := HM.out
      rw [hke, List.take_length] at hmm
      obtain ⟨A9, c9, e9, h9, hV9⟩ := OwnV.vals HO.out (by have := congrArg List.length hmm; rw [List.length_map, altV_len] at this; omega)
      have hlh : hs.length = (altV ids).length := by rw [← hmm, List.length_map]
      rw [hmm] at hV9
      subst e9
      rw [hlh] at h9 ⊢
      have HV9 := Lib.hid hV9
      have HLE := Lib.hid (show w.heap.size ≤ q by have := HG.out; omega)
      obtain ⟨⟨z0, z1, z2, z3, z4⟩, f0⟩ := HZF.out wr hE.out
      clear HO HM hmm hV9 hlh hke HZF
      go_wp2_with fail
      refine bodyPost_ret (v := .agg #[.int .i64 7, .int .i64 0, .int .i64 0, .string ByteArray.empty, .slice A9 (altV ids).length c9]) (by simp [results, Tryz.results21, go_sem, z0, z1, z2, z3, z4]; rfl) rfl ⟨A9, c9, rfl, h9, ?_, ?_⟩
      · refine HV9.out.keep (fun b o x hb hc => ?_) (fun b hb => by have h1 := HQ1.out; have h3 := HG.out; have h4 : w1.heap.size ≤ b := hb.resolve_left id; omega)
        have hne : b ≠ q := fun e => by have h1 := HQ1.out; have h4 : w1.heap.size ≤ b := hb.resolve_left id; omega
        rw [cell_other hne, cell_other hne, cell_other hne, cell_other hne, cell_other hne]
        exact hc
      · exact (by have h3 := HX.out.trans hE.out; have h4 := HLE.out; repeat (first | with_reducible assumption | (with_reducible refine Ext.setCell ?_ h4 _)))
end Go.Proofs.YtigmdddeplnciaaGreatDoor

/- PLAIN: the examples, computed. -/
namespace Go.Proofs.YtigmdddeplnciaaGreatDoor
open Go.RowKit
def tL : ByteArray := ⟨#[84]⟩
def gL : GraphG := ⟨[⟨1, [], []⟩, ⟨2, [], []⟩], [⟨1, 1, 2, tL, []⟩, ⟨2, 2, 1, tL, []⟩, ⟨3, 2, 2, tL, []⟩], 3, 4⟩
set_option maxRecDepth 1000000
theorem live_1 : fromP gL 1 [tL] 1 1 0 2 = [pathV (altV [1]), pathV (altV [1, 1, 2]), pathV (altV [1, 1, 2, 2, 1]), pathV (altV [1, 1, 2, 3, 2])] := by kernel_rfl
theorem live_2 : fromP gL 1 [tL] 1 3 0 2 = [pathV (altV [1]), pathV (altV [1, 1, 2]), pathV (altV [1, 1, 2, 2, 1])] := by kernel_rfl
theorem live_3 : betwP gL 2 2 [] 1 3 1 1 = [pathV (altV [2, 3, 2])] := by kernel_rfl
theorem live_4 : isP gL [] 3 3 (pathV (altV [1, 1, 2, 1, 1])) = true := by kernel_rfl
theorem live_5 : isP gL [] 3 2 (pathV (altV [1, 1, 2, 1, 1])) = false := by kernel_rfl
theorem live_6 : isP gL [] 1 1 (pathV (altV [1, 1, 2, 1, 1])) = false := by kernel_rfl
theorem live_7 : fromP gL 1 [tL] 1 4 0 2 = [] := by kernel_rfl
theorem live_8 : hopsV (pathV (altV [1, 1, 2, 1, 1])) = 2 := by kernel_rfl
theorem live_9 : hopsV (.mk 0 0 0 ByteArray.empty []) = -1 := by kernel_rfl
theorem live_0 : ordP (pathV (altV [1])) (pathV (altV [1, 1, 2])) = -1 := by kernel_rfl
end Go.Proofs.YtigmdddeplnciaaGreatDoor
