/- THE WALK over the reference's Check. -/
import Derived.Test.YtanclhcoiagcfaaGreatDoorSchH
namespace Go.Proofs.YtanclhcoiagcfaaGreatDoor
open Go.RowKit

theorem chkR_eq (ak an : Int) (anm aky afr ato : ByteArray) : chkR ⟨ak, an, anm, aky, afr, ato⟩ =
    if ak < 1 ∨ 7 < ak ∨ numB ak an = false then 1
    else if (keyK ak = false ∧ aky.size ≠ 0) ∨ (ak ≠ 6 ∧ (afr.size ≠ 0 ∨ ato.size ≠ 0)) then 1
    else if nameB anm = false ∨ (keyK ak = true ∧ nameB aky = false) ∨ (afr.size ≠ 0 ∧ nameB afr = false) ∨ (ato.size ≠ 0 ∧ nameB ato = false) then 6
    else 0 := rfl

theorem size_beq (s : ByteArray) : (s.toList == ([] : List UInt8)) = decide (s.size = 0) := by
  rw [beq_list, decide_eq_decide]
  exact ⟨fun h => by have := congrArg List.length h; simpa using this, size_zero⟩

/-- A RULE IN A BOX of the call's own. -/
structure RSt (w : World) (g : Nat) (r : RuleP) (V : World) : Prop where
  below : Below w.heap.size w V
  c0 : V.cell? ⟨g, 0, none⟩ = some (.int .i64 r.kind)
  c1 : V.cell? ⟨g, 1, none⟩ = some (.int .i64 r.n)
  c2 : V.cell? ⟨g, 2, none⟩ = some (.string r.name)
  c3 : V.cell? ⟨g, 3, none⟩ = some (.string r.key)
  c4 : V.cell? ⟨g, 4, none⟩ = some (.string r.frm)
  c5 : V.cell? ⟨g, 5, none⟩ = some (.string r.tov)
  base : w.heap.size ≤ g
  lt : g < V.heap.size

theorem RSt.step {w : World} {g : Nat} {r : RuleP} {V V' : World} (h : RSt w g r V) (hb : Below V.heap.size V V') : RSt w g r V' :=
  ⟨h.below.trans (hb.mono (Nat.le_of_lt (Nat.lt_of_le_of_lt h.base h.lt))), (hb.cell (p := ⟨g, 0, none⟩) h.lt).trans h.c0, (hb.cell (p := ⟨g, 1, none⟩) h.lt).trans h.c1, (hb.cell (p := ⟨g, 2, none⟩) h.lt).trans h.c2, (hb.cell (p := ⟨g, 3, none⟩) h.lt).trans h.c3, (hb.cell (p := ⟨g, 4, none⟩) h.lt).trans h.c4, (hb.cell (p := ⟨g, 5, none⟩) h.lt).trans h.c5, h.base, Nat.lt_of_lt_of_le h.lt hb.size⟩

theorem RSt.start (w : World) (r : RuleP) (t : TypeId) : RSt w w.heap.size r (w.alloc (.cells #[.int .i64 r.kind, .int .i64 r.n, .string r.name, .string r.key, .string r.frm, .string r.tov] t)) :=
  ⟨(by repeat (first | with_reducible exact Below.refl _ _ | with_reducible assumption | with_reducible refine below_drewS ?_ | (with_reducible refine Below.setCell ?_ (by first | omega | (simp; done) | (simp; omega)) _) | (with_reducible refine Below.alloc ?_ (by first | exact Nat.le_refl _ | omega | (simp; done) | (simp; omega)) _))), by go_simp, by go_simp, by go_simp, by go_simp, by go_simp, by go_simp, Nat.le_refl _, by simp⟩

set_option maxRecDepth 100000 in
set_option maxHeartbeats 6400000 in
theorem r9_Check (a : RuleP) (w : World) : Calls Tryz.prog 7 #[a.val] w fun e w' => e = .returned (.int .i64 (chkR a)) ∧ Below w.heap.size w w' := by
  obtain ⟨ak, an, anm, aky, afr, ato⟩ := a
  have HNum := Lib.hid (fun W => r9_number ⟨ak, an, anm, aky, afr, ato⟩ W)
  have st0 := Lib.hid (RSt.start w ⟨ak, an, anm, aky, afr, ato⟩ 23)
  have HC := Lib.hid (chkR_eq ak an anm aky afr ato)
  have sk := size_beq aky
  have sf := size_beq afr
  have so := size_beq ato
  have HN := Lib.hid (fun s W => r9_name s W)
  have HK := Lib.hid (fun (k : Int) W (hk : k = ak) => (by subst hk; exact r9_keyed k W : Calls Tryz.prog 26 #[.int .i64 k] W fun e w' => e = .returned (.bool (keyK ak)) ∧ w' = W))
  generalize keyK ak = kk at HC HK
  generalize chkR ⟨ak, an, anm, aky, afr, ato⟩ = o at HC ⊢
  show Calls Tryz.prog 7 #[.agg #[.int .i64 ak, .int .i64 an, .string anm, .string aky, .string afr, .string ato]] w _
  simp only at st0
  go_enter Tryz.func7, Tryz.ntmps7
  by_cases hk : 1 ≤ ak ∧ ak ≤ 7
  · obtain ⟨k1, k7⟩ := hk
    go_wp2_with fail
    refine (HNum.out _).mono ?_
    rintro e w1 ⟨rfl, hb⟩
    obtain ⟨hbb, c0, c1, c2, c3, c4, c5, -, -⟩ := st0.out.step hb
    simp only at c0 c1 c2 c3 c4 c5
    clear st0 hb HNum
    generalize numB ak an = nb at HC ⊢
    go_wp2_with (first | (go_at_call 27; refine (HN.out _ _).mono ?_; rintro e w' ⟨rfl, rfl⟩) | (go_at_call 26; refine (HK.out _ _ (by omega)).mono ?_; rintro e w' ⟨rfl, rfl⟩))
    all_goals
      go_ret
    all_goals
      refine ⟨ret_i64 ?_, (by repeat (first | with_reducible exact Below.refl _ _ | with_reducible assumption | with_reducible refine below_drewS ?_ | (with_reducible refine Below.setCell ?_ (by first | omega | (simp; done) | (simp; omega)) _) | (with_reducible refine Below.alloc ?_ (by first | exact Nat.le_refl _ | omega | (simp; done) | (simp; omega)) _)))⟩
      rw [HC.out]
      clear HC HN HK c0 c1 c2 c3 c4 c5 hbb
      generalize nameB anm = n1 at *
      generalize nameB aky = n2 at *
      generalize nameB afr = n3 at *
      generalize nameB ato = n4 at *
      generalize (aky.toList == []) = b1 at *
      generalize (afr.toList == []) = b2 at *
      generalize (ato.toList == []) = b3 at *
      first | (have q1 : ¬ ak < 1 := (by omega); have q2 : ¬ 7 < ak := (by omega); simp_all; done) | (simp_all; omega)
  · have hk1 : ak < 1 ∨ 7 < ak := by omega
    have HO := Lib.hid (show o = 1 by rw [HC.out, if_pos (by omega)])
    clear HC
    rcases hk1 with h | h
    all_goals
      go_wp2_with fail
      go_ret
      exact ⟨ret_i64 HO.out.symm, (by repeat (first | with_reducible exact Below.refl _ _ | with_reducible assumption | with_reducible refine below_drewS ?_ | (with_reducible refine Below.setCell ?_ (by first | omega | (simp; done) | (simp; omega)) _) | (with_reducible refine Below.alloc ?_ (by first | exact Nat.le_refl _ | omega | (simp; done) | (simp; omega)) _)))⟩

end Go.Proofs.YtanclhcoiagcfaaGreatDoor
