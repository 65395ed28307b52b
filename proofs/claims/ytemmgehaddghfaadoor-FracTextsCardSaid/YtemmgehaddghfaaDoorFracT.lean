/- THE WALKS over the reference's wide numbers: plus, minus, order, parts, narrow. -/
import Derived.Test.YtemmgehaddghfaaDoorFracS
namespace Go.Proofs.YtemmgehaddghfaaDoor
open Go.RowKit

theorem RowW.old {w V : World} {g : Nat} {f : Nat → Nat} (h : RowW w g f) (hb : Below w.heap.size w V) : RowW V g f := h.step hb

theorem RowW.drewN {V : World} {g : Nat} {f : Nat → Nat} (h : RowW V g f) (n : Nat) : RowW (V.drewN n) g f := h.step (below_drewN' (Below.refl _ _) n)

/-- a wide result -/
def WideR (v : Nat) (w : World) (e : Ending) (w' : World) : Prop := ∃ (g : Nat) (f : Nat → Nat), e = .returned (.slice (some ⟨g, 0, none⟩) 14 14) ∧ w.heap.size ≤ g ∧ RowW w' g f ∧ SmallW f ∧ valW f = v ∧ Below w.heap.size w w'

set_option maxRecDepth 100000 in
set_option maxHeartbeats 1600000 in
theorem r3_plus (gx gy : Nat) (x y : Nat → Nat) (w : World) (hx : RowW w gx x) (hy : RowW w gy y) (sx : SmallW x) (sy : SmallW y) (hs : valW x + valW y < 1000000000000000000000000000000000000000000) :
    Calls Tryd.prog 60 #[.slice (some ⟨gx, 0, none⟩) 14 14, .slice (some ⟨gy, 0, none⟩) 14 14] w (WideR (valW x + valW y) w) := by
  have hmk := run_make14
  have HX := Lib.hid (And.intro hx sx)
  have HY := Lib.hid (And.intro hy sy)
  have HS := Lib.hid hs
  clear hx hy sx sy hs
  go_enter Tryd.func60, Tryd.ntmps60
  go_wp2_with fail
  have hrow := RowW.new w 3
  have hbe := (Below.refl w.heap.size w).alloc (Nat.le_refl _) (.cells #[.int .i64 0, .int .i64 0, .int .i64 0, .int .i64 0, .int .i64 0, .int .i64 0, .int .i64 0, .int .i64 0, .int .i64 0, .int .i64 0, .int .i64 0, .int .i64 0, .int .i64 0, .int .i64 0] 3)
  refine forget_world (fun W => RowW W w.heap.size (fun _ => 0) ∧ Below w.heap.size w W) ⟨hrow, hbe⟩ ?_
  clear hrow hbe hmk
  rintro W ⟨hrow, hbe⟩
  have HR0 := Lib.hid hrow
  have HBE0 := Lib.hid hbe
  clear hrow hbe
  go_loopw [6, 7] (fun u v wr => ∃ (c k : Nat) (f : Nat → Nat), u = .int .i64 c ∧ v = .int .i64 k ∧ Hid (PlusI x y f k c) ∧ c ≤ 1 ∧ k ≤ 14 ∧ RowW wr w.heap.size f ∧ Below w.heap.size w wr) (fun _ v _ => 14 - (intOf v).toNat)
  case atStart => exact ⟨0, 0, _, rfl, rfl, Lib.hid (PlusI.start x y), by omega, by omega, HR0.out, HBE0.out⟩
  case round =>
    obtain ⟨c, k, f, rfl, rfl, hI, hc, hk14, hrf, hbf⟩ := hrel
    by_cases hk : k < 14
    · obtain ⟨p, hp⟩ : ∃ p, Hid (x k = p) := ⟨_, rfl⟩
      obtain ⟨q, hq⟩ : ∃ q, Hid (y k = q) := ⟨_, rfl⟩
      have p1 : p ≤ 999 := by have h1 := HX.out.2 k; have h2 := hp.out; omega
      have q1 : q ≤ 999 := by have h1 := HY.out.2 k; have h2 := hq.out; omega
      have cx := ((HX.out.1.old hbf).2 k hk).1
      have cy := ((HY.out.1.old hbf).2 k hk).1
      rw [hp.out] at cx
      rw [hq.out] at cy
      have hS := Lib.hid (hI.out.step HX.out.2 HY.out.2)
      rw [hp.out, hq.out] at hS
      have hfro := (hrf.2 k hk).2
      have hcel := (hrf.2 k hk).1
      have HRF := Lib.hid hrf
      have HBF := Lib.hid hbf
      have k1 : (0 : Int) ≤ (k : Int) := by omega
      have k2 : (k : Int) < 14 := by omega
      clear hrf hbf
      go_wp2_with fail
      go_quiet (fail)
      go_wp2_with fail
      go_roundw
      case rel => 
        have e1 : (((c + p + q) % 1000 : Nat) : Int) = ((c : Int) + p + q) % 1000 := by omega
        have hrs := (HRF.out.drewN nq).set hk ((c + p + q) % 1000)
        rw [e1] at hrs
        have hbs := (below_drewN' HBF.out nq).setCell (p := ⟨w.heap.size, k, none⟩) (Nat.le_refl _) (.int .i64 (((c : Int) + p + q) % 1000))
        exact ⟨(c + p + q) / 1000, k + 1, _, by go_num, by go_num, hS, by omega, by omega, hrs, hbs⟩
      case measure => simp [intOf]; omega
    · have hk' : k = 14 := by omega
      have HD := Lib.hid (hI.out.done hk' HS.out)
      go_wp2_with fail
      go_ret
      exact ⟨_, f, rfl, Nat.le_refl _, hrf, hI.out.small, HD.out, hbf⟩

set_option maxRecDepth 100000 in
set_option maxHeartbeats 1600000 in
theorem r3_minus (gx gy : Nat) (x y : Nat → Nat) (w : World) (hx : RowW w gx x) (hy : RowW w gy y) (sx : SmallW x) (sy : SmallW y) (hs : valW y ≤ valW x) :
    Calls Tryd.prog 62 #[.slice (some ⟨gx, 0, none⟩) 14 14, .slice (some ⟨gy, 0, none⟩) 14 14] w (WideR (valW x - valW y) w) := by
  have hmk := run_make14
  have HX := Lib.hid (And.intro hx sx)
  have HY := Lib.hid (And.intro hy sy)
  have HS := Lib.hid hs
  clear hx hy sx sy hs
  go_enter Tryd.func62, Tryd.ntmps62
  go_wp2_with fail
  have hrow := RowW.new w 3
  have hbe := (Below.refl w.heap.size w).alloc (Nat.le_refl _) (.cells #[.int .i64 0, .int .i64 0, .int .i64 0, .int .i64 0, .int .i64 0, .int .i64 0, .int .i64 0, .int .i64 0, .int .i64 0, .int .i64 0, .int .i64 0, .int .i64 0, .int .i64 0, .int .i64 0] 3)
  refine forget_world (fun W => RowW W w.heap.size (fun _ => 0) ∧ Below w.heap.size w W) ⟨hrow, hbe⟩ ?_
  clear hrow hbe hmk
  rintro W ⟨hrow, hbe⟩
  have HR0 := Lib.hid hrow
  have HBE0 := Lib.hid hbe
  clear hrow hbe
  go_loopw [6, 7] (fun u v wr => ∃ (c : Int) (k : Nat) (f : Nat → Nat), u = .int .i64 c ∧ v = .int .i64 k ∧ Hid (MinusI x y f k c) ∧ (-1 ≤ c ∧ c ≤ 0) ∧ k ≤ 14 ∧ RowW wr w.heap.size f ∧ Below w.heap.size w wr) (fun _ v _ => 14 - (intOf v).toNat)
  case atStart => exact ⟨0, 0, _, rfl, rfl, Lib.hid (MinusI.start x y), by omega, by omega, HR0.out, HBE0.out⟩
  case round =>
    obtain ⟨c, k, f, rfl, rfl, hI, ⟨hc1, hc2⟩, hk14, hrf, hbf⟩ := hrel
    by_cases hk : k < 14
    · obtain ⟨p, hp⟩ : ∃ p, Hid (x k = p) := ⟨_, rfl⟩
      obtain ⟨q, hq⟩ : ∃ q, Hid (y k = q) := ⟨_, rfl⟩
      have p1 : p ≤ 999 := by have h1 := HX.out.2 k; have h2 := hp.out; omega
      have q1 : q ≤ 999 := by have h1 := HY.out.2 k; have h2 := hq.out; omega
      have cx := ((HX.out.1.old hbf).2 k hk).1
      have cy := ((HY.out.1.old hbf).2 k hk).1
      rw [hp.out] at cx
      rw [hq.out] at cy
      have hfro := (hrf.2 k hk).2
      have hcel := (hrf.2 k hk).1
      have HRF := Lib.hid hrf
      have HBF := Lib.hid hbf
      have k1 : (0 : Int) ≤ (k : Int) := by omega
      have k2 : (k : Int) < 14 := by omega
      clear hrf hbf
      by_cases hn : c + p - q < 0
      · have hS := Lib.hid (hI.out.low HX.out.2 HY.out.2 (by rw [hp.out, hq.out]; exact hn))
        rw [hp.out, hq.out] at hS
        go_wp2_with fail
        go_quiet (fail)
        go_wp2_with fail
        go_roundw
        case rel =>
          have e1 : (((c + p - q + 1000).toNat : Nat) : Int) = c + p - q + 1000 := by omega
          have hrs := (HRF.out.drewN nq).set hk (c + p - q + 1000).toNat
          rw [e1] at hrs
          have hbs := (below_drewN' HBF.out nq).setCell (p := ⟨w.heap.size, k, none⟩) (Nat.le_refl _) (.int .i64 (c + p - q + 1000))
          exact ⟨-1, k + 1, _, rfl, by go_num, hS, by omega, by omega, hrs, hbs⟩
        case measure => simp [intOf]; omega
      · have hS := Lib.hid (hI.out.high HX.out.2 HY.out.2 (by rw [hp.out, hq.out]; exact hn))
        rw [hp.out, hq.out] at hS
        go_wp2_with fail
        go_quiet (fail)
        go_wp2_with fail
        go_roundw
        case rel =>
          have e1 : (((c + p - q).toNat : Nat) : Int) = c + p - q := by omega
          have hrs := (HRF.out.drewN nq).set hk (c + p - q).toNat
          rw [e1] at hrs
          have hbs := (below_drewN' HBF.out nq).setCell (p := ⟨w.heap.size, k, none⟩) (Nat.le_refl _) (.int .i64 (c + p - q))
          exact ⟨0, k + 1, _, rfl, by go_num, hS, by omega, by omega, hrs, hbs⟩
        case measure => simp [intOf]; omega
    · have hk' : k = 14 := by omega
      have HD := Lib.hid (hI.out.done hk' HS.out)
      go_wp2_with fail
      go_ret
      exact ⟨_, f, rfl, Nat.le_refl _, hrf, hI.out.small, HD.out, hbf⟩

set_option maxRecDepth 100000 in
set_option maxHeartbeats 1600000 in
theorem r3_order (gx gy : Nat) (x y : Nat → Nat) (w : World) (hx : RowW w gx x) (hy : RowW w gy y) (sx : SmallW x) (sy : SmallW y) :
    Calls Tryd.prog 61 #[.slice (some ⟨gx, 0, none⟩) 14 14, .slice (some ⟨gy, 0, none⟩) 14 14] w fun e w' => e = .returned (.int .i64 (sgn ((valW x : Int) - valW y))) ∧ Below w.heap.size w w' := by
  have HX := Lib.hid (And.intro hx sx)
  have HY := Lib.hid (And.intro hy sy)
  clear hx hy sx sy
  have HBE0 := Lib.hid (Below.refl w.heap.size w)
  go_enter Tryd.func61, Tryd.ntmps61
  go_wp2_with fail
  go_loopw [5] (fun v wr => ∃ (z : Int), v = .int .i64 z ∧ Hid (SameFrom x y (z + 1).toNat) ∧ -1 ≤ z ∧ z ≤ 13 ∧ Below w.heap.size w wr) (fun v _ => (intOf v + 1).toNat)
  case atStart => exact ⟨13, rfl, Lib.hid (SameFrom.start x y), by omega, by omega, HBE0.out⟩
  case round =>
    obtain ⟨z, rfl, hI, hz1, hz2, hbf⟩ := hrel
    by_cases hz : 0 ≤ z
    · obtain ⟨k, rfl⟩ := Int.eq_ofNat_of_zero_le hz
      have hk : k < 14 := by omega
      rw [show ((k : Int) + 1).toNat = k + 1 from by omega] at hI
      obtain ⟨p, hp⟩ : ∃ p, Hid (x k = p) := ⟨_, rfl⟩
      obtain ⟨q, hq⟩ : ∃ q, Hid (y k = q) := ⟨_, rfl⟩
      have cx := ((HX.out.1.old hbf).2 k hk).1
      have cy := ((HY.out.1.old hbf).2 k hk).1
      rw [hp.out] at cx
      rw [hq.out] at cy
      have HBF := Lib.hid hbf
      have k1 : (0 : Int) ≤ (k : Int) := by omega
      have k2 : (k : Int) < 14 := by omega
      clear hbf hz hz1 hz2
      rcases Nat.lt_trichotomy p q with h | h | h
      · have HL := Lib.hid (order_lt HX.out.2 hk hI.out (by rw [hp.out, hq.out]; exact h))
        have HV : Hid (sgn ((valW x : Int) - valW y) = -1) := Lib.hid (by unfold sgn; rw [if_pos (by have := HL.out; omega)])
        have d1 : decide (p < q) = true := decide_eq_true h
        go_wp2_with fail
        go_quiet (fail)
        go_wp2_with fail
        go_ret
        exact ⟨ret_int HV.out.symm, by first | exact below_drewN' (below_drewN' HBF.out _) _ | exact below_drewN' HBF.out _⟩
      · subst h
        have HN := Lib.hid (hI.out.step hk (hp.out.trans hq.out.symm))
        go_wp2_with fail
        go_quiet (fail)
        go_wp2_with fail
        go_quiet (fail)
        go_wp2_with fail
        go_roundw
        case rel => exact ⟨(k : Int) - 1, rfl, by rw [show ((k : Int) - 1 + 1).toNat = k from by omega]; exact HN, by omega, by omega, by first | exact below_drewN' (below_drewN' HBF.out _) _ | exact below_drewN' HBF.out _⟩
        case measure => simp [intOf]
      · have HL := Lib.hid (order_lt HY.out.2 hk hI.out.symm (by rw [hp.out, hq.out]; exact h))
        have HV : Hid (sgn ((valW x : Int) - valW y) = 1) := Lib.hid (by unfold sgn; rw [if_neg (by have := HL.out; omega), if_pos (by have := HL.out; omega)])
        have d1 : decide (p < q) = false := decide_eq_false (by omega)
        have d2 : decide (q < p) = true := decide_eq_true h
        go_wp2_with fail
        go_quiet (fail)
        go_wp2_with fail
        go_quiet (fail)
        go_wp2_with fail
        go_ret
        exact ⟨ret_int HV.out.symm, by first | exact below_drewN' (below_drewN' HBF.out _) _ | exact below_drewN' HBF.out _⟩
    · obtain rfl : z = -1 := by omega
      have HD := Lib.hid (SameFrom.done hI.out)
      have HV : Hid (sgn ((valW x : Int) - valW y) = 0) := Lib.hid (by have h := HD.out; rw [h, Int.sub_self]; rfl)
      go_wp2_with fail
      go_ret
      exact ⟨ret_int HV.out.symm, hbf⟩

end Go.Proofs.YtemmgehaddghfaaDoor
