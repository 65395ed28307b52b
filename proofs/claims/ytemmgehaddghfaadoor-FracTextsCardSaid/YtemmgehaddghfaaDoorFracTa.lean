/- THE WALKS over the reference's wide numbers: parts, narrow. -/
import Derived.Test.YtemmgehaddghfaaDoorFracT
namespace Go.Proofs.YtemmgehaddghfaaDoor
open Go.RowKit

theorem wrap_nat {t : Nat} (h : t < 1000) : IntKind.i64.wrap (t : Int) = t := IntWalk.i64_in _ ⟨by omega, by omega⟩

/-- a wide result and a number -/
def WideR2 (v : Nat) (r : Nat) (w : World) (e : Ending) (w' : World) : Prop := ∃ (g : Nat) (f : Nat → Nat), e = .returned (.tuple #[.slice (some ⟨g, 0, none⟩) 14 14, .int .i64 r]) ∧ w.heap.size ≤ g ∧ RowW w' g f ∧ SmallW f ∧ valW f = v ∧ Below w.heap.size w w'

set_option maxRecDepth 100000 in
set_option maxHeartbeats 1600000 in
theorem r3_parts (gx : Nat) (x : Nat → Nat) (d : Nat) (w : World) (hx : RowW w gx x) (sx : SmallW x) (hd1 : 1 ≤ d) (hd2 : d ≤ 1000000000000000) :
    Calls Tryd.prog 46 #[.slice (some ⟨gx, 0, none⟩) 14 14, .int .i64 d] w (WideR2 (valW x / d) (valW x % d) w) := by
  have hmk := run_make14
  have HX := Lib.hid (And.intro hx sx)
  clear hx sx
  have hd0 : ((d : Int) == 0) = false := beq_eq_false_iff_ne.2 (by omega)
  have hd00 : ¬ (d : Int) = 0 := by omega
  go_enter Tryd.func46, Tryd.ntmps46
  go_wp2_with fail
  have hrow := RowW.new w 3
  have hbe := (Below.refl w.heap.size w).alloc (Nat.le_refl _) (.cells #[.int .i64 0, .int .i64 0, .int .i64 0, .int .i64 0, .int .i64 0, .int .i64 0, .int .i64 0, .int .i64 0, .int .i64 0, .int .i64 0, .int .i64 0, .int .i64 0, .int .i64 0, .int .i64 0] 3)
  refine forget_world (fun W => RowW W w.heap.size (fun _ => 0) ∧ Below w.heap.size w W) ⟨hrow, hbe⟩ ?_
  clear hrow hbe hmk
  rintro W ⟨hrow, hbe⟩
  have HR0 := Lib.hid hrow
  have HBE0 := Lib.hid hbe
  clear hrow hbe
  go_loopw [7, 8] (fun u v wr => ∃ (r : Nat) (z : Int) (f : Nat → Nat), u = .int .i64 r ∧ v = .int .i64 z ∧ Hid (PartI x f d (z + 1).toNat r) ∧ r < d ∧ -1 ≤ z ∧ z ≤ 13 ∧ RowW wr w.heap.size f ∧ Below w.heap.size w wr) (fun _ v _ => (intOf v + 1).toNat)
  case atStart => exact ⟨0, 13, _, rfl, rfl, Lib.hid (PartI.start x (by omega)), by omega, by omega, by omega, HR0.out, HBE0.out⟩
  case round =>
    obtain ⟨r, z, f, rfl, rfl, hI, hr, hz1, hz2, hrf, hbf⟩ := hrel
    by_cases hz : 0 ≤ z
    · obtain ⟨k, rfl⟩ := Int.eq_ofNat_of_zero_le hz
      have hk : k < 14 := by omega
      rw [show ((k : Int) + 1).toNat = k + 1 from by omega] at hI
      obtain ⟨p, hp⟩ : ∃ p, Hid (x k = p) := ⟨_, rfl⟩
      have p1 : p ≤ 999 := by have h1 := HX.out.2 k; have h2 := hp.out; omega
      have cx := ((HX.out.1.old hbf).2 k hk).1
      rw [hp.out] at cx
      have hS := Lib.hid (hI.out.step HX.out.2 hk)
      rw [hp.out] at hS
      have hfro := (hrf.2 k hk).2
      have hcel := (hrf.2 k hk).1
      have HRF := Lib.hid hrf
      have HBF := Lib.hid hbf
      have k1 : (0 : Int) ≤ (k : Int) := by omega
      have k2 : (k : Int) < 14 := by omega
      have t1 : ((r : Int) * 1000 + p).tdiv d = (((r * 1000 + p) / d : Nat) : Int) := by rw [Int.tdiv_eq_ediv_of_nonneg (by omega)]; simp
      have t2 : ((r : Int) * 1000 + p).tmod d = (((r * 1000 + p) % d : Nat) : Int) := by rw [Int.tmod_eq_emod_of_nonneg (by omega)]; simp
      have hv : (r * 1000 + p) / d < 1000 := by have h := hS.out.small k; rw [updW_at] at h; exact h
      have J1 : IntKind.i64.wrap (((r : Int) * 1000 + p) / d) = (((r * 1000 + p) / d : Nat) : Int) := by rw [show ((r : Int) * 1000 + p) / d = (((r * 1000 + p) / d : Nat) : Int) from by simp]; exact wrap_nat hv
      have hl : (r * 1000 + p) % d < d := Nat.mod_lt _ (by omega)
      have hrs := HRF.out.set hk ((r * 1000 + p) / d)
      have hbs := HBF.out.setCell (p := ⟨w.heap.size, k, none⟩) (Nat.le_refl _) (.int .i64 (((r * 1000 + p) / d : Nat) : Int))
      have HRS := Lib.hid hrs
      have HBS := Lib.hid hbs
      clear hrs hbs hrf hbf hz hz1 hz2
      go_wp2_with fail
      go_roundw
      case rel => exact ⟨(r * 1000 + p) % d, (k : Int) - 1, _, by first | rfl | simp, rfl, by rw [show ((k : Int) - 1 + 1).toNat = k from by omega]; exact hS, hl, by omega, by omega, HRS.out, HBS.out⟩
      case measure => simp [intOf]
    · obtain rfl : z = -1 := by omega
      have HD := Lib.hid (PartI.done hI.out)
      obtain rfl : r = valW x % d := HD.out.2
      go_wp2_with fail
      go_ret2
      exact ⟨_, f, rfl, Nat.le_refl _, hrf, hI.out.small, HD.out.1, hbf⟩

/-- a number in range, or nothing -/
def narB (v : Nat) : Bool := decide (v ≤ 1000000000000000)
def narV (v : Nat) : Nat := if narB v then v else 0

set_option maxRecDepth 100000 in
set_option maxHeartbeats 1600000 in
theorem r3_narrow (gx : Nat) (x : Nat → Nat) (w : World) (hx : RowW w gx x) (sx : SmallW x) :
    Calls Tryd.prog 47 #[.slice (some ⟨gx, 0, none⟩) 14 14] w fun e w' => e = .returned (.tuple #[.int .i64 (narV (valW x)), .bool (narB (valW x))]) ∧ Below w.heap.size w w' := by
  have HX := Lib.hid (And.intro hx sx)
  clear hx sx
  have HBE0 := Lib.hid (Below.refl w.heap.size w)
  obtain ⟨vv, hvv⟩ : ∃ v, Hid (narV (valW x) = v) := ⟨_, rfl⟩
  obtain ⟨bb, hbb⟩ : ∃ b, Hid (narB (valW x) = b) := ⟨_, rfl⟩
  rw [hvv.out, hbb.out]
  go_enter Tryd.func47, Tryd.ntmps47
  go_wp2_with fail
  go_loopw [4, 5] (fun u v wr => ∃ (n : Nat) (z : Int), u = .int .i64 n ∧ v = .int .i64 z ∧ Hid (n = hiW x (z + 1).toNat) ∧ n ≤ 1000000000000999 ∧ -1 ≤ z ∧ z ≤ 13 ∧ Below w.heap.size w wr) (fun _ v _ => (intOf v + 1).toNat)
  case atStart => exact ⟨0, 13, rfl, rfl, Lib.hid (hiW_end x).symm, by omega, by omega, by omega, HBE0.out⟩
  case round =>
    obtain ⟨n, z, rfl, rfl, hI, hn, hz1, hz2, hbf⟩ := hrel
    by_cases hz : 0 ≤ z
    · obtain ⟨k, rfl⟩ := Int.eq_ofNat_of_zero_le hz
      have hk : k < 14 := by omega
      rw [show ((k : Int) + 1).toNat = k + 1 from by omega] at hI
      by_cases hbig : 1000000000000 < n
      · have HR : Hid (bb = false ∧ vv = 0) := by
          have h := narrow_big hk (by rw [← hI.out]; exact hbig)
          have h1 : narB (valW x) = false := decide_eq_false (by omega)
          have h2 := hbb.out
          have h3 := hvv.out
          refine ⟨h2.symm.trans h1, h3.symm.trans ?_⟩
          unfold narV; rw [h1]; rfl
        go_wp2_with fail
        go_ret2
        refine ⟨?_, hbf⟩
        rw [HR.out.1, HR.out.2]
        rfl
      · obtain ⟨p, hp⟩ : ∃ p, Hid (x k = p) := ⟨_, rfl⟩
        have p1 : p ≤ 999 := by have h1 := HX.out.2 k; have h2 := hp.out; omega
        have cx := ((HX.out.1.old hbf).2 k hk).1
        rw [hp.out] at cx
        have hS : Hid (n * 1000 + p = hiW x k) := by
          have h1 := hI.out; have h2 := hp.out
          show _ = _
          rw [hiW_step x hk, ← h1, h2]; omega
        have k1 : (0 : Int) ≤ (k : Int) := by omega
        have k2 : (k : Int) < 14 := by omega
        go_wp2_with fail
        go_roundw
        case rel => exact ⟨n * 1000 + p, (k : Int) - 1, by go_num, rfl, by rw [show ((k : Int) - 1 + 1).toNat = k from by omega]; exact hS, by omega, by omega, by omega, hbf⟩
        case measure => simp [intOf]
    · obtain rfl : z = -1 := by omega
      have HV : Hid (valW x = n) := Lib.hid (by have h := hI.out; rw [h]; exact (hiW_zero x).symm)
      by_cases hbig : 1000000000000000 < n
      · have HR : Hid (bb = false ∧ vv = 0) := by
          have h1 : narB (valW x) = false := decide_eq_false (by have := HV.out; omega)
          have h2 := hbb.out
          have h3 := hvv.out
          refine ⟨h2.symm.trans h1, h3.symm.trans ?_⟩
          unfold narV; rw [h1]; rfl
        go_wp2_with fail
        go_ret2
        refine ⟨?_, hbf⟩
        rw [HR.out.1, HR.out.2]
        rfl
      · have HR : Hid (bb = true ∧ vv = n) := by
          have h1 : narB (valW x) = true := decide_eq_true (by have := HV.out; omega)
          have h2 := hbb.out
          have h3 := hvv.out
          have h4 := HV.out
          refine ⟨h2.symm.trans h1, h3.symm.trans ?_⟩
          unfold narV; rw [h1, h4]; rfl
        go_wp2_with fail
        go_ret2
        refine ⟨?_, hbf⟩
        rw [HR.out.1, HR.out.2]
        rfl

end Go.Proofs.YtemmgehaddghfaaDoor
