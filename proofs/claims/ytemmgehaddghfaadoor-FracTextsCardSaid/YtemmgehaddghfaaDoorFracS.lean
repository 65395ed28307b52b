/- THE WALKS over the reference's wide numbers: times. -/
import Derived.Test.YtemmgehaddghfaaDoorFracY
import Derived.Test.YtemmgehaddghfaaDoorPlainW
namespace Go.Proofs.YtemmgehaddghfaaDoor
open Go.RowKit

/-- a block of fourteen digits that may be written -/
def RowW (V : World) (g : Nat) (f : Nat → Nat) : Prop := g < V.heap.size ∧ ∀ i, i < 14 → V.cell? ⟨g, i, none⟩ = some (.int .i64 ((f i : Nat) : Int)) ∧ V.frozen? ⟨g, i, none⟩ = false

theorem RowW.step {V V' : World} {g : Nat} {f : Nat → Nat} (h : RowW V g f) (hb : Below V.heap.size V V') : RowW V' g f := by
  obtain ⟨h0, h1⟩ := h
  obtain ⟨hc, hf⟩ := bcell hb
  have hs := hb.size
  exact ⟨by omega, fun i hi => ⟨(hc _ _ h0).trans (h1 i hi).1, (hf _ _ h0).trans (h1 i hi).2⟩⟩

theorem RowW.set {V : World} {g : Nat} {f : Nat → Nat} (h : RowW V g f) {k : Nat} (hk : k < 14) (v : Nat) : RowW (V.setCell ⟨g, k, none⟩ (.int .i64 (v : Int))) g (updW f k v) := by
  obtain ⟨h0, h1⟩ := h
  refine ⟨by simpa using h0, fun i hi => ?_⟩
  obtain ⟨a, b⟩ := h1 i hi
  obtain ⟨a', b'⟩ := h1 k hk
  by_cases e : i = k
  · subst e
    rw [updW_at]
    exact ⟨by go_simp, by go_simp⟩
  · rw [updW_ne f v e]
    have e2 : ¬ k = i := fun q => e q.symm
    exact ⟨by go_simp, by go_simp⟩

set_option maxRecDepth 100000 in
theorem run_make14 (w : World) : (Instr.makeSlice 51 (.int .i64 14) (.int .i64 14)).run Tryd.prog w = .ok (.slice (some ⟨w.heap.size, 0, none⟩) 14 14) (w.alloc (.cells #[.int .i64 0, .int .i64 0, .int .i64 0, .int .i64 0, .int .i64 0, .int .i64 0, .int .i64 0, .int .i64 0, .int .i64 0, .int .i64 0, .int .i64 0, .int .i64 0, .int .i64 0, .int .i64 0] 3)) := by kernel_rfl

theorem RowW.new (w : World) (t : TypeId) : RowW (w.alloc (.cells #[.int .i64 0, .int .i64 0, .int .i64 0, .int .i64 0, .int .i64 0, .int .i64 0, .int .i64 0, .int .i64 0, .int .i64 0, .int .i64 0, .int .i64 0, .int .i64 0, .int .i64 0, .int .i64 0] t)) w.heap.size (fun _ => 0) := by
  refine ⟨by simp, fun i hi => ?_⟩
  match i, hi with
  | 0, _ | 1, _ | 2, _ | 3, _ | 4, _ | 5, _ | 6, _ | 7, _ | 8, _ | 9, _ | 10, _ | 11, _ | 12, _ | 13, _ => exact ⟨by go_simp, by go_simp⟩

set_option maxRecDepth 100000 in
set_option maxHeartbeats 1600000 in
theorem r3_times (a b : Nat) (w : World) (ha : a ≤ 1000000000000000) (hb : b ≤ 1000000000000000) :
    Calls Tryd.prog 45 #[.int .i64 a, .int .i64 b] w fun e w' => ∃ (g : Nat) (f : Nat → Nat), e = .returned (.slice (some ⟨g, 0, none⟩) 14 14) ∧ w.heap.size ≤ g ∧ RowW w' g f ∧ SmallW f ∧ valW f = a * b ∧ Below w.heap.size w w' := by
  go_enter Tryd.func45, Tryd.ntmps45
  have hmk := run_make14
  have hab : a * b ≤ 1000000000000000000000000000000 := Nat.le_trans (Nat.mul_le_mul ha hb) (by decide)
  have HAB := Lib.hid hab
  have HA := Lib.hid ha
  have HB := Lib.hid hb
  go_wp2_with fail
  have hrow := RowW.new w 3
  have hbe := (Below.refl w.heap.size w).alloc (Nat.le_refl _) (.cells #[.int .i64 0, .int .i64 0, .int .i64 0, .int .i64 0, .int .i64 0, .int .i64 0, .int .i64 0, .int .i64 0, .int .i64 0, .int .i64 0, .int .i64 0, .int .i64 0, .int .i64 0, .int .i64 0] 3)
  refine forget_world (fun W => RowW W w.heap.size (fun _ => 0) ∧ Below w.heap.size w W) ⟨hrow, hbe⟩ ?_
  clear hrow hbe hmk hab ha hb
  rintro W ⟨hrow, hbe⟩
  go_loopw [0, 6] (fun u v wr => ∃ (a' i : Nat) (f : Nat → Nat), u = .int .i64 a' ∧ v = .int .i64 i ∧ Hid (OuterI f i a' b a) ∧ a' ≤ 1000000000000000 ∧ i ≤ 14 ∧ RowW wr w.heap.size f ∧ Below w.heap.size w wr) (fun u _ _ => (intOf u).toNat)
  case atStart => exact ⟨a, 0, _, rfl, rfl, Lib.hid (OuterI.start a b), HA.out, by omega, hrow, hbe⟩
  case round =>
    obtain ⟨a', i, f, rfl, rfl, hO, ha', hi14, hrow', hbe'⟩ := hrel
    clear hrow hbe
    by_cases h0 : 0 < a'
    · have hi : i ≤ 5 := hO.out.room HA.out h0
      have h0' : decide (0 < (a' : Int)) = true := decide_eq_true (by omega)
      have hE := Lib.hid hO.out.enter
      have hTT : Hid (valW f + 1000 ^ i * (a' % 1000 * b) ≤ 1000000000000000000000000000000) := Lib.hid (Nat.le_trans hO.out.total HAB.out)
      have HOO : Hid (∀ (g : Nat → Nat) (k : Nat), InnerI g i k 0 0 (a' % 1000) b (valW f + 1000 ^ i * (a' % 1000 * b)) → OuterI g (i + 1) (a' / 1000) b a) := fun g k hI => hO.out.leave hI
      generalize valW f + 1000 ^ i * (a' % 1000 * b) = T at *
      clear hO
      go_wp2_with fail
      obtain ⟨wo, rfl⟩ : ∃ wo : World, wo = wr := ⟨_, rfl⟩
      have HR0 := Lib.hid hrow'
      have HBE0 := Lib.hid hbe'
      clear hrow' hbe'
      go_loopw [8, 9, 10] (fun u v x wx => ∃ (c y k : Nat) (g : Nat → Nat), u = .int .i64 c ∧ v = .int .i64 y ∧ x = .int .i64 k ∧ Hid (InnerI g i k c y (a' % 1000) b T) ∧ c ≤ 1000000000000000 ∧ y ≤ 1000 ∧ k ≤ 14 ∧ RowW wx w.heap.size g ∧ Below w.heap.size w wx) (fun _ _ x _ => 14 - (intOf x).toNat)
      case atStart => exact ⟨b, 0, i, f, rfl, rfl, rfl, hE, HB.out, by omega, by omega, HR0.out, HBE0.out⟩
      case round =>
        obtain ⟨c, y, k, g, rfl, rfl, rfl, hI, hc, hy, hk14, hrg, hbg⟩ := hrel
        by_cases hgo : 0 < c ∨ 0 < y
        · have hk : k < 14 := hI.out.room HB.out hi hTT.out hgo
          obtain ⟨z, hz⟩ : ∃ z, Hid (g k = z) := ⟨_, rfl⟩
          have hz1 : z ≤ 999 := by have h1 := hI.out.small k; have h2 := hz.out; omega
          have hcell : _ ∧ _ := hrg.2 k hk
          rw [hz.out] at hcell
          obtain ⟨hcell, hfro⟩ := hcell
          have hgs := hrg.1
          have hS := Lib.hid (hI.out.step (Nat.mod_lt _ (by omega)) hk)
          rw [hz.out] at hS
          have hm : a' % 1000 * (c % 1000) ≤ 999 * 999 := Nat.mul_le_mul (by omega) (by omega)
          obtain ⟨m, hmm⟩ : ∃ m : Nat, Hid (a' % 1000 * (c % 1000) = m) := ⟨_, rfl⟩
          rw [hmm.out] at hS hm
          have hm1 : (a' : Int) % 1000 * ((c : Int) % 1000) = (m : Int) := by have := hmm.out; rw [← this]; simp
          have J1 : IntKind.i64.wrap ((a' : Int) % 1000 * ((c : Int) % 1000)) = (m : Int) := by rw [hm1]; exact IntWalk.i64_in _ ⟨by omega, by omega⟩
          have hrs := hrg.set hk ((y + z + m) % 1000)
          have e1 : (((y + z + m) % 1000 : Nat) : Int) = ((y : Int) + z + m) % 1000 := by omega
          rw [e1] at hrs
          have hbs := hbg.setCell (p := ⟨w.heap.size, k, none⟩) (Nat.le_refl _) (.int .i64 (((y : Int) + z + m) % 1000))
          have HRS := Lib.hid hrs
          have HBS := Lib.hid hbs
          clear hrs hbs hrg hbg e1 hm1
          rcases Nat.eq_zero_or_pos c with hc0 | hc0
          · subst hc0
            obtain rfl : m = 0 := by have h := hmm.out; simpa using h.symm
            have HRS2 : Hid (RowW (wr.setCell ⟨w.heap.size, k, none⟩ (.int .i64 (((y : Int) + z) % 1000))) w.heap.size (updW g k ((y + z) % 1000))) := Lib.hid (by have h := HRS.out; simpa using h)
            have HBS2 : Hid (Below w.heap.size w (wr.setCell ⟨w.heap.size, k, none⟩ (.int .i64 (((y : Int) + z) % 1000)))) := Lib.hid (by have h := HBS.out; simpa using h)
            have hS2 : Hid (InnerI (updW g k ((y + z) % 1000)) i (k + 1) 0 ((y + z) / 1000) (a' % 1000) b T) := Lib.hid (by have h := hS.out; simpa using h)
            have d1 : decide (0 < ((0 : Nat) : Int)) = false := by decide
            have d2 : decide (0 < (y : Int)) = true := decide_eq_true (by omega)
            go_wp2_with fail
            go_roundw
            case rel => exact ⟨0, (y + z) / 1000, k + 1, _, by go_num, by go_num, by go_num, hS2, by omega, by omega, by omega, HRS2.out, HBS2.out⟩
            case measure => simp [intOf]; omega
          · have d1 : decide (0 < (c : Int)) = true := decide_eq_true (by omega)
            go_wp2_with fail
            go_roundw
            case rel => exact ⟨c / 1000, (y + z + m) / 1000, k + 1, _, by go_num, by go_num, by go_num, hS, by omega, by omega, by omega, HRS.out, HBS.out⟩
            case measure => simp [intOf]; omega
        · obtain rfl : c = 0 := by omega
          obtain rfl : y = 0 := by omega
          have hO2 := Lib.hid (HOO.out g k hI.out)
          go_wp2_with fail
          go_roundw
          case rel => exact ⟨a' / 1000, i + 1, g, by go_num, by go_num, hO2, by omega, by omega, hrg, hbg⟩
          case measure => simp [intOf]; omega
    · obtain rfl : a' = 0 := by omega
      go_wp2_with fail
      go_ret
      exact ⟨_, f, rfl, Nat.le_refl _, hrow', hO.out.small, hO.out.done, hbe'⟩

end Go.Proofs.YtemmgehaddghfaaDoor
