/- PARTS OF THE WALKS, joined: SaE, PtG, MapOf, PtE, PtF, Copied. -/
import Derived.Test.YtigmdddeplnciaaGreatDoorV11
import Derived.Test.YtigmdddeplnciaaGreatDoorV09
import Derived.Test.YtigmdddeplnciaaGreatDoorV02
import Derived.Test.YtigmdddeplnciaaGreatDoorV06
import Derived.Maps.OwnSet
import Derived.Maps.OwnOps
import Derived.Test.YtigmdddeplnciaaGreatDoorV00
import Derived.Test.YtigmdddeplnciaaGreatDoorV10
import Derived.Test.YtigmdddeplnciaaGreatDoorV05
import Derived.Test.YtigmdddeplnciaaGreatDoorV08
/- THE WALK over slices.stableCmpFunc and slices.SortStableFunc, at entries. -/
namespace Go.Proofs.YtigmdddeplnciaaGreatDoor
open Go.RowKit Go.Sort
theorem firstL_step {lt : Sh → Sh → Bool} {bs A b : Nat} {d e : Array Sh} (hq : ∃ q, A = q * bs) (hb : b = A + bs) (h : First lt bs A d) (hp : PermIn A b d e) (hs : SortedIn lt A b e) : First lt bs b e ∧ ∃ q, b = q * bs := by
  obtain ⟨q, rfl⟩ := hq
  subst hb
  have e1 : (q + 1) * bs = q * bs + bs := by rw [Nat.add_mul, Nat.one_mul]
  have := h.step hp hs
  rw [e1] at this
  exact ⟨this, q + 1, e1.symm⟩
theorem firstL_last {lt : Sh → Sh → Bool} {bs n A : Nat} {d e : Array Sh} (hq : ∃ q, A = q * bs) (h : First lt bs A d) (hn : n < A + bs) (hp : PermIn A n d e) (hs : SortedIn lt A n e) : Blocks lt bs n e := by
  obtain ⟨q, rfl⟩ := hq
  exact h.last hn hp hs
theorem levelL_step {lt : Sh → Sh → Bool} {bs n A b : Nat} {d e : Array Sh} (hb : 0 < bs) (hq : ∃ q, A = q * (2 * bs)) (hB : b = A + 2 * bs) (h : Level lt bs n A d) (hn : b ≤ n) (hp : PermIn A b d e) (hs : SortedIn lt A b e) : Level lt bs n b e ∧ ∃ q, b = q * (2 * bs) := by
  obtain ⟨q, rfl⟩ := hq
  subst hB
  have e1 : (q + 1) * (2 * bs) = q * (2 * bs) + 2 * bs := by rw [Nat.add_mul, Nat.one_mul]
  have := h.step hb hn hp hs
  rw [e1] at this
  exact ⟨this, q + 1, e1.symm⟩
theorem levelL_last {lt : Sh → Sh → Bool} {bs n A : Nat} {d e : Array Sh} (hq : ∃ q, A = q * (2 * bs)) (h : Level lt bs n A d) (hn : n < A + 2 * bs) (ha : A ≤ n) (hp : PermIn A n d e) (hs : SortedIn lt A n e) : Blocks lt (bs * 2) n e := by
  obtain ⟨q, rfl⟩ := hq
  exact h.last hn ha hp hs
theorem levelL_runs {lt : Sh → Sh → Bool} {bs n A : Nat} {d : Array Sh} (hq : ∃ q, A = q * (2 * bs)) (h : Level lt bs n A d) : SortedIn lt A (min (A + bs) n) d ∧ SortedIn lt (A + bs) (min (A + bs + bs) n) d := by
  obtain ⟨q, rfl⟩ := hq
  exact h.runs
set_option maxRecDepth 100000 in
set_option maxHeartbeats 6400000 in
theorem sm_stable (w0 : World) (B g cap : Nat) (cf : Sh → Sh → Int) (f : Nat) (cb : Array Value) (d : Array Sh) (w : World)
    (eg : ∀ args w, (callFunc f args).run Tryz.prog w = .ok (.enter f args) w) (hcmp : CmpOkM Tryz.prog f cb cf w0 g) (hS : SWO (ltM cf)) (hs : SortM w0 B g cap 65 d w) (hsz : d.size ≤ 8000000) :
    Calls Tryz.prog 111 #[.slice (some ⟨g, 0, none⟩) d.size cap, .int .i64 d.size, .func (.func f) #[] cb] w fun e w' => e = .returned (.tuple #[]) ∧ ∃ d', SortM w0 B g cap 65 d' w' ∧ PermIn 0 d.size d d' ∧ SortedIn (ltM cf) 0 d.size d' := by
  have HI := Lib.hid (fun (e : Array Sh) (W : World) (a b : Nat) (h : SortM w0 B g cap 65 e W) (hz : e.size = d.size) (hab : a ≤ b) (hb : b ≤ d.size) => (by
    rw [← hz]; exact sm_insert w0 B g cap cf f cb e a b W eg hcmp hS h hab (hz ▸ hb) (hz ▸ hsz) : Calls Tryz.prog 142 #[.slice (some ⟨g, 0, none⟩) d.size cap, .int .i64 a, .int .i64 b, .func (.func f) #[] cb] W fun r w' => r = .returned (.tuple #[]) ∧ ∃ d', SortM w0 B g cap 65 d' w' ∧ PermIn a b e d' ∧ SortedIn (ltM cf) a b d'))
  have HY := Lib.hid (fun (e : Array Sh) (W : World) (a m b : Nat) (h : SortM w0 B g cap 65 e W) (hz : e.size = d.size) (h1 : a < m) (h2 : m < b) (hb : b ≤ d.size) (hl : SortedIn (ltM cf) a m e) (hr : SortedIn (ltM cf) m b e) => (by
    rw [← hz]; exact sm_sym w0 B g cap cf f cb e a m b W eg hcmp hS h h1 h2 (hz ▸ hb) (hz ▸ hsz) hl hr : Calls Tryz.prog 143 #[.slice (some ⟨g, 0, none⟩) d.size cap, .int .i64 a, .int .i64 m, .int .i64 b, .func (.func f) #[] cb] W fun r w' => r = .returned (.tuple #[]) ∧ ∃ d', SortM w0 B g cap 65 d' w' ∧ PermIn a b e d' ∧ SortedIn (ltM cf) a b d'))
  have HS := Lib.hid hs
  clear hs hcmp hS
  obtain ⟨n, hn⟩ : ∃ n, n = d.size := ⟨_, rfl⟩
  have HN := Lib.hid hn
  have hn1 : n ≤ d.size := by omega
  have hn2 : d.size ≤ n := by omega
  rw [← hn] at HI HY ⊢
  rw [← hn] at hsz
  clear hn hn1 hn2
  go_enter Tryz.func111, Tryz.ntmps111
  go_wp2_with fail
  go_loopw [7, 8] (fun u v W => ∃ (A b : Nat) (e : Array Sh), u = .int .i64 A ∧ v = .int .i64 b ∧ A ≤ n ∧ A + 20 ≤ b ∧ b ≤ A + 20 ∧ Hid (∃ q, A = q * 20) ∧ Hid (First (ltM cf) 20 A e) ∧ Hid (SortM w0 B g cap 65 e W) ∧ Hid (e.size = n) ∧ Hid (PermIn 0 n d e)) (fun _ v _ => n + 20 - (intOf v).toNat)
  case atStart => exact ⟨0, 20, d, rfl, rfl, Nat.zero_le _, Nat.le_refl _, Nat.le_refl _, Lib.hid ⟨0, by omega⟩, Lib.hid (fun q hq => by omega), HS, Lib.hid HN.out.symm, Lib.hid (permIn_refl _ _ _)⟩
  case round =>
    obtain ⟨A, b, e, rfl, rfl, hAn, hb1, hb2, hq, hf, he, hz, hp⟩ := hrel
    have HB := Lib.hid (show b = A + 20 by omega)
    by_cases hlt : b ≤ n
    · have HC := Lib.hid (HI.out e wr A b he.out hz.out (by omega) hlt)
      go_wp2_with (go_at_call 142; refine HC.out.mono ?_; rintro r w1 ⟨rfl, d1, hs1, hp1, hso1⟩; replace hs1 := Lib.hid hs1; replace hp1 := Lib.hid hp1; replace hso1 := Lib.hid hso1)
      go_roundw
      case rel =>
        have HF := firstL_step hq.out HB.out hf.out hp1.out hso1.out
        exact ⟨b, b + 20, d1, rfl, congrArg (Value.int .i64) (by omega), hlt, Nat.le_refl _, Nat.le_refl _, Lib.hid HF.2, Lib.hid HF.1, hs1, Lib.hid (hp1.out.1.trans hz.out), Lib.hid (permIn_trans _ _ _ 0 n hp.out (permIn_mono _ _ _ _ _ _ (Nat.zero_le _) hlt (by rw [hz.out]; exact Nat.le_refl _) hp1.out))⟩
      case measure => simp [intOf]; omega
    · have HC := Lib.hid (HI.out e wr A n he.out hz.out hAn (Nat.le_refl _))
      go_wp2_with (go_at_call 142; refine HC.out.mono ?_; rintro r w1 ⟨rfl, d1, hs1, hp1, hso1⟩; replace hs1 := Lib.hid hs1; replace hp1 := Lib.hid hp1; replace hso1 := Lib.hid hso1)
      have hbl := Lib.hid (firstL_last hq.out hf.out (by omega) hp1.out hso1.out)
      have hz1 := Lib.hid (hp1.out.1.trans hz.out)
      have hp2 := Lib.hid (permIn_trans _ _ _ 0 n hp.out (permIn_mono _ _ _ _ _ _ (Nat.zero_le _) (Nat.le_refl _) (by rw [hz.out]; exact Nat.le_refl _) hp1.out))
      clear hp hf hq he HB HC
      go_loopw [6, 7, 8] (fun u v x W => ∃ (bs : Nat) (e : Array Sh) (p q : Int), u = .int .i64 bs ∧ v = .int .i64 p ∧ x = .int .i64 q ∧ 20 ≤ bs ∧ bs ≤ 16000000 ∧ Hid (Blocks (ltM cf) bs n e) ∧ Hid (SortM w0 B g cap 65 e W) ∧ Hid (e.size = n) ∧ Hid (PermIn 0 n d e)) (fun u _ _ _ => n - (intOf u).toNat)
      case atStart => exact ⟨20, d1, _, _, rfl, rfl, rfl, Nat.le_refl _, by omega, hbl, hs1, hz1, hp2⟩
      case round =>
        clear hbl hs1 hz1 hp2 hp1 hso1
        obtain ⟨bs, e, p, q, rfl, rfl, rfl, hbs, hbs2, hbl, he, hz, hp⟩ := hrel
        by_cases hlt2 : bs < n
        · go_wp2_with fail
          go_loopw [7, 8] (fun u v W => ∃ (A b : Nat) (e : Array Sh), u = .int .i64 A ∧ v = .int .i64 b ∧ A ≤ n ∧ A + 2 * bs ≤ b ∧ b ≤ A + 2 * bs ∧ Hid (∃ q, A = q * (2 * bs)) ∧ Hid (Level (ltM cf) bs n A e) ∧ Hid (SortM w0 B g cap 65 e W) ∧ Hid (e.size = n) ∧ Hid (PermIn 0 n d e)) (fun _ v _ => n + 2 * bs - (intOf v).toNat)
          case atStart => exact ⟨0, 2 * bs, e, rfl, congrArg (Value.int .i64) (by omega), Nat.zero_le _, by omega, by omega, Lib.hid ⟨0, by omega⟩, Lib.hid (Level.start (by omega) hbl.out), he, hz, hp⟩
          case round =>
            clear hbl he hz hp
            obtain ⟨A, b, e, rfl, rfl, hAn2, hb3, hb4, hq, hf, he, hz, hp⟩ := hrel
            have HB := Lib.hid (show b = A + 2 * bs by omega)
            by_cases hlt3 : b ≤ n
            · obtain ⟨M, hM⟩ : ∃ M, M = A + bs := ⟨_, rfl⟩
              have hM1 : A + bs ≤ M := by omega
              have hM2 : M ≤ A + bs := by omega
              have HM := Lib.hid hM
              clear hM
              have HR := Lib.hid (levelL_runs hq.out hf.out)
              have HC := Lib.hid (HY.out e wr A M b he.out hz.out (by omega) (by omega) hlt3 (srt_sub HR.out.1 (Nat.le_refl _) (by omega)) (by have := HR.out.2; rw [← HM.out] at this; exact srt_sub this (Nat.le_refl _) (by omega)))
              have qM : (A : Int) + (bs : Int) = (M : Int) := by omega
              go_wp2_with (go_at_call 143; refine HC.out.mono ?_; rintro r w1 ⟨rfl, d1, hs1, hp1, hso1⟩; replace hs1 := Lib.hid hs1; replace hp1 := Lib.hid hp1; replace hso1 := Lib.hid hso1)
              go_roundw
              case rel =>
                have HF := levelL_step (by omega) hq.out HB.out hf.out hlt3 hp1.out hso1.out
                exact ⟨b, b + 2 * bs, d1, rfl, congrArg (Value.int .i64) (by omega), hlt3, Nat.le_refl _, Nat.le_refl _, Lib.hid HF.2, Lib.hid HF.1, hs1, Lib.hid (hp1.out.1.trans hz.out), Lib.hid (permIn_trans _ _ _ 0 n hp.out (permIn_mono _ _ _ _ _ _ (Nat.zero_le _) hlt3 (by rw [hz.out]; exact Nat.le_refl _) hp1.out))⟩
              case measure => simp [intOf]; omega
            · obtain ⟨M, hM⟩ : ∃ M, M = A + bs := ⟨_, rfl⟩
              have hM1 : A + bs ≤ M := by omega
              have hM2 : M ≤ A + bs := by omega
              have HM := Lib.hid hM
              clear hM
              have HR := Lib.hid (levelL_runs hq.out hf.out)
              have qM : (A : Int) + (bs : Int) = (M : Int) := by omega
              by_cases hlt4 : M < n
              · have HC := Lib.hid (HY.out e wr A M n he.out hz.out (by omega) hlt4 (Nat.le_refl _) (srt_sub HR.out.1 (Nat.le_refl _) (by omega)) (by have := HR.out.2; rw [← HM.out] at this; exact srt_sub this (Nat.le_refl _) (by omega)))
                go_wp2_with (go_at_call 143; refine HC.out.mono ?_; rintro r w1 ⟨rfl, d1, hs1, hp1, hso1⟩; replace hs1 := Lib.hid hs1; replace hp1 := Lib.hid hp1; replace hso1 := Lib.hid hso1)
                go_roundw
                case rel =>
                  exact ⟨bs * 2, d1, _, _, congrArg (Value.int .i64) (by omega), rfl, rfl, by omega, by omega, Lib.hid (levelL_last hq.out hf.out (by omega) hAn2 hp1.out hso1.out), hs1, Lib.hid (hp1.out.1.trans hz.out), Lib.hid (permIn_trans _ _ _ 0 n hp.out (permIn_mono _ _ _ _ _ _ (Nat.zero_le _) (Nat.le_refl _) (by rw [hz.out]; exact Nat.le_refl _) hp1.out))⟩
                case measure => simp [intOf]; omega
              · go_wp2_with fail
                go_roundw
                case rel =>
                  exact ⟨bs * 2, e, _, _, congrArg (Value.int .i64) (by omega), rfl, rfl, by omega, by omega, Lib.hid (levelL_last hq.out hf.out (by omega) hAn2 (permIn_refl _ _ _) (srt_sub HR.out.1 (Nat.le_refl _) (by omega))), he, hz, hp⟩
                case measure => simp [intOf]; omega
        · go_wp2_with fail
          go_end0
          exact ⟨rfl, e, he.out, hp.out, hbl.out.done (by omega)⟩
set_option maxRecDepth 100000 in
theorem sm_sortStable (w0 : World) (B g cap : Nat) (cf : Sh → Sh → Int) (f : Nat) (cb : Array Value) (d : Array Sh) (w : World)
    (eg : ∀ args w, (callFunc f args).run Tryz.prog w = .ok (.enter f args) w) (hcmp : CmpOkM Tryz.prog f cb cf w0 g) (hS : SWO (ltM cf)) (hs : SortM w0 B g cap 65 d w) (hsz : d.size ≤ 8000000) :
    Calls Tryz.prog 71 #[.slice (some ⟨g, 0, none⟩) d.size cap, .func (.func f) #[] cb] w fun e w' => e = .returned (.tuple #[]) ∧ ∃ d', SortM w0 B g cap 65 d' w' ∧ PermIn 0 d.size d d' ∧ SortedIn (ltM cf) 0 d.size d' := by
  have HS := Lib.hid (sm_stable w0 B g cap cf f cb d w eg hcmp hS hs hsz)
  clear hs hcmp hS
  go_enter Tryz.func71, Tryz.ntmps71
  go_wp2_with (go_at_call 111; refine HS.out.mono ?_; rintro r w1 ⟨rfl, HE⟩; replace HE := Lib.hid HE)
  go_end0
  exact ⟨rfl, HE.out⟩
end Go.Proofs.YtigmdddeplnciaaGreatDoor

/- THE WALKS over the steps of a node. -/
namespace Go.Proofs.YtigmdddeplnciaaGreatDoor
open Go.RowKit Go.Sort
theorem permIn_wholeM {α : Type} [Inhabited α] {d d' : Array α} (h : PermIn 0 d.size d d') : d'.toList.Perm d.toList := by
  have h1 := h.2.2
  have h2 : d'.extract 0 d.size = d' := by rw [← h.1]; exact Array.extract_size
  rw [h2, Array.extract_size] at h1
  exact h1
theorem swo_ofM {k : Sh → Sh → Int} (ha : ∀ x y, k y x = - k x y) (ht : ∀ x y z, k x y ≤ 0 → k y z ≤ 0 → k x z ≤ 0) : SWO (ltM k) := by
  have hlt : ∀ {x y}, ltM k x y = true ↔ k x y < 0 := fun {x y} => by unfold ltM; exact decide_eq_true_iff
  have hle : ∀ {x y}, ltM k x y = false ↔ k y x ≤ 0 := fun {x y} => by
    unfold ltM; rw [decide_eq_false_iff_not]; have := ha x y; omega
  refine ⟨fun x => ?_, fun x y z h1 h2 => ?_, fun x y z h1 h2 => ?_⟩
  · rw [hle]; have := ha x x; omega
  · rw [hlt] at *
    have := ht x y z (by omega) (by omega)
    have h5 := ha x z
    by_cases h6 : k x z = 0
    · have h7 := ht z x y (by omega) (by omega)
      have h8 := ha y z
      omega
    · omega
  · rw [hle] at *
    exact ht z y x h2 h1
set_option maxRecDepth 100000 in
set_option maxHeartbeats 800000 in
theorem sm_none (A : Option Addr) (c : Nat) (fv : Value) (w : World) : Calls Tryz.prog 142 #[.slice A 0 c, .int .i64 0, .int .i64 0, fv] w fun e w' => e = .returned (.tuple #[]) ∧ w = w' := by
  go_enter Tryz.func142, Tryz.ntmps142
  go_wp2
  go_loopw [8] (fun u W => u = .int .i64 1 ∧ W = w) (fun _ _ => 0)
  case atStart => exact ⟨rfl, rfl⟩
  case round =>
    obtain ⟨rfl, rfl⟩ := hrel
    go_wp2
    go_end0
    exact ⟨rfl, rfl⟩
set_option maxRecDepth 100000 in
set_option maxHeartbeats 800000 in
theorem sm_stable0 (A : Option Addr) (c : Nat) (fv : Value) (w : World) : Calls Tryz.prog 111 #[.slice A 0 c, .int .i64 0, fv] w fun e w' => e = .returned (.tuple #[]) ∧ w = w' := by
  go_enter Tryz.func111, Tryz.ntmps111
  go_wp2_with fail
  go_loopw [7, 8] (fun u v W => u = .int .i64 0 ∧ v = .int .i64 20 ∧ W = w) (fun _ _ _ => 0)
  case atStart => exact ⟨rfl, rfl, rfl⟩
  case round =>
    obtain ⟨rfl, rfl, rfl⟩ := hrel
    go_wp2_with (go_at_call 142; refine (sm_none _ _ _ _).mono ?_; rintro e w' ⟨rfl, rfl⟩)
    go_loopw [6] (fun u W => u = .int .i64 20 ∧ W = wr) (fun _ _ => 0)
    case atStart => exact ⟨rfl, rfl⟩
    case round =>
      obtain ⟨rfl, rfl⟩ := hrel
      go_wp2
      go_end0
      exact ⟨rfl, rfl⟩
set_option maxRecDepth 100000 in
theorem sm_sort0 (A : Option Addr) (c : Nat) (fv : Value) (w : World) : Calls Tryz.prog 71 #[.slice A 0 c, fv] w fun e w' => e = .returned (.tuple #[]) ∧ w = w' := by
  go_enter Tryz.func71, Tryz.ntmps71
  go_wp2_with (go_at_call 111; refine (sm_stable0 _ _ _ _).mono ?_; rintro e w' ⟨rfl, rfl⟩)
  go_end0
  exact ⟨rfl, rfl⟩
/- plain -/
def cmpHop (a b : Hop) : Int := thenC (Lib.compareInt a.2 b.2) (Lib.compareInt a.1 b.1)
theorem TotC.hop : TotC cmpHop := (TotC.lex TotC.int TotC.int).pull (fun h : Hop => (h.2, h.1)) (fun _ _ h => by obtain ⟨h1, h2⟩ := Prod.mk.inj h; exact Prod.ext h2 h1)
/-- the steps of a node, in order -/
def stepsL (g : GraphG) (types : List ByteArray) (dir n : Int) : List Hop := sortO cmpHop (hopsE g types dir n)
theorem stepsL_perm (g : GraphG) (types : List ByteArray) (dir n : Int) : (stepsL g types dir n).Perm (hopsE g types dir n) := sortO_perm TotC.hop _
theorem stepsL_len (g : GraphG) (types : List ByteArray) (dir n : Int) : (stepsL g types dir n).length ≤ g.edges.length := by
  rw [(stepsL_perm g types dir n).length_eq]; exact List.length_filterMap_le _ _
def adjOf (n : Int) (h : Hop) : Sh := ⟨n, h.2, h.1⟩
def stC (a b : Sh) : Int := thenC (Lib.compareInt a.n b.n) (Lib.compareInt a.d b.d)
theorem stC_anti (x y : Sh) : stC y x = - stC x y := TotC.hop.anti (x.d, x.n) (y.d, y.n)
theorem stC_trans (x y z : Sh) (h : stC x y ≤ 0) (k : stC y z ≤ 0) : stC x z ≤ 0 := TotC.hop.trans (x.d, x.n) (y.d, y.n) (z.d, z.n) h k
theorem stC_orL (a b : Sh) : orL [Lib.compareInt a.n b.n, Lib.compareInt a.d b.d] = stC a b := by
  show thenC _ (thenC _ 0) = thenC _ _
  unfold thenC; split <;> (try split) <;> omega
theorem adj_sorted {n : Int} {H : List Hop} {d' : Array Sh} (hp : d'.toList.Perm (H.map (adjOf n))) (hs : d'.toList.Pairwise (fun x y => stC x y ≤ 0)) : d'.toList = (sortO cmpHop H).map (adjOf n) := by
  have h1 : d'.toList = (d'.toList.map (fun s : Sh => ((s.d, s.n) : Hop))).map (adjOf n) := by
    rw [List.map_map]
    have : ∀ s ∈ d'.toList, s.id = n := fun s hs => by
      obtain ⟨h, -, rfl⟩ := List.mem_map.1 (hp.mem_iff.1 hs); rfl
    calc d'.toList = d'.toList.map id := (List.map_id _).symm
      _ = _ := List.map_congr_left (fun s hs => by
        have := this s hs
        cases s; subst this; rfl)
  rw [h1]
  congr 1
  refine sortO_eq TotC.hop ?_ (List.pairwise_map.2 hs)
  have h2 := hp.map (fun s : Sh => ((s.d, s.n) : Hop))
  rw [List.map_map] at h2
  exact h2.trans (by rw [show ((fun s : Sh => ((s.d, s.n) : Hop)) ∘ adjOf n) = id from rfl, List.map_id])
theorem sorted_riseA {d : Array Sh} (h : SortedIn (ltM stC) 0 d.size d) : d.toList.Pairwise (fun x y => stC x y ≤ 0) := by
  rw [List.pairwise_iff_getElem]
  intro i j hi hj hij
  rw [Array.length_toList] at hi hj
  have := h i j (Nat.zero_le _) hij hj
  rw [getElem!_pos d i hi, getElem!_pos d j hj] at this
  unfold ltM at this
  have h1 := of_decide_eq_false this
  rw [Array.getElem_toList, Array.getElem_toList]
  have h2 := stC_anti d[i] d[j]
  omega
set_option maxRecDepth 100000 in
set_option maxHeartbeats 800000 in
theorem gr_Steps1 (a b : Sh) (w : World) :
    Calls Tryz.prog 72 #[.agg #[.int .i64 a.id, .int .i64 a.n, .int .i64 a.d], .agg #[.int .i64 b.id, .int .i64 b.n, .int .i64 b.d]] w fun e w' => e = .returned (.int .i64 (stC a b)) ∧ Ext w w' := by
  obtain ⟨q, w2, hq, hw2, hc, hx⟩ : ∃ (q : Nat) (w2 : World), q = w.heap.size ∧ w2 = (w.alloc (.cells #[.int .i64 a.id, .int .i64 a.n, .int .i64 a.d] 65)).alloc (.cells #[.int .i64 b.id, .int .i64 b.n, .int .i64 b.d] 65) ∧ (w2.cell? ⟨q, 0, none⟩ = some (.int .i64 a.id) ∧ w2.cell? ⟨q, 1, none⟩ = some (.int .i64 a.n) ∧ w2.cell? ⟨q, 2, none⟩ = some (.int .i64 a.d) ∧ w2.cell? ⟨q + 1, 0, none⟩ = some (.int .i64 b.id) ∧ w2.cell? ⟨q + 1, 1, none⟩ = some (.int .i64 b.n) ∧ w2.cell? ⟨q + 1, 2, none⟩ = some (.int .i64 b.d)) ∧ Ext w w2 :=
    ⟨_, _, rfl, rfl, ⟨by go_simp, by go_simp, by go_simp, by go_simp, by go_simp, by go_simp⟩, (by solve_by_elim [X0, X1, X2, X3])⟩
  have HW := Lib.hid hw2
  have HG := Lib.hid hq
  have HT := Lib.hid (stC_orL a b)
  have MK := Lib.hid (fun V (e : Ext w2 V) => (⟨e.cell hc.1, e.cell hc.2.1, e.cell hc.2.2.1, e.cell hc.2.2.2.1, e.cell hc.2.2.2.2.1, e.cell hc.2.2.2.2.2⟩ : V.cell? ⟨q, 0, none⟩ = some (.int .i64 a.id) ∧ V.cell? ⟨q, 1, none⟩ = some (.int .i64 a.n) ∧ V.cell? ⟨q, 2, none⟩ = some (.int .i64 a.d) ∧ V.cell? ⟨q + 1, 0, none⟩ = some (.int .i64 b.id) ∧ V.cell? ⟨q + 1, 1, none⟩ = some (.int .i64 b.n) ∧ V.cell? ⟨q + 1, 2, none⟩ = some (.int .i64 b.d)))
  clear hw2 hq hc
  generalize stC a b = tc at *
  go_enter Tryz.func72, Tryz.ntmps72
  go_upto_region 1 with (fail)
  rw [← HW.out, ← HG.out]
  clear HW HG
  refine wp_region_held_drew (S := (fun V => V.cell? ⟨q, 0, none⟩ = some (.int .i64 a.id) ∧ V.cell? ⟨q, 1, none⟩ = some (.int .i64 a.n) ∧ V.cell? ⟨q, 2, none⟩ = some (.int .i64 a.d) ∧ V.cell? ⟨q + 1, 0, none⟩ = some (.int .i64 b.id) ∧ V.cell? ⟨q + 1, 1, none⟩ = some (.int .i64 b.n) ∧ V.cell? ⟨q + 1, 2, none⟩ = some (.int .i64 b.d))) (by kernel_rfl) ?hs1 (fun hHeld => ?go1)
  case hs1 => (exact MK.out _ (by solve_by_elim [X0, X1, X2, X3]))
  refine TK 0 (v := ?v2) hHeld ?hy2 ?_
  case hy2 => (intro w _; go_simp <;> rfl)
  (try simp only [PU])
  refine TK 1 (v := ?v3) hHeld ?hy3 ?_
  case hy3 => (intro w hSw; (try dsimp only at hSw); go_simp <;> first | with_reducible rfl | rw [if_neg (by omega)] | rw [if_pos (by omega)])
  (try simp only [PU])
  refine TK 2 (v := ?v4) hHeld ?hy4 ?_
  case hy4 => (intro w _; go_simp <;> rfl)
  (try simp only [PU])
  refine TK 3 (v := ?v5) hHeld ?hy5 ?_
  case hy5 => (intro w hSw; (try dsimp only at hSw); go_simp <;> first | with_reducible rfl | rw [if_neg (by omega)] | rw [if_pos (by omega)])
  (try simp only [PU])
  refine TK 5 (v := ?v6) hHeld ?hy6 ?_
  case hy6 => (intro w _; go_simp <;> rfl)
  (try simp only [PU])
  refine TK 6 (v := ?v7) hHeld ?hy7 ?_
  case hy7 => (intro w hSw; (try dsimp only at hSw); go_simp <;> first | with_reducible rfl | rw [if_neg (by omega)] | rw [if_pos (by omega)])
  (try simp only [PU])
  refine TK 7 (v := ?v8) hHeld ?hy8 ?_
  case hy8 => (intro w _; go_simp <;> rfl)
  (try simp only [PU])
  refine TK 8 (v := ?v9) hHeld ?hy9 ?_
  case hy9 => (intro w hSw; (try dsimp only at hSw); go_simp <;> first | with_reducible rfl | rw [if_neg (by omega)] | rw [if_pos (by omega)])
  (try simp only [PU])
  refine wpAnyH_ready (rs := [4]) (by kernel_rfl) (by simp) ?_
  refine AllReadyH.cons (o := ⟨_, _, _, _, _, _⟩) rfl (fun K hK => ?step10x0) ?more10x0
  case more10x0 => exact AllReadyH.nil
  go_simp
  (refine (c_cmp_int _ _ _).mono ?_; rintro e w3 ⟨rfl, rfl⟩)
  refine hK.out _ _ ?hS10x0 (fun H10 => ?_)
  case hS10x0 => first | (exact MK.out _ (by solve_by_elim [X0, X1, X2, X3])) | ((try dsimp only); (exact MK.out _ (by solve_by_elim [X0, X1, X2, X3])))
  clear hK K
  clear hHeld
  (try simp only [PU])
  refine wpAnyH_ready (rs := [9]) (by kernel_rfl) (by simp) ?_
  refine AllReadyH.cons (o := ⟨_, _, _, _, _, _⟩) rfl (fun K hK => ?step11x0) ?more11x0
  case more11x0 => exact AllReadyH.nil
  go_simp
  (refine (c_cmp_int _ _ _).mono ?_; rintro e w4 ⟨rfl, rfl⟩)
  refine hK.out _ _ ?hS11x0 (fun H11 => ?_)
  case hS11x0 => first | (exact MK.out _ (by solve_by_elim [X0, X1, X2, X3])) | ((try dsimp only); (exact MK.out _ (by solve_by_elim [X0, X1, X2, X3])))
  clear hK K
  clear H10
  (try simp only [PU])
  refine wpAnyH_ready (rs := [10]) (by kernel_rfl) (by simp) ?_
  refine AllReadyH.cons (o := ⟨_, _, _, _, _, _⟩) rfl (fun K hK => ?step12x0) ?more12x0
  case more12x0 => exact AllReadyH.nil
  go_simp
  refine hK.out _ _ ?hS12x0 (fun H12 => ?_)
  case hS12x0 => first | (exact MK.out _ (by solve_by_elim [X0, X1, X2, X3])) | ((try dsimp only); (exact MK.out _ (by solve_by_elim [X0, X1, X2, X3])))
  clear hK K
  clear H11
  (try simp only [PU])
  refine wpAnyH_ready (rs := [11]) (by kernel_rfl) (by simp) ?_
  refine AllReadyH.cons (o := ⟨_, _, _, _, _, _⟩) rfl (fun K hK => ?step13x0) ?more13x0
  case more13x0 => exact AllReadyH.nil
  go_simp
  (refine Calls.mono (c_or_int _ [Lib.compareInt a.n b.n, Lib.compareInt a.d b.d] _ (by simp) ?hcs) ?_; (case hcs => (intro j hj; have hj6 : j = 0 ∨ j = 1 := (by simp at hj; omega); rcases hj6 with rfl | rfl <;> (go_simp; done))); rintro e w5 ⟨rfl, rfl⟩)
  refine hK.out _ _ ?hS13x0 (fun H13 => ?_)
  case hS13x0 => first | (exact MK.out _ (by solve_by_elim [X0, X1, X2, X3])) | ((try dsimp only); (exact MK.out _ (by solve_by_elim [X0, X1, X2, X3])))
  clear hK K
  clear H12
  (try simp only [PU])
  refine TK 12 (v := ?v14) H13 ?hy14 ?_
  case hy14 => (intro w _; go_simp <;> first | with_reducible rfl | rw [if_neg (by omega)] | rw [if_pos (by omega)])
  (try simp only [PU])
  refine wpAnyH_done (by kernel_rfl) ?_ _
  clear H13
  go_wp2_with fail
  go_ret
  exact ⟨by first | rfl | (rw [← HT.out]; rfl) | rw [HT.out], hx.trans (by solve_by_elim [X0, X1, X2, X3])⟩
theorem eg_Steps1 (args : Array Value) (w : World) : (callFunc 72 args).run Tryz.prog w = .ok (.enter 72 args) w :=
  run_enter (c := Tryz.f72.body.get!) Tryz.func72 (by kernel_rfl) (by kernel_rfl) args w
theorem sort_adj (w : World) (B g cap n : Nat) (id : Int) (H : List Hop) (hn : n = H.length) (hsz : H.length ≤ 8000000) (hown : w.ownsRow B 65 3 (.slice (some ⟨g, 0, none⟩) n cap) n ((H.map (adjOf id)).flatMap Sh.cells)) :
    Calls Tryz.prog 71 #[.slice (some ⟨g, 0, none⟩) n cap, .func (.func 72) #[] #[]] w fun e w' => e = .returned (.tuple #[]) ∧ w.grownBy w' (some g) ∧ w'.ownsRow B 65 3 (.slice (some ⟨g, 0, none⟩) n cap) n (((sortO cmpHop H).map (adjOf id)).flatMap Sh.cells) := by
  have hsz2 : (H.map (adjOf id)).toArray.size = n := by rw [hn]; simp
  have h := sm_sortStable w B g cap stC 72 #[] (H.map (adjOf id)).toArray w eg_Steps1 (fun W _ x y => gr_Steps1 x y W) (swo_ofM stC_anti stC_trans) (SortM.start (by rw [hsz2]; exact hown)) (by rw [hsz2, hn]; exact hsz)
  rw [hsz2] at h
  refine h.mono ?_
  rintro e w' ⟨rfl, d', hs, hp, hso⟩
  have hz : d'.size = n := hp.1.trans hsz2
  rw [← hsz2] at hp
  have h3 := adj_sorted (n := id) (by have := permIn_wholeM hp; simpa using this) (sorted_riseA (by rw [hz]; exact hso))
  refine ⟨rfl, hs.gr, ?_⟩
  have := hs.own
  rw [hz, h3] at this
  exact this
/- the walk -/
theorem box_edgeX (w : World) (x : EdgeG) (B : Option Addr) (d : Nat) (t : TypeId) : ∃ (q : Nat) (w1 : World), q = w.heap.size ∧ w1 = w.alloc (.cells #[.int .i64 x.id, .int .i64 x.frm, .int .i64 x.to_, .string x.typ, .slice B x.props.length d] t) ∧ (w1.cell? ⟨q, 0, none⟩ = some (.int .i64 x.id) ∧ w1.cell? ⟨q, 1, none⟩ = some (.int .i64 x.frm) ∧ w1.cell? ⟨q, 2, none⟩ = some (.int .i64 x.to_) ∧ w1.cell? ⟨q, 3, none⟩ = some (.string x.typ) ∧ w1.cell? ⟨q, 4, none⟩ = some (.slice B x.props.length d)) ∧ Ext w w1 :=
  ⟨_, _, rfl, rfl, ⟨by go_simp, by go_simp, by go_simp, by go_simp, by go_simp⟩, (Ext.refl _).alloc _⟩
def stAcc (g : GraphG) (types : List ByteArray) (dir n : Int) (k : Nat) : List Hop := (g.edges.take k).filterMap (hopE types dir n)
theorem stAcc_snoc (g : GraphG) (types : List ByteArray) (dir n : Int) (k : Nat) (h : k < g.edges.length) : stAcc g types dir n (k + 1) = stAcc g types dir n k ++ (match toE types dir n g.edges[k]! with
  | some t => [(g.edges[k]!.id, t)]
  | none => []) := by
  unfold stAcc
  rw [List.take_succ_eq_append_getElem h, List.filterMap_append, getElem!_pos g.edges k h]
  congr 1
  show [g.edges[k]].filterMap (hopE types dir n) = _
  rw [List.filterMap_cons, List.filterMap_nil]
  unfold hopE
  cases toE types dir n g.edges[k] <;> rfl
theorem stAcc_cells (n : Int) (H : List Hop) (e t : Int) : ((H ++ [(e, t)]).map (adjOf n)).flatMap Sh.cells = (H.map (adjOf n)).flatMap Sh.cells ++ [.int .i64 n, .int .i64 t, .int .i64 e] := by
  rw [List.map_append, List.flatMap_append]; rfl
set_option maxRecDepth 100000 in
set_option maxHeartbeats 6400000 in
theorem gr_Steps (g : GraphG) (types : List ByteArray) (n dir : Int) (ok ok' : Nat → Prop) (A B T : Option Addr) (c d e : Nat) (w : World) (hg : Edges w ok B g.edges) (ht : Strs w ok' T types) (hl : g.edges.length ≤ 8000000) :
    Calls Tryz.prog 38 #[.agg #[.slice A g.nodes.length c, .slice B g.edges.length d, .int .i64 g.nn, .int .i64 g.ne], .int .i64 n, .slice T types.length e, .int .i64 dir] w fun e' w' => ∃ A' c', e' = .returned (.slice A' (stepsL g types dir n).length c') ∧ (stepsL g types dir n).length ≤ c' ∧ Shares w' (fun b => w.heap.size ≤ b) A' ((stepsL g types dir n).map (adjOf n)) ∧ Ext w w' := by
  obtain ⟨q, w1, hq, hw1, g0, g1, g2, g3, hx1⟩ := box_graph w A B c d g 25
  have HW1 := Lib.hid hw1
  have HG := Lib.hid hq
  have HE := Lib.hid (hg.ext hx1)
  have HS0 := Lib.hid (fun W => World.ownsRow_nil W w1.heap.size 65 3)
  have HSN := Lib.hid (stAcc_snoc g types dir n)
  have HT := Lib.hid (fun x W B' m' d' (h : Ext w1 W) => gr_HasType types x ok' T B' e m' d' W (ht.ext (hx1.trans h)))
  have HLA := Lib.hid (fun k => (Nat.le_trans (List.length_filterMap_le _ _) (List.length_take_le _ _) : (stAcc g types dir n k).length ≤ k))
  have HAL := Lib.hid (by unfold stAcc hopsE; rw [List.take_length] : stAcc g types dir n g.edges.length = hopsE g types dir n)
  have HLE := Lib.hid hx1.le
  obtain ⟨R, hR⟩ : ∃ R, R = stepsL g types dir n := ⟨_, rfl⟩
  rw [← hR]
  have HR := Lib.hid hR
  clear hw1 hq hg ht hR
  go_enter Tryz.func38, Tryz.ntmps38
  go_upto_region 1 with (fail)
  rw [← HW1.out, ← HG.out]
  clear HW1 HG
  go_wp2_with fail
  go_loopw [9, 15] (fun v u W => ∃ k : Nat, u = .int .i64 k ∧ k ≤ g.edges.length ∧ Hid (W.ownsRow w1.heap.size 65 3 v (stAcc g types dir n k).length (((stAcc g types dir n k).map (adjOf n)).flatMap Sh.cells)) ∧ Hid (Ext w1 W)) (fun _ u _ => g.edges.length - (intOf u).toNat)
  case atStart => exact ⟨0, rfl, Nat.zero_le _, Lib.hid (HS0.out _), Lib.hid (Ext.refl _)⟩
  case round =>
    clear HS0
    obtain ⟨k, rfl, hk, HO, HX⟩ := hrel
    by_cases hlt : k < g.edges.length
    · obtain ⟨b, o, rfl, hc⟩ := HE.out.at_ hlt
      obtain ⟨-, d0, d1, d2, d3, B', d', d4, -, -⟩ := hc k hlt
      replace d0 := HX.out.cell d0
      replace d1 := HX.out.cell d1
      replace d2 := HX.out.cell d2
      replace d3 := HX.out.cell d3
      replace d4 := HX.out.cell d4
      have HS := Lib.hid (HSN.out k hlt)
      have HC := Lib.hid (HT.out g.edges[k]!)
      have hkb : (stAcc g types dir n k).length + 1 ≤ 8388608 := by have := HLA.out k; omega
      clear hc HSN HT HE HLA HAL HR
      obtain ⟨H0, hH0⟩ : ∃ H0, H0 = stAcc g types dir n k := ⟨_, rfl⟩
      obtain ⟨H1, hH1⟩ : ∃ H1, H1 = stAcc g types dir n (k + 1) := ⟨_, rfl⟩
      rw [← hH0] at HO hkb HS
      rw [← hH1] at HS
      have HQ1 := Lib.hid hH1
      clear hH0 hH1
      generalize g.edges[k]! = x at *
      obtain ⟨y, w2, hy, hw2, ⟨a0, a1, a2, a3, a4⟩, hx2⟩ := box_edgeX wr x B' d' 47
      have HW2 := Lib.hid hw2
      have HY := Lib.hid hy
      have HX2 := Lib.hid (HX.out.trans hx2)
      clear hw2 hy
      go_upto_region 5 with (fail)
      rw [← HW2.out, ← HY.out]
      clear HW2 HY d0 d1 d2 d3 d4
      obtain ⟨r, hr⟩ : ∃ r, r = toE types dir n x := ⟨_, rfl⟩
      rw [← hr] at HS
      cases htb : typB types x.typ
      · rw [htb] at HC
        have hr0 : r = none := by rw [hr]; unfold toE; rw [htb, if_neg Bool.false_ne_true]
        subst hr0
        have HS' := Lib.hid (HS.out.trans (List.append_nil _))
        clear hr htb HS
        go_wp2_with (go_at_call 70; ((with_reducible refine (HC.out _ _ _ _ HX2.out).mono ?_); rintro e w3 ⟨rfl, hx3⟩))
        have HO3 := Lib.hid (own_ext HO.out (hx2.trans hx3))
        have HX3 := Lib.hid (HX2.out.trans hx3)
        clear HO HX
        go_roundw
        case rel => exact ⟨k + 1, by go_num, by omega, by rw [← HQ1.out, HS'.out]; exact HO3, HX3⟩
        case measure => simp [intOf]; omega
      · rw [htb] at HC
        go_upto_region 6 with (go_at_call 70; ((with_reducible refine (HC.out _ _ _ _ HX2.out).mono ?_); rintro e w3 ⟨rfl, hx3⟩; replace a0 := hx3.cell a0; replace a1 := hx3.cell a1; replace a2 := hx3.cell a2))
        have HO3 := Lib.hid (own_ext HO.out (hx2.trans hx3))
        have HX3 := Lib.hid (HX2.out.trans hx3)
        clear a3 a4 HO HX HX2 hx2 hx3 HC
        have hdd : dir = 1 ∨ dir = 2 ∨ dir = 3 ∨ ((dir == 1) = false ∧ (dir == 2) = false ∧ (dir == 3) = false) := by simp only [beq_eq_false_iff_ne]; omega
        rcases hdd with rfl | rfl | rfl | ⟨h1, h2, h3⟩
        · by_cases hf : x.frm = n
          · have hr0 : r = some x.to_ := by rw [hr]; unfold toE; rw [htb]; simp [hf]
            have hf' : (x.frm == n) = true := by simpa using hf
            have HS' := Lib.hid (HS.out.trans (by rw [hr0] : _ = H0 ++ [(x.id, x.to_)]))
            clear hr htb HS hr0
            go_wp2_with (at_builtin; refine own_push El_adj rfl (.tmp 36) (.tmp 43) rfl w1 w3 _ _ _ [.int .i64 n, .int .i64 x.to_, .int .i64 x.id] rfl HO3.out HX3.out rfl rfl rfl (by simp [Value.oneCell']) hkb (by decide) ?_; intro v2 w9 hown2 hE9)
            have HO9 := Lib.hid (show w9.ownsRow w1.heap.size 65 3 v2 H1.length ((H1.map (adjOf n)).flatMap Sh.cells) by rw [HS'.out, stAcc_cells, List.length_append]; exact hown2)
            have HE9 := Lib.hid hE9
            clear hown2 hE9 HO3 HX3 HS'
            go_roundw
            case rel => exact ⟨k + 1, by go_num, by omega, by rw [← HQ1.out]; exact HO9, HE9⟩
            case measure => simp [intOf]; omega
          · have hr0 : r = none := by rw [hr]; unfold toE; rw [htb]; simp [hf]
            have hf' : (x.frm == n) = false := by simpa using hf
            have HS' := Lib.hid (HS.out.trans (by rw [hr0]; exact List.append_nil _ : _ = H0))
            clear hr htb HS hr0
            go_wp2_with fail
            go_roundw
            case rel => exact ⟨k + 1, by go_num, by omega, by rw [← HQ1.out, HS'.out]; exact HO3, HX3⟩
            case measure => simp [intOf]; omega
        · by_cases hf : x.to_ = n
          · have hr0 : r = some x.frm := by rw [hr]; unfold toE; rw [htb]; simp [hf]
            have hf' : (x.to_ == n) = true := by simpa using hf
            have HS' := Lib.hid (HS.out.trans (by rw [hr0] : _ = H0 ++ [(x.id, x.frm)]))
            clear hr htb HS hr0
            go_wp2_with (at_builtin; refine own_push El_adj rfl (.tmp 58) (.tmp 65) rfl w1 w3 _ _ _ [.int .i64 n, .int .i64 x.frm, .int .i64 x.id] rfl HO3.out HX3.out rfl rfl rfl (by simp [Value.oneCell']) hkb (by decide) ?_; intro v2 w9 hown2 hE9)
            have HO9 := Lib.hid (show w9.ownsRow w1.heap.size 65 3 v2 H1.length ((H1.map (adjOf n)).flatMap Sh.cells) by rw [HS'.out, stAcc_cells, List.length_append]; exact hown2)
            have HE9 := Lib.hid hE9
            clear hown2 hE9 HO3 HX3 HS'
            go_roundw
            case rel => exact ⟨k + 1, by go_num, by omega, by rw [← HQ1.out]; exact HO9, HE9⟩
            case measure => simp [intOf]; omega
          · have hr0 : r = none := by rw [hr]; unfold toE; rw [htb]; simp [hf]
            have hf' : (x.to_ == n) = false := by simpa using hf
            have HS' := Lib.hid (HS.out.trans (by rw [hr0]; exact List.append_nil _ : _ = H0))
            clear hr htb HS hr0
            go_wp2_with fail
            go_roundw
            case rel => exact ⟨k + 1, by go_num, by omega, by rw [← HQ1.out, HS'.out]; exact HO3, HX3⟩
            case measure => simp [intOf]; omega
        · by_cases hf : x.frm = n
          · have hr0 : r = some x.to_ := by rw [hr]; unfold toE; rw [htb]; simp [hf]
            have hf' : (x.frm == n) = true := by simpa using hf
            have HS' := Lib.hid (HS.out.trans (by rw [hr0] : _ = H0 ++ [(x.id, x.to_)]))
            clear hr htb HS hr0
            go_wp2_with (at_builtin; refine own_push El_adj rfl (.tmp 36) (.tmp 43) rfl w1 w3 _ _ _ [.int .i64 n, .int .i64 x.to_, .int .i64 x.id] rfl HO3.out HX3.out rfl rfl rfl (by simp [Value.oneCell']) hkb (by decide) ?_; intro v2 w9 hown2 hE9)
            have HO9 := Lib.hid (show w9.ownsRow w1.heap.size 65 3 v2 H1.length ((H1.map (adjOf n)).flatMap Sh.cells) by rw [HS'.out, stAcc_cells, List.length_append]; exact hown2)
            have HE9 := Lib.hid hE9
            clear hown2 hE9 HO3 HX3 HS'
            go_roundw
            case rel => exact ⟨k + 1, by go_num, by omega, by rw [← HQ1.out]; exact HO9, HE9⟩
            case measure => simp [intOf]; omega
          · have hf' : (x.frm == n) = false := by simpa using hf
            by_cases ht : x.to_ = n
            · have hr0 : r = some x.frm := by rw [hr]; unfold toE; rw [htb]; simp [hf, ht]
              have ht' : (x.to_ == n) = true := by simpa using ht
              have HS' := Lib.hid (HS.out.trans (by rw [hr0] : _ = H0 ++ [(x.id, x.frm)]))
              clear hr htb HS hr0
              go_wp2_with (at_builtin; refine own_push El_adj rfl (.tmp 58) (.tmp 65) rfl w1 w3 _ _ _ [.int .i64 n, .int .i64 x.frm, .int .i64 x.id] rfl HO3.out HX3.out rfl rfl rfl (by simp [Value.oneCell']) hkb (by decide) ?_; intro v2 w9 hown2 hE9)
              have HO9 := Lib.hid (show w9.ownsRow w1.heap.size 65 3 v2 H1.length ((H1.map (adjOf n)).flatMap Sh.cells) by rw [HS'.out, stAcc_cells, List.length_append]; exact hown2)
              have HE9 := Lib.hid hE9
              clear hown2 hE9 HO3 HX3 HS'
              go_roundw
              case rel => exact ⟨k + 1, by go_num, by omega, by rw [← HQ1.out]; exact HO9, HE9⟩
              case measure => simp [intOf]; omega
            · have hr0 : r = none := by rw [hr]; unfold toE; rw [htb]; simp [hf, ht]
              have ht' : (x.to_ == n) = false := by simpa using ht
              have HS' := Lib.hid (HS.out.trans (by rw [hr0]; exact List.append_nil _ : _ = H0))
              clear hr htb HS hr0
              go_wp2_with fail
              go_roundw
              case rel => exact ⟨k + 1, by go_num, by omega, by rw [← HQ1.out, HS'.out]; exact HO3, HX3⟩
              case measure => simp [intOf]; omega
        · have hr0 : r = none := by
            rw [beq_eq_false_iff_ne] at h1 h2 h3
            rw [hr]; unfold toE; rw [htb]; simp [h1, h2, h3]
          have HS' := Lib.hid (HS.out.trans (by rw [hr0]; exact List.append_nil _ : _ = H0))
          clear hr htb HS hr0
          go_wp2_with fail
          go_roundw
          case rel => exact ⟨k + 1, by go_num, by omega, by rw [← HQ1.out, HS'.out]; exact HO3, HX3⟩
          case measure => simp [intOf]; omega
    · have hkk : k = g.edges.length := by omega
      have HO1 := Lib.hid (by have := HO.out; rwa [hkk, HAL.out] at this : wr.ownsRow w1.heap.size 65 3 u9 (hopsE g types dir n).length (((hopsE g types dir n).map (adjOf n)).flatMap Sh.cells))
      have HHL := Lib.hid (by rw [← HAL.out]; exact HLA.out _ : (hopsE g types dir n).length ≤ g.edges.length)
      have HRR := Lib.hid (HR.out.trans (show stepsL g types dir n = sortO cmpHop (hopsE g types dir n) from rfl))
      clear hkk HO HLA HAL HR HSN HT HE
      generalize hopsE g types dir n = H at *
      rcases HO1.out.2 with ⟨rfl, h0⟩ | ⟨g', cap, cur, rfl, hb, hh, -⟩
      · have hH : H = [] := List.eq_nil_of_length_eq_zero h0
        have hR0 : R = [] := by rw [HRR.out, hH]; rfl
        subst hR0
        clear hH h0 HO1 HRR HHL
        go_wp2_with (go_at_call 71; ((with_reducible refine (sm_sort0 _ _ _ _).mono ?_); rintro e w5 ⟨rfl, rfl⟩))
        go_ret
        exact ⟨none, 0, rfl, Nat.le_refl _, SliceR.nil _ _ _, hx1.trans HX.out⟩
      · have HSO := Lib.hid (sort_adj wr w1.heap.size g' cap H.length n H rfl (by have := HHL.out; omega) HO1.out)
        have HB := Lib.hid hb
        clear HO1 hb hh
        go_wp2_with (go_at_call 71; ((with_reducible refine (HSO.out).mono ?_); rintro e w5 ⟨rfl, hg5, hO5⟩))
        have hlR : R.length = H.length := by rw [HRR.out]; exact sortO_len TotC.hop _
        obtain ⟨A9, c9, e9, h9, hV9⟩ := shares_of_own (l := R.map (adjOf n)) (by rw [HRR.out]; exact hO5) (by rw [List.length_map, hlR]) (by rw [List.length_map, hlR]; have := HHL.out; omega)
        injection e9 with e1 e2 e3
        subst e1 e3
        rw [List.length_map, hlR] at h9
        go_ret
        exact ⟨_, _, by rw [hlR]; rfl, by rw [hlR]; exact h9, SliceR.mono hV9 (fun b o x _ h => ⟨Nat.le_trans HLE.out h.1, h.2⟩), hx1.trans (HX.out.grown hg5 (fun b hb => by injection hb with hb; have := HB.out; omega))⟩
end Go.Proofs.YtigmdddeplnciaaGreatDoor

/- MAPS THAT A CALL OWNS, element by element, elements of any type: what lies at each key. -/
namespace Go.Proofs.YtigmdddeplnciaaGreatDoor
open Go.RowKit Go.ChangeMaps
open Go.Maps (Keyed has IsMap)
/-- block b is a map of at most n entries; g: what lies at each key -/
def MapOf (P : Program) (k : TypeId) (w : World) (b n : Nat) (g : Lit → Option Value) : Prop :=
  ∃ D : DataW Value, w.ownsMap P k (fun v => some (.held v, [])) b n D ∧ IsMap D ∧ ∀ kl, match g kl with
    | none => has D kl = false
    | some v => has D kl = true ∧ ∀ z, D.atKey kl z = .held v
section
variable {P : Program} {k e t : TypeId} {w w' : World} {b n : Nat} {g : Lit → Option Value}
theorem MapOf.made (P : Program) (k : TypeId) (w : World) : MapOf P k (w.alloc (.map #[] 0)) w.heap.size 0 (fun _ => none) :=
  ⟨.map [], World.ownsMap_made w P k _, Maps.isMap_empty, fun _ => rfl⟩
theorem MapOf.lt (h : MapOf P k w b n g) : b < w.heap.size := let ⟨_, h1, _⟩ := h; h1.lt
theorem MapOf.grown {row : Option Nat} (h : MapOf P k w b n g) (hg : w.grownBy w' row) (hne : some b ≠ row) : MapOf P k w' b n g :=
  let ⟨D, h1, h2, h3⟩ := h
  ⟨D, h1.kept hg hne, h2, h3⟩
theorem MapOf.ext (h : MapOf P k w b n g) (x : Ext w w') : MapOf P k w' b n g :=
  h.grown (row := none) ⟨x.os, x.tape, x.output, x.size, fun i hi _ => x.block i hi⟩ (by simp)
theorem MapOf.mono {n' : Nat} (h : MapOf P k w b n g) (hn : n ≤ n') : MapOf P k w b n' g :=
  let ⟨D, h1, h2, h3⟩ := h
  ⟨D, h1.mono hn, h2, h3⟩
theorem MapOf.look (h : MapOf P k w b n g) (K : Keyed P k) (ht : P.underlying t = some (.map k e)) {z : Value} (hz : (zeroValue e).run P w = .ok z w) {key : Value} {kl : Lit} (hkey : keyOf P k key = some kl) :
    (Instr.lookup t (.map (some b)) key false).run P w = .ok ((g kl).getD z) w := by
  obtain ⟨D, h1, h2, h3⟩ := h
  obtain ⟨v, ps, hrun, hR⟩ := h1.lookup K ht hz (zd := .held z) (zp := []) rfl hkey
  rw [hrun]
  have h4 := h3 kl
  injection hR with hR
  rw [Prod.mk.injEq] at hR
  cases hg : g kl with
  | none =>
    rw [hg] at h4
    rw [Maps.atKey_of_not_has h4] at hR
    injection hR.1 with e1
    rw [e1]; rfl
  | some u =>
    rw [hg] at h4
    rw [h4.2] at hR
    injection hR.1 with e1
    rw [e1]; rfl
open Classical in
noncomputable def putM (g : Lit → Option Value) (kl : Lit) (v : Value) : Lit → Option Value := fun x => if x = kl then some v else g x
theorem putM_same (g : Lit → Option Value) (kl : Lit) (v : Value) : putM g kl v kl = some v := by unfold putM; rw [if_pos rfl]
theorem putM_other (g : Lit → Option Value) {kl x : Lit} (v : Value) (h : x ≠ kl) : putM g kl v x = g x := by unfold putM; rw [if_neg h]
theorem MapOf.put (h : MapOf P k w b n g) (K : Keyed P k) (ht : P.underlying t = some (.map k e)) (hn : n < maxLen) {key : Value} {kl : Lit} (hkey : keyOf P k key = some kl) (val : Value) :
    ∃ w', (Instr.mapUpdate t (.map (some b)) key val).run P w = .ok () w' ∧ MapOf P k w' b (n + 1) (putM g kl val) ∧ w.grownBy w' (some b) := by
  obtain ⟨D, h1, h2, h3⟩ := h
  obtain ⟨w', r0, r1, r2⟩ := h1.update K ht hn hkey (val := val) (d := .held val) (ps := []) rfl
  refine ⟨w', r0, ⟨_, r1, h2.put _ _, fun x => ?_⟩, r2⟩
  by_cases hx : x = kl
  · subst hx
    rw [putM_same]
    exact ⟨Maps.has_put_same h2 (K.key hkey) _, fun z => Maps.atKey_put_same h2 (K.key hkey) _ z⟩
  · rw [putM_other _ _ hx]
    have h4 := h3 x
    cases hg : g x with
    | none => rw [hg] at h4; exact (Maps.has_put_other hx _).trans h4
    | some u => rw [hg] at h4; exact ⟨(Maps.has_put_other hx _).trans h4.1, fun z => (Maps.atKey_put_other hx _ z).trans (h4.2 z)⟩
end
theorem wpList_put {P : Program} {w : World} {ops : Array Oper} {rest : List Oper} {o : Oper} {a : Act} {Q : Exit → Act → World → Prop} (hg : o.guard = none) (m x v : Operand) (t : TypeId) (hop : o.op = Op.mapUpdate t m x v)
    {k e : TypeId} (K : Keyed P k) (ht : P.underlying t = some (.map k e)) (b n : Nat) (g : Lit → Option Value) (hm : a.eval m = .map (some b)) (hown : MapOf P k w b n g) (hn : n < maxLen) (key val : Value) (kl : Lit) (hx : a.eval x = key) (hv : a.eval v = val) (hkey : keyOf P k key = some kl)
    (hK : ∀ w', MapOf P k w' b (n + 1) (putM g kl val) → w.grownBy w' (some b) → wpList P ops Q rest (a.put o.dst undef) w') : wpList P ops Q (o :: rest) a w := by
  refine wpList_plain hg fun K' hK' => ?_
  obtain ⟨w', hrun, r1, r2⟩ := hown.put K ht hn hkey val
  unfold Oper.wp
  simp [execOp, hop, hm, hx, hv, hrun, Result.andThen]
  exact hK' _ _ (hK w' r1 r2)
theorem wpList_look {P : Program} {w : World} {ops : Array Oper} {rest : List Oper} {o : Oper} {a : Act} {Q : Exit → Act → World → Prop} (hg : o.guard = none) (m x : Operand) (t : TypeId) (hop : o.op = Op.lookup t m x false)
    {k e : TypeId} (K : Keyed P k) (ht : P.underlying t = some (.map k e)) {z : Value} (hz : (zeroValue e).run P w = .ok z w) (b n : Nat) (g : Lit → Option Value) (hm : a.eval m = .map (some b)) (hown : MapOf P k w b n g) (key : Value) (kl : Lit) (hx : a.eval x = key) (hkey : keyOf P k key = some kl)
    (hK : wpList P ops Q rest (a.put o.dst ((g kl).getD z)) w) : wpList P ops Q (o :: rest) a w := by
  refine wpList_plain hg fun K' hK' => ?_
  have hrun := hown.look K ht hz hkey
  unfold Oper.wp
  simp [execOp, hop, hm, hx, hrun, Result.andThen]
  exact hK' _ _ hK
end Go.Proofs.YtigmdddeplnciaaGreatDoor

/- THE WALKS over the numbers of a path, whether they differ, and what a mode allows. -/
namespace Go.Proofs.YtigmdddeplnciaaGreatDoor
open Go.RowKit
open Go.Maps (Keyed int_keyed keyOf_int_mk)
theorem nums_len (l : List Val) (i : Nat) : (numsI l i).length = (l.length + 1 - i) / 2 := by unfold numsI; rw [List.length_map, List.length_range]
theorem nums_snoc (l : List Val) (i k : Nat) (h : k < (l.length + 1 - i) / 2) : ((numsI l i).take (k + 1)).map (Value.int .i64) = ((numsI l i).take k).map (Value.int .i64) ++ [Value.int .i64 l[i + 2 * k]!.n] := by
  have hk : k < (numsI l i).length := by rw [nums_len]; exact h
  rw [List.take_succ_eq_append_getElem hk, List.map_append]
  congr 1
  unfold numsI
  simp
theorem Vals.atB {w : World} {ok : Nat → Prop} {A : Option Addr} {l : List Val} (h : Vals w ok A l) {i : Nat} (hi : i < l.length) : ∃ b o, A = some ⟨b, o, none⟩ ∧ ∀ j, j < l.length → ok b ∧ ∃ A' c', V5 w b (o + j * 5) l[j]! A' c' ∧ l[j]!.l.length ≤ c' ∧ Vals w ok A' l[j]!.l := by
  obtain ⟨b, o, hA, hc⟩ := h.2 (by omega)
  exact ⟨b, o, hA, fun j hj => by rw [getV hj]; exact VCells.iff.1 (hc j hj)⟩
set_option maxRecDepth 100000 in
set_option maxHeartbeats 800000 in
theorem p_numbers (l : List Val) (i : Nat) (hi : i ≤ 1) (ok : Nat → Prop) (A : Option Addr) (c : Nat) (w : World) (hl : l.length ≤ 8000000) (hv : Vals w ok A l) :
    Calls Tryz.prog 67 #[.slice A l.length c, .int .i64 i] w fun e w' => ∃ A' c', e = .returned (.slice A' (numsI l i).length c') ∧ (numsI l i).length ≤ c' ∧ Nums w' (fun b => w.heap.size ≤ b) A' (numsI l i) ∧ Ext w w' := by
  have HV := Lib.hid hv
  have HS0 := Lib.hid (World.ownsRow_nil w w.heap.size 3 1)
  have HSN := Lib.hid (nums_snoc l i)
  have HLN := Lib.hid (nums_len l i)
  have HLE := Lib.hid (show (l.length + 1 - i) / 2 ≤ l.length + 1 by omega)
  have HI := Lib.hid hi
  clear hv hi
  go_enter Tryz.func67, Tryz.ntmps67
  go_wp2_with fail
  go_loopw [5, 6] (fun v u W => ∃ j k : Nat, u = .int .i64 j ∧ Hid (j = i + 2 * k) ∧ Hid (k ≤ (l.length + 1 - i) / 2) ∧ Hid (W.ownsRow w.heap.size 3 1 v k (((numsI l i).take k).map (Value.int .i64))) ∧ Hid (Ext w W)) (fun _ u _ => l.length - (intOf u).toNat)
  case atStart => exact ⟨i, 0, rfl, Lib.hid (by omega), Lib.hid (Nat.zero_le _), HS0, Lib.hid (Ext.refl _)⟩
  case round =>
    obtain ⟨j, k, rfl, hj, hk, hown, hE⟩ := hrel
    by_cases hlt : j < l.length
    · obtain ⟨b, o, rfl, hc⟩ := HV.out.atB hlt
      obtain ⟨-, A', c', ⟨-, h5, -⟩, -⟩ := hc j hlt
      replace h5 := hE.out.cell h5
      have hkm : k < (l.length + 1 - i) / 2 := by have := hj.out; have := HI.out; omega
      have HSN' := Lib.hid (HSN.out k hkm)
      have hj' := hj.out
      rw [← hj'] at HSN'
      have hkb : k + 1 ≤ 8388608 := by have := HLE.out; omega
      have HKM := Lib.hid hkm
      have HJN := Lib.hid (show j + 2 = i + 2 * (k + 1) by omega)
      clear hc hj' hj hkm hk HSN
      generalize l[j]!.n = x at *
      have hown' := hown.out
      have hE' := hE.out
      clear hown hE
      go_wp2_with (at_builtin; refine own_push El_int rfl (.tmp 14) (.tmp 20) rfl w wr _ k _ [.int .i64 x] rfl hown' hE' rfl rfl rfl (by simp [Value.oneCell']) hkb (by decide) ?_; intro v2 w9 hown2 hE9)
      have HO2 := Lib.hid (show w9.ownsRow w.heap.size 3 1 v2 (k + 1) (((numsI l i).take (k + 1)).map (Value.int .i64)) by rw [HSN'.out]; exact hown2)
      have HE9 := Lib.hid hE9
      clear hown2 hE9 hown' hE'
      go_roundw
      case rel => exact ⟨j + 2, k + 1, by go_num, HJN, Lib.hid HKM.out, HO2, HE9⟩
      case measure => simp [intOf]; omega
    · have hkm : k = (l.length + 1 - i) / 2 := by have := hj.out; have := hk.out; have := HI.out; omega
      have HD := Lib.hid (nums_of_own (l := numsI l i) (by have := hown.out; rwa [List.take_of_length_le (by rw [HLN.out]; omega)] at this) (by rw [HLN.out]; exact hkm) (by rw [HLN.out]; have := HLE.out; omega))
      have HE := Lib.hid hE.out
      clear hown hE hkm hk hj
      go_wp2_with fail
      obtain ⟨A9, c9, e9, h9, hV9⟩ := HD.out
      subst e9
      go_ret
      exact ⟨A9, c9, rfl, h9, hV9, HE.out⟩
/- whether numbers differ -/
abbrev lkI (i : Int) : Lit := .int .i64 i
theorem key_id {x : Int} (h : idOk x) : keyOf Tryz.prog 3 (.int .i64 x) = some (lkI x) := keyOf_int_mk Tryz.underlying3 (a := x) (by unfold idOk at h; simp [Lit.wf, IntKind.min, IntKind.max, IntKind.signed, IntKind.bits]; omega)
/-- the map tells which numbers came up among the first k -/
def SeenM (gf : Lit → Option Value) (l : List Int) (k : Nat) : Prop := ∀ x : Int, gf (lkI x) = if x ∈ l.take k then some (.bool true) else none
theorem SeenM.nil (l : List Int) : SeenM (fun _ => none) l 0 := fun x => by rw [List.take_zero, if_neg (by simp)]
theorem SeenM.look {gf : Lit → Option Value} {l : List Int} {k : Nat} (h : SeenM gf l k) (x : Int) : (gf (lkI x)).getD (.bool false) = .bool (decide (x ∈ l.take k)) := by
  rw [h x]
  by_cases hx : x ∈ l.take k
  · rw [if_pos hx, decide_eq_true hx]; rfl
  · rw [if_neg hx, decide_eq_false hx]; rfl
theorem SeenM.put {gf : Lit → Option Value} {l : List Int} {k : Nat} (h : SeenM gf l k) (hk : k < l.length) : SeenM (putM gf (lkI l[k]!) (.bool true)) l (k + 1) := fun x => by
  rw [List.take_succ_eq_append_getElem hk, ← getElem!_pos l k hk]
  by_cases e : x = l[k]!
  · subst e; rw [putM_same, if_pos (by simp)]
  · rw [putM_other _ _ (fun e2 => e (by injection e2)), h x]
    by_cases hx : x ∈ l.take k
    · rw [if_pos hx, if_pos (by simp [hx])]
    · rw [if_neg hx, if_neg (fun h => (List.mem_append.1 h).elim hx (fun h => e (List.mem_singleton.1 h)))]
theorem noDup_no {l : List Int} {k : Nat} (hk : k < l.length) (h : l[k]! ∈ l.take k) : noDup l = false := by
  unfold noDup
  rw [decide_eq_false_iff_not, nodup_bang]
  intro hn
  obtain ⟨j, hj, e⟩ := List.getElem_of_mem h
  rw [List.length_take] at hj
  rw [List.getElem_take, ← getElem!_pos l j (by omega)] at e
  exact hn j k (by omega) hk e
theorem noDup_yes {l : List Int} (h : ∀ k, k < l.length → l[k]! ∉ l.take k) : noDup l = true := by
  unfold noDup
  rw [decide_eq_true_iff, nodup_bang]
  intro i j hij hj e
  refine h j hj ?_
  rw [← e, getElem!_pos l i (by omega), ← List.getElem_take (j := j) (h := by rw [List.length_take]; omega)]
  exact List.getElem_mem _
theorem Nums.at_ {w : World} {ok : Nat → Prop} {A : Option Addr} {l : List Int} (h : Nums w ok A l) {i : Nat} (hi : i < l.length) : ∃ b o, A = some ⟨b, o, none⟩ ∧ ∀ j, j < l.length → w.cell? ⟨b, o + j, none⟩ = some (.int .i64 l[j]!) := by
  obtain ⟨b, o, hA, hc⟩ := h.2 (by omega)
  exact ⟨b, o, hA, fun j hj => by have := (hc j hj).2; rw [Nat.mul_one] at this; rw [getElem!_pos l j hj]; exact this⟩
set_option maxRecDepth 100000 in
set_option maxHeartbeats 1600000 in
theorem p_distinct (l : List Int) (ok : Nat → Prop) (A : Option Addr) (c : Nat) (w : World) (hv : Nums w ok A l) (hr : ∀ x ∈ l, idOk x) :
    Calls Tryz.prog 68 #[.slice A l.length c] w fun e w' => e = .returned (.bool (noDup l)) ∧ Ext w w' := by
  obtain ⟨mb, hmb⟩ : ∃ mb, mb = w.heap.size := ⟨_, rfl⟩
  have hmade := MapOf.made Tryz.prog 3 w
  obtain ⟨w1, hw1⟩ : ∃ w1, w1 = w.alloc (.map #[] 0) := ⟨_, rfl⟩
  have hx1 : Ext w w1 := by rw [hw1]; exact (Ext.refl _).alloc _
  rw [← hw1, ← hmb] at hmade
  have hm := hv.len
  have HV := Lib.hid hv
  have HM := Lib.hid hmade
  have HX1 := Lib.hid hx1
  have HMB := Lib.hid hmb
  have HKEY := Lib.hid (fun k (hk : k < l.length) => (key_id (hr l[k]! (by rw [getElem!_pos l k hk]; exact List.getElem_mem hk)) : keyOf Tryz.prog 3 (.int .i64 l[k]!) = some (lkI l[k]!)))
  have HNO := Lib.hid (fun k (hk : k < l.length) h => noDup_no (l := l) hk h)
  have HYES := Lib.hid (noDup_yes (l := l))
  have HPUT := Lib.hid (fun gf k (h : SeenM gf l k) (hk : k < l.length) => h.put hk)
  generalize noDup l = R at *
  clear hv hr hmade hx1
  have hmm := @run_makeMap Tryz.prog
  go_enter Tryz.func68, Tryz.ntmps68
  go_upto_region 2 with (fail)
  rw [← hw1, ← hmb]
  clear hw1 hmb hmm
  go_wp2_with fail
  go_loopw [9] (fun u W => ∃ (k : Nat) (gf : Lit → Option Value), u = .int .i64 k ∧ k ≤ l.length ∧ Hid (MapOf Tryz.prog 3 W mb k gf) ∧ Hid (SeenM gf l k) ∧ Hid (∀ j, j < k → l[j]! ∉ l.take j) ∧ Hid (Ext w W)) (fun u _ => l.length - (intOf u).toNat)
  case atStart => exact ⟨0, _, rfl, Nat.zero_le _, HM, Lib.hid (SeenM.nil l), Lib.hid (fun j h => absurd h (by omega)), HX1⟩
  case round =>
    clear HM HX1
    obtain ⟨k, gf, rfl, hk, hM, hS, hN, hE⟩ := hrel
    by_cases hlt : k < l.length
    · obtain ⟨b, o, rfl, hc⟩ := HV.out.at_ hlt
      have h5 := hE.out.cell ((hc k hlt))
      have hkey := HKEY.out k hlt
      have HLK := Lib.hid (hS.out.look l[k]!)
      have HNO' := Lib.hid (HNO.out k hlt)
      have HP := Lib.hid (HPUT.out gf k hS.out hlt)
      have HN' := Lib.hid (fun (h : l[k]! ∉ l.take k) j (hj : j < k + 1) => (if e : j = k then (by subst e; exact h) else hN.out j (by omega) : l[j]! ∉ l.take j))
      have hkm : k < maxLen := by unfold maxLen; omega
      clear hc HKEY HNO HPUT hS hN
      by_cases hin : l[k]! ∈ l.take k
      · have HR := Lib.hid (HNO'.out hin)
        have HL2 := Lib.hid (HLK.out.trans (by rw [decide_eq_true hin]))
        clear HNO' HLK HP HN' hin
        generalize l[k]! = x at *
        go_wp2_with (at_lookup; refine wpList_look rfl (.tmp 13) (.tmp 14) 127 rfl (int_keyed Tryz.underlying3) Tryz.underlying127 (z := .bool false) rfl mb k gf rfl hM.out (.int .i64 x) (lkI x) rfl hkey ?_; rw [HL2.out])
        go_ret
        exact ⟨ret_bool HR.out.symm, hE.out⟩
      · have HT := Lib.hid (HN'.out hin)
        have HL2 := Lib.hid (HLK.out.trans (by rw [decide_eq_false hin]))
        clear HNO' HLK HN' hin
        generalize l[k]! = x at *
        go_wp2_with (first | (at_lookup; refine wpList_look rfl (.tmp 13) (.tmp 14) 127 rfl (int_keyed Tryz.underlying3) Tryz.underlying127 (z := .bool false) rfl mb k gf rfl hM.out (.int .i64 x) (lkI x) rfl hkey ?_; rw [HL2.out]) | (at_mapUpdate; refine wpList_put rfl (.tmp 16) (.tmp 17) (.const (.bool true)) 127 rfl (int_keyed Tryz.underlying3) Tryz.underlying127 mb k gf rfl hM.out hkm (.int .i64 x) (.bool true) (lkI x) rfl rfl hkey ?_; intro w7 hm7 hg7))
        have HM7 := Lib.hid hm7
        have HE7 := Lib.hid (hE.out.grown hg7 (fun b hb => by injection hb with hb; have := HMB.out; omega))
        clear hm7 hg7 hM hE
        go_roundw
        case rel => exact ⟨k + 1, _, by go_num, by omega, HM7, HP, HT, HE7⟩
        case measure => simp [intOf]; omega
    · have HT := Lib.hid (HYES.out (fun j hj => hN.out j (by omega)))
      have HE := Lib.hid hE.out
      clear hM hS hN hE
      go_wp2_with fail
      go_ret
      exact ⟨ret_bool HT.out.symm, HE.out⟩
end Go.Proofs.YtigmdddeplnciaaGreatDoor

/- THE WALK over what a mode allows. -/
namespace Go.Proofs.YtigmdddeplnciaaGreatDoor
open Go.RowKit
theorem nums_rng {l : List Val} (hr : ∀ i, i < l.length → idOk l[i]!.n) (i : Nat) : ∀ x ∈ numsI l i, idOk x := fun x hx => by
  unfold numsI at hx
  obtain ⟨j, hj, rfl⟩ := List.mem_map.1 hx
  have := List.mem_range.1 hj
  exact hr _ (by omega)
theorem p_numbers0 (l : List Val) (ok : Nat → Prop) (A : Option Addr) (c : Nat) (w : World) (hl : l.length ≤ 8000000) (hv : Vals w ok A l) :
    Calls Tryz.prog 67 #[.slice A l.length c, .int .i64 0] w fun e w' => ∃ A' c', e = .returned (.slice A' (numsI l 0).length c') ∧ (numsI l 0).length ≤ c' ∧ Nums w' (fun b => w.heap.size ≤ b) A' (numsI l 0) ∧ Ext w w' := p_numbers l 0 (by omega) ok A c w hl hv
theorem p_numbers1 (l : List Val) (ok : Nat → Prop) (A : Option Addr) (c : Nat) (w : World) (hl : l.length ≤ 8000000) (hv : Vals w ok A l) :
    Calls Tryz.prog 67 #[.slice A l.length c, .int .i64 1] w fun e w' => ∃ A' c', e = .returned (.slice A' (numsI l 1).length c') ∧ (numsI l 1).length ≤ c' ∧ Nums w' (fun b => w.heap.size ≤ b) A' (numsI l 1) ∧ Ext w w' := p_numbers l 1 (by omega) ok A c w hl hv
theorem allow1 (l : List Val) : allowL l 1 = true := by unfold allowL; rw [if_pos rfl]
theorem allow2 (l : List Val) : allowL l 2 = noDup (numsI l 1) := by unfold allowL; rw [if_neg (by decide), if_pos rfl]
theorem allow3 (l : List Val) : allowL l 3 = noDup (cutP (numsI l 0)) := by unfold allowL; rw [if_neg (by decide), if_neg (by decide), if_pos rfl]
theorem allow_o (l : List Val) {mode : Int} (h1 : mode ≠ 1) (h2 : mode ≠ 2) (h3 : mode ≠ 3) : allowL l mode = false := by unfold allowL; rw [if_neg h1, if_neg h2, if_neg h3]
set_option maxRecDepth 100000 in
set_option maxHeartbeats 1600000 in
theorem p_allowed (l : List Val) (mode : Int) (ok : Nat → Prop) (A : Option Addr) (c : Nat) (w : World) (hl : l.length ≤ 8000000) (h0 : 1 ≤ l.length) (hv : Vals w ok A l) (hr : ∀ i, i < l.length → idOk l[i]!.n) :
    Calls Tryz.prog 36 #[.slice A l.length c, .int .i64 mode] w fun e w' => e = .returned (.bool (allowL l mode)) ∧ Ext w w' := by
  have HN0 := Lib.hid (p_numbers0 l ok A c w hl hv)
  by_cases h1 : mode = 1
  · subst h1
    have HR := Lib.hid (allow1 l)
    clear hv hr h0
    go_enter Tryz.func36, Tryz.ntmps36
    go_wp2_with (go_at_call 67; ((with_reducible refine (HN0.out).mono ?_); rintro e w1 ⟨A1, c1, rfl, hc1, hN1, hx1⟩))
    go_ret
    exact ⟨ret_bool HR.out.symm, hx1⟩
  by_cases h2 : mode = 2
  · subst h2
    have HR := Lib.hid (allow2 l)
    have HN1 := Lib.hid (fun W (e : Ext w W) => p_numbers1 l ok A c W hl (hv.ext e))
    have HD := Lib.hid (fun W A' c' (ok' : Nat → Prop) (h : Nums W ok' A' (numsI l 1)) => p_distinct (numsI l 1) ok' A' c' W h (nums_rng hr 1))
    clear hv hr h0
    rw [HR.out]
    clear HR
    generalize noDup (numsI l 1) = R at *
    go_enter Tryz.func36, Tryz.ntmps36
    go_upto_region 6 with (go_at_call 67; ((with_reducible refine (HN0.out).mono ?_); rintro e w1 ⟨A1, c1, rfl, hc1, hN1, hx1⟩))
    clear hc1 hN1
    go_wp2_with (first | (go_at_call 67; ((with_reducible refine (HN1.out _ hx1).mono ?_); rintro e w2 ⟨A2, c2, rfl, hc2, hN2, hx2⟩)) | (go_at_call 68; ((with_reducible refine (HD.out _ _ _ _ hN2).mono ?_); rintro e w3 ⟨rfl, hx3⟩)))
    go_ret
    exact ⟨rfl, hx1.trans (hx2.trans hx3)⟩
  by_cases h3 : mode = 3
  · subst h3
    have HR := Lib.hid (allow3 l)
    have HRG := Lib.hid (nums_rng hr 0)
    have hnl : 1 ≤ (numsI l 0).length := by rw [nums_len]; omega
    have hnl2 : (numsI l 0).length ≤ 8000001 := by rw [nums_len]; omega
    have HD := Lib.hid (fun W A' c' (ok' : Nat → Prop) (N : List Int) (hN : ∀ x ∈ N, x ∈ numsI l 0) (h : Nums W ok' A' N) => p_distinct N ok' A' c' W h (fun x hx => nums_rng hr 0 x (hN x hx)))
    clear hv hr h0 HRG h1 h2
    rw [HR.out]
    clear HR
    generalize numsI l 0 = N at *
    obtain ⟨R, hR⟩ : ∃ R, R = noDup (cutP N) := ⟨_, rfl⟩
    rw [← hR]
    have HRN := Lib.hid hR
    clear hR
    obtain ⟨m, hm⟩ : ∃ m, N.length = m + 1 := ⟨N.length - 1, by omega⟩
    have HM := Lib.hid hm
    rw [hm] at hnl2 HN0
    clear hm hnl
    go_enter Tryz.func36, Tryz.ntmps36
    go_upto_region 9 with (go_at_call 67; ((with_reducible refine (HN0.out).mono ?_); rintro e w1 ⟨A1, c1, rfl, hc1, hN1, hx1⟩))
    have HNU := Lib.hid hN1
    obtain ⟨b, o, rfl, hcl⟩ := hN1.at_ (show 0 < N.length by rw [HM.out]; omega)
    have c0 := hcl 0 (by rw [HM.out]; omega)
    have ck := hcl m (by rw [HM.out]; omega)
    rw [Nat.add_zero] at c0
    have HC1 := Lib.hid (fun (h : ¬ 0 < m) => (by unfold cutP; rw [HM.out, if_neg (by omega)] : cutP N = N))
    have HC2 := Lib.hid (fun (h : N[0]! ≠ N[m]!) => (by unfold cutP; rw [HM.out, Nat.add_sub_cancel, if_neg (fun e => h e.2)] : cutP N = N))
    have HC3 := Lib.hid (fun (h : 0 < m) (e : N[0]! = N[m]!) => (by unfold cutP; rw [HM.out, Nat.add_sub_cancel, if_pos ⟨by omega, e⟩, List.dropLast_eq_take, HM.out, Nat.add_sub_cancel] : cutP N = N.take m))
    have HLT := Lib.hid (fun (h : 0 < m) => (by rw [List.length_take, HM.out]; omega : (N.take m).length = m))
    have HLN := Lib.hid HM.out
    generalize N[0]! = x at *
    generalize N[m]! = y at *
    clear hcl hN1
    by_cases hm0 : 0 < m
    · have hmi : (0 : Int) < (m : Int) := by omega
      by_cases hxy : x = y
      · have HC := Lib.hid (HC3.out hm0 hxy)
        have HL := Lib.hid (HLT.out hm0)
        have HDD := Lib.hid (HD.out w1.drew _ c1 _ (N.take m) (fun x hx => List.mem_of_mem_take hx) ((SliceR.take HNU.out m).mono (fun _ _ _ _ h => ⟨h.1, ((Ext.refl w1).drew).cell h.2⟩)))
        have HF := Lib.hid (by rw [HRN.out, HC.out] : R = noDup (N.take m))
        rw [HL.out] at HDD
        generalize noDup (N.take m) = R2 at *
        clear HC1 HC2 HC3 HC HD HNU HLT HL HRN
        have MKR1 := Lib.hid (fun V (e : Ext w1 V) => (⟨e.cell c0, e.cell ck, e⟩ : V.cell? ⟨b, o, none⟩ = some (.int .i64 x) ∧ V.cell? ⟨b, o + m, none⟩ = some (.int .i64 y) ∧ Ext w1 V))
        refine wp_region_held_drew (S := (fun V => V.cell? ⟨b, o, none⟩ = some (.int .i64 x) ∧ V.cell? ⟨b, o + m, none⟩ = some (.int .i64 y) ∧ Ext w1 V)) (by kernel_rfl) ?hs1 (fun hHeld => ?go1)
        case hs1 => (exact MKR1.out _ (by solve_by_elim [X0, X1, X2, X3]))
        refine TK 0 (v := ?v2) hHeld ?hy2 ?_
        case hy2 => (intro w _; go_simp <;> rfl)
        (try simp only [PU])
        refine TK 1 (v := ?v3) hHeld ?hy3 ?_
        case hy3 => (intro w _; go_simp <;> first | with_reducible rfl | rw [if_neg (by omega)] | rw [if_pos (by omega)])
        (try simp only [PU])
        refine TK 2 (v := ?v4) hHeld ?hy4 ?_
        case hy4 => (intro w _; go_simp <;> rfl)
        (try simp only [PU])
        refine TK 3 (v := ?v5) hHeld ?hy5 ?_
        case hy5 => (intro w _; go_simp <;> rfl)
        (try simp only [PU])
        refine TK 4 (v := ?v6) hHeld ?hy6 ?_
        case hy6 => (intro w _; go_simp <;> first | with_reducible rfl | rw [if_neg (by omega)] | rw [if_pos (by omega)])
        (try simp only [PU])
        refine TK 5 (v := ?v7) hHeld ?hy7 ?_
        case hy7 => (intro w hSw; (try dsimp only at hSw); go_simp <;> first | with_reducible rfl | rw [if_neg (by omega)] | rw [if_pos (by omega)])
        (try simp only [PU])
        refine TK 6 (v := ?v8) hHeld ?hy8 ?_
        case hy8 => (intro w _; go_simp <;> rfl)
        (try simp only [PU])
        refine TK 7 (v := ?v9) hHeld ?hy9 ?_
        case hy9 => (intro w _; go_simp <;> rfl)
        (try simp only [PU])
        refine TK 8 (v := ?v10) hHeld ?hy10 ?_
        case hy10 => (intro w _; go_simp <;> first | with_reducible rfl | rw [if_neg (by omega)] | rw [if_pos (by omega)])
        (try simp only [PU])
        refine TK 9 (v := ?v11) hHeld ?hy11 ?_
        case hy11 => (intro w hSw; (try dsimp only at hSw); go_simp <;> first | with_reducible rfl | rw [if_neg (by omega)] | rw [if_pos (by omega)])
        (try simp only [PU])
        refine TK 10 (v := ?v12) hHeld ?hy12 ?_
        case hy12 => (intro w _; go_simp <;> first | with_reducible rfl | rw [if_neg (by omega)] | rw [if_pos (by omega)])
        (try simp only [PU])
        refine TK 11 (v := ?v13) hHeld ?hy13 ?_
        case hy13 => (intro w _; go_simp <;> rfl)
        (try simp only [PU])
        refine wpAnyH_done (by kernel_rfl) ?_ _
        clear hHeld
        clear MKR1
        go_wp2_with (go_at_call 68; ((with_reducible refine (HDD.out).mono ?_); rintro e w3 ⟨rfl, hx3⟩))
        go_ret
        exact ⟨ret_bool HF.out.symm, hx1.trans (Ext.trans (by solve_by_elim [X0, X1, X2, X3]) hx3)⟩
      · have HC := Lib.hid (HC2.out hxy)
        have HDD := Lib.hid (HD.out w1.drew _ c1 _ N (fun x hx => hx) (HNU.out.ext ((Ext.refl w1).drew)))
        have HF := Lib.hid (by rw [HRN.out, HC.out] : R = noDup N)
        rw [HLN.out] at HDD
        generalize noDup N = R2 at *
        clear HC1 HC2 HC3 HC HD HNU HLT HRN
        have MKR2 := Lib.hid (fun V (e : Ext w1 V) => (⟨e.cell c0, e.cell ck, e⟩ : V.cell? ⟨b, o, none⟩ = some (.int .i64 x) ∧ V.cell? ⟨b, o + m, none⟩ = some (.int .i64 y) ∧ Ext w1 V))
        refine wp_region_held_drew (S := (fun V => V.cell? ⟨b, o, none⟩ = some (.int .i64 x) ∧ V.cell? ⟨b, o + m, none⟩ = some (.int .i64 y) ∧ Ext w1 V)) (by kernel_rfl) ?hs14 (fun hHeld => ?go14)
        case hs14 => (exact MKR2.out _ (by solve_by_elim [X0, X1, X2, X3]))
        refine TK 0 (v := ?v15) hHeld ?hy15 ?_
        case hy15 => (intro w _; go_simp <;> rfl)
        (try simp only [PU])
        refine TK 1 (v := ?v16) hHeld ?hy16 ?_
        case hy16 => (intro w _; go_simp <;> first | with_reducible rfl | rw [if_neg (by omega)] | rw [if_pos (by omega)])
        (try simp only [PU])
        refine TK 2 (v := ?v17) hHeld ?hy17 ?_
        case hy17 => (intro w _; go_simp <;> rfl)
        (try simp only [PU])
        refine TK 3 (v := ?v18) hHeld ?hy18 ?_
        case hy18 => (intro w _; go_simp <;> rfl)
        (try simp only [PU])
        refine TK 4 (v := ?v19) hHeld ?hy19 ?_
        case hy19 => (intro w _; go_simp <;> first | with_reducible rfl | rw [if_neg (by omega)] | rw [if_pos (by omega)])
        (try simp only [PU])
        refine TK 5 (v := ?v20) hHeld ?hy20 ?_
        case hy20 => (intro w hSw; (try dsimp only at hSw); go_simp <;> first | with_reducible rfl | rw [if_neg (by omega)] | rw [if_pos (by omega)])
        (try simp only [PU])
        refine TK 6 (v := ?v21) hHeld ?hy21 ?_
        case hy21 => (intro w _; go_simp <;> rfl)
        (try simp only [PU])
        refine TK 7 (v := ?v22) hHeld ?hy22 ?_
        case hy22 => (intro w _; go_simp <;> rfl)
        (try simp only [PU])
        refine TK 8 (v := ?v23) hHeld ?hy23 ?_
        case hy23 => (intro w _; go_simp <;> first | with_reducible rfl | rw [if_neg (by omega)] | rw [if_pos (by omega)])
        (try simp only [PU])
        refine TK 9 (v := ?v24) hHeld ?hy24 ?_
        case hy24 => (intro w hSw; (try dsimp only at hSw); go_simp <;> first | with_reducible rfl | rw [if_neg (by omega)] | rw [if_pos (by omega)])
        (try simp only [PU])
        refine TK 10 (v := ?v25) hHeld ?hy25 ?_
        case hy25 => (intro w _; go_simp <;> first | with_reducible rfl | rw [if_neg (by omega)] | rw [if_pos (by omega)])
        (try simp only [PU])
        refine TK 11 (v := ?v26) hHeld ?hy26 ?_
        case hy26 => (intro w _; go_simp <;> rfl)
        (try simp only [PU])
        refine wpAnyH_done (by kernel_rfl) ?_ _
        clear hHeld
        clear MKR2
        go_wp2_with (go_at_call 68; ((with_reducible refine (HDD.out).mono ?_); rintro e w3 ⟨rfl, hx3⟩))
        go_ret
        exact ⟨ret_bool HF.out.symm, hx1.trans (Ext.trans (by solve_by_elim [X0, X1, X2, X3]) hx3)⟩
    · have hmi : ¬ (0 : Int) < (m : Int) := by omega
      have HC := Lib.hid (HC1.out hm0)
      have HDD := Lib.hid (HD.out w1.drew _ c1 _ N (fun x hx => hx) (HNU.out.ext ((Ext.refl w1).drew)))
      have HF := Lib.hid (by rw [HRN.out, HC.out] : R = noDup N)
      rw [HLN.out] at HDD
      generalize noDup N = R2 at *
      clear HC1 HC2 HC3 HC HD HNU HLT HRN
      have MKR3 := Lib.hid (fun V (e : Ext w1 V) => (⟨e.cell c0, e.cell ck, e⟩ : V.cell? ⟨b, o, none⟩ = some (.int .i64 x) ∧ V.cell? ⟨b, o + m, none⟩ = some (.int .i64 y) ∧ Ext w1 V))
      refine wp_region_held_drew (S := (fun V => V.cell? ⟨b, o, none⟩ = some (.int .i64 x) ∧ V.cell? ⟨b, o + m, none⟩ = some (.int .i64 y) ∧ Ext w1 V)) (by kernel_rfl) ?hs27 (fun hHeld => ?go27)
      case hs27 => (exact MKR3.out _ (by solve_by_elim [X0, X1, X2, X3]))
      refine TK 0 (v := ?v28) hHeld ?hy28 ?_
      case hy28 => (intro w _; go_simp <;> rfl)
      (try simp only [PU])
      refine TK 1 (v := ?v29) hHeld ?hy29 ?_
      case hy29 => (intro w _; go_simp <;> first | with_reducible rfl | rw [if_neg (by omega)] | rw [if_pos (by omega)])
      (try simp only [PU])
      refine TK 2 (v := ?v30) hHeld ?hy30 ?_
      case hy30 => (intro w _; go_simp <;> rfl)
      (try simp only [PU])
      refine TN 3 hHeld ?_
      (try simp only [PU])
      refine TN 4 hHeld ?_
      (try simp only [PU])
      refine TN 5 hHeld ?_
      (try simp only [PU])
      refine TN 6 hHeld ?_
      (try simp only [PU])
      refine TN 7 hHeld ?_
      (try simp only [PU])
      refine TN 8 hHeld ?_
      (try simp only [PU])
      refine TN 9 hHeld ?_
      (try simp only [PU])
      refine TN 10 hHeld ?_
      (try simp only [PU])
      refine TK 11 (v := ?v39) hHeld ?hy39 ?_
      case hy39 => (intro w _; go_simp <;> rfl)
      (try simp only [PU])
      refine wpAnyH_done (by kernel_rfl) ?_ _
      clear hHeld
      clear MKR3
      go_wp2_with (go_at_call 68; ((with_reducible refine (HDD.out).mono ?_); rintro e w3 ⟨rfl, hx3⟩))
      go_ret
      exact ⟨ret_bool HF.out.symm, hx1.trans (Ext.trans (by solve_by_elim [X0, X1, X2, X3]) hx3)⟩
  · have HR := Lib.hid (allow_o l h1 h2 h3)
    have h1' : (mode == 1) = false := by simpa using h1
    have h2' : (mode == 2) = false := by simpa using h2
    have h3' : (mode == 3) = false := by simpa using h3
    clear hv hr h0 h1 h2 h3
    go_enter Tryz.func36, Tryz.ntmps36
    go_wp2_with (go_at_call 67; ((with_reducible refine (HN0.out).mono ?_); rintro e w1 ⟨A1, c1, rfl, hc1, hN1, hx1⟩))
    go_ret
    exact ⟨ret_bool HR.out.symm, hx1⟩
end Go.Proofs.YtigmdddeplnciaaGreatDoor

/- THE WALK over value.copied. -/
namespace Go.Proofs.YtigmdddeplnciaaGreatDoor
open Go.RowKit
theorem flatten_get {cs : List (List Value)} {n : Nat} (hs : ∀ x ∈ cs, x.length = n) (k j : Nat) (hk : k < cs.length) (hj : j < n) : cs.flatten[k * n + j]? = (cs[k])[j]? := by
  induction cs generalizing k with
  | nil => exact absurd hk (by simp)
  | cons x cs ih =>
    have hx : x.length = n := hs x (by simp)
    cases k with
    | zero => simp only [List.flatten_cons, List.getElem_cons_zero, Nat.zero_mul, Nat.zero_add]; rw [List.getElem?_append_left (by omega)]
    | succ k =>
      simp only [List.flatten_cons, List.getElem_cons_succ]
      rw [List.getElem?_append_right (by rw [hx, Nat.add_mul]; omega), hx, show (k + 1) * n + j - n = k * n + j by rw [Nat.add_mul]; omega]
      exact ih (fun y hy => hs y (List.mem_cons_of_mem _ hy)) k (by simpa using hk)
theorem flatten_set {cs : List (List Value)} {n : Nat} (hs : ∀ x ∈ cs, x.length = n) (k j : Nat) (u : Value) (hk : k < cs.length) (hj : j < n) : cs.flatten.set (k * n + j) u = (cs.set k ((cs[k]).set j u)).flatten := by
  induction cs generalizing k with
  | nil => exact absurd hk (by simp)
  | cons x cs ih =>
    have hx : x.length = n := hs x (by simp)
    cases k with
    | zero =>
      simp only [List.flatten_cons, List.getElem_cons_zero, Nat.zero_mul, Nat.zero_add, List.set_cons_zero]
      rw [List.set_append_left _ _ (by omega)]
    | succ k =>
      simp only [List.flatten_cons, List.getElem_cons_succ, List.set_cons_succ]
      rw [List.set_append_right _ _ (by rw [hx, Nat.add_mul]; omega), hx, show (k + 1) * n + j - n = k * n + j by rw [Nat.add_mul]; omega]
      rw [ih (fun y hy => hs y (List.mem_cons_of_mem _ hy)) k (by simpa using hk)]
/-- a row of cells whose first k elements bear copied lists -/
def MixTo (w : World) (ok ok' : Nat → Prop) (k : Nat) (l : List Val) (cs : List (List Value)) : Prop :=
  ∀ i (h : i < cs.length), ∃ (h' : i < l.length) (A : Option Addr) (c : Nat), cs[i] = (l[i]).cells A c ∧ (l[i]).l.length ≤ c ∧ (i < k → Vals w ok' A (l[i]).l) ∧ (k ≤ i → Vals w ok A (l[i]).l)
theorem MixTo.start {w : World} {ok ok' : Nat → Prop} {l : List Val} {cs : List (List Value)} (h : CopyTo w ok l cs) : MixTo w ok ok' 0 l cs := fun i hi => by
  obtain ⟨h', A, c, e1, e2, e3⟩ := h i hi
  exact ⟨h', A, c, e1, e2, fun h => absurd h (by omega), fun _ => e3⟩
theorem MixTo.done {w : World} {ok ok' : Nat → Prop} {l : List Val} {cs : List (List Value)} (h : MixTo w ok ok' cs.length l cs) : CopyTo w ok' l cs := fun i hi => by
  obtain ⟨h', A, c, e1, e2, e3, _⟩ := h i hi
  exact ⟨h', A, c, e1, e2, e3 hi⟩
theorem MixTo.size {w : World} {ok ok' : Nat → Prop} {k : Nat} {l : List Val} {cs : List (List Value)} (h : MixTo w ok ok' k l cs) : ∀ x ∈ cs, x.length = 5 := fun x hx => by
  obtain ⟨i, hi, rfl⟩ := List.getElem_of_mem hx
  obtain ⟨_, A, c, e, _⟩ := h i hi
  rw [e]; rfl
theorem MixTo.keep {w w' : World} {ok ok' : Nat → Prop} {k : Nat} {l : List Val} {cs : List (List Value)} (h : MixTo w ok ok' k l cs) (hk : ∀ b o x, ok b → w.cell? ⟨b, o, none⟩ = some x → w'.cell? ⟨b, o, none⟩ = some x) (hk' : ∀ b o x, ok' b → w.cell? ⟨b, o, none⟩ = some x → w'.cell? ⟨b, o, none⟩ = some x) : MixTo w' ok ok' k l cs := fun i hi => by
  obtain ⟨h', A, c, e1, e2, e3, e4⟩ := h i hi
  exact ⟨h', A, c, e1, e2, fun q => (e3 q).keep hk' (fun _ h => h), fun q => (e4 q).keep hk (fun _ h => h)⟩
theorem cells_set (v : Val) (A A' : Option Addr) (c c' : Nat) : (v.cells A c).set 4 (.slice A' v.l.length c') = v.cells A' c' := rfl
theorem MixTo.step {w : World} {ok ok' : Nat → Prop} {k : Nat} {l : List Val} {cs : List (List Value)} (h : MixTo w ok ok' k l cs) (hk : k < cs.length) (hl : k < l.length) {A' : Option Addr} {c' : Nat} (hc : (l[k]).l.length ≤ c') (hv : Vals w ok' A' (l[k]).l) : MixTo w ok ok' (k + 1) l (cs.set k ((l[k]).cells A' c')) := fun i hi => by
  have hi' : i < cs.length := by simpa using hi
  by_cases e : i = k
  · subst e
    exact ⟨hl, A', c', by simp, hc, fun _ => hv, fun h => absurd h (by omega)⟩
  · obtain ⟨h', A, c, e1, e2, e3, e4⟩ := h i hi'
    exact ⟨h', A, c, by rw [List.getElem_set_ne (Ne.symm e)]; exact e1, e2, fun q => e3 (by omega), fun q => e4 (by omega)⟩
set_option maxRecDepth 100000 in
set_option maxHeartbeats 6400000 in
theorem v_copiedStep (l : List Val) (ok : Nat → Prop) (A : Option Addr) (c : Nat) (w : World) (hv : Vals w ok A l) (hl : l.length ≤ 8000000)
    (ih : ∀ x ∈ l, ∀ (ok : Nat → Prop) (Ax : Option Addr) (cx : Nat) (W : World), Vals W ok Ax x.l → Calls Tryz.prog 96 #[.slice Ax x.l.length cx] W fun e W' => ∃ A' c', e = .returned (.slice A' x.l.length c') ∧ x.l.length ≤ c' ∧ Vals W' (fun b => W.heap.size ≤ b) A' x.l ∧ Ext W W') :
    Calls Tryz.prog 96 #[.slice A l.length c] w fun e w' => ∃ A' c', e = .returned (.slice A' l.length c') ∧ l.length ≤ c' ∧ Vals w' (fun b => w.heap.size ≤ b) A' l ∧ Ext w w' := by
  have hm := hv.len
  obtain ⟨cs0, hcl0, hct0, hsrc⟩ := hv.flat
  have HCL := Lib.hid (c_Clone_val l.length A c cs0.flatten w hv.none_ (by rw [flatten_len hct0.size, hcl0]) hsrc hct0.one hl)
  have HI := Lib.hid ih
  have HC0 := Lib.hid (hct0.keep' (w' := w) (ok' := fun b => b < w.heap.size) (fun b o x _ hc => ⟨hc, block_lt_of_cell hc⟩))
  have HL0 := Lib.hid hcl0
  clear hv ih hct0 hsrc hcl0
  go_enter Tryz.func96, Tryz.ntmps96
  go_wp2_with fail
  refine (HCL.out).mono ?_
  rintro e w1 ⟨v, rfl, hown, hE1⟩
  obtain ⟨A1, c1, rfl⟩ := own_form hown
  clear HCL
  go_wp2
  go_loopw [9] (fun u W => ∃ (k : Nat) (cs : List (List Value)), u = .int .i64 k ∧ k ≤ l.length ∧ W.ownsRow w.heap.size 37 5 (.slice A1 l.length c1) l.length cs.flatten ∧ Hid (cs.length = l.length) ∧ Hid (MixTo W (fun b => b < w.heap.size) (okB w.heap.size (.slice A1 l.length c1)) k l cs) ∧ Ext w W) (fun u _ => l.length - (intOf u).toNat)
  case atStart => exact ⟨0, cs0, rfl, Nat.zero_le _, hown, HL0, Lib.hid (MixTo.start (HC0.out.ext hE1)), hE1⟩
  case round =>
    clear hown
    obtain ⟨k, cs, rfl, hk, hown, hcl, hct, hE⟩ := hrel
    by_cases hlt : k < l.length
    · obtain ⟨g, cap, hvv, hgb, hgl⟩ := World.ownsRow.form hown (by omega)
      injection hvv with hv1 hv2 hv3
      subst hv1 hv3
      have hkc : k < cs.length := by rw [hcl.out]; exact hlt
      obtain ⟨h', Ak, ck, ek, hle, -, hko⟩ := hct.out k hkc
      have p4 : wr.cell? ⟨g, k * 5 + 4, none⟩ = some (.slice Ak (l[k]).l.length ck) := by
        rw [hown.cellAt _ (by omega), flatten_get hct.out.size k 4 hkc (by omega), ek]; rfl
      have HC := Lib.hid (HI.out l[k] (List.getElem_mem hlt) _ Ak ck wr (hko (Nat.le_refl _)))
      have HP := Lib.hid (fun (W : World) (h : MixTo W (fun b => b < w.heap.size) (okB w.heap.size (.slice (some ⟨g, 0, none⟩) l.length c1)) k l cs) A2 c2 (h1 : (l[k]).l.length ≤ c2) (h2 : Vals W (okB w.heap.size (.slice (some ⟨g, 0, none⟩) l.length c1)) A2 (l[k]).l) => h.step hkc hlt h1 h2)
      have HQ := Lib.hid (fun A2 c2 => (by rw [flatten_set hct.out.size k 4 _ hkc (by omega), ek, cells_set] : cs.flatten.set (k * 5 + 4) (.slice A2 (l[k]).l.length c2) = (cs.set k ((l[k]).cells A2 c2)).flatten))
      have HLS := Lib.hid (fun (y : List Value) => (by rw [List.length_set]; exact hcl.out : (cs.set k y).length = l.length))
      have hle2 := hE.le
      clear ek hle hko hkc hv2
      generalize l[k] = x at *
      go_wp2_with fail
      refine (HC.out).mono ?_
      rintro e w6 ⟨A2, c2, rfl, hl2, hV2, h6⟩
      have own6 := own_ext hown h6
      have hfr := own6.frozenAt (k * 5 + 4)
      have q4 := h6.cell p4
      obtain ⟨hownS, hgr⟩ := own6.stored (k * 5 + 4) (.slice A2 x.l.length c2)
      rw [HQ.out] at hownS
      have hcell : ∀ b o y, b ≠ g → w6.cell? ⟨b, o, none⟩ = some y → (w6.setCell ⟨g, k * 5 + 4, none⟩ (.slice A2 x.l.length c2)).cell? ⟨b, o, none⟩ = some y := fun b o y hb hc => by
        rw [World.cell?_setCell_other _ _ _ _ (fun e => hb (by injection e with e1; exact e1.symm))]; exact hc
      have HN := Lib.hid (HP.out (w6.setCell ⟨g, k * 5 + 4, none⟩ (.slice A2 x.l.length c2)) ((hct.out.keep (fun _ _ _ _ hc => h6.cell hc) (fun _ _ _ _ hc => h6.cell hc)).keep (fun b o y hb hc => hcell b o y (Nat.ne_of_lt (Nat.lt_of_lt_of_le hb hgb)) hc) (fun b o y hb hc => hcell b o y (fun e => hb.2 (by rw [e]; rfl)) hc)) A2 c2 hl2 (hV2.keep (fun b o y hb hc => hcell b o y (Nat.ne_of_gt (Nat.lt_of_lt_of_le hgl hb)) hc) (fun b hb => ⟨Nat.le_trans hle2 hb, fun e => Nat.ne_of_gt (Nat.lt_of_lt_of_le hgl hb) (by injection e)⟩)))
      have hES : Ext w (w6.setCell ⟨g, k * 5 + 4, none⟩ (.slice A2 x.l.length c2)) := (hE.trans h6).setCell hgb _
      obtain ⟨wS, hwS⟩ : ∃ wS, wS = w6.setCell ⟨g, k * 5 + 4, none⟩ (.slice A2 x.l.length c2) := ⟨_, rfl⟩
      rw [← hwS] at hownS HN hES
      have HWS := Lib.hid hwS
      clear hwS hV2 hcell hgr own6 HC HP HQ p4 hct
      go_upto_region 6 with (fail)
      rw [← HWS.out]
      clear HWS q4 hfr
      go_wp2_with fail
      go_roundw
      case rel => exact ⟨k + 1, cs.set k (x.cells A2 c2), by go_num, by omega, hownS, Lib.hid (HLS.out _), HN, hES⟩
      case measure => simp [intOf]; omega
    · have hk' : k = l.length := by omega
      have HD := Lib.hid ((show CopyTo wr (okB w.heap.size (.slice A1 l.length c1)) l cs from MixTo.done (by rw [show cs.length = k from hcl.out.trans hk'.symm]; exact hct.out)).done hown hcl.out hm (fun b hb => hb.1))
      go_wp2
      obtain ⟨A9, c9, e9, h9, hV9⟩ := HD.out
      injection e9 with e1 e2 e3
      subst e1 e3
      go_ret
      exact ⟨_, _, rfl, h9, hV9, hE⟩
theorem v_copiedN : ∀ (N : Nat) (l : List Val) (ok : Nat → Prop) (A : Option Addr) (c : Nat) (w : World), wtL l ≤ N → wtL l ≤ 8000000 → Vals w ok A l →
    Calls Tryz.prog 96 #[.slice A l.length c] w fun e w' => ∃ A' c', e = .returned (.slice A' l.length c') ∧ l.length ≤ c' ∧ Vals w' (fun b => w.heap.size ≤ b) A' l ∧ Ext w w'
  | 0, l, ok, A, c, w, hN, hm, hv => v_copiedStep l ok A c w hv (Nat.le_trans (wtL_len l) hm) (fun x hx => by have := wtL_kids hx; omega)
  | N + 1, l, ok, A, c, w, hN, hm, hv => v_copiedStep l ok A c w hv (Nat.le_trans (wtL_len l) hm) (fun x hx ok' Ax cx W hx' => by
    have := wtL_kids hx
    exact v_copiedN N x.l ok' Ax cx W (by omega) (by omega) hx')
theorem v_copied (l : List Val) (ok : Nat → Prop) (A : Option Addr) (c : Nat) (w : World) (hm : wtL l ≤ 8000000) (hv : Vals w ok A l) :
    Calls Tryz.prog 96 #[.slice A l.length c] w fun e w' => ∃ A' c', e = .returned (.slice A' l.length c') ∧ l.length ≤ c' ∧ Vals w' (fun b => w.heap.size ≤ b) A' l ∧ Ext w w' :=
  v_copiedN (wtL l) l ok A c w (Nat.le_refl _) hm hv
end Go.Proofs.YtigmdddeplnciaaGreatDoor
