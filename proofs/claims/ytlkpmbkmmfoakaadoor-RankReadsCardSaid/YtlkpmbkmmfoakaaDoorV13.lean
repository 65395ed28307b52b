/- PARTS OF THE WALKS, joined: SmC, SmD, SmE, RkK. -/
import Derived.Test.YtlkpmbkmmfoakaaDoorV12
import Derived.Laws.BitsAllLaws
import Derived.WalkSpells
import Derived.Deep.Cut
/- THE WALK over slices.symMergeCmpFunc, at shares. -/
namespace Go.Proofs.YtlkpmbkmmfoakaaDoor
open Go.RowKit Go.Sort
set_option maxRecDepth 100000 in
set_option maxHeartbeats 6400000 in
theorem sm_symA (w0 : World) (B g cap : Nat) (cf : Sh → Sh → Int) (f : Nat) (cb : Array Value) (d : Array Sh) (a m b : Nat) (w : World)
    (eg : ∀ args w, (callFunc f args).run Tryd.prog w = .ok (.enter f args) w) (hcmp : CmpOkM Tryd.prog f cb cf w0 g) (hS : SWO (ltM cf)) (hs : SortM w0 B g cap 42 d w) (h1 : m = a + 1) (h2 : m < b) (hb : b ≤ d.size) (hsz : d.size ≤ 8000000) (hr : SortedIn (ltM cf) m b d) :
    Calls Tryd.prog 81 #[.slice (some ⟨g, 0, none⟩) d.size cap, .int .i64 a, .int .i64 m, .int .i64 b, .func (.func f) #[] cb] w fun e w' => e = .returned (.tuple #[]) ∧ ∃ d', SortM w0 B g cap 42 d' w' ∧ PermIn a b d d' ∧ SortedIn (ltM cf) a b d' := by
  have HM := Lib.hid (show SortedIn (ltM cf) (a + 1) b d ∧ m = a + 1 from ⟨by rw [← h1]; exact hr, h1⟩)
  have hm1 : a + 1 ≤ m := by omega
  have hm2 : m ≤ a + 1 := by omega
  clear h1
  have HS := Lib.hid hs
  have HC := Lib.hid hcmp
  have HW := Lib.hid hS
  have H2 := Lib.hid hr
  clear hs hcmp hS hr
  have hma : (((m : Int) - (a : Int)) == 1) = true := by rw [beq_iff_eq]; omega
  go_enter Tryd.func81, Tryd.ntmps81
  go_wp2_with fail
  clear hma
  go_loopw [10, 11] (fun u v W => ∃ (i j : Nat), u = .int .i64 i ∧ v = .int .i64 j ∧ m ≤ i ∧ i ≤ j ∧ j ≤ b ∧ Hid (SortM w0 B g cap 42 d W) ∧ Hid (∀ x, m ≤ x → x < i → ltM cf d[x]! d[a]! = true) ∧ Hid (∀ x, j ≤ x → x < b → ltM cf d[x]! d[a]! = false)) (fun u v _ => (intOf v - intOf u).toNat)
  case atStart => exact ⟨m, b, rfl, rfl, Nat.le_refl _, by omega, Nat.le_refl _, HS, Lib.hid (fun x h1 h2 => by omega), Lib.hid (fun x h1 h2 => by omega)⟩
  case round =>
    obtain ⟨i, j, rfl, rfl, hai, hij, hjb, he, hlo, hhi⟩ := hrel
    by_cases hlt : i < j
    · have q1 : (0 : Int) ≤ ((i : Int) + (j : Int)) / 2 := by omega
      have q2 : ((i : Int) + (j : Int)) / 2 < (d.size : Int) := by omega
      have q3 : (((i : Int) + (j : Int)) / 2).toNat = (i + j) / 2 := by omega
      have q4 : (a : Int) < (d.size : Int) := by omega
      have HG := Lib.hid (fun (h : cf d[(i + j) / 2]! d[a]! < 0) => fun x (h1 : m ≤ x) (h2 : x < (i + j) / 2 + 1) => le_lt HW.out (srt_le HW.out H2.out h1 (show x ≤ (i + j) / 2 by omega) (by omega)) (ltM_t h))
      have HE := Lib.hid (fun (h : ¬ cf d[(i + j) / 2]! d[a]! < 0) => fun x (h1 : (i + j) / 2 ≤ x) (h2 : x < b) => HW.out.ntrans _ _ _ (srt_le HW.out H2.out (show m ≤ (i + j) / 2 by omega) h1 h2) (ltM_f h))
      obtain ⟨c10, c11, c12⟩ := he.out.cells (show (i + j) / 2 < d.size by omega)
      obtain ⟨c20, c21, c22⟩ := he.out.cells (show a < d.size by omega)
      have HX := Lib.hid (fun V (h : Ext wr V) => he.out.ext h)
      have HQ := Lib.hid (fun V (h : Ext wr V) => HC.out V (he.out.ext h).gr d[(i + j) / 2]! d[a]!)
      generalize cf d[(i + j) / 2]! d[a]! = z at *
      generalize d[(i + j) / 2]! = x1 at *
      generalize d[a]! = x2 at *
      have MK := Lib.hid (fun V (e : Ext wr V) => (⟨e.cell c10, e.cell c11, e.cell c12, e.cell c20, e.cell c21, e.cell c22, e⟩ : V.cell? ⟨g, ((i + j) / 2) * 3, none⟩ = some (.int .i64 x1.id) ∧ V.cell? ⟨g, ((i + j) / 2) * 3 + 1, none⟩ = some (.int .i64 x1.n) ∧ V.cell? ⟨g, ((i + j) / 2) * 3 + 2, none⟩ = some (.int .i64 x1.d) ∧ V.cell? ⟨g, a * 3, none⟩ = some (.int .i64 x2.id) ∧ V.cell? ⟨g, a * 3 + 1, none⟩ = some (.int .i64 x2.n) ∧ V.cell? ⟨g, a * 3 + 2, none⟩ = some (.int .i64 x2.d) ∧ Ext wr V))
      by_cases hz : z < 0
      · have hg := Lib.hid (HG.out hz)
        clear HG HE
        clear c10 c11 c12 c20 c21 c22
        go_wp2_with fail
        go_region_held3 (fun V => V.cell? ⟨g, ((i + j) / 2) * 3, none⟩ = some (.int .i64 x1.id) ∧ V.cell? ⟨g, ((i + j) / 2) * 3 + 1, none⟩ = some (.int .i64 x1.n) ∧ V.cell? ⟨g, ((i + j) / 2) * 3 + 2, none⟩ = some (.int .i64 x1.d) ∧ V.cell? ⟨g, a * 3, none⟩ = some (.int .i64 x2.id) ∧ V.cell? ⟨g, a * 3 + 1, none⟩ = some (.int .i64 x2.n) ∧ V.cell? ⟨g, a * 3 + 2, none⟩ = some (.int .i64 x2.d) ∧ Ext wr V) ((exact MK.out _ (by with_reducible repeat (first | exact Ext.refl _ | assumption | refine Ext.drew ?_ | refine Ext.drewN ?_ _ | refine Ext.alloc ?_ _)))) ((refine (HQ.out _ (by with_reducible repeat (first | exact Ext.refl _ | assumption | refine Ext.drew ?_ | refine Ext.drewN ?_ _ | refine Ext.alloc ?_ _))).mono ?_; rintro e w' ⟨rfl, hb⟩; replace hb : Ext wr w' := Ext.trans (by with_reducible repeat (first | exact Ext.refl _ | assumption | refine Ext.drew ?_ | refine Ext.drewN ?_ _ | refine Ext.alloc ?_ _)) hb))
        have hN := Lib.hid (HX.out w' hb)
        clear HX HQ MK
        go_wp2_with fail
        go_roundw
        case rel => exact ⟨(i + j) / 2 + 1, j, congrArg (Value.int .i64) (by omega), rfl, by omega, by omega, hjb, hN, hg, hhi⟩
        case measure => simp [intOf]; omega
      · have hg := Lib.hid (HE.out hz)
        clear HG HE
        clear c10 c11 c12 c20 c21 c22
        go_wp2_with fail
        go_region_held3 (fun V => V.cell? ⟨g, ((i + j) / 2) * 3, none⟩ = some (.int .i64 x1.id) ∧ V.cell? ⟨g, ((i + j) / 2) * 3 + 1, none⟩ = some (.int .i64 x1.n) ∧ V.cell? ⟨g, ((i + j) / 2) * 3 + 2, none⟩ = some (.int .i64 x1.d) ∧ V.cell? ⟨g, a * 3, none⟩ = some (.int .i64 x2.id) ∧ V.cell? ⟨g, a * 3 + 1, none⟩ = some (.int .i64 x2.n) ∧ V.cell? ⟨g, a * 3 + 2, none⟩ = some (.int .i64 x2.d) ∧ Ext wr V) ((exact MK.out _ (by with_reducible repeat (first | exact Ext.refl _ | assumption | refine Ext.drew ?_ | refine Ext.drewN ?_ _ | refine Ext.alloc ?_ _)))) ((refine (HQ.out _ (by with_reducible repeat (first | exact Ext.refl _ | assumption | refine Ext.drew ?_ | refine Ext.drewN ?_ _ | refine Ext.alloc ?_ _))).mono ?_; rintro e w' ⟨rfl, hb⟩; replace hb : Ext wr w' := Ext.trans (by with_reducible repeat (first | exact Ext.refl _ | assumption | refine Ext.drew ?_ | refine Ext.drewN ?_ _ | refine Ext.alloc ?_ _)) hb))
        have hN := Lib.hid (HX.out w' hb)
        clear HX HQ MK
        go_wp2_with fail
        go_roundw
        case rel => exact ⟨i, (i + j) / 2, rfl, congrArg (Value.int .i64) (by omega), hai, by omega, by omega, hN, hlo, hg⟩
        case measure => simp [intOf]; omega
    · obtain rfl : i = j := by omega
      go_wp2_with fail
      go_loopw [13] (fun u W => ∃ (k : Nat) (e : Array Sh), u = .int .i64 k ∧ a ≤ k ∧ k ≤ i - 1 ∧ Hid (SortM w0 B g cap 42 e W) ∧ e.size = d.size ∧ Hid (∀ x, e[x]! = if a ≤ x ∧ x < k then d[x + 1]! else if x = k then d[a]! else d[x]!) ∧ Hid (PermIn a b d e)) (fun u _ => i - (intOf u).toNat)
      case atStart => exact ⟨a, d, rfl, Nat.le_refl _, by omega, he, rfl, Lib.hid (fun x => by rw [if_neg (by omega)]; split; (rename_i h; rw [h]); rfl), Lib.hid (permIn_refl _ _ _)⟩
      case round =>
        clear he
        obtain ⟨k, e, rfl, hak, hki, he, hes, hx, hp⟩ := hrel
        by_cases hlt : k < i - 1
        · have q5 : (k : Int) < (i : Int) - 1 := by omega
          have q6 : (k : Int) + 1 < (d.size : Int) := by omega
          have q7 : ((k : Int) + 1).toNat = k + 1 := by omega
          have HXn := Lib.hid (shiftR_step (k := k) hes (by omega) hak hx.out)
          have HP := Lib.hid (permIn_trans _ _ _ a b hp.out (swp_permIn e a b k (k + 1) (by omega) (by omega) (by omega) (by omega) (by omega)))
          have HZ := Lib.hid (size_swp e k (k + 1))
          obtain ⟨c10, c11, c12⟩ := he.out.cells (show k < e.size by omega)
          obtain ⟨c20, c21, c22⟩ := he.out.cells (show k + 1 < e.size by omega)
          have f10 := he.out.frozen (k * 3)
          have f11 := he.out.frozen (k * 3 + 1)
          have f12 := he.out.frozen (k * 3 + 2)
          have f20 := he.out.frozen ((k + 1) * 3)
          have f21 := he.out.frozen ((k + 1) * 3 + 1)
          have f22 := he.out.frozen ((k + 1) * 3 + 2)
          have HN := Lib.hid ((he.out.swap (k) (k + 1)).drew)
          generalize e[k]! = x1 at *
          generalize e[k + 1]! = x2 at *
          have MKE := Lib.hid (fun V (e : Ext wr V) => (⟨e.cell c10, e.cell c11, e.cell c12, e.cell c20, e.cell c21, e.cell c22⟩ : V.cell? ⟨g, k * 3, none⟩ = some (.int .i64 x1.id) ∧ V.cell? ⟨g, k * 3 + 1, none⟩ = some (.int .i64 x1.n) ∧ V.cell? ⟨g, k * 3 + 2, none⟩ = some (.int .i64 x1.d) ∧ V.cell? ⟨g, (k + 1) * 3, none⟩ = some (.int .i64 x2.id) ∧ V.cell? ⟨g, (k + 1) * 3 + 1, none⟩ = some (.int .i64 x2.n) ∧ V.cell? ⟨g, (k + 1) * 3 + 2, none⟩ = some (.int .i64 x2.d)))
          have wk : IntKind.i64.wrap ((k : Int) + 1) = (k : Int) + 1 := by rw [IntKind.wrap_i64]; omega
          have zk : (0 : Int) ≤ (k : Int) + 1 := by omega
          have bk : (k : Int) < (d.size : Int) := by omega
          go_upto_region 11 with (fail)
          refine AnyE.start (S := (fun V => V.cell? ⟨g, k * 3, none⟩ = some (.int .i64 x1.id) ∧ V.cell? ⟨g, k * 3 + 1, none⟩ = some (.int .i64 x1.n) ∧ V.cell? ⟨g, k * 3 + 2, none⟩ = some (.int .i64 x1.d) ∧ V.cell? ⟨g, (k + 1) * 3, none⟩ = some (.int .i64 x2.id) ∧ V.cell? ⟨g, (k + 1) * 3 + 1, none⟩ = some (.int .i64 x2.n) ∧ V.cell? ⟨g, (k + 1) * 3 + 2, none⟩ = some (.int .i64 x2.d))) (E := 15) (by kernel_rfl) ?hs1 (fun hHeld => ?go1)
          case hs1 => (exact MKE.out _ (by with_reducible repeat (first | exact Ext.refl _ | assumption | refine Ext.drew ?_ | refine Ext.drewN ?_ _ | refine Ext.alloc ?_ _)))
          refine AnyE.takeP (i := 0) (oi := ⟨(some 61), (.move (.tmp 0)), 22, "zsortanyfunc.go:398", #[], none⟩) (v := ?v2) rfl (by kernel_rfl) (by kernel_rfl) (by kernel_rfl) (fun _ _ _ h => h) rfl (Or.inl ⟨rfl, ?hy2⟩) (fun _ => hHeld) ?rest2
          case hy2 => (intro w _; go_simp <;> rfl)
          (try simp only [PU])
          refine AnyE.takeP (i := 1) (oi := ⟨(some 62), (.move (.tmp 13)), 3, "zsortanyfunc.go:398", #[], none⟩) (v := ?v3) rfl (by kernel_rfl) (by kernel_rfl) (by kernel_rfl) (fun _ _ _ h => h) rfl (Or.inl ⟨rfl, ?hy3⟩) (fun _ => hHeld) ?rest3
          case hy3 => (intro w _; go_simp <;> rfl)
          (try simp only [PU])
          refine AnyE.takeP (i := 2) (oi := ⟨(some 63), (.move (.tmp 0)), 22, "zsortanyfunc.go:398", #[⟨15, (.gcOnly Departure.lateStores)⟩], none⟩) (v := ?v4) rfl (by kernel_rfl) (by kernel_rfl) (by kernel_rfl) (fun _ _ _ h => h) rfl (Or.inl ⟨rfl, ?hy4⟩) (fun _ => hHeld) ?rest4
          case hy4 => (intro w _; go_simp <;> rfl)
          (try simp only [PU])
          refine AnyE.takeP (i := 3) (oi := ⟨(some 64), (.move (.tmp 13)), 3, "zsortanyfunc.go:398", #[⟨15, (.gcOnly Departure.lateStores)⟩], none⟩) (v := ?v5) rfl (by kernel_rfl) (by kernel_rfl) (by kernel_rfl) (fun _ _ _ h => h) rfl (Or.inl ⟨rfl, ?hy5⟩) (fun _ => hHeld) ?rest5
          case hy5 => (intro w _; go_simp <;> rfl)
          (try simp only [PU])
          refine AnyE.takeP (i := 4) (oi := ⟨(some 65), (.binOp .add 3 (.tmp 64) (.const (.int .i64 1)) 3), 3, "zsortanyfunc.go:398", #[⟨3, .data⟩, ⟨15, (.gcOnly Departure.lateStores)⟩], none⟩) (v := ?v6) rfl (by kernel_rfl) (by kernel_rfl) (by kernel_rfl) (fun _ _ _ h => h) rfl (Or.inl ⟨rfl, ?hy6⟩) (fun _ => hHeld) ?rest6
          case hy6 => (intro w _; go_simp <;> first | with_reducible rfl | rw [if_neg (by omega)] | rw [if_pos (by omega)])
          (try simp only [PU])
          refine AnyE.takeP (i := 5) (oi := ⟨(some 66), (.move (.tmp 0)), 22, "zsortanyfunc.go:398", #[], none⟩) (v := ?v7) rfl (by kernel_rfl) (by kernel_rfl) (by kernel_rfl) (fun _ _ _ h => h) rfl (Or.inl ⟨rfl, ?hy7⟩) (fun _ => hHeld) ?rest7
          case hy7 => (intro w _; go_simp <;> rfl)
          (try simp only [PU])
          refine AnyE.takeP (i := 6) (oi := ⟨(some 67), (.move (.tmp 13)), 3, "zsortanyfunc.go:398", #[], none⟩) (v := ?v8) rfl (by kernel_rfl) (by kernel_rfl) (by kernel_rfl) (fun _ _ _ h => h) rfl (Or.inl ⟨rfl, ?hy8⟩) (fun _ => hHeld) ?rest8
          case hy8 => (intro w _; go_simp <;> rfl)
          (try simp only [PU])
          refine AnyE.takeP (i := 7) (oi := ⟨(some 68), (.binOp .add 3 (.tmp 67) (.const (.int .i64 1)) 3), 3, "zsortanyfunc.go:398", #[⟨6, .data⟩], none⟩) (v := ?v9) rfl (by kernel_rfl) (by kernel_rfl) (by kernel_rfl) (fun _ _ _ h => h) rfl (Or.inl ⟨rfl, ?hy9⟩) (fun _ => hHeld) ?rest9
          case hy9 => (intro w _; go_simp <;> first | with_reducible rfl | rw [if_neg (by omega)] | rw [if_pos (by omega)])
          (try simp only [PU])
          refine AnyE.takeP (i := 8) (oi := ⟨(some 69), (.indexAddr 22 (.tmp 66) (.tmp 68)), 0, "zsortanyfunc.go:398", #[⟨5, .data⟩, ⟨7, .data⟩], none⟩) (v := ?v10) rfl (by kernel_rfl) (by kernel_rfl) (by kernel_rfl) (fun _ _ _ h => h) rfl (Or.inl ⟨rfl, ?hy10⟩) (fun _ => hHeld) ?rest10
          case hy10 => (intro w _; go_simp <;> first | with_reducible rfl | rw [if_neg (by omega)] | rw [if_pos (by omega)])
          (try simp only [PU])
          refine AnyE.take (i := 9) (oi := ⟨(some 70), (.load 42 (.tmp 69)), 42, "zsortanyfunc.go:398", #[⟨8, .data⟩], none⟩) (v := ?v11) rfl (by kernel_rfl) (by kernel_rfl) (by kernel_rfl) (fun _ _ _ h => h) (by kernel_rfl) rfl (by kernel_rfl) (Or.inl ⟨rfl, ?hy11⟩) hHeld ?rest11
          case hy11 => (intro w hSw; (try dsimp only at hSw); go_simp <;> first | with_reducible rfl | rw [if_neg (by omega)] | rw [if_pos (by omega)])
          (try simp only [PU])
          refine AnyE.takeP (i := 10) (oi := ⟨(some 71), (.move (.tmp 0)), 22, "zsortanyfunc.go:398", #[], none⟩) (v := ?v12) rfl (by kernel_rfl) (by kernel_rfl) (by kernel_rfl) (fun _ _ _ h => h) rfl (Or.inl ⟨rfl, ?hy12⟩) (fun _ => hHeld) ?rest12
          case hy12 => (intro w _; go_simp <;> rfl)
          (try simp only [PU])
          refine AnyE.takeP (i := 11) (oi := ⟨(some 72), (.move (.tmp 13)), 3, "zsortanyfunc.go:398", #[], none⟩) (v := ?v13) rfl (by kernel_rfl) (by kernel_rfl) (by kernel_rfl) (fun _ _ _ h => h) rfl (Or.inl ⟨rfl, ?hy13⟩) (fun _ => hHeld) ?rest13
          case hy13 => (intro w _; go_simp <;> rfl)
          (try simp only [PU])
          refine AnyE.takeP (i := 12) (oi := ⟨(some 73), (.indexAddr 22 (.tmp 71) (.tmp 72)), 0, "zsortanyfunc.go:398", #[⟨10, .data⟩, ⟨11, .data⟩], none⟩) (v := ?v14) rfl (by kernel_rfl) (by kernel_rfl) (by kernel_rfl) (fun _ _ _ h => h) rfl (Or.inl ⟨rfl, ?hy14⟩) (fun _ => hHeld) ?rest14
          case hy14 => (intro w _; go_simp <;> first | with_reducible rfl | rw [if_neg (by omega)] | rw [if_pos (by omega)])
          (try simp only [PU])
          refine AnyE.take (i := 13) (oi := ⟨(some 74), (.load 42 (.tmp 73)), 42, "zsortanyfunc.go:398", #[⟨12, .data⟩], none⟩) (v := ?v15) rfl (by kernel_rfl) (by kernel_rfl) (by kernel_rfl) (fun _ _ _ h => h) (by kernel_rfl) rfl (by kernel_rfl) (Or.inl ⟨rfl, ?hy15⟩) hHeld ?rest15
          case hy15 => (intro w hSw; (try dsimp only at hSw); go_simp <;> first | with_reducible rfl | rw [if_neg (by omega)] | rw [if_pos (by omega)])
          (try simp only [PU])
          refine AnyE.takeP (i := 14) (oi := ⟨(some 75), (.indexAddr 22 (.tmp 61) (.tmp 62)), 0, "zsortanyfunc.go:398", #[⟨0, .data⟩, ⟨1, .data⟩, ⟨0, .phase⟩, ⟨1, .phase⟩, ⟨2, (.textOnly Departure.lateStores)⟩, ⟨3, (.textOnly Departure.lateStores)⟩, ⟨4, (.textOnly Departure.lateStores)⟩, ⟨5, .phase⟩, ⟨6, .phase⟩, ⟨7, .phase⟩, ⟨8, .phase⟩, ⟨9, .phase⟩, ⟨10, (.textOnly Departure.lateStores)⟩, ⟨11, (.textOnly Departure.lateStores)⟩, ⟨12, (.textOnly Departure.lateStoresUnsure)⟩, ⟨13, .phase⟩], none⟩) (v := ?v16) rfl (by kernel_rfl) (by kernel_rfl) (by kernel_rfl) (fun _ _ _ h => h) rfl (Or.inl ⟨rfl, ?hy16⟩) (fun _ => hHeld) ?rest16
          case hy16 => (intro w _; go_simp <;> first | with_reducible rfl | rw [if_neg (by omega)] | rw [if_pos (by omega)])
          (try simp only [PU])
          refine AnyE.ready (rs := [15]) (by kernel_rfl) (by simp) ?_
          refine AllE.cons (o := ⟨none, (.store 42 (.tmp 75) (.tmp 70)), 0, "zsortanyfunc.go:398", #[⟨14, .data⟩, ⟨9, .data⟩, ⟨0, .phase⟩, ⟨1, .phase⟩, ⟨2, (.textOnly Departure.lateStores)⟩, ⟨3, (.textOnly Departure.lateStores)⟩, ⟨4, (.textOnly Departure.lateStores)⟩, ⟨5, .phase⟩, ⟨6, .phase⟩, ⟨7, .phase⟩, ⟨8, .phase⟩, ⟨9, .phase⟩, ⟨10, (.textOnly Departure.lateStores)⟩, ⟨11, (.textOnly Departure.lateStores)⟩, ⟨12, (.textOnly Departure.lateStoresUnsure)⟩, ⟨13, .phase⟩], none⟩) rfl (fun K hK => ?step17x0) ?more17x0
          case more17x0 => exact AllE.nil
          go_simp
          refine hK.out _ _ ?hS17x0 (fun hHeld17 => ?rest17x0)
          case hS17x0 => first | (intro h; exact absurd h (by decide)) | (intro h; simp at h)
          clear hK K
          clear hHeld
          refine AnyE.ready (rs := [16]) (by kernel_rfl) (by simp) ?_
          refine AllE.cons (o := ⟨(some 76), (.indexAddr 22 (.tmp 63) (.tmp 65)), 0, "zsortanyfunc.go:398", #[⟨2, .data⟩, ⟨4, .data⟩, ⟨0, .phase⟩, ⟨1, .phase⟩, ⟨2, .phase⟩, ⟨3, .phase⟩, ⟨4, .phase⟩, ⟨5, .phase⟩, ⟨6, .phase⟩, ⟨7, .phase⟩, ⟨8, .phase⟩, ⟨9, .phase⟩, ⟨10, .phase⟩, ⟨11, .phase⟩, ⟨12, .phase⟩, ⟨13, .phase⟩, ⟨14, .phase⟩, ⟨15, .phase⟩], none⟩) rfl (fun K hK => ?step18x0) ?more18x0
          case more18x0 => exact AllE.nil
          go_simp
          refine hK.out _ _ ?hS18x0 (fun hHeld18 => ?rest18x0)
          case hS18x0 => first | (intro h; exact absurd h (by decide)) | (intro h; simp at h)
          clear hK K
          clear hHeld17
          (try simp only [PU])
          refine AnyE.ready (rs := [17]) (by kernel_rfl) (by simp) ?_
          refine AllE.cons (o := ⟨none, (.store 42 (.tmp 76) (.tmp 74)), 0, "zsortanyfunc.go:398", #[⟨16, .data⟩, ⟨13, .data⟩, ⟨15, .chain⟩, ⟨0, .phase⟩, ⟨1, .phase⟩, ⟨2, .phase⟩, ⟨3, .phase⟩, ⟨4, .phase⟩, ⟨5, .phase⟩, ⟨6, .phase⟩, ⟨7, .phase⟩, ⟨8, .phase⟩, ⟨9, .phase⟩, ⟨10, .phase⟩, ⟨11, .phase⟩, ⟨12, .phase⟩, ⟨13, .phase⟩, ⟨14, .phase⟩, ⟨15, .phase⟩], none⟩) rfl (fun K hK => ?step19x0) ?more19x0
          case more19x0 => exact AllE.nil
          go_simp
          refine hK.out _ _ ?hS19x0 (fun hHeld19 => ?rest19x0)
          case hS19x0 => first | (intro h; exact absurd h (by decide)) | (intro h; simp at h)
          clear hK K
          clear hHeld18
          refine AnyE.done (by kernel_rfl) ?_ _
          clear hHeld19
          go_wp2_with fail
          go_roundw
          case rel => exact ⟨k + 1, swp e k (k + 1), by go_num, by omega, by omega, HN, by rw [HZ.out]; exact hes, HXn, HP⟩
          case measure => simp [intOf]; omega
        · obtain rfl : k = i - 1 := by omega
          have q5 : ¬ (((i - 1 : Nat) : Int) < (i : Int) - 1) := by omega
          have HE := Lib.hid (ins_left HW.out (show a + 1 ≤ i by omega) hjb HM.out.1 (by rw [← HM.out.2]; exact hlo.out) hhi.out hx.out)
          go_wp2
          (try simp only [Exit.inBlock, Exit.then])
          refine bodyPost_ret (results_none rfl _ _ _) rfl ?_
          exact ⟨rfl, e, he.out, hp.out, HE.out⟩
set_option maxRecDepth 100000 in
set_option maxHeartbeats 6400000 in
theorem sm_symB (w0 : World) (B g cap : Nat) (cf : Sh → Sh → Int) (f : Nat) (cb : Array Value) (d : Array Sh) (a m b : Nat) (w : World)
    (eg : ∀ args w, (callFunc f args).run Tryd.prog w = .ok (.enter f args) w) (hcmp : CmpOkM Tryd.prog f cb cf w0 g) (hS : SWO (ltM cf)) (hs : SortM w0 B g cap 42 d w) (h0 : m ≠ a + 1) (h1 : a < m) (h2 : b = m + 1) (hb : b ≤ d.size) (hsz : d.size ≤ 8000000) (hl : SortedIn (ltM cf) a m d) :
    Calls Tryd.prog 81 #[.slice (some ⟨g, 0, none⟩) d.size cap, .int .i64 a, .int .i64 m, .int .i64 b, .func (.func f) #[] cb] w fun e w' => e = .returned (.tuple #[]) ∧ ∃ d', SortM w0 B g cap 42 d' w' ∧ PermIn a b d d' ∧ SortedIn (ltM cf) a b d' := by
  have HM := Lib.hid h2
  have hm1 : m + 1 ≤ b := by omega
  have hm2 : b ≤ m + 1 := by omega
  have hm3 : ¬ (m ≤ a + 1) := by omega
  clear h2 h0
  have HS := Lib.hid hs
  have HC := Lib.hid hcmp
  have HW := Lib.hid hS
  have H1 := Lib.hid hl
  clear hs hcmp hS hl
  have hma : (((m : Int) - (a : Int)) == 1) = false := by rw [beq_eq_false_iff_ne]; omega
  have hmb' : (((b : Int) - (m : Int)) == 1) = true := by rw [beq_iff_eq]; omega
  go_enter Tryd.func81, Tryd.ntmps81
  go_wp2_with fail
  clear hma hmb'
  go_loopw [14, 15] (fun u v W => ∃ (i j : Nat), u = .int .i64 i ∧ v = .int .i64 j ∧ a ≤ i ∧ i ≤ j ∧ j ≤ m ∧ Hid (SortM w0 B g cap 42 d W) ∧ Hid (∀ x, a ≤ x → x < i → ltM cf d[m]! d[x]! = false) ∧ Hid (∀ x, j ≤ x → x < m → ltM cf d[m]! d[x]! = true)) (fun u v _ => (intOf v - intOf u).toNat)
  case atStart => exact ⟨a, m, rfl, rfl, Nat.le_refl _, by omega, Nat.le_refl _, HS, Lib.hid (fun x h1 h2 => by omega), Lib.hid (fun x h1 h2 => by omega)⟩
  case round =>
    obtain ⟨i, j, rfl, rfl, hai, hij, hjb, he, hlo, hhi⟩ := hrel
    by_cases hlt : i < j
    · have q1 : (0 : Int) ≤ ((i : Int) + (j : Int)) / 2 := by omega
      have q2 : ((i : Int) + (j : Int)) / 2 < (d.size : Int) := by omega
      have q3 : (((i : Int) + (j : Int)) / 2).toNat = (i + j) / 2 := by omega
      have q4 : (m : Int) < (d.size : Int) := by omega
      have HG := Lib.hid (fun (h : cf d[m]! d[(i + j) / 2]! < 0) => fun x (h1 : (i + j) / 2 ≤ x) (h2 : x < m) => lt_le HW.out (ltM_t h) (srt_le HW.out H1.out (show a ≤ (i + j) / 2 by omega) h1 h2))
      have HE := Lib.hid (fun (h : ¬ cf d[m]! d[(i + j) / 2]! < 0) => fun x (h1 : a ≤ x) (h2 : x < (i + j) / 2 + 1) => HW.out.ntrans _ _ _ (ltM_f h) (srt_le HW.out H1.out h1 (show x ≤ (i + j) / 2 by omega) (by omega)))
      obtain ⟨c10, c11, c12⟩ := he.out.cells (show m < d.size by omega)
      obtain ⟨c20, c21, c22⟩ := he.out.cells (show (i + j) / 2 < d.size by omega)
      have HX := Lib.hid (fun V (h : Ext wr V) => he.out.ext h)
      have HQ := Lib.hid (fun V (h : Ext wr V) => HC.out V (he.out.ext h).gr d[m]! d[(i + j) / 2]!)
      generalize cf d[m]! d[(i + j) / 2]! = z at *
      generalize d[m]! = x1 at *
      generalize d[(i + j) / 2]! = x2 at *
      have MK := Lib.hid (fun V (e : Ext wr V) => (⟨e.cell c10, e.cell c11, e.cell c12, e.cell c20, e.cell c21, e.cell c22, e⟩ : V.cell? ⟨g, m * 3, none⟩ = some (.int .i64 x1.id) ∧ V.cell? ⟨g, m * 3 + 1, none⟩ = some (.int .i64 x1.n) ∧ V.cell? ⟨g, m * 3 + 2, none⟩ = some (.int .i64 x1.d) ∧ V.cell? ⟨g, ((i + j) / 2) * 3, none⟩ = some (.int .i64 x2.id) ∧ V.cell? ⟨g, ((i + j) / 2) * 3 + 1, none⟩ = some (.int .i64 x2.n) ∧ V.cell? ⟨g, ((i + j) / 2) * 3 + 2, none⟩ = some (.int .i64 x2.d) ∧ Ext wr V))
      by_cases hz : z < 0
      · have hg := Lib.hid (HG.out hz)
        clear HG HE
        clear c10 c11 c12 c20 c21 c22
        go_wp2_with fail
        go_region_held3 (fun V => V.cell? ⟨g, m * 3, none⟩ = some (.int .i64 x1.id) ∧ V.cell? ⟨g, m * 3 + 1, none⟩ = some (.int .i64 x1.n) ∧ V.cell? ⟨g, m * 3 + 2, none⟩ = some (.int .i64 x1.d) ∧ V.cell? ⟨g, ((i + j) / 2) * 3, none⟩ = some (.int .i64 x2.id) ∧ V.cell? ⟨g, ((i + j) / 2) * 3 + 1, none⟩ = some (.int .i64 x2.n) ∧ V.cell? ⟨g, ((i + j) / 2) * 3 + 2, none⟩ = some (.int .i64 x2.d) ∧ Ext wr V) ((exact MK.out _ (by with_reducible repeat (first | exact Ext.refl _ | assumption | refine Ext.drew ?_ | refine Ext.drewN ?_ _ | refine Ext.alloc ?_ _)))) ((refine (HQ.out _ (by with_reducible repeat (first | exact Ext.refl _ | assumption | refine Ext.drew ?_ | refine Ext.drewN ?_ _ | refine Ext.alloc ?_ _))).mono ?_; rintro e w' ⟨rfl, hb⟩; replace hb : Ext wr w' := Ext.trans (by with_reducible repeat (first | exact Ext.refl _ | assumption | refine Ext.drew ?_ | refine Ext.drewN ?_ _ | refine Ext.alloc ?_ _)) hb))
        have hN := Lib.hid (HX.out w' hb)
        clear HX HQ MK
        go_wp2_with fail
        go_roundw
        case rel => exact ⟨i, (i + j) / 2, rfl, congrArg (Value.int .i64) (by omega), hai, by omega, by omega, hN, hlo, hg⟩
        case measure => simp [intOf]; omega
      · have hg := Lib.hid (HE.out hz)
        have hz' : decide (z < 0) = false := decide_eq_false hz
        clear HG HE hz
        clear c10 c11 c12 c20 c21 c22
        go_wp2_with fail
        go_region_held3 (fun V => V.cell? ⟨g, m * 3, none⟩ = some (.int .i64 x1.id) ∧ V.cell? ⟨g, m * 3 + 1, none⟩ = some (.int .i64 x1.n) ∧ V.cell? ⟨g, m * 3 + 2, none⟩ = some (.int .i64 x1.d) ∧ V.cell? ⟨g, ((i + j) / 2) * 3, none⟩ = some (.int .i64 x2.id) ∧ V.cell? ⟨g, ((i + j) / 2) * 3 + 1, none⟩ = some (.int .i64 x2.n) ∧ V.cell? ⟨g, ((i + j) / 2) * 3 + 2, none⟩ = some (.int .i64 x2.d) ∧ Ext wr V) ((exact MK.out _ (by with_reducible repeat (first | exact Ext.refl _ | assumption | refine Ext.drew ?_ | refine Ext.drewN ?_ _ | refine Ext.alloc ?_ _)))) ((refine (HQ.out _ (by with_reducible repeat (first | exact Ext.refl _ | assumption | refine Ext.drew ?_ | refine Ext.drewN ?_ _ | refine Ext.alloc ?_ _))).mono ?_; rintro e w' ⟨rfl, hb⟩; replace hb : Ext wr w' := Ext.trans (by with_reducible repeat (first | exact Ext.refl _ | assumption | refine Ext.drew ?_ | refine Ext.drewN ?_ _ | refine Ext.alloc ?_ _)) hb))
        have hN := Lib.hid (HX.out w' hb)
        clear HX HQ MK
        go_wp2_with fail
        go_roundw
        case rel => exact ⟨(i + j) / 2 + 1, j, congrArg (Value.int .i64) (by omega), rfl, by omega, by omega, hjb, hN, hg, hhi⟩
        case measure => simp [intOf]; omega
    · obtain rfl : i = j := by omega
      go_wp2_with fail
      go_loopw [17] (fun u W => ∃ (k : Nat) (e : Array Sh), u = .int .i64 k ∧ i ≤ k ∧ k ≤ m ∧ Hid (SortM w0 B g cap 42 e W) ∧ e.size = d.size ∧ Hid (∀ x, e[x]! = if k < x ∧ x ≤ m then d[x - 1]! else if x = k then d[m]! else d[x]!) ∧ Hid (PermIn a b d e)) (fun u _ => (intOf u).toNat)
      case atStart => exact ⟨m, d, rfl, by omega, Nat.le_refl _, he, rfl, Lib.hid (fun x => by rw [if_neg (by omega)]; split; (rename_i h; rw [h]); rfl), Lib.hid (permIn_refl _ _ _)⟩
      case round =>
        clear he
        obtain ⟨k, e, rfl, hak, hki, he, hes, hx, hp⟩ := hrel
        by_cases hlt : i < k
        · obtain ⟨kp, rfl⟩ : ∃ kp, k = kp + 1 := ⟨k - 1, by omega⟩
          have q5 : (i : Int) < (kp : Int) + 1 := by omega
          have q6 : (kp : Int) + 1 < (d.size : Int) := by omega
          have q7 : ((kp : Int) + 1).toNat = kp + 1 := by omega
          have q8 : (0 : Int) ≤ (kp : Int) + 1 := by omega
          have q9 : (kp : Int) < (d.size : Int) := by omega
          have hwp : IntKind.i64.wrap (kp : Int) = (kp : Int) := by rw [IntKind.wrap_i64]; omega
          have HXn := Lib.hid (shiftL_step (k := kp) hes (by omega) hki hx.out)
          have HP := Lib.hid (permIn_trans _ _ _ a b hp.out (swp_permIn e a b (kp + 1) kp (by omega) (by omega) (by omega) (by omega) (by omega)))
          have HZ := Lib.hid (size_swp e (kp + 1) kp)
          obtain ⟨c10, c11, c12⟩ := he.out.cells (show kp + 1 < e.size by omega)
          obtain ⟨c20, c21, c22⟩ := he.out.cells (show kp < e.size by omega)
          have f10 := he.out.frozen ((kp + 1) * 3)
          have f11 := he.out.frozen ((kp + 1) * 3 + 1)
          have f12 := he.out.frozen ((kp + 1) * 3 + 2)
          have f20 := he.out.frozen (kp * 3)
          have f21 := he.out.frozen (kp * 3 + 1)
          have f22 := he.out.frozen (kp * 3 + 2)
          have HN := Lib.hid ((he.out.swap (kp + 1) (kp)).drew)
          generalize e[kp + 1]! = x1 at *
          generalize e[kp]! = x2 at *
          have MKE := Lib.hid (fun V (e : Ext wr V) => (⟨e.cell c10, e.cell c11, e.cell c12, e.cell c20, e.cell c21, e.cell c22⟩ : V.cell? ⟨g, (kp + 1) * 3, none⟩ = some (.int .i64 x1.id) ∧ V.cell? ⟨g, (kp + 1) * 3 + 1, none⟩ = some (.int .i64 x1.n) ∧ V.cell? ⟨g, (kp + 1) * 3 + 2, none⟩ = some (.int .i64 x1.d) ∧ V.cell? ⟨g, kp * 3, none⟩ = some (.int .i64 x2.id) ∧ V.cell? ⟨g, kp * 3 + 1, none⟩ = some (.int .i64 x2.n) ∧ V.cell? ⟨g, kp * 3 + 2, none⟩ = some (.int .i64 x2.d)))
          go_upto_region 23 with (fail)
          refine AnyE.start (S := (fun V => V.cell? ⟨g, (kp + 1) * 3, none⟩ = some (.int .i64 x1.id) ∧ V.cell? ⟨g, (kp + 1) * 3 + 1, none⟩ = some (.int .i64 x1.n) ∧ V.cell? ⟨g, (kp + 1) * 3 + 2, none⟩ = some (.int .i64 x1.d) ∧ V.cell? ⟨g, kp * 3, none⟩ = some (.int .i64 x2.id) ∧ V.cell? ⟨g, kp * 3 + 1, none⟩ = some (.int .i64 x2.n) ∧ V.cell? ⟨g, kp * 3 + 2, none⟩ = some (.int .i64 x2.d))) (E := 15) (by kernel_rfl) ?hs20 (fun hHeld => ?go20)
          case hs20 => (exact MKE.out _ (by with_reducible repeat (first | exact Ext.refl _ | assumption | refine Ext.drew ?_ | refine Ext.drewN ?_ _ | refine Ext.alloc ?_ _)))
          refine AnyE.takeP (i := 0) (oi := ⟨(some 113), (.move (.tmp 0)), 22, "zsortanyfunc.go:422", #[], none⟩) (v := ?v21) rfl (by kernel_rfl) (by kernel_rfl) (by kernel_rfl) (fun _ _ _ h => h) rfl (Or.inl ⟨rfl, ?hy21⟩) (fun _ => hHeld) ?rest21
          case hy21 => (intro w _; go_simp <;> rfl)
          (try simp only [PU])
          refine AnyE.takeP (i := 1) (oi := ⟨(some 114), (.move (.tmp 17)), 3, "zsortanyfunc.go:422", #[], none⟩) (v := ?v22) rfl (by kernel_rfl) (by kernel_rfl) (by kernel_rfl) (fun _ _ _ h => h) rfl (Or.inl ⟨rfl, ?hy22⟩) (fun _ => hHeld) ?rest22
          case hy22 => (intro w _; go_simp <;> rfl)
          (try simp only [PU])
          refine AnyE.takeP (i := 2) (oi := ⟨(some 115), (.move (.tmp 0)), 22, "zsortanyfunc.go:422", #[⟨15, (.gcOnly Departure.lateStores)⟩], none⟩) (v := ?v23) rfl (by kernel_rfl) (by kernel_rfl) (by kernel_rfl) (fun _ _ _ h => h) rfl (Or.inl ⟨rfl, ?hy23⟩) (fun _ => hHeld) ?rest23
          case hy23 => (intro w _; go_simp <;> rfl)
          (try simp only [PU])
          refine AnyE.takeP (i := 3) (oi := ⟨(some 116), (.move (.tmp 17)), 3, "zsortanyfunc.go:422", #[⟨15, (.gcOnly Departure.lateStores)⟩], none⟩) (v := ?v24) rfl (by kernel_rfl) (by kernel_rfl) (by kernel_rfl) (fun _ _ _ h => h) rfl (Or.inl ⟨rfl, ?hy24⟩) (fun _ => hHeld) ?rest24
          case hy24 => (intro w _; go_simp <;> rfl)
          (try simp only [PU])
          refine AnyE.takeP (i := 4) (oi := ⟨(some 117), (.binOp .sub 3 (.tmp 116) (.const (.int .i64 1)) 3), 3, "zsortanyfunc.go:422", #[⟨3, .data⟩, ⟨15, (.gcOnly Departure.lateStores)⟩], none⟩) (v := ?v25) rfl (by kernel_rfl) (by kernel_rfl) (by kernel_rfl) (fun _ _ _ h => h) rfl (Or.inl ⟨rfl, ?hy25⟩) (fun _ => hHeld) ?rest25
          case hy25 => (intro w _; go_simp <;> first | with_reducible rfl | rw [if_neg (by omega)] | rw [if_pos (by omega)])
          (try simp only [PU])
          refine AnyE.takeP (i := 5) (oi := ⟨(some 118), (.move (.tmp 0)), 22, "zsortanyfunc.go:422", #[], none⟩) (v := ?v26) rfl (by kernel_rfl) (by kernel_rfl) (by kernel_rfl) (fun _ _ _ h => h) rfl (Or.inl ⟨rfl, ?hy26⟩) (fun _ => hHeld) ?rest26
          case hy26 => (intro w _; go_simp <;> rfl)
          (try simp only [PU])
          refine AnyE.takeP (i := 6) (oi := ⟨(some 119), (.move (.tmp 17)), 3, "zsortanyfunc.go:422", #[], none⟩) (v := ?v27) rfl (by kernel_rfl) (by kernel_rfl) (by kernel_rfl) (fun _ _ _ h => h) rfl (Or.inl ⟨rfl, ?hy27⟩) (fun _ => hHeld) ?rest27
          case hy27 => (intro w _; go_simp <;> rfl)
          (try simp only [PU])
          refine AnyE.takeP (i := 7) (oi := ⟨(some 120), (.binOp .sub 3 (.tmp 119) (.const (.int .i64 1)) 3), 3, "zsortanyfunc.go:422", #[⟨6, .data⟩], none⟩) (v := ?v28) rfl (by kernel_rfl) (by kernel_rfl) (by kernel_rfl) (fun _ _ _ h => h) rfl (Or.inl ⟨rfl, ?hy28⟩) (fun _ => hHeld) ?rest28
          case hy28 => (intro w _; go_simp <;> first | with_reducible rfl | rw [if_neg (by omega)] | rw [if_pos (by omega)])
          (try simp only [PU])
          refine AnyE.takeP (i := 8) (oi := ⟨(some 121), (.indexAddr 22 (.tmp 118) (.tmp 120)), 0, "zsortanyfunc.go:422", #[⟨5, .data⟩, ⟨7, .data⟩], none⟩) (v := ?v29) rfl (by kernel_rfl) (by kernel_rfl) (by kernel_rfl) (fun _ _ _ h => h) rfl (Or.inl ⟨rfl, ?hy29⟩) (fun _ => hHeld) ?rest29
          case hy29 => (intro w _; go_simp <;> first | with_reducible rfl | rw [if_neg (by omega)] | rw [if_pos (by omega)])
          (try simp only [PU])
          refine AnyE.take (i := 9) (oi := ⟨(some 122), (.load 42 (.tmp 121)), 42, "zsortanyfunc.go:422", #[⟨8, .data⟩], none⟩) (v := ?v30) rfl (by kernel_rfl) (by kernel_rfl) (by kernel_rfl) (fun _ _ _ h => h) (by kernel_rfl) rfl (by kernel_rfl) (Or.inl ⟨rfl, ?hy30⟩) hHeld ?rest30
          case hy30 => (intro w hSw; (try dsimp only at hSw); go_simp <;> first | with_reducible rfl | rw [if_neg (by omega)] | rw [if_pos (by omega)])
          (try simp only [PU])
          refine AnyE.takeP (i := 10) (oi := ⟨(some 123), (.move (.tmp 0)), 22, "zsortanyfunc.go:422", #[], none⟩) (v := ?v31) rfl (by kernel_rfl) (by kernel_rfl) (by kernel_rfl) (fun _ _ _ h => h) rfl (Or.inl ⟨rfl, ?hy31⟩) (fun _ => hHeld) ?rest31
          case hy31 => (intro w _; go_simp <;> rfl)
          (try simp only [PU])
          refine AnyE.takeP (i := 11) (oi := ⟨(some 124), (.move (.tmp 17)), 3, "zsortanyfunc.go:422", #[], none⟩) (v := ?v32) rfl (by kernel_rfl) (by kernel_rfl) (by kernel_rfl) (fun _ _ _ h => h) rfl (Or.inl ⟨rfl, ?hy32⟩) (fun _ => hHeld) ?rest32
          case hy32 => (intro w _; go_simp <;> rfl)
          (try simp only [PU])
          refine AnyE.takeP (i := 12) (oi := ⟨(some 125), (.indexAddr 22 (.tmp 123) (.tmp 124)), 0, "zsortanyfunc.go:422", #[⟨10, .data⟩, ⟨11, .data⟩], none⟩) (v := ?v33) rfl (by kernel_rfl) (by kernel_rfl) (by kernel_rfl) (fun _ _ _ h => h) rfl (Or.inl ⟨rfl, ?hy33⟩) (fun _ => hHeld) ?rest33
          case hy33 => (intro w _; go_simp <;> first | with_reducible rfl | rw [if_neg (by omega)] | rw [if_pos (by omega)])
          (try simp only [PU])
          refine AnyE.take (i := 13) (oi := ⟨(some 126), (.load 42 (.tmp 125)), 42, "zsortanyfunc.go:422", #[⟨12, .data⟩], none⟩) (v := ?v34) rfl (by kernel_rfl) (by kernel_rfl) (by kernel_rfl) (fun _ _ _ h => h) (by kernel_rfl) rfl (by kernel_rfl) (Or.inl ⟨rfl, ?hy34⟩) hHeld ?rest34
          case hy34 => (intro w hSw; (try dsimp only at hSw); go_simp <;> first | with_reducible rfl | rw [if_neg (by omega)] | rw [if_pos (by omega)])
          (try simp only [PU])
          refine AnyE.takeP (i := 14) (oi := ⟨(some 127), (.indexAddr 22 (.tmp 113) (.tmp 114)), 0, "zsortanyfunc.go:422", #[⟨0, .data⟩, ⟨1, .data⟩, ⟨0, .phase⟩, ⟨1, .phase⟩, ⟨2, (.textOnly Departure.lateStores)⟩, ⟨3, (.textOnly Departure.lateStores)⟩, ⟨4, (.textOnly Departure.lateStores)⟩, ⟨5, .phase⟩, ⟨6, .phase⟩, ⟨7, .phase⟩, ⟨8, .phase⟩, ⟨9, .phase⟩, ⟨10, (.textOnly Departure.lateStores)⟩, ⟨11, (.textOnly Departure.lateStores)⟩, ⟨12, (.textOnly Departure.lateStoresUnsure)⟩, ⟨13, .phase⟩], none⟩) (v := ?v35) rfl (by kernel_rfl) (by kernel_rfl) (by kernel_rfl) (fun _ _ _ h => h) rfl (Or.inl ⟨rfl, ?hy35⟩) (fun _ => hHeld) ?rest35
          case hy35 => (intro w _; go_simp <;> first | with_reducible rfl | rw [if_neg (by omega)] | rw [if_pos (by omega)])
          (try simp only [PU])
          refine AnyE.ready (rs := [15]) (by kernel_rfl) (by simp) ?_
          refine AllE.cons (o := ⟨none, (.store 42 (.tmp 127) (.tmp 122)), 0, "zsortanyfunc.go:422", #[⟨14, .data⟩, ⟨9, .data⟩, ⟨0, .phase⟩, ⟨1, .phase⟩, ⟨2, (.textOnly Departure.lateStores)⟩, ⟨3, (.textOnly Departure.lateStores)⟩, ⟨4, (.textOnly Departure.lateStores)⟩, ⟨5, .phase⟩, ⟨6, .phase⟩, ⟨7, .phase⟩, ⟨8, .phase⟩, ⟨9, .phase⟩, ⟨10, (.textOnly Departure.lateStores)⟩, ⟨11, (.textOnly Departure.lateStores)⟩, ⟨12, (.textOnly Departure.lateStoresUnsure)⟩, ⟨13, .phase⟩], none⟩) rfl (fun K hK => ?step36x0) ?more36x0
          case more36x0 => exact AllE.nil
          go_simp
          refine hK.out _ _ ?hS36x0 (fun hHeld36 => ?rest36x0)
          case hS36x0 => first | (intro h; exact absurd h (by decide)) | (intro h; simp at h)
          clear hK K
          clear hHeld
          refine AnyE.ready (rs := [16]) (by kernel_rfl) (by simp) ?_
          refine AllE.cons (o := ⟨(some 128), (.indexAddr 22 (.tmp 115) (.tmp 117)), 0, "zsortanyfunc.go:422", #[⟨2, .data⟩, ⟨4, .data⟩, ⟨0, .phase⟩, ⟨1, .phase⟩, ⟨2, .phase⟩, ⟨3, .phase⟩, ⟨4, .phase⟩, ⟨5, .phase⟩, ⟨6, .phase⟩, ⟨7, .phase⟩, ⟨8, .phase⟩, ⟨9, .phase⟩, ⟨10, .phase⟩, ⟨11, .phase⟩, ⟨12, .phase⟩, ⟨13, .phase⟩, ⟨14, .phase⟩, ⟨15, .phase⟩], none⟩) rfl (fun K hK => ?step37x0) ?more37x0
          case more37x0 => exact AllE.nil
          go_simp
          refine hK.out _ _ ?hS37x0 (fun hHeld37 => ?rest37x0)
          case hS37x0 => first | (intro h; exact absurd h (by decide)) | (intro h; simp at h)
          clear hK K
          clear hHeld36
          (try simp only [PU])
          refine AnyE.ready (rs := [17]) (by kernel_rfl) (by simp) ?_
          refine AllE.cons (o := ⟨none, (.store 42 (.tmp 128) (.tmp 126)), 0, "zsortanyfunc.go:422", #[⟨16, .data⟩, ⟨13, .data⟩, ⟨15, .chain⟩, ⟨0, .phase⟩, ⟨1, .phase⟩, ⟨2, .phase⟩, ⟨3, .phase⟩, ⟨4, .phase⟩, ⟨5, .phase⟩, ⟨6, .phase⟩, ⟨7, .phase⟩, ⟨8, .phase⟩, ⟨9, .phase⟩, ⟨10, .phase⟩, ⟨11, .phase⟩, ⟨12, .phase⟩, ⟨13, .phase⟩, ⟨14, .phase⟩, ⟨15, .phase⟩], none⟩) rfl (fun K hK => ?step38x0) ?more38x0
          case more38x0 => exact AllE.nil
          go_simp
          refine hK.out _ _ ?hS38x0 (fun hHeld38 => ?rest38x0)
          case hS38x0 => first | (intro h; exact absurd h (by decide)) | (intro h; simp at h)
          clear hK K
          clear hHeld37
          refine AnyE.done (by kernel_rfl) ?_ _
          clear hHeld38
          go_wp2_with fail
          go_roundw
          case rel => exact ⟨kp, swp e (kp + 1) kp, by first | rfl | go_num, by omega, by omega, HN, by rw [HZ.out]; exact hes, HXn, HP⟩
          case measure => simp [intOf]
        · obtain rfl : k = i := by omega
          have HE := Lib.hid (show SortedIn (ltM cf) a b e by rw [HM.out]; exact ins_right HW.out hai hjb H1.out hlo.out hhi.out hx.out)
          go_wp2
          (try simp only [Exit.inBlock, Exit.then])
          refine bodyPost_ret (results_none rfl _ _ _) rfl ?_
          exact ⟨rfl, e, he.out, hp.out, HE.out⟩
end Go.Proofs.YtlkpmbkmmfoakaaDoor

/- THE WALK over slices.symMergeCmpFunc, at shares: the general case; the recursion. -/
namespace Go.Proofs.YtlkpmbkmmfoakaaDoor
open Go.RowKit Go.Sort
theorem perm_size {a b n : Nat} {d e : Array Sh} (h : PermIn a b d e) (hz : d.size = n) : e.size = n := h.1.trans hz
theorem permR {a b : Nat} {d : Array Sh} : PermIn a b d d := permIn_refl d a b
/-- SymCut, in letters -/
structure SymL (lt : Sh → Sh → Bool) (a mid E b s : Nat) (e : Array Sh) : Prop where
  r1 : SortedIn lt a s e
  r2 : SortedIn lt s mid e
  r3 : SortedIn lt mid E e
  r4 : SortedIn lt E b e
  cross : Cross lt a mid b e
theorem sym_cutL {lt : Sh → Sh → Bool} (hS : SWO lt) {a m b s mid E : Nat} {d e : Array Sh} (h1 : a < m) (h2 : m < b) (hl : SortedIn lt a m d) (hr : SortedIn lt m b d) (hmid : mid = (a + b) / 2) (hE : E = mid + m - s)
    (hlo : symLo a m b ≤ s) (hhi : s ≤ symHi a m b) (hup : symLo a m b < s → lt d[mid + m - s]! d[s - 1]! = false) (hdn : s < symHi a m b → lt d[mid + m - s - 1]! d[s]! = true) (he : ∀ x, e[x]! = d[rotS s m E x]!) : SymL lt a mid E b s e := by
  subst hE
  subst hmid
  have h := sym_cut hS h1 h2 hl hr ⟨hlo, hhi, hup, hdn⟩ he
  exact ⟨h.r1, h.r2, h.r3, h.r4, h.cross⟩
theorem sym_doneL {lt : Sh → Sh → Bool} {a mid E b s : Nat} {e e1 e2 : Array Sh} (ham : a ≤ mid) (hmb : mid ≤ b) (hb : b ≤ e.size) (h : SymL lt a mid E b s e) (hp1 : PermIn a mid e e1) (hs1 : SortedIn lt a mid e1) (hp2 : PermIn mid b e1 e2) (hs2 : SortedIn lt mid b e2) :
    PermIn a b e e2 ∧ SortedIn lt a b e2 := by
  have z1 := hp1.1
  refine ⟨permIn_trans _ _ _ a b (permIn_mono _ _ _ _ _ _ (Nat.le_refl _) (by omega) hb hp1) (permIn_mono _ _ _ _ _ _ (by omega) (Nat.le_refl _) (by omega) hp2), ?_⟩
  exact srt_glue (srt_kept hs1 hp2 (.inl (Nat.le_refl _))) hs2 ((h.cross.left (by omega) hp1).right (by omega) hp2)
set_option maxRecDepth 100000 in
set_option maxHeartbeats 12800000 in
theorem sm_symC (w0 : World) (B g cap : Nat) (cf : Sh → Sh → Int) (f : Nat) (cb : Array Value) (d : Array Sh) (a m b : Nat) (w : World)
    (eg : ∀ args w, (callFunc f args).run Tryd.prog w = .ok (.enter f args) w) (hcmp : CmpOkM Tryd.prog f cb cf w0 g) (hS : SWO (ltM cf)) (hs : SortM w0 B g cap 42 d w) (h0 : a + 1 < m) (h2 : m + 1 < b) (hb : b ≤ d.size) (hsz : d.size ≤ 8000000) (hl : SortedIn (ltM cf) a m d) (hr : SortedIn (ltM cf) m b d)
    (ih : ∀ (a' m' b' : Nat) (e : Array Sh) (W : World), b' - a' < b - a → SortM w0 B g cap 42 e W → e.size = d.size → a' < m' → m' < b' → b' ≤ d.size → SortedIn (ltM cf) a' m' e → SortedIn (ltM cf) m' b' e → Calls Tryd.prog 81 #[.slice (some ⟨g, 0, none⟩) d.size cap, .int .i64 a', .int .i64 m', .int .i64 b', .func (.func f) #[] cb] W fun e' w' => e' = .returned (.tuple #[]) ∧ ∃ d', SortM w0 B g cap 42 d' w' ∧ PermIn a' b' e d' ∧ SortedIn (ltM cf) a' b' d') :
    Calls Tryd.prog 81 #[.slice (some ⟨g, 0, none⟩) d.size cap, .int .i64 a, .int .i64 m, .int .i64 b, .func (.func f) #[] cb] w fun e w' => e = .returned (.tuple #[]) ∧ ∃ d', SortM w0 B g cap 42 d' w' ∧ PermIn a b d d' ∧ SortedIn (ltM cf) a b d' := by
  have HS := Lib.hid hs
  have HC := Lib.hid hcmp
  have HW := Lib.hid hS
  have H1 := Lib.hid hl
  have H2 := Lib.hid hr
  have IH := Lib.hid ih
  clear hs hcmp hS hl hr ih
  have hma : (((m : Int) - (a : Int)) == 1) = false := by rw [beq_eq_false_iff_ne]; omega
  have hmb' : (((b : Int) - (m : Int)) == 1) = false := by rw [beq_eq_false_iff_ne]; omega
  obtain ⟨mid, hmid⟩ : ∃ mid, mid = (a + b) / 2 := ⟨_, rfl⟩
  have HMID := Lib.hid hmid
  have qm : ((a : Int) + (b : Int)) / 2 = (mid : Int) := by omega
  have m1 : 2 * mid ≤ a + b := by omega
  have m2 : a + b ≤ 2 * mid + 1 := by omega
  have hrng := sym_rng (show a < m by omega) (show m < b by omega)
  rw [← hmid] at hrng
  clear hmid
  obtain ⟨lo, HLO⟩ : ∃ lo, Hid (lo = symLo a m b) := ⟨_, rfl⟩
  obtain ⟨hi, HHI⟩ : ∃ hi, Hid (hi = symHi a m b) := ⟨_, rfl⟩
  rw [← HLO.out, ← HHI.out] at hrng
  obtain ⟨r1, r2, r3, r4, r5, -⟩ := hrng
  by_cases hm : m > mid
  · go_enter Tryd.func81, Tryd.ntmps81
    have ql : (mid : Int) + (m : Int) - (b : Int) = (lo : Int) := by have := HLO.out; unfold symLo at this; rw [← HMID.out, if_pos hm] at this; omega
    have qh : hi ≤ mid ∧ mid ≤ hi := by have := HHI.out; unfold symHi at this; rw [← HMID.out, if_pos hm] at this; omega
    go_wp2_with fail
    clear hma hmb' qm
    go_loopw [20, 21] (fun u v W => ∃ (s r : Nat), u = .int .i64 s ∧ v = .int .i64 r ∧ lo ≤ s ∧ s ≤ r ∧ r ≤ hi ∧ Hid (SortM w0 B g cap 42 d W) ∧ Hid (lo < s → ltM cf d[mid + m - s]! d[s - 1]! = false) ∧ Hid (r < hi → ltM cf d[mid + m - r - 1]! d[r]! = true)) (fun u v _ => (intOf v - intOf u).toNat)
    case atStart => exact ⟨lo, hi, by first | rfl | exact congrArg (Value.int .i64) ql, by first | rfl | exact congrArg (Value.int .i64) (by omega), Nat.le_refl _, by omega, Nat.le_refl _, HS, Lib.hid (fun h => absurd h (by omega)), Lib.hid (fun h => absurd h (by omega))⟩
    case round =>
      obtain ⟨s, r, rfl, rfl, hls, hsr, hrh, he, hup, hdn⟩ := hrel
      by_cases hlt : s < r
      · obtain ⟨C, hC⟩ : ∃ C, C = (s + r) / 2 := ⟨_, rfl⟩
        obtain ⟨I, hI⟩ : ∃ I, I = mid + m - 1 - C := ⟨_, rfl⟩
        have qC : ((s : Int) + (r : Int)) / 2 = (C : Int) := by omega
        have qI : (mid : Int) + (m : Int) - 1 - (C : Int) = (I : Int) := by omega
        have wI : IntKind.i64.wrap (I : Int) = (I : Int) := by rw [IntKind.wrap_i64]; omega
        have b1 : (I : Int) < (d.size : Int) := by omega
        have b2 : (C : Int) < (d.size : Int) := by omega
        have c3 : s ≤ C := by omega
        have c4 : C < r := by omega
        have c5 : C < d.size := by omega
        have c6 : I < d.size := by omega
        have HG := Lib.hid (fun (h : cf d[I]! d[C]! < 0) => fun (_ : C < hi) => (by rw [show mid + m - C - 1 = I by omega]; exact ltM_t h : ltM cf d[mid + m - C - 1]! d[C]! = true))
        have HE := Lib.hid (fun (h : ¬ cf d[I]! d[C]! < 0) => fun (_ : lo < C + 1) => (by rw [show mid + m - (C + 1) = I by omega, Nat.add_sub_cancel]; exact ltM_f h : ltM cf d[mid + m - (C + 1)]! d[C + 1 - 1]! = false))
        have hC2 : 2 * C ≤ s + r := by omega
        clear hC hI
        obtain ⟨c10, c11, c12⟩ := he.out.cells (show I < d.size by omega)
        obtain ⟨c20, c21, c22⟩ := he.out.cells (show C < d.size by omega)
        have HX := Lib.hid (fun V (h : Ext wr V) => he.out.ext h)
        have HQ := Lib.hid (fun V (h : Ext wr V) => HC.out V (he.out.ext h).gr d[I]! d[C]!)
        generalize cf d[I]! d[C]! = z at *
        generalize d[I]! = x1 at c10 c11 c12 HQ
        generalize d[C]! = x2 at c20 c21 c22 HQ
        have MK := Lib.hid (fun V (e : Ext wr V) => (⟨e.cell c10, e.cell c11, e.cell c12, e.cell c20, e.cell c21, e.cell c22, e⟩ : V.cell? ⟨g, I * 3, none⟩ = some (.int .i64 x1.id) ∧ V.cell? ⟨g, I * 3 + 1, none⟩ = some (.int .i64 x1.n) ∧ V.cell? ⟨g, I * 3 + 2, none⟩ = some (.int .i64 x1.d) ∧ V.cell? ⟨g, C * 3, none⟩ = some (.int .i64 x2.id) ∧ V.cell? ⟨g, C * 3 + 1, none⟩ = some (.int .i64 x2.n) ∧ V.cell? ⟨g, C * 3 + 2, none⟩ = some (.int .i64 x2.d) ∧ Ext wr V))
        by_cases hz : z < 0
        · have hg := Lib.hid (HG.out hz)
          clear HG HE
          clear c10 c11 c12 c20 c21 c22
          go_wp2_with fail
          go_region_held3 (fun V => V.cell? ⟨g, I * 3, none⟩ = some (.int .i64 x1.id) ∧ V.cell? ⟨g, I * 3 + 1, none⟩ = some (.int .i64 x1.n) ∧ V.cell? ⟨g, I * 3 + 2, none⟩ = some (.int .i64 x1.d) ∧ V.cell? ⟨g, C * 3, none⟩ = some (.int .i64 x2.id) ∧ V.cell? ⟨g, C * 3 + 1, none⟩ = some (.int .i64 x2.n) ∧ V.cell? ⟨g, C * 3 + 2, none⟩ = some (.int .i64 x2.d) ∧ Ext wr V) ((exact MK.out _ (by with_reducible repeat (first | exact Ext.refl _ | assumption | refine Ext.drew ?_ | refine Ext.drewN ?_ _ | refine Ext.alloc ?_ _)))) ((refine (HQ.out _ (by with_reducible repeat (first | exact Ext.refl _ | assumption | refine Ext.drew ?_ | refine Ext.drewN ?_ _ | refine Ext.alloc ?_ _))).mono ?_; rintro e w' ⟨rfl, hb⟩; replace hb : Ext wr w' := Ext.trans (by with_reducible repeat (first | exact Ext.refl _ | assumption | refine Ext.drew ?_ | refine Ext.drewN ?_ _ | refine Ext.alloc ?_ _)) hb))
          have hN := Lib.hid (HX.out w' hb)
          clear HX HQ MK
          go_wp2_with fail
          go_roundw
          case rel => exact ⟨s, C, rfl, rfl, hls, c3, by omega, hN, hup, hg⟩
          case measure => simp [intOf]; omega
        · have hg := Lib.hid (HE.out hz)
          have hz' : decide (z < 0) = false := decide_eq_false hz
          clear HG HE hz
          clear c10 c11 c12 c20 c21 c22
          go_wp2_with fail
          go_region_held3 (fun V => V.cell? ⟨g, I * 3, none⟩ = some (.int .i64 x1.id) ∧ V.cell? ⟨g, I * 3 + 1, none⟩ = some (.int .i64 x1.n) ∧ V.cell? ⟨g, I * 3 + 2, none⟩ = some (.int .i64 x1.d) ∧ V.cell? ⟨g, C * 3, none⟩ = some (.int .i64 x2.id) ∧ V.cell? ⟨g, C * 3 + 1, none⟩ = some (.int .i64 x2.n) ∧ V.cell? ⟨g, C * 3 + 2, none⟩ = some (.int .i64 x2.d) ∧ Ext wr V) ((exact MK.out _ (by with_reducible repeat (first | exact Ext.refl _ | assumption | refine Ext.drew ?_ | refine Ext.drewN ?_ _ | refine Ext.alloc ?_ _)))) ((refine (HQ.out _ (by with_reducible repeat (first | exact Ext.refl _ | assumption | refine Ext.drew ?_ | refine Ext.drewN ?_ _ | refine Ext.alloc ?_ _))).mono ?_; rintro e w' ⟨rfl, hb⟩; replace hb : Ext wr w' := Ext.trans (by with_reducible repeat (first | exact Ext.refl _ | assumption | refine Ext.drew ?_ | refine Ext.drewN ?_ _ | refine Ext.alloc ?_ _)) hb))
          have hN := Lib.hid (HX.out w' hb)
          clear HX HQ MK
          go_wp2_with fail
          go_roundw
          case rel => exact ⟨C + 1, r, congrArg (Value.int .i64) (by omega), rfl, by omega, by omega, hrh, hN, hg, hdn⟩
          case measure => simp [intOf]; omega
      · obtain rfl : s = r := by omega
        obtain ⟨E, hE⟩ : ∃ E, E = mid + m - s := ⟨_, rfl⟩
        have HEQ := Lib.hid hE
        have qE : (mid : Int) + (m : Int) - (s : Int) = (E : Int) := by omega
        have e1 : E + s ≤ mid + m := by omega
        have e2 : mid + m ≤ E + s := by omega
        have HCUT := Lib.hid (fun (e : Array Sh) (hx : ∀ x, e[x]! = d[rotS s m E x]!) => sym_cutL (lt := ltM cf) HW.out (Nat.lt_of_succ_lt h0) (Nat.lt_of_succ_lt h2) H1.out H2.out HMID.out hE (HLO.out ▸ hls) (HHI.out ▸ hrh) (by rw [← HLO.out]; exact hup.out) (by rw [← HHI.out]; exact hdn.out) hx)
        have IL := Lib.hid (fun (W : World) (e : Array Sh) (h : SortM w0 B g cap 42 e W) (hz : e.size = d.size) (hc : SymL (ltM cf) a mid E b s e) => fun (h1 : a < s) (h2 : s < mid) => IH.out a s mid e W (by omega) h hz h1 h2 (by omega) hc.r1 hc.r2)
        have IR := Lib.hid (fun (W : World) (e' : Array Sh) (h : SortM w0 B g cap 42 e' W) (hz' : e'.size = d.size) (e : Array Sh) (_ : e.size = d.size) (hc : SymL (ltM cf) a mid E b s e) (hp : PermIn a mid e e') => fun (h1 : mid < E) (h2 : E < b) => IH.out mid E b e' W (by omega) h hz' h1 h2 hb (srt_kept hc.r3 hp (.inr (Nat.le_refl _))) (srt_kept hc.r4 hp (.inr (by omega))))
        have HDONE := Lib.hid (fun (e e1 e2 : Array Sh) (hz : e.size = d.size) (hc : SymL (ltM cf) a mid E b s e) (hp1 : PermIn a mid e e1) (hs1 : SortedIn (ltM cf) a mid e1) (hp2 : PermIn mid b e1 e2) (hs2 : SortedIn (ltM cf) mid b e2) => sym_doneL (by omega) (by omega) (by omega) hc hp1 hs1 hp2 hs2)
        clear hE hup hdn
        have h4 : s < m := by omega
        have h8 : mid < E := by omega
        have h3 : a < mid := by omega
        by_cases h7 : s < mid
        · have h5 : m < E := by omega
          have HR := Lib.hid (sm_rotate w0 B g cap d s m E (.func (.func f) #[] cb) wr he.out h4 h5 (by omega) hsz)
          have HPM := Lib.hid (fun (e : Array Sh) (hp : PermIn s E d e) => permIn_mono _ _ _ _ a b (by omega) (by omega) hb hp)
          by_cases h6 : a < s
          · replace IL := Lib.hid (fun W e h hz hc => IL.out W e h hz hc h6 h7)
            by_cases h9 : E < b
            · replace IR := Lib.hid (fun W e1 h hz e hz2 hc hp => IR.out W e1 h hz e hz2 hc hp h8 h9)
              go_wp2_with (first | (go_at_call 100; with_reducible refine (HR.out).mono ?_; rintro e' w1 ⟨rfl, d1, hs1, hz1, hx1, hp1⟩; replace hs1 := Lib.hid hs1; replace hx1 := Lib.hid (HCUT.out d1 hx1); replace hp1 := Lib.hid (HPM.out d1 hp1)) | (go_at_call 81; with_reducible refine (IL.out w1 d1 hs1.out hz1 hx1.out).mono ?_; rintro e' w2 ⟨rfl, d2, hs2, hp2, hso2⟩; have hz2 := perm_size hp2 hz1; replace hs2 := Lib.hid hs2; replace hp2 := Lib.hid hp2; replace hso2 := Lib.hid hso2) | (go_at_call 81; with_reducible refine (IR.out w2 d2 hs2.out hz2 d1 hz1 hx1.out hp2.out).mono ?_; rintro e' w3 ⟨rfl, d3, hs3, hp3, hso3⟩; replace hs3 := Lib.hid hs3; replace hp3 := Lib.hid hp3; replace hso3 := Lib.hid hso3))
              go_end0
              have HF := HDONE.out d1 d2 d3 hz1 hx1.out hp2.out hso2.out hp3.out hso3.out
              exact ⟨rfl, d3, hs3.out, permIn_trans _ _ _ a b hp1.out HF.1, HF.2⟩
            · have IRN := Lib.hid (fun (e e1 : Array Sh) (hc : SymL (ltM cf) a mid E b s e) (hp : PermIn a mid e e1) => (by have := srt_kept hc.r3 hp (.inr (Nat.le_refl _)); rwa [show E = b by omega] at this : SortedIn (ltM cf) mid b e1))
              go_wp2_with (first | (go_at_call 100; with_reducible refine (HR.out).mono ?_; rintro e' w1 ⟨rfl, d1, hs1, hz1, hx1, hp1⟩; replace hs1 := Lib.hid hs1; replace hx1 := Lib.hid (HCUT.out d1 hx1); replace hp1 := Lib.hid (HPM.out d1 hp1)) | (go_at_call 81; with_reducible refine (IL.out w1 d1 hs1.out hz1 hx1.out).mono ?_; rintro e' w2 ⟨rfl, d2, hs2, hp2, hso2⟩; have hz2 := perm_size hp2 hz1; replace hs2 := Lib.hid hs2; replace hp2 := Lib.hid hp2; replace hso2 := Lib.hid hso2))
              go_end0
              have HF := HDONE.out d1 d2 d2 hz1 hx1.out hp2.out hso2.out permR (IRN.out _ _ hx1.out hp2.out)
              exact ⟨rfl, d2, hs2.out, permIn_trans _ _ _ a b hp1.out HF.1, HF.2⟩
          · have ILN := Lib.hid (fun (e : Array Sh) (hc : SymL (ltM cf) a mid E b s e) => (by have := hc.r2; rwa [show s = a by omega] at this : SortedIn (ltM cf) a mid e))
            by_cases h9 : E < b
            · replace IR := Lib.hid (fun W e1 h hz e hz2 hc hp => IR.out W e1 h hz e hz2 hc hp h8 h9)
              go_wp2_with (first | (go_at_call 100; with_reducible refine (HR.out).mono ?_; rintro e' w1 ⟨rfl, d1, hs1, hz1, hx1, hp1⟩; replace hs1 := Lib.hid hs1; replace hx1 := Lib.hid (HCUT.out d1 hx1); replace hp1 := Lib.hid (HPM.out d1 hp1)) | (go_at_call 81; with_reducible refine (IR.out w1 d1 hs1.out hz1 d1 hz1 hx1.out permR).mono ?_; rintro e' w3 ⟨rfl, d3, hs3, hp3, hso3⟩; replace hs3 := Lib.hid hs3; replace hp3 := Lib.hid hp3; replace hso3 := Lib.hid hso3))
              go_end0
              have HF := HDONE.out d1 d1 d3 hz1 hx1.out permR (ILN.out _ hx1.out) hp3.out hso3.out
              exact ⟨rfl, d3, hs3.out, permIn_trans _ _ _ a b hp1.out HF.1, HF.2⟩
            · have IRN := Lib.hid (fun (e e1 : Array Sh) (hc : SymL (ltM cf) a mid E b s e) (hp : PermIn a mid e e1) => (by have := srt_kept hc.r3 hp (.inr (Nat.le_refl _)); rwa [show E = b by omega] at this : SortedIn (ltM cf) mid b e1))
              go_wp2_with (go_at_call 100; with_reducible refine (HR.out).mono ?_; rintro e' w1 ⟨rfl, d1, hs1, hz1, hx1, hp1⟩; replace hs1 := Lib.hid hs1; replace hx1 := Lib.hid (HCUT.out d1 hx1); replace hp1 := Lib.hid (HPM.out d1 hp1))
              go_end0
              have HF := HDONE.out d1 d1 d1 hz1 hx1.out permR (ILN.out _ hx1.out) permR (IRN.out _ _ hx1.out permR)
              exact ⟨rfl, d1, hs1.out, permIn_trans _ _ _ a b hp1.out HF.1, HF.2⟩
        · have h5 : ¬ m < E := by omega
          have h6 : a < s := by omega
          have h9 : E < b := by omega
          have HID := Lib.hid (fun x => (by rw [show E = m by omega, rotS_idr] : d[rotS s m E x]! = d[x]!))
          have ILN := Lib.hid (fun (e : Array Sh) (hc : SymL (ltM cf) a mid E b s e) => (by have := hc.r1; rwa [show s = mid by omega] at this : SortedIn (ltM cf) a mid e))
          replace IR := Lib.hid (fun W e1 h hz e hz2 hc hp => IR.out W e1 h hz e hz2 hc hp h8 h9)
          have hx1 := Lib.hid (HCUT.out d (fun x => (HID.out x).symm ▸ rfl))
          have hp1 := Lib.hid (permIn_refl d a b)
          go_wp2_with (go_at_call 81; with_reducible refine (IR.out wr d he.out rfl d rfl hx1.out permR).mono ?_; rintro e' w3 ⟨rfl, d3, hs3, hp3, hso3⟩; replace hs3 := Lib.hid hs3; replace hp3 := Lib.hid hp3; replace hso3 := Lib.hid hso3)
          go_end0
          have HF := HDONE.out d d d3 rfl hx1.out permR (ILN.out _ hx1.out) hp3.out hso3.out
          exact ⟨rfl, d3, hs3.out, permIn_trans _ _ _ a b hp1.out HF.1, HF.2⟩
  · go_enter Tryd.func81, Tryd.ntmps81
    have ql : lo ≤ a ∧ a ≤ lo := by have := HLO.out; unfold symLo at this; rw [← HMID.out, if_neg hm] at this; omega
    have qh : hi ≤ m ∧ m ≤ hi := by have := HHI.out; unfold symHi at this; rw [← HMID.out, if_neg hm] at this; omega
    go_wp2_with fail
    clear hma hmb' qm
    go_loopw [20, 21] (fun u v W => ∃ (s r : Nat), u = .int .i64 s ∧ v = .int .i64 r ∧ lo ≤ s ∧ s ≤ r ∧ r ≤ hi ∧ Hid (SortM w0 B g cap 42 d W) ∧ Hid (lo < s → ltM cf d[mid + m - s]! d[s - 1]! = false) ∧ Hid (r < hi → ltM cf d[mid + m - r - 1]! d[r]! = true)) (fun u v _ => (intOf v - intOf u).toNat)
    case atStart => exact ⟨lo, hi, by first | rfl | exact congrArg (Value.int .i64) (by omega), by first | rfl | exact congrArg (Value.int .i64) (by omega), Nat.le_refl _, by omega, Nat.le_refl _, HS, Lib.hid (fun h => absurd h (by omega)), Lib.hid (fun h => absurd h (by omega))⟩
    case round =>
      obtain ⟨s, r, rfl, rfl, hls, hsr, hrh, he, hup, hdn⟩ := hrel
      by_cases hlt : s < r
      · obtain ⟨C, hC⟩ : ∃ C, C = (s + r) / 2 := ⟨_, rfl⟩
        obtain ⟨I, hI⟩ : ∃ I, I = mid + m - 1 - C := ⟨_, rfl⟩
        have qC : ((s : Int) + (r : Int)) / 2 = (C : Int) := by omega
        have qI : (mid : Int) + (m : Int) - 1 - (C : Int) = (I : Int) := by omega
        have wI : IntKind.i64.wrap (I : Int) = (I : Int) := by rw [IntKind.wrap_i64]; omega
        have b1 : (I : Int) < (d.size : Int) := by omega
        have b2 : (C : Int) < (d.size : Int) := by omega
        have c3 : s ≤ C := by omega
        have c4 : C < r := by omega
        have c5 : C < d.size := by omega
        have c6 : I < d.size := by omega
        have HG := Lib.hid (fun (h : cf d[I]! d[C]! < 0) => fun (_ : C < hi) => (by rw [show mid + m - C - 1 = I by omega]; exact ltM_t h : ltM cf d[mid + m - C - 1]! d[C]! = true))
        have HE := Lib.hid (fun (h : ¬ cf d[I]! d[C]! < 0) => fun (_ : lo < C + 1) => (by rw [show mid + m - (C + 1) = I by omega, Nat.add_sub_cancel]; exact ltM_f h : ltM cf d[mid + m - (C + 1)]! d[C + 1 - 1]! = false))
        have hC2 : 2 * C ≤ s + r := by omega
        clear hC hI
        obtain ⟨c10, c11, c12⟩ := he.out.cells (show I < d.size by omega)
        obtain ⟨c20, c21, c22⟩ := he.out.cells (show C < d.size by omega)
        have HX := Lib.hid (fun V (h : Ext wr V) => he.out.ext h)
        have HQ := Lib.hid (fun V (h : Ext wr V) => HC.out V (he.out.ext h).gr d[I]! d[C]!)
        generalize cf d[I]! d[C]! = z at *
        generalize d[I]! = x1 at c10 c11 c12 HQ
        generalize d[C]! = x2 at c20 c21 c22 HQ
        have MK := Lib.hid (fun V (e : Ext wr V) => (⟨e.cell c10, e.cell c11, e.cell c12, e.cell c20, e.cell c21, e.cell c22, e⟩ : V.cell? ⟨g, I * 3, none⟩ = some (.int .i64 x1.id) ∧ V.cell? ⟨g, I * 3 + 1, none⟩ = some (.int .i64 x1.n) ∧ V.cell? ⟨g, I * 3 + 2, none⟩ = some (.int .i64 x1.d) ∧ V.cell? ⟨g, C * 3, none⟩ = some (.int .i64 x2.id) ∧ V.cell? ⟨g, C * 3 + 1, none⟩ = some (.int .i64 x2.n) ∧ V.cell? ⟨g, C * 3 + 2, none⟩ = some (.int .i64 x2.d) ∧ Ext wr V))
        by_cases hz : z < 0
        · have hg := Lib.hid (HG.out hz)
          clear HG HE
          clear c10 c11 c12 c20 c21 c22
          go_wp2_with fail
          go_region_held3 (fun V => V.cell? ⟨g, I * 3, none⟩ = some (.int .i64 x1.id) ∧ V.cell? ⟨g, I * 3 + 1, none⟩ = some (.int .i64 x1.n) ∧ V.cell? ⟨g, I * 3 + 2, none⟩ = some (.int .i64 x1.d) ∧ V.cell? ⟨g, C * 3, none⟩ = some (.int .i64 x2.id) ∧ V.cell? ⟨g, C * 3 + 1, none⟩ = some (.int .i64 x2.n) ∧ V.cell? ⟨g, C * 3 + 2, none⟩ = some (.int .i64 x2.d) ∧ Ext wr V) ((exact MK.out _ (by with_reducible repeat (first | exact Ext.refl _ | assumption | refine Ext.drew ?_ | refine Ext.drewN ?_ _ | refine Ext.alloc ?_ _)))) ((refine (HQ.out _ (by with_reducible repeat (first | exact Ext.refl _ | assumption | refine Ext.drew ?_ | refine Ext.drewN ?_ _ | refine Ext.alloc ?_ _))).mono ?_; rintro e w' ⟨rfl, hb⟩; replace hb : Ext wr w' := Ext.trans (by with_reducible repeat (first | exact Ext.refl _ | assumption | refine Ext.drew ?_ | refine Ext.drewN ?_ _ | refine Ext.alloc ?_ _)) hb))
          have hN := Lib.hid (HX.out w' hb)
          clear HX HQ MK
          go_wp2_with fail
          go_roundw
          case rel => exact ⟨s, C, rfl, rfl, hls, c3, by omega, hN, hup, hg⟩
          case measure => simp [intOf]; omega
        · have hg := Lib.hid (HE.out hz)
          have hz' : decide (z < 0) = false := decide_eq_false hz
          clear HG HE hz
          clear c10 c11 c12 c20 c21 c22
          go_wp2_with fail
          go_region_held3 (fun V => V.cell? ⟨g, I * 3, none⟩ = some (.int .i64 x1.id) ∧ V.cell? ⟨g, I * 3 + 1, none⟩ = some (.int .i64 x1.n) ∧ V.cell? ⟨g, I * 3 + 2, none⟩ = some (.int .i64 x1.d) ∧ V.cell? ⟨g, C * 3, none⟩ = some (.int .i64 x2.id) ∧ V.cell? ⟨g, C * 3 + 1, none⟩ = some (.int .i64 x2.n) ∧ V.cell? ⟨g, C * 3 + 2, none⟩ = some (.int .i64 x2.d) ∧ Ext wr V) ((exact MK.out _ (by with_reducible repeat (first | exact Ext.refl _ | assumption | refine Ext.drew ?_ | refine Ext.drewN ?_ _ | refine Ext.alloc ?_ _)))) ((refine (HQ.out _ (by with_reducible repeat (first | exact Ext.refl _ | assumption | refine Ext.drew ?_ | refine Ext.drewN ?_ _ | refine Ext.alloc ?_ _))).mono ?_; rintro e w' ⟨rfl, hb⟩; replace hb : Ext wr w' := Ext.trans (by with_reducible repeat (first | exact Ext.refl _ | assumption | refine Ext.drew ?_ | refine Ext.drewN ?_ _ | refine Ext.alloc ?_ _)) hb))
          have hN := Lib.hid (HX.out w' hb)
          clear HX HQ MK
          go_wp2_with fail
          go_roundw
          case rel => exact ⟨C + 1, r, congrArg (Value.int .i64) (by omega), rfl, by omega, by omega, hrh, hN, hg, hdn⟩
          case measure => simp [intOf]; omega
      · obtain rfl : s = r := by omega
        obtain ⟨E, hE⟩ : ∃ E, E = mid + m - s := ⟨_, rfl⟩
        have HEQ := Lib.hid hE
        have qE : (mid : Int) + (m : Int) - (s : Int) = (E : Int) := by omega
        have e1 : E + s ≤ mid + m := by omega
        have e2 : mid + m ≤ E + s := by omega
        have HCUT := Lib.hid (fun (e : Array Sh) (hx : ∀ x, e[x]! = d[rotS s m E x]!) => sym_cutL (lt := ltM cf) HW.out (Nat.lt_of_succ_lt h0) (Nat.lt_of_succ_lt h2) H1.out H2.out HMID.out hE (HLO.out ▸ hls) (HHI.out ▸ hrh) (by rw [← HLO.out]; exact hup.out) (by rw [← HHI.out]; exact hdn.out) hx)
        have IL := Lib.hid (fun (W : World) (e : Array Sh) (h : SortM w0 B g cap 42 e W) (hz : e.size = d.size) (hc : SymL (ltM cf) a mid E b s e) => fun (h1 : a < s) (h2 : s < mid) => IH.out a s mid e W (by omega) h hz h1 h2 (by omega) hc.r1 hc.r2)
        have IR := Lib.hid (fun (W : World) (e' : Array Sh) (h : SortM w0 B g cap 42 e' W) (hz' : e'.size = d.size) (e : Array Sh) (_ : e.size = d.size) (hc : SymL (ltM cf) a mid E b s e) (hp : PermIn a mid e e') => fun (h1 : mid < E) (h2 : E < b) => IH.out mid E b e' W (by omega) h hz' h1 h2 hb (srt_kept hc.r3 hp (.inr (Nat.le_refl _))) (srt_kept hc.r4 hp (.inr (by omega))))
        have HDONE := Lib.hid (fun (e e1 e2 : Array Sh) (hz : e.size = d.size) (hc : SymL (ltM cf) a mid E b s e) (hp1 : PermIn a mid e e1) (hs1 : SortedIn (ltM cf) a mid e1) (hp2 : PermIn mid b e1 e2) (hs2 : SortedIn (ltM cf) mid b e2) => sym_doneL (by omega) (by omega) (by omega) hc hp1 hs1 hp2 hs2)
        clear hE hup hdn
        by_cases h4 : s < m
        · have h5 : m < E := by omega
          have h7 : s < mid := by omega
          have h8 : mid < E := by omega
          have HR := Lib.hid (sm_rotate w0 B g cap d s m E (.func (.func f) #[] cb) wr he.out h4 h5 (by omega) hsz)
          have HPM := Lib.hid (fun (e : Array Sh) (hp : PermIn s E d e) => permIn_mono _ _ _ _ a b (by omega) (by omega) hb hp)
          by_cases h6 : a < s
          · replace IL := Lib.hid (fun W e h hz hc => IL.out W e h hz hc h6 h7)
            by_cases h9 : E < b
            · replace IR := Lib.hid (fun W e1 h hz e hz2 hc hp => IR.out W e1 h hz e hz2 hc hp h8 h9)
              go_wp2_with (first | (go_at_call 100; with_reducible refine (HR.out).mono ?_; rintro e' w1 ⟨rfl, d1, hs1, hz1, hx1, hp1⟩; replace hs1 := Lib.hid hs1; replace hx1 := Lib.hid (HCUT.out d1 hx1); replace hp1 := Lib.hid (HPM.out d1 hp1)) | (go_at_call 81; with_reducible refine (IL.out w1 d1 hs1.out hz1 hx1.out).mono ?_; rintro e' w2 ⟨rfl, d2, hs2, hp2, hso2⟩; have hz2 := perm_size hp2 hz1; replace hs2 := Lib.hid hs2; replace hp2 := Lib.hid hp2; replace hso2 := Lib.hid hso2) | (go_at_call 81; with_reducible refine (IR.out w2 d2 hs2.out hz2 d1 hz1 hx1.out hp2.out).mono ?_; rintro e' w3 ⟨rfl, d3, hs3, hp3, hso3⟩; replace hs3 := Lib.hid hs3; replace hp3 := Lib.hid hp3; replace hso3 := Lib.hid hso3))
              go_end0
              have HF := HDONE.out d1 d2 d3 hz1 hx1.out hp2.out hso2.out hp3.out hso3.out
              exact ⟨rfl, d3, hs3.out, permIn_trans _ _ _ a b hp1.out HF.1, HF.2⟩
            · have IRN := Lib.hid (fun (e e1 : Array Sh) (hc : SymL (ltM cf) a mid E b s e) (hp : PermIn a mid e e1) => (by have := srt_kept hc.r3 hp (.inr (Nat.le_refl _)); rwa [show E = b by omega] at this : SortedIn (ltM cf) mid b e1))
              go_wp2_with (first | (go_at_call 100; with_reducible refine (HR.out).mono ?_; rintro e' w1 ⟨rfl, d1, hs1, hz1, hx1, hp1⟩; replace hs1 := Lib.hid hs1; replace hx1 := Lib.hid (HCUT.out d1 hx1); replace hp1 := Lib.hid (HPM.out d1 hp1)) | (go_at_call 81; with_reducible refine (IL.out w1 d1 hs1.out hz1 hx1.out).mono ?_; rintro e' w2 ⟨rfl, d2, hs2, hp2, hso2⟩; have hz2 := perm_size hp2 hz1; replace hs2 := Lib.hid hs2; replace hp2 := Lib.hid hp2; replace hso2 := Lib.hid hso2))
              go_end0
              have HF := HDONE.out d1 d2 d2 hz1 hx1.out hp2.out hso2.out permR (IRN.out _ _ hx1.out hp2.out)
              exact ⟨rfl, d2, hs2.out, permIn_trans _ _ _ a b hp1.out HF.1, HF.2⟩
          · have ILN := Lib.hid (fun (e : Array Sh) (hc : SymL (ltM cf) a mid E b s e) => (by have := hc.r2; rwa [show s = a by omega] at this : SortedIn (ltM cf) a mid e))
            by_cases h9 : E < b
            · replace IR := Lib.hid (fun W e1 h hz e hz2 hc hp => IR.out W e1 h hz e hz2 hc hp h8 h9)
              go_wp2_with (first | (go_at_call 100; with_reducible refine (HR.out).mono ?_; rintro e' w1 ⟨rfl, d1, hs1, hz1, hx1, hp1⟩; replace hs1 := Lib.hid hs1; replace hx1 := Lib.hid (HCUT.out d1 hx1); replace hp1 := Lib.hid (HPM.out d1 hp1)) | (go_at_call 81; with_reducible refine (IR.out w1 d1 hs1.out hz1 d1 hz1 hx1.out permR).mono ?_; rintro e' w3 ⟨rfl, d3, hs3, hp3, hso3⟩; replace hs3 := Lib.hid hs3; replace hp3 := Lib.hid hp3; replace hso3 := Lib.hid hso3))
              go_end0
              have HF := HDONE.out d1 d1 d3 hz1 hx1.out permR (ILN.out _ hx1.out) hp3.out hso3.out
              exact ⟨rfl, d3, hs3.out, permIn_trans _ _ _ a b hp1.out HF.1, HF.2⟩
            · have IRN := Lib.hid (fun (e e1 : Array Sh) (hc : SymL (ltM cf) a mid E b s e) (hp : PermIn a mid e e1) => (by have := srt_kept hc.r3 hp (.inr (Nat.le_refl _)); rwa [show E = b by omega] at this : SortedIn (ltM cf) mid b e1))
              go_wp2_with (go_at_call 100; with_reducible refine (HR.out).mono ?_; rintro e' w1 ⟨rfl, d1, hs1, hz1, hx1, hp1⟩; replace hs1 := Lib.hid hs1; replace hx1 := Lib.hid (HCUT.out d1 hx1); replace hp1 := Lib.hid (HPM.out d1 hp1))
              go_end0
              have HF := HDONE.out d1 d1 d1 hz1 hx1.out permR (ILN.out _ hx1.out) permR (IRN.out _ _ hx1.out permR)
              exact ⟨rfl, d1, hs1.out, permIn_trans _ _ _ a b hp1.out HF.1, HF.2⟩
        · have h6 : a < s := by omega
          have h8 : ¬ mid < E := by omega
          have HID := Lib.hid (fun x => (by rw [show s = m by omega, rotS_idl] : d[rotS s m E x]! = d[x]!))
          have IRN := Lib.hid (fun (e e1 : Array Sh) (hc : SymL (ltM cf) a mid E b s e) (hp : PermIn a mid e e1) => (by have := srt_kept hc.r4 hp (.inr (by omega)); rwa [show E = mid by omega] at this : SortedIn (ltM cf) mid b e1))
          by_cases h7 : s < mid
          · replace IL := Lib.hid (fun W e h hz hc => IL.out W e h hz hc h6 h7)
            have hx1 := Lib.hid (HCUT.out d (fun x => (HID.out x).symm ▸ rfl))
            have hp1 := Lib.hid (permIn_refl d a b)
            go_wp2_with (go_at_call 81; with_reducible refine (IL.out wr d he.out rfl hx1.out).mono ?_; rintro e' w2 ⟨rfl, d2, hs2, hp2, hso2⟩; have hz2 := perm_size hp2 rfl; replace hs2 := Lib.hid hs2; replace hp2 := Lib.hid hp2; replace hso2 := Lib.hid hso2)
            go_end0
            have HF := HDONE.out d d2 d2 rfl hx1.out hp2.out hso2.out permR (IRN.out _ _ hx1.out hp2.out)
            exact ⟨rfl, d2, hs2.out, permIn_trans _ _ _ a b hp1.out HF.1, HF.2⟩
          · have ILN := Lib.hid (fun (e : Array Sh) (hc : SymL (ltM cf) a mid E b s e) => (by have := hc.r1; rwa [show s = mid by omega] at this : SortedIn (ltM cf) a mid e))
            have hx1 := Lib.hid (HCUT.out d (fun x => (HID.out x).symm ▸ rfl))
            have hp1 := Lib.hid (permIn_refl d a b)
            go_wp2_with fail
            go_end0
            have HF := HDONE.out d d d rfl hx1.out permR (ILN.out _ hx1.out) permR (IRN.out _ _ hx1.out permR)
            exact ⟨rfl, d, he.out, permIn_trans _ _ _ a b hp1.out HF.1, HF.2⟩
set_option maxRecDepth 100000 in
theorem sm_symN : ∀ (N : Nat) (w0 : World) (B g cap : Nat) (cf : Sh → Sh → Int) (f : Nat) (cb : Array Value) (d : Array Sh) (a m b : Nat) (w : World)
    (_ : ∀ args w, (callFunc f args).run Tryd.prog w = .ok (.enter f args) w) (_ : CmpOkM Tryd.prog f cb cf w0 g) (_ : SWO (ltM cf)) (_ : SortM w0 B g cap 42 d w) (_ : b - a ≤ N) (_ : a < m) (_ : m < b) (_ : b ≤ d.size) (_ : d.size ≤ 8000000) (_ : SortedIn (ltM cf) a m d) (_ : SortedIn (ltM cf) m b d),
    Calls Tryd.prog 81 #[.slice (some ⟨g, 0, none⟩) d.size cap, .int .i64 a, .int .i64 m, .int .i64 b, .func (.func f) #[] cb] w fun e w' => e = .returned (.tuple #[]) ∧ ∃ d', SortM w0 B g cap 42 d' w' ∧ PermIn a b d d' ∧ SortedIn (ltM cf) a b d'
  | 0, w0, B, g, cap, cf, f, cb, d, a, m, b, w, eg, hcmp, hS, hs, hN, h1, h2, hb, hsz, hl, hr => by omega
  | N + 1, w0, B, g, cap, cf, f, cb, d, a, m, b, w, eg, hcmp, hS, hs, hN, h1, h2, hb, hsz, hl, hr => by
    by_cases e1 : m = a + 1
    · exact sm_symA w0 B g cap cf f cb d a m b w eg hcmp hS hs e1 h2 hb hsz hr
    · by_cases e2 : b = m + 1
      · exact sm_symB w0 B g cap cf f cb d a m b w eg hcmp hS hs e1 h1 e2 hb hsz hl
      · refine sm_symC w0 B g cap cf f cb d a m b w eg hcmp hS hs (by omega) (by omega) hb hsz hl hr (fun a' m' b' e W hlt hs' hz g1 g2 g3 g4 g5 => ?_)
        rw [← hz]
        exact sm_symN N w0 B g cap cf f cb e a' m' b' W eg hcmp hS hs' (by omega) g1 g2 (by omega) (by omega) g4 g5
theorem sm_sym (w0 : World) (B g cap : Nat) (cf : Sh → Sh → Int) (f : Nat) (cb : Array Value) (d : Array Sh) (a m b : Nat) (w : World)
    (eg : ∀ args w, (callFunc f args).run Tryd.prog w = .ok (.enter f args) w) (hcmp : CmpOkM Tryd.prog f cb cf w0 g) (hS : SWO (ltM cf)) (hs : SortM w0 B g cap 42 d w) (h1 : a < m) (h2 : m < b) (hb : b ≤ d.size) (hsz : d.size ≤ 8000000) (hl : SortedIn (ltM cf) a m d) (hr : SortedIn (ltM cf) m b d) :
    Calls Tryd.prog 81 #[.slice (some ⟨g, 0, none⟩) d.size cap, .int .i64 a, .int .i64 m, .int .i64 b, .func (.func f) #[] cb] w fun e w' => e = .returned (.tuple #[]) ∧ ∃ d', SortM w0 B g cap 42 d' w' ∧ PermIn a b d d' ∧ SortedIn (ltM cf) a b d' :=
  sm_symN (b - a) w0 B g cap cf f cb d a m b w eg hcmp hS hs (Nat.le_refl _) h1 h2 hb hsz hl hr
end Go.Proofs.YtlkpmbkmmfoakaaDoor

/- THE WALK over slices.stableCmpFunc and slices.SortStableFunc, at shares. -/
namespace Go.Proofs.YtlkpmbkmmfoakaaDoor
open Go.RowKit Go.Sort
theorem firstL_step {lt : Sh → Sh → Bool} {bs A b : Nat} {d e : Array Sh} (hq : ∃ q, A = q * bs) (hb : b = A + bs) (h : First lt bs A d) (hp : PermIn A b d e) (hs : SortedIn lt A b e) : First lt bs b e ∧ ∃ q, b = q * bs := by
  obtain ⟨q, rfl⟩ := hq
  subst hb
  have e1 : (q + 1) * bs = q * bs + bs := by rw [Nat.add_mul, Nat.one_mul]
  have := h.step hp hs
  rw [e1] at this
  exact ⟨this, q + 1, e1.symm⟩
theorem firstL_last {lt : Sh → Sh → Bool} {bs n A : Nat} {d e : Array Sh} (hq : ∃ q, A = q * bs) (h : First lt bs A d) (hn : n < A + bs) (hp : PermIn A n d e) (hs : SortedIn lt A n e) : Blocks lt bs n e := by
  obtain ⟨q, rfl⟩ := hq
  exact h.last hn hp hs
theorem levelL_step {lt : Sh → Sh → Bool} {bs n A b : Nat} {d e : Array Sh} (hb : 0 < bs) (hq : ∃ q, A = q * (2 * bs)) (hB : b = A + 2 * bs) (h : Level lt bs n A d) (hn : b ≤ n) (hp : PermIn A b d e) (hs : SortedIn lt A b e) : Level lt bs n b e ∧ ∃ q, b = q * (2 * bs) := by
  obtain ⟨q, rfl⟩ := hq
  subst hB
  have e1 : (q + 1) * (2 * bs) = q * (2 * bs) + 2 * bs := by rw [Nat.add_mul, Nat.one_mul]
  have := h.step hb hn hp hs
  rw [e1] at this
  exact ⟨this, q + 1, e1.symm⟩
theorem levelL_last {lt : Sh → Sh → Bool} {bs n A : Nat} {d e : Array Sh} (hq : ∃ q, A = q * (2 * bs)) (h : Level lt bs n A d) (hn : n < A + 2 * bs) (ha : A ≤ n) (hp : PermIn A n d e) (hs : SortedIn lt A n e) : Blocks lt (bs * 2) n e := by
  obtain ⟨q, rfl⟩ := hq
  exact h.last hn ha hp hs
theorem levelL_runs {lt : Sh → Sh → Bool} {bs n A : Nat} {d : Array Sh} (hq : ∃ q, A = q * (2 * bs)) (h : Level lt bs n A d) : SortedIn lt A (min (A + bs) n) d ∧ SortedIn lt (A + bs) (min (A + bs + bs) n) d := by
  obtain ⟨q, rfl⟩ := hq
  exact h.runs
set_option maxRecDepth 100000 in
set_option maxHeartbeats 6400000 in
theorem sm_stable (w0 : World) (B g cap : Nat) (cf : Sh → Sh → Int) (f : Nat) (cb : Array Value) (d : Array Sh) (w : World)
    (eg : ∀ args w, (callFunc f args).run Tryd.prog w = .ok (.enter f args) w) (hcmp : CmpOkM Tryd.prog f cb cf w0 g) (hS : SWO (ltM cf)) (hs : SortM w0 B g cap 42 d w) (hsz : d.size ≤ 8000000) :
    Calls Tryd.prog 56 #[.slice (some ⟨g, 0, none⟩) d.size cap, .int .i64 d.size, .func (.func f) #[] cb] w fun e w' => e = .returned (.tuple #[]) ∧ ∃ d', SortM w0 B g cap 42 d' w' ∧ PermIn 0 d.size d d' ∧ SortedIn (ltM cf) 0 d.size d' := by
  have HI := Lib.hid (fun (e : Array Sh) (W : World) (a b : Nat) (h : SortM w0 B g cap 42 e W) (hz : e.size = d.size) (hab : a ≤ b) (hb : b ≤ d.size) => (by
    rw [← hz]; exact sm_insert w0 B g cap cf f cb e a b W eg hcmp hS h hab (hz ▸ hb) (hz ▸ hsz) : Calls Tryd.prog 80 #[.slice (some ⟨g, 0, none⟩) d.size cap, .int .i64 a, .int .i64 b, .func (.func f) #[] cb] W fun r w' => r = .returned (.tuple #[]) ∧ ∃ d', SortM w0 B g cap 42 d' w' ∧ PermIn a b e d' ∧ SortedIn (ltM cf) a b d'))
  have HY := Lib.hid (fun (e : Array Sh) (W : World) (a m b : Nat) (h : SortM w0 B g cap 42 e W) (hz : e.size = d.size) (h1 : a < m) (h2 : m < b) (hb : b ≤ d.size) (hl : SortedIn (ltM cf) a m e) (hr : SortedIn (ltM cf) m b e) => (by
    rw [← hz]; exact sm_sym w0 B g cap cf f cb e a m b W eg hcmp hS h h1 h2 (hz ▸ hb) (hz ▸ hsz) hl hr : Calls Tryd.prog 81 #[.slice (some ⟨g, 0, none⟩) d.size cap, .int .i64 a, .int .i64 m, .int .i64 b, .func (.func f) #[] cb] W fun r w' => r = .returned (.tuple #[]) ∧ ∃ d', SortM w0 B g cap 42 d' w' ∧ PermIn a b e d' ∧ SortedIn (ltM cf) a b d'))
  have HS := Lib.hid hs
  clear hs hcmp hS
  obtain ⟨n, hn⟩ : ∃ n, n = d.size := ⟨_, rfl⟩
  have HN := Lib.hid hn
  have hn1 : n ≤ d.size := by omega
  have hn2 : d.size ≤ n := by omega
  rw [← hn] at HI HY ⊢
  rw [← hn] at hsz
  clear hn hn1 hn2
  go_enter Tryd.func56, Tryd.ntmps56
  go_wp2_with fail
  go_loopw [7, 8] (fun u v W => ∃ (A b : Nat) (e : Array Sh), u = .int .i64 A ∧ v = .int .i64 b ∧ A ≤ n ∧ A + 20 ≤ b ∧ b ≤ A + 20 ∧ Hid (∃ q, A = q * 20) ∧ Hid (First (ltM cf) 20 A e) ∧ Hid (SortM w0 B g cap 42 e W) ∧ Hid (e.size = n) ∧ Hid (PermIn 0 n d e)) (fun _ v _ => n + 20 - (intOf v).toNat)
  case atStart => exact ⟨0, 20, d, rfl, rfl, Nat.zero_le _, Nat.le_refl _, Nat.le_refl _, Lib.hid ⟨0, by omega⟩, Lib.hid (fun q hq => by omega), HS, Lib.hid HN.out.symm, Lib.hid (permIn_refl _ _ _)⟩
  case round =>
    obtain ⟨A, b, e, rfl, rfl, hAn, hb1, hb2, hq, hf, he, hz, hp⟩ := hrel
    have HB := Lib.hid (show b = A + 20 by omega)
    by_cases hlt : b ≤ n
    · have HC := Lib.hid (HI.out e wr A b he.out hz.out (by omega) hlt)
      go_wp2_with (go_at_call 80; refine HC.out.mono ?_; rintro r w1 ⟨rfl, d1, hs1, hp1, hso1⟩; replace hs1 := Lib.hid hs1; replace hp1 := Lib.hid hp1; replace hso1 := Lib.hid hso1)
      go_roundw
      case rel =>
        have HF := firstL_step hq.out HB.out hf.out hp1.out hso1.out
        exact ⟨b, b + 20, d1, rfl, congrArg (Value.int .i64) (by omega), hlt, Nat.le_refl _, Nat.le_refl _, Lib.hid HF.2, Lib.hid HF.1, hs1, Lib.hid (hp1.out.1.trans hz.out), Lib.hid (permIn_trans _ _ _ 0 n hp.out (permIn_mono _ _ _ _ _ _ (Nat.zero_le _) hlt (by rw [hz.out]; exact Nat.le_refl _) hp1.out))⟩
      case measure => simp [intOf]; omega
    · have HC := Lib.hid (HI.out e wr A n he.out hz.out hAn (Nat.le_refl _))
      go_wp2_with (go_at_call 80; refine HC.out.mono ?_; rintro r w1 ⟨rfl, d1, hs1, hp1, hso1⟩; replace hs1 := Lib.hid hs1; replace hp1 := Lib.hid hp1; replace hso1 := Lib.hid hso1)
      have hbl := Lib.hid (firstL_last hq.out hf.out (by omega) hp1.out hso1.out)
      have hz1 := Lib.hid (hp1.out.1.trans hz.out)
      have hp2 := Lib.hid (permIn_trans _ _ _ 0 n hp.out (permIn_mono _ _ _ _ _ _ (Nat.zero_le _) (Nat.le_refl _) (by rw [hz.out]; exact Nat.le_refl _) hp1.out))
      clear hp hf hq he HB HC
      go_loopw [6, 7, 8] (fun u v x W => ∃ (bs : Nat) (e : Array Sh) (p q : Int), u = .int .i64 bs ∧ v = .int .i64 p ∧ x = .int .i64 q ∧ 20 ≤ bs ∧ bs ≤ 16000000 ∧ Hid (Blocks (ltM cf) bs n e) ∧ Hid (SortM w0 B g cap 42 e W) ∧ Hid (e.size = n) ∧ Hid (PermIn 0 n d e)) (fun u _ _ _ => n - (intOf u).toNat)
      case atStart => exact ⟨20, d1, _, _, rfl, rfl, rfl, Nat.le_refl _, by omega, hbl, hs1, hz1, hp2⟩
      case round =>
        clear hbl hs1 hz1 hp2 hp1 hso1
        obtain ⟨bs, e, p, q, rfl, rfl, rfl, hbs, hbs2, hbl, he, hz, hp⟩ := hrel
        by_cases hlt2 : bs < n
        · go_wp2_with fail
          go_loopw [7, 8] (fun u v W => ∃ (A b : Nat) (e : Array Sh), u = .int .i64 A ∧ v = .int .i64 b ∧ A ≤ n ∧ A + 2 * bs ≤ b ∧ b ≤ A + 2 * bs ∧ Hid (∃ q, A = q * (2 * bs)) ∧ Hid (Level (ltM cf) bs n A e) ∧ Hid (SortM w0 B g cap 42 e W) ∧ Hid (e.size = n) ∧ Hid (PermIn 0 n d e)) (fun _ v _ => n + 2 * bs - (intOf v).toNat)
          case atStart => exact ⟨0, 2 * bs, e, rfl, congrArg (Value.int .i64) (by omega), Nat.zero_le _, by omega, by omega, Lib.hid ⟨0, by omega⟩, Lib.hid (Level.start (by omega) hbl.out), he, hz, hp⟩
          case round =>
            clear hbl he hz hp
            obtain ⟨A, b, e, rfl, rfl, hAn2, hb3, hb4, hq, hf, he, hz, hp⟩ := hrel
            have HB := Lib.hid (show b = A + 2 * bs by omega)
            by_cases hlt3 : b ≤ n
            · obtain ⟨M, hM⟩ : ∃ M, M = A + bs := ⟨_, rfl⟩
              have hM1 : A + bs ≤ M := by omega
              have hM2 : M ≤ A + bs := by omega
              have HM := Lib.hid hM
              clear hM
              have HR := Lib.hid (levelL_runs hq.out hf.out)
              have HC := Lib.hid (HY.out e wr A M b he.out hz.out (by omega) (by omega) hlt3 (srt_sub HR.out.1 (Nat.le_refl _) (by omega)) (by have := HR.out.2; rw [← HM.out] at this; exact srt_sub this (Nat.le_refl _) (by omega)))
              have qM : (A : Int) + (bs : Int) = (M : Int) := by omega
              go_wp2_with (go_at_call 81; refine HC.out.mono ?_; rintro r w1 ⟨rfl, d1, hs1, hp1, hso1⟩; replace hs1 := Lib.hid hs1; replace hp1 := Lib.hid hp1; replace hso1 := Lib.hid hso1)
              go_roundw
              case rel =>
                have HF := levelL_step (by omega) hq.out HB.out hf.out hlt3 hp1.out hso1.out
                exact ⟨b, b + 2 * bs, d1, rfl, congrArg (Value.int .i64) (by omega), hlt3, Nat.le_refl _, Nat.le_refl _, Lib.hid HF.2, Lib.hid HF.1, hs1, Lib.hid (hp1.out.1.trans hz.out), Lib.hid (permIn_trans _ _ _ 0 n hp.out (permIn_mono _ _ _ _ _ _ (Nat.zero_le _) hlt3 (by rw [hz.out]; exact Nat.le_refl _) hp1.out))⟩
              case measure => simp [intOf]; omega
            · obtain ⟨M, hM⟩ : ∃ M, M = A + bs := ⟨_, rfl⟩
              have hM1 : A + bs ≤ M := by omega
              have hM2 : M ≤ A + bs := by omega
              have HM := Lib.hid hM
              clear hM
              have HR := Lib.hid (levelL_runs hq.out hf.out)
              have qM : (A : Int) + (bs : Int) = (M : Int) := by omega
              by_cases hlt4 : M < n
              · have HC := Lib.hid (HY.out e wr A M n he.out hz.out (by omega) hlt4 (Nat.le_refl _) (srt_sub HR.out.1 (Nat.le_refl _) (by omega)) (by have := HR.out.2; rw [← HM.out] at this; exact srt_sub this (Nat.le_refl _) (by omega)))
                go_wp2_with (go_at_call 81; refine HC.out.mono ?_; rintro r w1 ⟨rfl, d1, hs1, hp1, hso1⟩; replace hs1 := Lib.hid hs1; replace hp1 := Lib.hid hp1; replace hso1 := Lib.hid hso1)
                go_roundw
                case rel =>
                  exact ⟨bs * 2, d1, _, _, congrArg (Value.int .i64) (by omega), rfl, rfl, by omega, by omega, Lib.hid (levelL_last hq.out hf.out (by omega) hAn2 hp1.out hso1.out), hs1, Lib.hid (hp1.out.1.trans hz.out), Lib.hid (permIn_trans _ _ _ 0 n hp.out (permIn_mono _ _ _ _ _ _ (Nat.zero_le _) (Nat.le_refl _) (by rw [hz.out]; exact Nat.le_refl _) hp1.out))⟩
                case measure => simp [intOf]; omega
              · go_wp2_with fail
                go_roundw
                case rel =>
                  exact ⟨bs * 2, e, _, _, congrArg (Value.int .i64) (by omega), rfl, rfl, by omega, by omega, Lib.hid (levelL_last hq.out hf.out (by omega) hAn2 (permIn_refl _ _ _) (srt_sub HR.out.1 (Nat.le_refl _) (by omega))), he, hz, hp⟩
                case measure => simp [intOf]; omega
        · go_wp2_with fail
          go_end0
          exact ⟨rfl, e, he.out, hp.out, hbl.out.done (by omega)⟩
set_option maxRecDepth 100000 in
theorem sm_sortStable (w0 : World) (B g cap : Nat) (cf : Sh → Sh → Int) (f : Nat) (cb : Array Value) (d : Array Sh) (w : World)
    (eg : ∀ args w, (callFunc f args).run Tryd.prog w = .ok (.enter f args) w) (hcmp : CmpOkM Tryd.prog f cb cf w0 g) (hS : SWO (ltM cf)) (hs : SortM w0 B g cap 42 d w) (hsz : d.size ≤ 8000000) :
    Calls Tryd.prog 28 #[.slice (some ⟨g, 0, none⟩) d.size cap, .func (.func f) #[] cb] w fun e w' => e = .returned (.tuple #[]) ∧ ∃ d', SortM w0 B g cap 42 d' w' ∧ PermIn 0 d.size d d' ∧ SortedIn (ltM cf) 0 d.size d' := by
  have HS := Lib.hid (sm_stable w0 B g cap cf f cb d w eg hcmp hS hs hsz)
  clear hs hcmp hS
  go_enter Tryd.func28, Tryd.ntmps28
  go_wp2_with (go_at_call 56; refine HS.out.mono ?_; rintro r w1 ⟨rfl, HE⟩; replace HE := Lib.hid HE)
  go_end0
  exact ⟨rfl, HE.out⟩
end Go.Proofs.YtlkpmbkmmfoakaaDoor

/- THE WALKS over both Total, slices.Clone at shares, rank.Top. -/
namespace Go.Proofs.YtlkpmbkmmfoakaaDoor
open Go.RowKit Go.Sort
def totStep (a : Option Fr) (x : Sh) : Option Fr := a.bind (fun s => addO s (x.n, x.d))
def totO (l : List Sh) : Option Fr := l.foldl totStep (some (0, 1))
theorem totO_snoc {l : List Sh} {k : Nat} (h : k < l.length) : totO (l.take (k + 1)) = totStep (totO (l.take k)) l[k]! := by
  unfold totO
  rw [List.take_succ_eq_append_getElem h, List.foldl_append, getElem!_pos l k h]; rfl
theorem totO_none {l : List Sh} {k : Nat} (h : totO (l.take k) = none) : totO l = none := by
  have : ∀ l' : List Sh, l'.foldl totStep none = none := fun l' => by
    induction l' with
    | nil => rfl
    | cons x r ih => rw [List.foldl_cons]; exact ih
  unfold totO at *
  rw [← List.take_append_drop k l, List.foldl_append, h]; exact this _
/-- what Total gives -/
def totV (l : List Sh) : Int × Int × Bool := match totO l with | some f => (f.1, f.2, true) | none => (0, 0, false)
theorem totV_some {l : List Sh} {f : Fr} (h : totO l = some f) : totV l = (f.1, f.2, true) := by unfold totV; rw [h]
theorem totV_none {l : List Sh} (h : totO l = none) : totV l = (0, 0, false) := by unfold totV; rw [h]
theorem opt_none {a : Option Fr} (h : false = a.isSome) : a = none := by cases a with
  | none => rfl
  | some f => cases h
theorem opt_some {a : Option Fr} {r : Fr} (h : true = a.isSome) (k : ∀ f, a = some f → f = r) : a = some r := by cases a with
  | none => cases h
  | some f => rw [k f rfl]
theorem box_rest (w : World) (a b : Int) (t : TypeId) : ∃ (q : Nat) (w1 : World), q = w.heap.size ∧ w1 = w.alloc (.cells #[.int .i64 a, .int .i64 b] t) ∧ RestAt w1 q (a, b) ∧ Ext w w1 :=
  ⟨_, _, rfl, rfl, ⟨by go_simp, by go_simp, by go_simp, by go_simp⟩, (Ext.refl _).alloc _⟩
set_option maxRecDepth 100000 in
set_option maxHeartbeats 1600000 in
theorem rk_Total (l : List Sh) (ok : Nat → Prop) (A : Option Addr) (c : Nat) (w : World) (hz : ZeroAt w) (hl : Shares w ok A l) (hlen : l.length ≤ 8000000) :
    Calls Tryd.prog 8 #[.slice A l.length c] w fun e w' => e = .returned (.tuple #[.agg #[.int .i64 (totV l).1, .int .i64 (totV l).2.1], .bool (totV l).2.2]) ∧ Ext w w' := by
  have HL := Lib.hid (fun W (e : Ext w W) => hl.ext e)
  have HTS := Lib.hid (fun f => totV_some (l := l) (f := f))
  have HTN := Lib.hid (totV_none (l := l))
  obtain ⟨tb, w1, htb, hw1, ht1, hx1⟩ := box_rest w 0 0 25
  have HT1 := Lib.hid ht1
  have HTB := Lib.hid (show w.heap.size ≤ tb by omega)
  have HW1 := Lib.hid hw1
  have HB1 := Lib.hid htb
  generalize totV l = tv at *
  clear hl ht1 hw1 htb
  go_enter Tryd.func8, Tryd.ntmps8
  go_upto_region 1 with (fail)
  rw [← HW1.out, ← HB1.out]
  clear HW1 HB1
  go_upto_region 2 with (go_at_call 23; ((with_reducible refine (rk_whole 0 _).mono ?_); rintro e w2 ⟨rfl, hx2⟩))
  obtain ⟨sb, w3, hsb, hw3, hs3, hx3⟩ := box_rest w2 0 1 25
  rw [← hw3, ← hsb]
  have HS3 := Lib.hid hs3
  have HSB := Lib.hid (show w.heap.size ≤ sb by have := hx1.le; have := hx2.le; omega)
  have hne : tb ≠ sb := by have := block_lt_of_cell (hx2.cell HT1.out.n); rw [hsb]; simp at this; omega
  have HT3 := Lib.hid ((HT1.out.ext hx2).ext hx3)
  have hE3 := hx1.trans (hx2.trans hx3)
  clear hs3 hsb hw3 hx1 hx2 hx3 HT1
  go_wp2_with fail
  go_loopw [12] (fun u W => ∃ (i : Nat) (s : Fr), u = .int .i64 i ∧ i ≤ l.length ∧ Hid (totO (l.take i) = some s) ∧ Hid (RestAt W sb s) ∧ Hid (RestAt W tb (0, 0)) ∧ Ext w W) (fun u _ => l.length - (intOf u).toNat)
  case atStart => exact ⟨0, (0, 1), rfl, Nat.zero_le _, Lib.hid rfl, Lib.hid (HS3.out.ext (by with_reducible repeat (first | exact Ext.refl _ | assumption | refine Ext.drew ?_ | refine Ext.drewN ?_ _ | refine Ext.alloc ?_ _))), Lib.hid (HT3.out.ext (by with_reducible repeat (first | exact Ext.refl _ | assumption | refine Ext.drew ?_ | refine Ext.drewN ?_ _ | refine Ext.alloc ?_ _))), hE3.trans (by with_reducible repeat (first | exact Ext.refl _ | assumption | refine Ext.drew ?_ | refine Ext.drewN ?_ _ | refine Ext.alloc ?_ _))⟩
  case round =>
    clear HS3 HT3
    obtain ⟨i, s, rfl, hi, hT, hS, hR, hEr⟩ := hrel
    by_cases hlt : i < l.length
    · obtain ⟨bs, os, rfl, hc⟩ := (HL.out wr hEr).at_ hlt
      obtain ⟨-, a0, a1, a2⟩ := hc i hlt
      have HNX := Lib.hid (show totO (l.take (i + 1)) = addO s (l[i]!.n, l[i]!.d) by rw [totO_snoc hlt, hT.out]; rfl)
      have HNN := Lib.hid (fun h => HTN.out (totO_none (k := i + 1) h))
      obtain ⟨y, w4, hy, hw4, n0, n1, n2, hx4⟩ := box_share wr l[i]! 42
      have HOP := Lib.hid (fun W (e : Ext wr W) => frac_Add s.1 s.2 l[i]!.n l[i]!.d W (hz.ext (hEr.trans e)))
      have HR := Lib.hid (addO_of s (l[i]!.n, l[i]!.d))
      dsimp only at HR
      have HW4 := Lib.hid hw4
      have HY := Lib.hid hy
      clear hc hy hw4 hT
      generalize addO s (l[i]!.n, l[i]!.d) = av at *
      generalize l[i]! = x at *
      generalize addS s.1 s.2 x.n x.d = r at *
      obtain ⟨r1, r2, r3⟩ := r
      dsimp only at HR
      obtain ⟨s0, s1, -, -⟩ := hS.out.ext hx4
      go_upto_region 5 with (fail)
      rw [← HW4.out, ← HY.out]
      clear HW4 HY a0 a1 a2
      go_upto_region 6 with (go_at_call 24; ((refine (HOP.out _ hx4).mono ?_); rintro e w5 ⟨rfl, hb⟩))
      obtain ⟨z, w6, hzz, hw6, m0, m1, -, -, hx6⟩ := box_frac w5 r1 r2 25
      rw [← hw6, ← hzz]
      have hx := hx4.trans ((of_below hb).trans hx6)
      clear hzz hw6 n0 n1 n2 s0 s1 hx4 hx6 hb HOP
      obtain ⟨s0, s1, s2, s3⟩ := hS.out.ext hx
      obtain ⟨t0, t1, t2, t3⟩ := hR.out.ext hx
      cases hr3 : r3
      · have HT := Lib.hid (HNN.out (by rw [HNX.out]; have h := HR.out.1; rw [hr3] at h; exact opt_none h))
        subst hr3
        clear HR HNN HNX
        go_wp2_with fail
        refine bodyPost_ret (v := .tuple #[.agg #[.int .i64 0, .int .i64 0], .bool false]) (by simp [results, Tryd.results8, go_sem, t0, t1]) rfl ⟨by rw [HT.out], ((hEr.trans hx).setCell HTB.out _).setCell HTB.out _⟩
      · have HT := Lib.hid (show totO (l.take (i + 1)) = some (r1, r2) by rw [HNX.out]; have h := HR.out; rw [hr3] at h; exact opt_some h.1 h.2)
        subst hr3
        have HS7 := Lib.hid ((hS.out.ext hx).set (r1, r2))
        have HR7 := Lib.hid ((hR.out.ext hx).kp (kp_set2 (b := sb) (.int .i64 r1) (.int .i64 r2)) hne)
        clear HR HNN HNX
        go_wp2_with fail
        go_roundw
        case rel => exact ⟨i + 1, (r1, r2), by go_num, by omega, HT, HS7, HR7, ((hEr.trans hx).setCell HSB.out _).setCell HSB.out _⟩
        case measure => simp [intOf]; omega
    · have HT := Lib.hid (HTS.out s (by have h := hT.out; rwa [List.take_of_length_le (by omega)] at h))
      obtain ⟨s0, s1, -, -⟩ := hS.out
      obtain ⟨t0, t1, t2, t3⟩ := hR.out
      clear hT HTS HTN
      go_wp2_with fail
      refine bodyPost_ret (v := .tuple #[.agg #[.int .i64 s.1, .int .i64 s.2], .bool true]) (by simp [results, Tryd.results8, go_sem, t0, t1]) rfl ⟨by rw [HT.out], (hEr.setCell HTB.out _).setCell HTB.out _⟩
set_option maxRecDepth 100000 in
set_option maxHeartbeats 1600000 in
theorem r51_Total (l : List Sh) (ok : Nat → Prop) (A : Option Addr) (c : Nat) (w : World) (hl : Shares w ok A l) (hlen : l.length ≤ 8000000) :
    Calls Tryd.prog 9 #[.slice A l.length c] w fun e w' => e = .returned (.tuple #[.agg #[.int .i64 (totV l).1, .int .i64 (totV l).2.1], .bool (totV l).2.2]) ∧ Ext w w' := by
  have HL := Lib.hid (fun W (e : Ext w W) => hl.ext e)
  have HTS := Lib.hid (fun f => totV_some (l := l) (f := f))
  have HTN := Lib.hid (totV_none (l := l))
  obtain ⟨tb, w1, htb, hw1, ht1, hx1⟩ := box_rest w 0 0 25
  have HT1 := Lib.hid ht1
  have HTB := Lib.hid (show w.heap.size ≤ tb by omega)
  have HW1 := Lib.hid hw1
  have HB1 := Lib.hid htb
  generalize totV l = tv at *
  clear hl ht1 hw1 htb
  go_enter Tryd.func9, Tryd.ntmps9
  go_upto_region 1 with (fail)
  rw [← HW1.out, ← HB1.out]
  clear HW1 HB1
  go_upto_region 2 with (go_at_call 25; ((with_reducible refine (r51_whole 0 _).mono ?_); rintro e w2 ⟨rfl, hx2⟩))
  obtain ⟨sb, w3, hsb, hw3, hs3, hx3⟩ := box_rest w2 0 1 25
  rw [← hw3, ← hsb]
  have HS3 := Lib.hid hs3
  have HSB := Lib.hid (show w.heap.size ≤ sb by have := hx1.le; have := hx2.le; omega)
  have hne : tb ≠ sb := by have := block_lt_of_cell (hx2.cell HT1.out.n); rw [hsb]; simp at this; omega
  have HT3 := Lib.hid ((HT1.out.ext hx2).ext hx3)
  have hE3 := hx1.trans (hx2.trans hx3)
  clear hs3 hsb hw3 hx1 hx2 hx3 HT1
  go_wp2_with fail
  go_loopw [5] (fun u W => ∃ (i : Nat) (s : Fr), u = .int .i64 i ∧ i ≤ l.length ∧ Hid (totO (l.take i) = some s) ∧ Hid (RestAt W sb s) ∧ Hid (RestAt W tb (0, 0)) ∧ Ext w W) (fun u _ => l.length - (intOf u).toNat)
  case atStart => exact ⟨0, (0, 1), rfl, Nat.zero_le _, Lib.hid rfl, Lib.hid (HS3.out.ext (by with_reducible repeat (first | exact Ext.refl _ | assumption | refine Ext.drew ?_ | refine Ext.drewN ?_ _ | refine Ext.alloc ?_ _))), Lib.hid (HT3.out.ext (by with_reducible repeat (first | exact Ext.refl _ | assumption | refine Ext.drew ?_ | refine Ext.drewN ?_ _ | refine Ext.alloc ?_ _))), hE3.trans (by with_reducible repeat (first | exact Ext.refl _ | assumption | refine Ext.drew ?_ | refine Ext.drewN ?_ _ | refine Ext.alloc ?_ _))⟩
  case round =>
    clear HS3 HT3
    obtain ⟨i, s, rfl, hi, hT, hS, hR, hEr⟩ := hrel
    by_cases hlt : i < l.length
    · obtain ⟨bs, os, rfl, hc⟩ := (HL.out wr hEr).at_ hlt
      obtain ⟨-, a0, a1, a2⟩ := hc i hlt
      have HNX := Lib.hid (show totO (l.take (i + 1)) = addO s (l[i]!.n, l[i]!.d) by rw [totO_snoc hlt, hT.out]; rfl)
      have HNN := Lib.hid (fun h => HTN.out (totO_none (k := i + 1) h))
      have HOP := Lib.hid (fun W => q3_Add s (l[i]!.n, l[i]!.d) W)
      dsimp only at HOP
      clear hc hT
      generalize addO s (l[i]!.n, l[i]!.d) = av at *
      generalize l[i]! = x at *
      obtain ⟨s0, s1, -, -⟩ := hS.out
      generalize hv : av.isSome = bv at *
      have HBV := Lib.hid hv
      clear hv
      have MKA := Lib.hid (fun V (e : Ext wr V) => (⟨e.cell s0, e.cell s1, e.cell a1, e.cell a2, e⟩ : V.cell? ⟨sb, 0, none⟩ = some (.int .i64 s.1) ∧ V.cell? ⟨sb, 1, none⟩ = some (.int .i64 s.2) ∧ V.cell? ⟨bs, os + i * 3 + 1, none⟩ = some (.int .i64 x.n) ∧ V.cell? ⟨bs, os + i * 3 + 2, none⟩ = some (.int .i64 x.d) ∧ Ext wr V))
      have MKB := Lib.hid (fun V gg u0 u1 (hgg : wr.heap.size ≤ gg) (e : Ext wr V) => (⟨((cell_other (by have := block_lt_of_cell s0; simp at this; omega)).trans ((cell_other (by have := block_lt_of_cell s0; simp at this; omega)).trans (e.cell s0))), ((cell_other (by have := block_lt_of_cell s1; simp at this; omega)).trans ((cell_other (by have := block_lt_of_cell s1; simp at this; omega)).trans (e.cell s1))), ((cell_other (by have := block_lt_of_cell a1; simp at this; omega)).trans ((cell_other (by have := block_lt_of_cell a1; simp at this; omega)).trans (e.cell a1))), ((cell_other (by have := block_lt_of_cell a2; simp at this; omega)).trans ((cell_other (by have := block_lt_of_cell a2; simp at this; omega)).trans (e.cell a2))), (Ext.setCell (Ext.setCell e hgg _) hgg _)⟩ : ((V.setCell ⟨gg, 0, none⟩ u0).setCell ⟨gg, 1, none⟩ u1).cell? ⟨sb, 0, none⟩ = some (.int .i64 s.1) ∧ ((V.setCell ⟨gg, 0, none⟩ u0).setCell ⟨gg, 1, none⟩ u1).cell? ⟨sb, 1, none⟩ = some (.int .i64 s.2) ∧ ((V.setCell ⟨gg, 0, none⟩ u0).setCell ⟨gg, 1, none⟩ u1).cell? ⟨bs, os + i * 3 + 1, none⟩ = some (.int .i64 x.n) ∧ ((V.setCell ⟨gg, 0, none⟩ u0).setCell ⟨gg, 1, none⟩ u1).cell? ⟨bs, os + i * 3 + 2, none⟩ = some (.int .i64 x.d) ∧ Ext wr ((V.setCell ⟨gg, 0, none⟩ u0).setCell ⟨gg, 1, none⟩ u1)))
      go_upto_region 5 with (fail)
      go_cut [6, 7] (fun p r wx => ∃ (gx : Nat) (a b : Int), p = .pointer (some ⟨gx, 0, none⟩) ∧ r = .bool bv ∧ Hid (∀ f, av = some f → f = (a, b)) ∧ wx.cell? ⟨gx, 0, none⟩ = some (.int .i64 a) ∧ wx.cell? ⟨gx, 1, none⟩ = some (.int .i64 b) ∧ Ext wr wx)
      case first =>
        refine wp_region_held_drew (S := (fun V => V.cell? ⟨sb, 0, none⟩ = some (.int .i64 s.1) ∧ V.cell? ⟨sb, 1, none⟩ = some (.int .i64 s.2) ∧ V.cell? ⟨bs, os + i * 3 + 1, none⟩ = some (.int .i64 x.n) ∧ V.cell? ⟨bs, os + i * 3 + 2, none⟩ = some (.int .i64 x.d) ∧ Ext wr V)) (by kernel_rfl) ?hs5001 (fun hHeld => ?go5001)
        case hs5001 => (first | with_reducible exact MKB.out _ _ _ _ (by first | exact Nat.le_refl _ | exact Ext.le (by with_reducible repeat (first | exact Ext.refl _ | assumption | refine Ext.drew ?_ | refine Ext.drewN ?_ _ | refine Ext.alloc ?_ _))) (by with_reducible repeat (first | exact Ext.refl _ | assumption | refine Ext.drew ?_ | refine Ext.drewN ?_ _ | refine Ext.alloc ?_ _)) | exact MKA.out _ (by with_reducible repeat (first | exact Ext.refl _ | assumption | refine Ext.drew ?_ | refine Ext.drewN ?_ _ | refine Ext.alloc ?_ _)))
        refine wpAnyH_take (i := 0) (oi := ⟨(some 16), (.load 25 (.tmp 4)), 25, "ref.go:152", #[], none⟩) (v := ?v5002) rfl (by kernel_rfl) (by kernel_rfl) (by kernel_rfl) (fun _ _ _ h => h) (Or.inl ⟨rfl, ?hy5002⟩) hHeld ?rest5002
        case hy5002 => (intro w hSw; (try dsimp only at hSw); go_simp <;> first | with_reducible rfl | rw [if_neg (by omega)] | rw [if_pos (by omega)])
        (try simp only [PU])
        refine wpAnyH_take (i := 1) (oi := ⟨(some 17), (.move (.tmp 0)), 22, "ref.go:152", #[], none⟩) (v := ?v5003) rfl (by kernel_rfl) (by kernel_rfl) (by kernel_rfl) (fun _ _ _ h => h) (Or.inl ⟨rfl, ?hy5003⟩) hHeld ?rest5003
        case hy5003 => (intro w _; go_simp <;> rfl)
        (try simp only [PU])
        refine wpAnyH_take (i := 2) (oi := ⟨(some 18), (.move (.tmp 5)), 3, "ref.go:152", #[], none⟩) (v := ?v5004) rfl (by kernel_rfl) (by kernel_rfl) (by kernel_rfl) (fun _ _ _ h => h) (Or.inl ⟨rfl, ?hy5004⟩) hHeld ?rest5004
        case hy5004 => (intro w _; go_simp <;> rfl)
        (try simp only [PU])
        refine wpAnyH_take (i := 3) (oi := ⟨(some 19), (.indexAddr 22 (.tmp 17) (.tmp 18)), 0, "ref.go:152", #[⟨1, .data⟩, ⟨2, .data⟩], none⟩) (v := ?v5005) rfl (by kernel_rfl) (by kernel_rfl) (by kernel_rfl) (fun _ _ _ h => h) (Or.inl ⟨rfl, ?hy5005⟩) hHeld ?rest5005
        case hy5005 => (intro w _; go_simp <;> first | with_reducible rfl | rw [if_neg (by omega)] | rw [if_pos (by omega)])
        (try simp only [PU])
        refine wpAnyH_take (i := 4) (oi := ⟨(some 20), (.fieldAddr 42 (.tmp 19) 1), 0, "ref.go:152", #[⟨3, .data⟩], none⟩) (v := ?v5006) rfl (by kernel_rfl) (by kernel_rfl) (by kernel_rfl) (fun _ _ _ h => h) (Or.inl ⟨rfl, ?hy5006⟩) hHeld ?rest5006
        case hy5006 => (intro w _; go_simp <;> rfl)
        (try simp only [PU])
        refine wpAnyH_take (i := 5) (oi := ⟨(some 21), (.load 25 (.tmp 20)), 25, "ref.go:152", #[⟨4, .data⟩], none⟩) (v := ?v5007) rfl (by kernel_rfl) (by kernel_rfl) (by kernel_rfl) (fun _ _ _ h => h) (Or.inl ⟨rfl, ?hy5007⟩) hHeld ?rest5007
        case hy5007 => (intro w hSw; (try dsimp only at hSw); go_simp <;> first | with_reducible rfl | rw [if_neg (by omega)] | rw [if_pos (by omega)])
        (try simp only [PU])
        refine wpAnyH_ready (rs := [6, 10]) (by kernel_rfl) (by simp) ?_
        refine AllReadyH.cons (o := ⟨(some 22), (.call { callee := (.value (.func 26)), args := #[(.tmp 16), (.tmp 21)], argTypes := #[25, 25] }), 26, "ref.go:152", #[⟨0, .data⟩, ⟨5, .data⟩], none⟩) rfl (fun K hK => ?step5008x0) ?more5008x0
        case more5008x0 =>
          refine AllReadyH.cons (o := ⟨(some 6), (.alloc 25), 0, "ref.go:152", #[], none⟩) rfl (fun K hK => ?step5008x1) ?more5008x1
          case more5008x1 => exact AllReadyH.nil
          go_simp
          refine hK.out _ _ ?hS5008x1 (fun hHeld5008 => ?rest5008x1)
          case hS5008x1 => first | (first | with_reducible exact MKB.out _ _ _ _ (by first | exact Nat.le_refl _ | exact Ext.le (by with_reducible repeat (first | exact Ext.refl _ | assumption | refine Ext.drew ?_ | refine Ext.drewN ?_ _ | refine Ext.alloc ?_ _))) (by with_reducible repeat (first | exact Ext.refl _ | assumption | refine Ext.drew ?_ | refine Ext.drewN ?_ _ | refine Ext.alloc ?_ _)) | exact MKA.out _ (by with_reducible repeat (first | exact Ext.refl _ | assumption | refine Ext.drew ?_ | refine Ext.drewN ?_ _ | refine Ext.alloc ?_ _))) | ((try dsimp only); (first | with_reducible exact MKB.out _ _ _ _ (by first | exact Nat.le_refl _ | exact Ext.le (by with_reducible repeat (first | exact Ext.refl _ | assumption | refine Ext.drew ?_ | refine Ext.drewN ?_ _ | refine Ext.alloc ?_ _))) (by with_reducible repeat (first | exact Ext.refl _ | assumption | refine Ext.drew ?_ | refine Ext.drewN ?_ _ | refine Ext.alloc ?_ _)) | exact MKA.out _ (by with_reducible repeat (first | exact Ext.refl _ | assumption | refine Ext.drew ?_ | refine Ext.drewN ?_ _ | refine Ext.alloc ?_ _))))
          clear hK K
          clear hHeld
          (try simp only [PU])
          refine wpAnyH_ready (rs := [6]) (by kernel_rfl) (by simp) ?_
          refine AllReadyH.cons (o := ⟨(some 22), (.call { callee := (.value (.func 26)), args := #[(.tmp 16), (.tmp 21)], argTypes := #[25, 25] }), 26, "ref.go:152", #[⟨0, .data⟩, ⟨5, .data⟩], none⟩) rfl (fun K hK => ?step5009x0) ?more5009x0
          case more5009x0 => exact AllReadyH.nil
          go_simp
          (refine (HOP.out _).mono ?_; rintro e y5 ⟨⟨r1, r2, rfl, hvv⟩, hy5⟩; have HXV := Lib.hid hvv; clear hvv; have zz0 := hy5.cell (p := ⟨wr.heap.size, 0, none⟩) (v := (.int .i64 0)) (by go_simp); have zz1 := hy5.cell (p := ⟨wr.heap.size, 1, none⟩) (v := (.int .i64 0)) (by go_simp); have yy0 := frozen_ext hy5 (p := ⟨wr.heap.size, 0, none⟩) (v := (.int .i64 0)) (by go_simp) (by go_simp); have yy1 := frozen_ext hy5 (p := ⟨wr.heap.size, 1, none⟩) (v := (.int .i64 0)) (by go_simp) (by go_simp); replace hy5 : Ext wr y5 := Ext.trans (by with_reducible repeat (first | exact Ext.refl _ | assumption | refine Ext.drew ?_ | refine Ext.drewN ?_ _ | refine Ext.alloc ?_ _)) hy5)
          refine hK.out _ _ ?hS5009x0 (fun hHeld5009 => ?rest5009x0)
          case hS5009x0 => first | (first | with_reducible exact MKB.out _ _ _ _ (by first | exact Nat.le_refl _ | exact Ext.le (by with_reducible repeat (first | exact Ext.refl _ | assumption | refine Ext.drew ?_ | refine Ext.drewN ?_ _ | refine Ext.alloc ?_ _))) (by with_reducible repeat (first | exact Ext.refl _ | assumption | refine Ext.drew ?_ | refine Ext.drewN ?_ _ | refine Ext.alloc ?_ _)) | exact MKA.out _ (by with_reducible repeat (first | exact Ext.refl _ | assumption | refine Ext.drew ?_ | refine Ext.drewN ?_ _ | refine Ext.alloc ?_ _))) | ((try dsimp only); (first | with_reducible exact MKB.out _ _ _ _ (by first | exact Nat.le_refl _ | exact Ext.le (by with_reducible repeat (first | exact Ext.refl _ | assumption | refine Ext.drew ?_ | refine Ext.drewN ?_ _ | refine Ext.alloc ?_ _))) (by with_reducible repeat (first | exact Ext.refl _ | assumption | refine Ext.drew ?_ | refine Ext.drewN ?_ _ | refine Ext.alloc ?_ _)) | exact MKA.out _ (by with_reducible repeat (first | exact Ext.refl _ | assumption | refine Ext.drew ?_ | refine Ext.drewN ?_ _ | refine Ext.alloc ?_ _))))
          clear hK K
          clear hHeld5008
          (try simp only [PU])
          refine wpAnyH_take (i := 7) (oi := ⟨(some 15), (.move (.tmp 22)), 26, "ref.go:152", #[⟨6, .data⟩], none⟩) (v := ?v5010) rfl (by kernel_rfl) (by kernel_rfl) (by kernel_rfl) (fun _ _ _ h => h) (Or.inl ⟨rfl, ?hy5010⟩) hHeld5009 ?rest5010
          case hy5010 => (intro w _; go_simp <;> rfl)
          (try simp only [PU])
          refine wpAnyH_take (i := 8) (oi := ⟨(some 23), (.extract (.tmp 15) 0), 25, "ref.go:152", #[⟨7, .data⟩], none⟩) (v := ?v5011) rfl (by kernel_rfl) (by kernel_rfl) (by kernel_rfl) (fun _ _ _ h => h) (Or.inl ⟨rfl, ?hy5011⟩) hHeld5009 ?rest5011
          case hy5011 => (intro w _; go_simp <;> rfl)
          (try simp only [PU])
          refine wpAnyH_take (i := 9) (oi := ⟨(some 24), (.extract (.tmp 15) 1), 4, "ref.go:152", #[⟨7, .data⟩, ⟨11, (.gcOnly Departure.lateStores)⟩], none⟩) (v := ?v5012) rfl (by kernel_rfl) (by kernel_rfl) (by kernel_rfl) (fun _ _ _ h => h) (Or.inl ⟨rfl, ?hy5012⟩) hHeld5009 ?rest5012
          case hy5012 => (intro w _; go_simp <;> rfl)
          (try simp only [PU])
          refine wpAnyH_ready (rs := [11]) (by kernel_rfl) (by simp) ?_
          refine AllReadyH.cons (o := ⟨none, (.store 25 (.tmp 6) (.tmp 23)), 0, "ref.go:152", #[⟨10, .data⟩, ⟨8, .data⟩, ⟨6, .chain⟩, ⟨0, .phase⟩, ⟨1, .phase⟩, ⟨2, .phase⟩, ⟨3, .phase⟩, ⟨4, .phase⟩, ⟨5, .phase⟩, ⟨6, .phase⟩, ⟨7, .phase⟩, ⟨8, .phase⟩, ⟨9, (.textOnly Departure.lateStores)⟩, ⟨10, .phase⟩], none⟩) rfl (fun K hK => ?step5013x0) ?more5013x0
          case more5013x0 => exact AllReadyH.nil
          go_simp
          refine hK.out _ _ ?hS5013x0 (fun hHeld5013 => ?rest5013x0)
          case hS5013x0 => first | (first | with_reducible exact MKB.out _ _ _ _ (by first | exact Nat.le_refl _ | exact Ext.le (by with_reducible repeat (first | exact Ext.refl _ | assumption | refine Ext.drew ?_ | refine Ext.drewN ?_ _ | refine Ext.alloc ?_ _))) (by with_reducible repeat (first | exact Ext.refl _ | assumption | refine Ext.drew ?_ | refine Ext.drewN ?_ _ | refine Ext.alloc ?_ _)) | exact MKA.out _ (by with_reducible repeat (first | exact Ext.refl _ | assumption | refine Ext.drew ?_ | refine Ext.drewN ?_ _ | refine Ext.alloc ?_ _))) | ((try dsimp only); (first | with_reducible exact MKB.out _ _ _ _ (by first | exact Nat.le_refl _ | exact Ext.le (by with_reducible repeat (first | exact Ext.refl _ | assumption | refine Ext.drew ?_ | refine Ext.drewN ?_ _ | refine Ext.alloc ?_ _))) (by with_reducible repeat (first | exact Ext.refl _ | assumption | refine Ext.drew ?_ | refine Ext.drewN ?_ _ | refine Ext.alloc ?_ _)) | exact MKA.out _ (by with_reducible repeat (first | exact Ext.refl _ | assumption | refine Ext.drew ?_ | refine Ext.drewN ?_ _ | refine Ext.alloc ?_ _))))
          clear hK K
          clear hHeld5009
          refine wpAnyH_take (i := 12) (oi := ⟨(some 7), (.assign (.tmp 24)), 4, "ref.go:152", #[⟨9, .data⟩, ⟨11, .chain⟩, ⟨0, .phase⟩, ⟨1, .phase⟩, ⟨2, .phase⟩, ⟨3, .phase⟩, ⟨4, .phase⟩, ⟨5, .phase⟩, ⟨6, .phase⟩, ⟨7, .phase⟩, ⟨8, .phase⟩, ⟨9, .phase⟩, ⟨10, .phase⟩, ⟨11, .phase⟩], none⟩) (v := ?v5014) rfl (by kernel_rfl) (by kernel_rfl) (by kernel_rfl) (fun _ _ _ h => h) (Or.inl ⟨rfl, ?hy5014⟩) hHeld5013 ?rest5014
          case hy5014 => (intro w _; go_simp <;> first | with_reducible rfl | rw [if_neg (by omega)] | rw [if_pos (by omega)])
          (try simp only [PU])
          refine wpAnyH_done (by kernel_rfl) ?_ _
          clear hHeld5013
          go_wp2_with fail
          go_meet
          case rel => exact ⟨wr.heap.size, r1, r2, rfl, congrArg Value.bool HBV.out, HXV, by go_simp, by go_simp, (Ext.setCell (Ext.setCell (by with_reducible repeat (first | exact Ext.refl _ | assumption | refine Ext.drew ?_ | refine Ext.drewN ?_ _ | refine Ext.alloc ?_ _)) (by first | exact Nat.le_refl _ | exact Ext.le (by with_reducible repeat (first | exact Ext.refl _ | assumption | refine Ext.drew ?_ | refine Ext.drewN ?_ _ | refine Ext.alloc ?_ _))) _) (by first | exact Nat.le_refl _ | exact Ext.le (by with_reducible repeat (first | exact Ext.refl _ | assumption | refine Ext.drew ?_ | refine Ext.drewN ?_ _ | refine Ext.alloc ?_ _))) _)⟩
        go_simp
        (refine (HOP.out _).mono ?_; rintro e y5 ⟨⟨r1, r2, rfl, hvv⟩, hy5⟩; have HXV := Lib.hid hvv; clear hvv; replace hy5 : Ext wr y5 := Ext.trans (by with_reducible repeat (first | exact Ext.refl _ | assumption | refine Ext.drew ?_ | refine Ext.drewN ?_ _ | refine Ext.alloc ?_ _)) hy5)
        refine hK.out _ _ ?hS5008x0 (fun hHeld5008 => ?rest5008x0)
        case hS5008x0 => first | (first | with_reducible exact MKB.out _ _ _ _ (by first | exact Nat.le_refl _ | exact Ext.le (by with_reducible repeat (first | exact Ext.refl _ | assumption | refine Ext.drew ?_ | refine Ext.drewN ?_ _ | refine Ext.alloc ?_ _))) (by with_reducible repeat (first | exact Ext.refl _ | assumption | refine Ext.drew ?_ | refine Ext.drewN ?_ _ | refine Ext.alloc ?_ _)) | exact MKA.out _ (by with_reducible repeat (first | exact Ext.refl _ | assumption | refine Ext.drew ?_ | refine Ext.drewN ?_ _ | refine Ext.alloc ?_ _))) | ((try dsimp only); (first | with_reducible exact MKB.out _ _ _ _ (by first | exact Nat.le_refl _ | exact Ext.le (by with_reducible repeat (first | exact Ext.refl _ | assumption | refine Ext.drew ?_ | refine Ext.drewN ?_ _ | refine Ext.alloc ?_ _))) (by with_reducible repeat (first | exact Ext.refl _ | assumption | refine Ext.drew ?_ | refine Ext.drewN ?_ _ | refine Ext.alloc ?_ _)) | exact MKA.out _ (by with_reducible repeat (first | exact Ext.refl _ | assumption | refine Ext.drew ?_ | refine Ext.drewN ?_ _ | refine Ext.alloc ?_ _))))
        clear hK K
        clear hHeld
        (try simp only [PU])
        refine wpAnyH_take (i := 7) (oi := ⟨(some 15), (.move (.tmp 22)), 26, "ref.go:152", #[⟨6, .data⟩], none⟩) (v := ?v5015) rfl (by kernel_rfl) (by kernel_rfl) (by kernel_rfl) (fun _ _ _ h => h) (Or.inl ⟨rfl, ?hy5015⟩) hHeld5008 ?rest5015
        case hy5015 => (intro w _; go_simp <;> rfl)
        (try simp only [PU])
        refine wpAnyH_take (i := 8) (oi := ⟨(some 23), (.extract (.tmp 15) 0), 25, "ref.go:152", #[⟨7, .data⟩], none⟩) (v := ?v5016) rfl (by kernel_rfl) (by kernel_rfl) (by kernel_rfl) (fun _ _ _ h => h) (Or.inl ⟨rfl, ?hy5016⟩) hHeld5008 ?rest5016
        case hy5016 => (intro w _; go_simp <;> rfl)
        (try simp only [PU])
        refine wpAnyH_take (i := 9) (oi := ⟨(some 24), (.extract (.tmp 15) 1), 4, "ref.go:152", #[⟨7, .data⟩, ⟨11, (.gcOnly Departure.lateStores)⟩], none⟩) (v := ?v5017) rfl (by kernel_rfl) (by kernel_rfl) (by kernel_rfl) (fun _ _ _ h => h) (Or.inl ⟨rfl, ?hy5017⟩) hHeld5008 ?rest5017
        case hy5017 => (intro w _; go_simp <;> rfl)
        (try simp only [PU])
        refine wpAnyH_ready (rs := [10]) (by kernel_rfl) (by simp) ?_
        refine AllReadyH.cons (o := ⟨(some 6), (.alloc 25), 0, "ref.go:152", #[], none⟩) rfl (fun K hK => ?step5018x0) ?more5018x0
        case more5018x0 => exact AllReadyH.nil
        go_simp
        refine hK.out _ _ ?hS5018x0 (fun hHeld5018 => ?rest5018x0)
        case hS5018x0 => first | (first | with_reducible exact MKB.out _ _ _ _ (by first | exact Nat.le_refl _ | exact Ext.le (by with_reducible repeat (first | exact Ext.refl _ | assumption | refine Ext.drew ?_ | refine Ext.drewN ?_ _ | refine Ext.alloc ?_ _))) (by with_reducible repeat (first | exact Ext.refl _ | assumption | refine Ext.drew ?_ | refine Ext.drewN ?_ _ | refine Ext.alloc ?_ _)) | exact MKA.out _ (by with_reducible repeat (first | exact Ext.refl _ | assumption | refine Ext.drew ?_ | refine Ext.drewN ?_ _ | refine Ext.alloc ?_ _))) | ((try dsimp only); (first | with_reducible exact MKB.out _ _ _ _ (by first | exact Nat.le_refl _ | exact Ext.le (by with_reducible repeat (first | exact Ext.refl _ | assumption | refine Ext.drew ?_ | refine Ext.drewN ?_ _ | refine Ext.alloc ?_ _))) (by with_reducible repeat (first | exact Ext.refl _ | assumption | refine Ext.drew ?_ | refine Ext.drewN ?_ _ | refine Ext.alloc ?_ _)) | exact MKA.out _ (by with_reducible repeat (first | exact Ext.refl _ | assumption | refine Ext.drew ?_ | refine Ext.drewN ?_ _ | refine Ext.alloc ?_ _))))
        clear hK K
        clear hHeld5008
        (try simp only [PU])
        refine wpAnyH_ready (rs := [11]) (by kernel_rfl) (by simp) ?_
        refine AllReadyH.cons (o := ⟨none, (.store 25 (.tmp 6) (.tmp 23)), 0, "ref.go:152", #[⟨10, .data⟩, ⟨8, .data⟩, ⟨6, .chain⟩, ⟨0, .phase⟩, ⟨1, .phase⟩, ⟨2, .phase⟩, ⟨3, .phase⟩, ⟨4, .phase⟩, ⟨5, .phase⟩, ⟨6, .phase⟩, ⟨7, .phase⟩, ⟨8, .phase⟩, ⟨9, (.textOnly Departure.lateStores)⟩, ⟨10, .phase⟩], none⟩) rfl (fun K hK => ?step5019x0) ?more5019x0
        case more5019x0 => exact AllReadyH.nil
        go_simp
        refine hK.out _ _ ?hS5019x0 (fun hHeld5019 => ?rest5019x0)
        case hS5019x0 => first | (first | with_reducible exact MKB.out _ _ _ _ (by first | exact Nat.le_refl _ | exact Ext.le (by with_reducible repeat (first | exact Ext.refl _ | assumption | refine Ext.drew ?_ | refine Ext.drewN ?_ _ | refine Ext.alloc ?_ _))) (by with_reducible repeat (first | exact Ext.refl _ | assumption | refine Ext.drew ?_ | refine Ext.drewN ?_ _ | refine Ext.alloc ?_ _)) | exact MKA.out _ (by with_reducible repeat (first | exact Ext.refl _ | assumption | refine Ext.drew ?_ | refine Ext.drewN ?_ _ | refine Ext.alloc ?_ _))) | ((try dsimp only); (first | with_reducible exact MKB.out _ _ _ _ (by first | exact Nat.le_refl _ | exact Ext.le (by with_reducible repeat (first | exact Ext.refl _ | assumption | refine Ext.drew ?_ | refine Ext.drewN ?_ _ | refine Ext.alloc ?_ _))) (by with_reducible repeat (first | exact Ext.refl _ | assumption | refine Ext.drew ?_ | refine Ext.drewN ?_ _ | refine Ext.alloc ?_ _)) | exact MKA.out _ (by with_reducible repeat (first | exact Ext.refl _ | assumption | refine Ext.drew ?_ | refine Ext.drewN ?_ _ | refine Ext.alloc ?_ _))))
        clear hK K
        clear hHeld5018
        refine wpAnyH_take (i := 12) (oi := ⟨(some 7), (.assign (.tmp 24)), 4, "ref.go:152", #[⟨9, .data⟩, ⟨11, .chain⟩, ⟨0, .phase⟩, ⟨1, .phase⟩, ⟨2, .phase⟩, ⟨3, .phase⟩, ⟨4, .phase⟩, ⟨5, .phase⟩, ⟨6, .phase⟩, ⟨7, .phase⟩, ⟨8, .phase⟩, ⟨9, .phase⟩, ⟨10, .phase⟩, ⟨11, .phase⟩], none⟩) (v := ?v5020) rfl (by kernel_rfl) (by kernel_rfl) (by kernel_rfl) (fun _ _ _ h => h) (Or.inl ⟨rfl, ?hy5020⟩) hHeld5019 ?rest5020
        case hy5020 => (intro w _; go_simp <;> first | with_reducible rfl | rw [if_neg (by omega)] | rw [if_pos (by omega)])
        (try simp only [PU])
        refine wpAnyH_done (by kernel_rfl) ?_ _
        clear hHeld5019
        go_wp2_with fail
        go_meet
        case rel => exact ⟨y5.heap.size, r1, r2, rfl, congrArg Value.bool HBV.out, HXV, by go_simp, by go_simp, (by with_reducible repeat (first | exact Ext.refl _ | assumption | refine Ext.drew ?_ | refine Ext.drewN ?_ _ | refine Ext.alloc ?_ _))⟩
      case rest =>
        clear MKA MKB
        obtain ⟨gx, r1, r2, rfl, rfl, HR, m0, m1, hx⟩ := hcut
        clear a0 a1 a2 s0 s1 HOP
        obtain ⟨s0, s1, s2, s3⟩ := hS.out.ext hx
        obtain ⟨t0, t1, t2, t3⟩ := hR.out.ext hx
        cases hr3 : bv
        · have HT := Lib.hid (HNN.out (by rw [HNX.out]; exact opt_none (hr3 ▸ HBV.out.symm)))
          skip
          clear HR HNN HNX
          go_wp2_with fail
          refine bodyPost_ret (v := .tuple #[.agg #[.int .i64 0, .int .i64 0], .bool false]) (by simp [results, Tryd.results9, go_sem, t0, t1]) rfl ⟨by rw [HT.out], ((hEr.trans hx).setCell HTB.out _).setCell HTB.out _⟩
        · have HT := Lib.hid (show totO (l.take (i + 1)) = some (r1, r2) by rw [HNX.out]; exact opt_some (hr3 ▸ HBV.out.symm) HR.out)
          skip
          have HS7 := Lib.hid ((hS.out.ext hx).set (r1, r2))
          have HR7 := Lib.hid ((hR.out.ext hx).kp (kp_set2 (b := sb) (.int .i64 r1) (.int .i64 r2)) hne)
          clear HR HNN HNX
          go_wp2_with fail
          go_roundw
          case rel => exact ⟨i + 1, (r1, r2), by go_num, by omega, HT, HS7, HR7, ((hEr.trans hx).setCell HSB.out _).setCell HSB.out _⟩
          case measure => simp [intOf]; omega
    · have HT := Lib.hid (HTS.out s (by have h := hT.out; rwa [List.take_of_length_le (by omega)] at h))
      obtain ⟨s0, s1, -, -⟩ := hS.out
      obtain ⟨t0, t1, t2, t3⟩ := hR.out
      clear hT HTS HTN
      go_wp2_with fail
      refine bodyPost_ret (v := .tuple #[.agg #[.int .i64 s.1, .int .i64 s.2], .bool true]) (by simp [results, Tryd.results9, go_sem, t0, t1]) rfl ⟨by rw [HT.out], (hEr.setCell HTB.out _).setCell HTB.out _⟩
end Go.Proofs.YtlkpmbkmmfoakaaDoor
