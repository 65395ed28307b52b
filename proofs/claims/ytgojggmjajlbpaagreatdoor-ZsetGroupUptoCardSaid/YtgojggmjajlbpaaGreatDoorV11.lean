/- PARTS OF THE WALKS, joined: Zi. -/
import Derived.Test.YtgojggmjajlbpaaGreatDoorV10
/- THE WALK over the reference's Norm (chapter 47). -/
namespace Go.Proofs.YtgojggmjajlbpaaGreatDoor
open Go.RowKit Go.Sort
theorem Bag.inb {w : World} {ok : Nat → Prop} {A : Option Addr} {z : List Sg} (h : Bag w ok A z) : Bag w (fun b => b < w.heap.size) A z :=
  SliceR.mono h (fun b o x _ hx => by
    obtain ⟨h0, ⟨A', c', h1, h2, h3⟩, h4⟩ := hx
    exact ⟨block_lt_of_cell h1, ⟨A', c', h1, h2, h3.keep' (fun b o y _ hc => ⟨hc, block_lt_of_cell hc⟩)⟩, h4⟩)
theorem lies_new {W W' : World} {base : Nat} {ok0 : Nat → Prop} {v u : Value} {hs : List HSg} (h : OwnZ W base ok0 v hs) (x : Ext W W') (hu : ∀ g, u.ownBlock = some g → W.heap.size ≤ g) : ∀ p ∈ hs, KSg.lies W' (fun b => ok0 b ∧ some b ≠ u.ownBlock) p := fun p hp =>
  KSg.keep _ _ _ _ _ (fun b o y hb hc => ⟨x.cell hc, hb.1, fun e => by have h1 := hu b e.symm; have h2 : b < W.heap.size := block_lt_of_cell hc; omega⟩) (h.lies p hp)
theorem zi_ins {x : Sg} (hs : List HSg) (p : Nat) (hp : p ≤ hs.length) (hlo : ∀ q < p, ordL (hs.map HSg.x)[q]!.1 x.1 < 0) (hhi : p < hs.length → 0 < ordL (hs.map HSg.x)[p]!.1 x.1) (h : HSg) (hx : h.x = x) : (hs.take p ++ [h] ++ hs.drop p).map HSg.x = insZ x (hs.map HSg.x) := by
  have h1 := insZ_at x (hs.map HSg.x) p (by simpa using hp) hlo (fun hl => by have := hhi (by simpa using hl); omega)
  rw [if_neg (fun hh => by have := hhi (by simpa using hh.1); omega)] at h1
  rw [h1, List.map_append, List.map_append, List.map_take, List.map_drop, List.map_singleton, hx]
theorem zi_add {x : Sg} (hs : List HSg) (p : Nat) (hp : p < hs.length) (hlo : ∀ q < p, ordL (hs.map HSg.x)[q]!.1 x.1 < 0) (he : ordL hs[p].x.1 x.1 = 0) (h : HSg) (hx : h.x = (hs[p].x.1, wrap64 (hs[p].x.2 + x.2))) : (hs.take p ++ [h] ++ hs.drop (p + 1)).map HSg.x = insZ x (hs.map HSg.x) := by
  have hg : (hs.map HSg.x)[p]! = hs[p].x := by rw [getElem!_pos _ p (by simpa using hp), List.getElem_map]
  have h1 := insZ_at x (hs.map HSg.x) p (by simpa using Nat.le_of_lt hp) hlo (fun _ => by rw [hg, he]; omega)
  rw [if_pos ⟨by simpa using hp, by rw [hg]; exact he⟩, hg] at h1
  rw [h1, List.map_append, List.map_append, List.map_take, List.map_drop, List.map_singleton, hx]
set_option maxRecDepth 100000 in
set_option maxHeartbeats 12800000 in
theorem r47_NormW (z : List Sg) (ok : Nat → Prop) (A : Option Addr) (c : Nat) (w : World) (hv : Bag w ok A z) (hk0 : OkZ z) (hl : z.length ≤ 1000) :
    Calls Tryz.prog 18 #[.slice A z.length c] w fun e w' => ∃ A' c', e = .returned (.slice A' (normP z).length c') ∧ (normP z).length ≤ c' ∧ Bag w' (fun _ => True) A' (normP z) ∧ Ext w w' := by
  have HV := Lib.hid hv.inb
  have HK := Lib.hid hk0
  have HS0 := Lib.hid (OwnG.nil KSg 38 w w.heap.size (fun _ => True))
  clear hv hk0
  go_enter Tryz.func18, Tryz.ntmps18
  go_wp2_with fail
  go_loopw [3, 4] (fun v u W => ∃ (i : Nat) (hs : List HSg), u = .int .i64 i ∧ i ≤ z.length ∧ Hid (OwnZ W w.heap.size (fun _ => True) v hs) ∧ Hid (hs.map HSg.x = sumZ (z.take i)) ∧ Ext w W) (fun _ u _ => z.length - (intOf u).toNat)
  case atStart => exact ⟨0, [], rfl, Nat.zero_le _, HS0, Lib.hid rfl, Ext.refl _⟩
  case round =>
    clear HS0
    obtain ⟨i, hs, rfl, hi, hown, HM, hEo⟩ := hrel
    by_cases hlt : i < z.length
    · obtain ⟨b, o, rfl, A', c', a0, a1, hle, hxv⟩ := HV.out.at_ hlt
      have hmem : z[i]! ∈ z := by rw [getElem!_pos z i hlt]; exact List.getElem_mem hlt
      obtain ⟨-, hszx, hbx⟩ := HK.out _ hmem
      have HTK := Lib.hid (take_snoc hlt)
      have HXV := Lib.hid hxv
      have hhl : hs.length ≤ 1000 := by
        have h1 := congrArg List.length HM.out
        rw [List.length_map] at h1
        have h2 := sumZ_len (z.take i)
        rw [List.length_take] at h2
        omega
      have HSZ := Lib.hid (fun (h : HSg) (hh : h ∈ hs) => (by
        have h1 : h.x ∈ sumZ (z.take i) := by rw [← HM.out]; exact List.mem_map_of_mem hh
        obtain ⟨y, hy, e⟩ := sumZ_sub _ _ h1
        have := (HK.out y (List.mem_of_mem_take hy)).2.1
        rw [e] at this; exact this : szL h.x.1))
      have HRL := Lib.hid (show z[i]!.1.length ≤ 8000000 by have := bkL_len z[i]!.1; omega)
      obtain ⟨A0, c0, rfl⟩ := OwnG.form hown.out
      replace a0 := hEo.cell a0
      replace a1 := hEo.cell a1
      have HSX := Lib.hid hszx
      clear hmem hxv hle hbx hszx
      generalize z[i]! = x at *
      obtain ⟨wo, hwo⟩ : ∃ V, V = wr := ⟨_, rfl⟩
      subst hwo
      have zlt : (i : Int) < (z.length : Int) := by omega
      go_wp2_with fail
      go_loopw [5] (fun u W => ∃ p : Nat, u = .int .i64 p ∧ p ≤ hs.length ∧ Hid (∀ q < p, ordL (hs.map HSg.x)[q]!.1 x.1 < 0) ∧ Ext wo W) (fun u _ => hs.length - (intOf u).toNat)
      case atStart => exact ⟨0, rfl, Nat.zero_le _, Lib.hid (fun q hq => absurd hq (by omega)), (by with_reducible repeat (first | exact Ext.refl _ | assumption | refine Ext.drew ?_ | refine Ext.drewN ?_ _ | refine Ext.alloc ?_ _))⟩
      case round =>
        obtain ⟨p, rfl, hp, hgd, hE2⟩ := hrel
        have HOV := Lib.hid (OwnG.ext hown.out hE2)
        have hEr := hEo.trans hE2
        replace a0 := hE2.cell a0
        replace a1 := hE2.cell a1
        by_cases hpl : p < hs.length
        · obtain ⟨g, c1, hvv, hg0, hg1⟩ := own_some HOV.out (by omega)
          injection hvv with h1 h2 h3
          subst h1 h3
          obtain ⟨q0, q1, -, -⟩ := own_cells2 HOV.out hpl
          have hly := HOV.out.lies hs[p] (List.getElem_mem hpl)
          have HOR := Lib.hid (fun W (e : Ext wr W) => r4_OrderRows hs[p].x.1 x.1 _ _ hs[p].A A' hs[p].c c' W (hly.2.ext e) (HXV.out.ext (hEr.trans e)) (HSZ.out _ (List.getElem_mem hpl)) HSX.out)
          have hgm : (hs.map HSg.x)[p]! = hs[p].x := by rw [getElem!_pos _ p (by simpa using hpl), List.getElem_map]
          have HLO := Lib.hid (fun (h : ordL hs[p].x.1 x.1 = -1) q (hq : q < p + 1) => (if e : q = p then (by rw [e, hgm, h]; omega) else hgd.out q (by omega) : ordL (hs.map HSg.x)[q]!.1 x.1 < 0))
          have HADD0 := Lib.hid (fun (h : ordL hs[p].x.1 x.1 = 0) => zi_add hs p hpl hgd.out h)
          have HHI0 := Lib.hid (fun (h : ordL hs[p].x.1 x.1 = 1) => (fun _ => by rw [hgm, h]; omega : p < hs.length → 0 < ordL (hs.map HSg.x)[p]!.1 x.1))
          have HLYO := Lib.hid (fun (wz W' : World) (h0 : Ext wr wz) (e : Ext wz W') (u : Value) (hu : ∀ g, u.ownBlock = some g → wz.heap.size ≤ g) => lies_new (OwnG.ext HOV.out h0) e hu hs[p] (List.getElem_mem hpl))
          clear hly hgm h2
          generalize hs[p] = y at *
          have hpz0 : (p : Int) < (hs.length : Int) := by omega
          rcases TotC.row.rng y.x.1 x.1 with e3 | e3 | e3
          · simp only [e3] at HOR
            go_upto_region 6 with (fail)
            have MKR1 := Lib.hid (fun V (e : Ext wr V) => (⟨e.cell a0, e.cell q0, e⟩ : V.cell? ⟨b, o + i * 2, none⟩ = some (.slice A' x.1.length c') ∧ V.cell? ⟨g, p * 2, none⟩ = some (.slice y.A y.x.1.length y.c) ∧ Ext wr V))
            refine wp_region_held_drew (S := (fun V => V.cell? ⟨b, o + i * 2, none⟩ = some (.slice A' x.1.length c') ∧ V.cell? ⟨g, p * 2, none⟩ = some (.slice y.A y.x.1.length y.c) ∧ Ext wr V)) (by kernel_rfl) ?hs1 (fun hHeld => ?go1)
            case hs1 => (exact MKR1.out _ (by with_reducible repeat (first | exact Ext.refl _ | assumption | refine Ext.drew ?_ | refine Ext.drewN ?_ _ | refine Ext.alloc ?_ _)))
            refine wpAnyH_take (i := 0) (oi := ⟨(some 15), (.move (.tmp 5)), 3, "ref.go:27", #[], none⟩) (v := ?v2) rfl (by kernel_rfl) (by kernel_rfl) (by kernel_rfl) (fun _ _ _ h => h) (Or.inl ⟨rfl, ?hy2⟩) hHeld ?rest2
            case hy2 => (intro w _; go_simp <;> rfl)
            (try simp only [PU])
            refine wpAnyH_take (i := 1) (oi := ⟨(some 16), (.move (.tmp 3)), 22, "ref.go:27", #[], none⟩) (v := ?v3) rfl (by kernel_rfl) (by kernel_rfl) (by kernel_rfl) (fun _ _ _ h => h) (Or.inl ⟨rfl, ?hy3⟩) hHeld ?rest3
            case hy3 => (intro w _; go_simp <;> rfl)
            (try simp only [PU])
            refine wpAnyH_take (i := 2) (oi := ⟨(some 17), (.call { callee := (.builtin .len), args := #[(.tmp 16)], argTypes := #[22] }), 3, "ref.go:27", #[⟨1, .data⟩], none⟩) (v := ?v4) rfl (by kernel_rfl) (by kernel_rfl) (by kernel_rfl) (fun _ _ _ h => h) (Or.inl ⟨rfl, ?hy4⟩) hHeld ?rest4
            case hy4 => (intro w _; go_simp <;> first | with_reducible rfl | rw [if_neg (by omega)] | rw [if_pos (by omega)])
            (try simp only [PU])
            refine wpAnyH_take (i := 3) (oi := ⟨(some 18), (.binOp .lss 3 (.tmp 15) (.tmp 17) 3), 4, "ref.go:27", #[⟨0, .data⟩, ⟨2, .data⟩], none⟩) (v := ?v5) rfl (by kernel_rfl) (by kernel_rfl) (by kernel_rfl) (fun _ _ _ h => h) (Or.inl ⟨rfl, ?hy5⟩) hHeld ?rest5
            case hy5 => (intro w _; go_simp <;> first | with_reducible rfl | rw [if_neg (by omega)] | rw [if_pos (by omega)])
            (try simp only [PU])
            refine wpAnyH_take (i := 4) (oi := ⟨(some 19), (.move (.tmp 18)), 4, "ref.go:27", #[⟨3, .data⟩], none⟩) (v := ?v6) rfl (by kernel_rfl) (by kernel_rfl) (by kernel_rfl) (fun _ _ _ h => h) (Or.inl ⟨rfl, ?hy6⟩) hHeld ?rest6
            case hy6 => (intro w _; go_simp <;> rfl)
            (try simp only [PU])
            refine wpAnyH_take (i := 5) (oi := ⟨(some 20), (.move (.tmp 3)), 22, "ref.go:27", #[⟨4, .guard⟩], (some (4, true))⟩) (v := ?v7) rfl (by kernel_rfl) (by kernel_rfl) (by kernel_rfl) (fun _ _ _ h => h) (Or.inl ⟨rfl, ?hy7⟩) hHeld ?rest7
            case hy7 => (intro w _; go_simp <;> rfl)
            (try simp only [PU])
            refine wpAnyH_take (i := 6) (oi := ⟨(some 21), (.move (.tmp 5)), 3, "ref.go:27", #[⟨4, .guard⟩], (some (4, true))⟩) (v := ?v8) rfl (by kernel_rfl) (by kernel_rfl) (by kernel_rfl) (fun _ _ _ h => h) (Or.inl ⟨rfl, ?hy8⟩) hHeld ?rest8
            case hy8 => (intro w _; go_simp <;> rfl)
            (try simp only [PU])
            refine wpAnyH_take (i := 7) (oi := ⟨(some 22), (.indexAddr 22 (.tmp 20) (.tmp 21)), 0, "ref.go:27", #[⟨5, .data⟩, ⟨6, .data⟩, ⟨4, .guard⟩], (some (4, true))⟩) (v := ?v9) rfl (by kernel_rfl) (by kernel_rfl) (by kernel_rfl) (fun _ _ _ h => h) (Or.inl ⟨rfl, ?hy9⟩) hHeld ?rest9
            case hy9 => (intro w _; go_simp <;> first | with_reducible rfl | rw [if_neg (by omega)] | rw [if_pos (by omega)])
            (try simp only [PU])
            refine wpAnyH_take (i := 8) (oi := ⟨(some 23), (.fieldAddr 38 (.tmp 22) 0), 0, "ref.go:27", #[⟨7, .data⟩, ⟨4, .guard⟩], (some (4, true))⟩) (v := ?v10) rfl (by kernel_rfl) (by kernel_rfl) (by kernel_rfl) (fun _ _ _ h => h) (Or.inl ⟨rfl, ?hy10⟩) hHeld ?rest10
            case hy10 => (intro w _; go_simp <;> rfl)
            (try simp only [PU])
            refine wpAnyH_take (i := 9) (oi := ⟨(some 24), (.load 24 (.tmp 23)), 24, "ref.go:27", #[⟨8, .data⟩, ⟨4, .guard⟩], (some (4, true))⟩) (v := ?v11) rfl (by kernel_rfl) (by kernel_rfl) (by kernel_rfl) (fun _ _ _ h => h) (Or.inl ⟨rfl, ?hy11⟩) hHeld ?rest11
            case hy11 => (intro w hSw; (try dsimp only at hSw); go_simp <;> first | with_reducible rfl | rw [if_neg (by omega)] | rw [if_pos (by omega)])
            (try simp only [PU])
            refine wpAnyH_take (i := 10) (oi := ⟨(some 25), (.move (.tmp 0)), 22, "ref.go:27", #[⟨4, .guard⟩], (some (4, true))⟩) (v := ?v12) rfl (by kernel_rfl) (by kernel_rfl) (by kernel_rfl) (fun _ _ _ h => h) (Or.inl ⟨rfl, ?hy12⟩) hHeld ?rest12
            case hy12 => (intro w _; go_simp <;> rfl)
            (try simp only [PU])
            refine wpAnyH_take (i := 11) (oi := ⟨(some 26), (.move (.tmp 4)), 3, "ref.go:27", #[⟨4, .guard⟩], (some (4, true))⟩) (v := ?v13) rfl (by kernel_rfl) (by kernel_rfl) (by kernel_rfl) (fun _ _ _ h => h) (Or.inl ⟨rfl, ?hy13⟩) hHeld ?rest13
            case hy13 => (intro w _; go_simp <;> rfl)
            (try simp only [PU])
            refine wpAnyH_take (i := 12) (oi := ⟨(some 27), (.indexAddr 22 (.tmp 25) (.tmp 26)), 0, "ref.go:27", #[⟨10, .data⟩, ⟨11, .data⟩, ⟨4, .guard⟩], (some (4, true))⟩) (v := ?v14) rfl (by kernel_rfl) (by kernel_rfl) (by kernel_rfl) (fun _ _ _ h => h) (Or.inl ⟨rfl, ?hy14⟩) hHeld ?rest14
            case hy14 => (intro w _; go_simp <;> first | with_reducible rfl | rw [if_neg (by omega)] | rw [if_pos (by omega)])
            (try simp only [PU])
            refine wpAnyH_take (i := 13) (oi := ⟨(some 28), (.fieldAddr 38 (.tmp 27) 0), 0, "ref.go:27", #[⟨12, .data⟩, ⟨4, .guard⟩], (some (4, true))⟩) (v := ?v15) rfl (by kernel_rfl) (by kernel_rfl) (by kernel_rfl) (fun _ _ _ h => h) (Or.inl ⟨rfl, ?hy15⟩) hHeld ?rest15
            case hy15 => (intro w _; go_simp <;> rfl)
            (try simp only [PU])
            refine wpAnyH_take (i := 14) (oi := ⟨(some 29), (.load 24 (.tmp 28)), 24, "ref.go:27", #[⟨13, .data⟩, ⟨4, .guard⟩], (some (4, true))⟩) (v := ?v16) rfl (by kernel_rfl) (by kernel_rfl) (by kernel_rfl) (fun _ _ _ h => h) (Or.inl ⟨rfl, ?hy16⟩) hHeld ?rest16
            case hy16 => (intro w hSw; (try dsimp only at hSw); go_simp <;> first | with_reducible rfl | rw [if_neg (by omega)] | rw [if_pos (by omega)])
            (try simp only [PU])
            refine wpAnyH_ready (rs := [15]) (by kernel_rfl) (by simp) ?_
            refine AllReadyH.cons (o := ⟨(some 30), (.call { callee := (.value (.func 13)), args := #[(.tmp 24), (.tmp 29)], argTypes := #[24, 24] }), 3, "ref.go:27", #[⟨9, .data⟩, ⟨14, .data⟩, ⟨4, .chain⟩, ⟨4, .guard⟩], (some (4, true))⟩) rfl (fun K hK => ?step17x0) ?more17x0
            case more17x0 => exact AllReadyH.nil
            go_simp
            (refine (HOR.out _ (by with_reducible repeat (first | exact Ext.refl _ | assumption | refine Ext.drew ?_ | refine Ext.drewN ?_ _ | refine Ext.alloc ?_ _))).mono ?_; rintro e w4 ⟨rfl, hxw4⟩; replace hxw4 : Ext wr w4 := Ext.trans (by with_reducible repeat (first | exact Ext.refl _ | assumption | refine Ext.drew ?_ | refine Ext.drewN ?_ _ | refine Ext.alloc ?_ _)) hxw4)
            refine hK.out _ _ ?hS17x0 (fun hHeld17 => ?rest17x0)
            case hS17x0 => first | (exact MKR1.out _ (by with_reducible repeat (first | exact Ext.refl _ | assumption | refine Ext.drew ?_ | refine Ext.drewN ?_ _ | refine Ext.alloc ?_ _))) | ((try dsimp only); (exact MKR1.out _ (by with_reducible repeat (first | exact Ext.refl _ | assumption | refine Ext.drew ?_ | refine Ext.drewN ?_ _ | refine Ext.alloc ?_ _))))
            clear hK K
            clear hHeld
            (try simp only [PU])
            refine wpAnyH_take (i := 16) (oi := ⟨(some 31), (.binOp .lss 3 (.tmp 30) (.const (.int .i64 0)) 3), 4, "ref.go:27", #[⟨15, .data⟩, ⟨4, .guard⟩], (some (4, true))⟩) (v := ?v18) rfl (by kernel_rfl) (by kernel_rfl) (by kernel_rfl) (fun _ _ _ h => h) (Or.inl ⟨rfl, ?hy18⟩) hHeld17 ?rest18
            case hy18 => (intro w _; go_simp <;> first | with_reducible rfl | rw [if_neg (by omega)] | rw [if_pos (by omega)])
            (try simp only [PU])
            refine wpAnyH_take (i := 17) (oi := ⟨(some 32), (.pick (.tmp 19) (.tmp 31) (.const (.bool false))), 4, "ref.go:27", #[⟨4, .data⟩, ⟨16, .data⟩], none⟩) (v := ?v19) rfl (by kernel_rfl) (by kernel_rfl) (by kernel_rfl) (fun _ _ _ h => h) (Or.inl ⟨rfl, ?hy19⟩) hHeld17 ?rest19
            case hy19 => (intro w _; go_simp <;> rfl)
            (try simp only [PU])
            refine wpAnyH_done (by kernel_rfl) ?_ _
            clear hHeld17
            clear MKR1
            go_wp2_with fail
            go_roundw
            case rel => exact ⟨p + 1, by go_num, by omega, HLO.out e3, hE2.trans hxw4⟩
            case measure => simp [intOf]; omega
          · simp only [e3] at HOR
            go_upto_region 6 with (fail)
            have HADD := Lib.hid (HADD0.out e3)
            obtain ⟨-, hcap⟩ := OwnG.capT HOV.out
            have hpn : p ≤ hs.length := by omega
            have y1 : p ≤ c0 := by omega
            have y2 : (p : Int) ≤ (c0 : Int) := by omega
            have y3 : (p : Int) ≤ (hs.length : Int) := by omega
            have MKR2 := Lib.hid (fun V (e : Ext wr V) => (⟨e.cell a0, e.cell q0, e⟩ : V.cell? ⟨b, o + i * 2, none⟩ = some (.slice A' x.1.length c') ∧ V.cell? ⟨g, p * 2, none⟩ = some (.slice y.A y.x.1.length y.c) ∧ Ext wr V))
            refine wp_region_held_drew (S := (fun V => V.cell? ⟨b, o + i * 2, none⟩ = some (.slice A' x.1.length c') ∧ V.cell? ⟨g, p * 2, none⟩ = some (.slice y.A y.x.1.length y.c) ∧ Ext wr V)) (by kernel_rfl) ?hs20 (fun hHeld => ?go20)
            case hs20 => (exact MKR2.out _ (by with_reducible repeat (first | exact Ext.refl _ | assumption | refine Ext.drew ?_ | refine Ext.drewN ?_ _ | refine Ext.alloc ?_ _)))
            refine wpAnyH_take (i := 0) (oi := ⟨(some 15), (.move (.tmp 5)), 3, "ref.go:27", #[], none⟩) (v := ?v21) rfl (by kernel_rfl) (by kernel_rfl) (by kernel_rfl) (fun _ _ _ h => h) (Or.inl ⟨rfl, ?hy21⟩) hHeld ?rest21
            case hy21 => (intro w _; go_simp <;> rfl)
            (try simp only [PU])
            refine wpAnyH_take (i := 1) (oi := ⟨(some 16), (.move (.tmp 3)), 22, "ref.go:27", #[], none⟩) (v := ?v22) rfl (by kernel_rfl) (by kernel_rfl) (by kernel_rfl) (fun _ _ _ h => h) (Or.inl ⟨rfl, ?hy22⟩) hHeld ?rest22
            case hy22 => (intro w _; go_simp <;> rfl)
            (try simp only [PU])
            refine wpAnyH_take (i := 2) (oi := ⟨(some 17), (.call { callee := (.builtin .len), args := #[(.tmp 16)], argTypes := #[22] }), 3, "ref.go:27", #[⟨1, .data⟩], none⟩) (v := ?v23) rfl (by kernel_rfl) (by kernel_rfl) (by kernel_rfl) (fun _ _ _ h => h) (Or.inl ⟨rfl, ?hy23⟩) hHeld ?rest23
            case hy23 => (intro w _; go_simp <;> first | with_reducible rfl | rw [if_neg (by omega)] | rw [if_pos (by omega)])
            (try simp only [PU])
            refine wpAnyH_take (i := 3) (oi := ⟨(some 18), (.binOp .lss 3 (.tmp 15) (.tmp 17) 3), 4, "ref.go:27", #[⟨0, .data⟩, ⟨2, .data⟩], none⟩) (v := ?v24) rfl (by kernel_rfl) (by kernel_rfl) (by kernel_rfl) (fun _ _ _ h => h) (Or.inl ⟨rfl, ?hy24⟩) hHeld ?rest24
            case hy24 => (intro w _; go_simp <;> first | with_reducible rfl | rw [if_neg (by omega)] | rw [if_pos (by omega)])
            (try simp only [PU])
            refine wpAnyH_take (i := 4) (oi := ⟨(some 19), (.move (.tmp 18)), 4, "ref.go:27", #[⟨3, .data⟩], none⟩) (v := ?v25) rfl (by kernel_rfl) (by kernel_rfl) (by kernel_rfl) (fun _ _ _ h => h) (Or.inl ⟨rfl, ?hy25⟩) hHeld ?rest25
            case hy25 => (intro w _; go_simp <;> rfl)
            (try simp only [PU])
            refine wpAnyH_take (i := 5) (oi := ⟨(some 20), (.move (.tmp 3)), 22, "ref.go:27", #[⟨4, .guard⟩], (some (4, true))⟩) (v := ?v26) rfl (by kernel_rfl) (by kernel_rfl) (by kernel_rfl) (fun _ _ _ h => h) (Or.inl ⟨rfl, ?hy26⟩) hHeld ?rest26
            case hy26 => (intro w _; go_simp <;> rfl)
            (try simp only [PU])
            refine wpAnyH_take (i := 6) (oi := ⟨(some 21), (.move (.tmp 5)), 3, "ref.go:27", #[⟨4, .guard⟩], (some (4, true))⟩) (v := ?v27) rfl (by kernel_rfl) (by kernel_rfl) (by kernel_rfl) (fun _ _ _ h => h) (Or.inl ⟨rfl, ?hy27⟩) hHeld ?rest27
            case hy27 => (intro w _; go_simp <;> rfl)
            (try simp only [PU])
            refine wpAnyH_take (i := 7) (oi := ⟨(some 22), (.indexAddr 22 (.tmp 20) (.tmp 21)), 0, "ref.go:27", #[⟨5, .data⟩, ⟨6, .data⟩, ⟨4, .guard⟩], (some (4, true))⟩) (v := ?v28) rfl (by kernel_rfl) (by kernel_rfl) (by kernel_rfl) (fun _ _ _ h => h) (Or.inl ⟨rfl, ?hy28⟩) hHeld ?rest28
            case hy28 => (intro w _; go_simp <;> first | with_reducible rfl | rw [if_neg (by omega)] | rw [if_pos (by omega)])
            (try simp only [PU])
            refine wpAnyH_take (i := 8) (oi := ⟨(some 23), (.fieldAddr 38 (.tmp 22) 0), 0, "ref.go:27", #[⟨7, .data⟩, ⟨4, .guard⟩], (some (4, true))⟩) (v := ?v29) rfl (by kernel_rfl) (by kernel_rfl) (by kernel_rfl) (fun _ _ _ h => h) (Or.inl ⟨rfl, ?hy29⟩) hHeld ?rest29
            case hy29 => (intro w _; go_simp <;> rfl)
            (try simp only [PU])
            refine wpAnyH_take (i := 9) (oi := ⟨(some 24), (.load 24 (.tmp 23)), 24, "ref.go:27", #[⟨8, .data⟩, ⟨4, .guard⟩], (some (4, true))⟩) (v := ?v30) rfl (by kernel_rfl) (by kernel_rfl) (by kernel_rfl) (fun _ _ _ h => h) (Or.inl ⟨rfl, ?hy30⟩) hHeld ?rest30
            case hy30 => (intro w hSw; (try dsimp only at hSw); go_simp <;> first | with_reducible rfl | rw [if_neg (by omega)] | rw [if_pos (by omega)])
            (try simp only [PU])
            refine wpAnyH_take (i := 10) (oi := ⟨(some 25), (.move (.tmp 0)), 22, "ref.go:27", #[⟨4, .guard⟩], (some (4, true))⟩) (v := ?v31) rfl (by kernel_rfl) (by kernel_rfl) (by kernel_rfl) (fun _ _ _ h => h) (Or.inl ⟨rfl, ?hy31⟩) hHeld ?rest31
            case hy31 => (intro w _; go_simp <;> rfl)
            (try simp only [PU])
            refine wpAnyH_take (i := 11) (oi := ⟨(some 26), (.move (.tmp 4)), 3, "ref.go:27", #[⟨4, .guard⟩], (some (4, true))⟩) (v := ?v32) rfl (by kernel_rfl) (by kernel_rfl) (by kernel_rfl) (fun _ _ _ h => h) (Or.inl ⟨rfl, ?hy32⟩) hHeld ?rest32
            case hy32 => (intro w _; go_simp <;> rfl)
            (try simp only [PU])
            refine wpAnyH_take (i := 12) (oi := ⟨(some 27), (.indexAddr 22 (.tmp 25) (.tmp 26)), 0, "ref.go:27", #[⟨10, .data⟩, ⟨11, .data⟩, ⟨4, .guard⟩], (some (4, true))⟩) (v := ?v33) rfl (by kernel_rfl) (by kernel_rfl) (by kernel_rfl) (fun _ _ _ h => h) (Or.inl ⟨rfl, ?hy33⟩) hHeld ?rest33
            case hy33 => (intro w _; go_simp <;> first | with_reducible rfl | rw [if_neg (by omega)] | rw [if_pos (by omega)])
            (try simp only [PU])
            refine wpAnyH_take (i := 13) (oi := ⟨(some 28), (.fieldAddr 38 (.tmp 27) 0), 0, "ref.go:27", #[⟨12, .data⟩, ⟨4, .guard⟩], (some (4, true))⟩) (v := ?v34) rfl (by kernel_rfl) (by kernel_rfl) (by kernel_rfl) (fun _ _ _ h => h) (Or.inl ⟨rfl, ?hy34⟩) hHeld ?rest34
            case hy34 => (intro w _; go_simp <;> rfl)
            (try simp only [PU])
            refine wpAnyH_take (i := 14) (oi := ⟨(some 29), (.load 24 (.tmp 28)), 24, "ref.go:27", #[⟨13, .data⟩, ⟨4, .guard⟩], (some (4, true))⟩) (v := ?v35) rfl (by kernel_rfl) (by kernel_rfl) (by kernel_rfl) (fun _ _ _ h => h) (Or.inl ⟨rfl, ?hy35⟩) hHeld ?rest35
            case hy35 => (intro w hSw; (try dsimp only at hSw); go_simp <;> first | with_reducible rfl | rw [if_neg (by omega)] | rw [if_pos (by omega)])
            (try simp only [PU])
            refine wpAnyH_ready (rs := [15]) (by kernel_rfl) (by simp) ?_
            refine AllReadyH.cons (o := ⟨(some 30), (.call { callee := (.value (.func 13)), args := #[(.tmp 24), (.tmp 29)], argTypes := #[24, 24] }), 3, "ref.go:27", #[⟨9, .data⟩, ⟨14, .data⟩, ⟨4, .chain⟩, ⟨4, .guard⟩], (some (4, true))⟩) rfl (fun K hK => ?step36x0) ?more36x0
            case more36x0 => exact AllReadyH.nil
            go_simp
            (refine (HOR.out _ (by with_reducible repeat (first | exact Ext.refl _ | assumption | refine Ext.drew ?_ | refine Ext.drewN ?_ _ | refine Ext.alloc ?_ _))).mono ?_; rintro e w4 ⟨rfl, hxw4⟩; replace hxw4 : Ext wr w4 := Ext.trans (by with_reducible repeat (first | exact Ext.refl _ | assumption | refine Ext.drew ?_ | refine Ext.drewN ?_ _ | refine Ext.alloc ?_ _)) hxw4)
            refine hK.out _ _ ?hS36x0 (fun hHeld36 => ?rest36x0)
            case hS36x0 => first | (exact MKR2.out _ (by with_reducible repeat (first | exact Ext.refl _ | assumption | refine Ext.drew ?_ | refine Ext.drewN ?_ _ | refine Ext.alloc ?_ _))) | ((try dsimp only); (exact MKR2.out _ (by with_reducible repeat (first | exact Ext.refl _ | assumption | refine Ext.drew ?_ | refine Ext.drewN ?_ _ | refine Ext.alloc ?_ _))))
            clear hK K
            clear hHeld
            (try simp only [PU])
            refine wpAnyH_take (i := 16) (oi := ⟨(some 31), (.binOp .lss 3 (.tmp 30) (.const (.int .i64 0)) 3), 4, "ref.go:27", #[⟨15, .data⟩, ⟨4, .guard⟩], (some (4, true))⟩) (v := ?v37) rfl (by kernel_rfl) (by kernel_rfl) (by kernel_rfl) (fun _ _ _ h => h) (Or.inl ⟨rfl, ?hy37⟩) hHeld36 ?rest37
            case hy37 => (intro w _; go_simp <;> first | with_reducible rfl | rw [if_neg (by omega)] | rw [if_pos (by omega)])
            (try simp only [PU])
            refine wpAnyH_take (i := 17) (oi := ⟨(some 32), (.pick (.tmp 19) (.tmp 31) (.const (.bool false))), 4, "ref.go:27", #[⟨4, .data⟩, ⟨16, .data⟩], none⟩) (v := ?v38) rfl (by kernel_rfl) (by kernel_rfl) (by kernel_rfl) (fun _ _ _ h => h) (Or.inl ⟨rfl, ?hy38⟩) hHeld36 ?rest38
            case hy38 => (intro w _; go_simp <;> rfl)
            (try simp only [PU])
            refine wpAnyH_done (by kernel_rfl) ?_ _
            clear hHeld36
            clear MKR2
            go_upto_region 8 with (fail)
            obtain ⟨wz, hwz⟩ : ∃ V, V = w4 := ⟨_, rfl⟩
            have hxz : Ext wr wz := by rw [hwz]; exact hxw4
            rw [← hwz]
            clear hwz
            have wzE := hEr.trans hxz
            have HOZ := Lib.hid (OwnG.ext HOV.out hxz)
            replace a0 := hxz.cell a0
            replace a1 := hxz.cell a1
            have hxz0 := Lib.hid hxz
            have MKZ := Lib.hid (fun V (e : Ext wz V) => (⟨e.cell a0, e.cell a1⟩ : V.cell? ⟨b, o + i * 2, none⟩ = some (.slice A' x.1.length c') ∧ V.cell? ⟨b, o + i * 2 + 1, none⟩ = some (.int .i64 x.2)))
            replace q0 := hxz.cell q0
            replace q1 := hxz.cell q1
            have MKY := Lib.hid (fun V (e : Ext wz V) => (⟨e.cell q0, e.cell q1, e.cell a1⟩ : V.cell? ⟨g, p * 2, none⟩ = some (.slice y.A y.x.1.length y.c) ∧ V.cell? ⟨g, p * 2 + 1, none⟩ = some (.int .i64 y.x.2) ∧ V.cell? ⟨b, o + i * 2 + 1, none⟩ = some (.int .i64 x.2)))
            clear hxz hxw4
            have hpz : (p : Int) < (hs.length : Int) := by omega
            have hlt8 : ((hs.take p).length) = p := by rw [List.length_take]; omega
            have HLT8 := Lib.hid hlt8
            clear hlt8
            go_upto_region 9 with (at_builtin; go_loud (refine own_catG (v := .slice (some ⟨wz.heap.size, 0, none⟩) 0 0) (hs := ([] : List HSg)) T_sg rfl (.tmp 35) (.tmp 38) rfl rfl (OwnG.made KSg _ wz wz.heap.size (fun _ => True) (Nat.le_refl _)) (by simp) (some ⟨g, 0, none⟩) p c0 (hs.take p) rfl HLT8.out.symm (fun h => by cases h) (OwnG.takeC (OwnG.ext HOZ.out ((Ext.refl _).alloc _)) p hpn) (fun q hq => lies_new (u := .slice (some ⟨wz.heap.size, 0, none⟩) 0 0) HOZ.out ((Ext.refl _).alloc _) (fun g2 h2 => Nat.le_of_eq (Option.some.inj h2)) q (List.mem_of_mem_take hq)) (by simp <;> omega) (by decide) ?_); intro v5 w5 hO5 hg5 hd5)
            rw [List.nil_append] at hO5
            have hE5 : Ext wz w5 := ((Ext.refl _).alloc _).grown hg5 (fun g2 h2 => Nat.le_of_eq (Option.some.inj h2))
            have HO5 := Lib.hid hO5
            have w5E := wzE.trans hE5
            replace a0 := hE5.cell a0
            replace a1 := hE5.cell a1
            clear hO5 hg5 hd5
            replace q0 := hE5.cell q0
            replace q1 := hE5.cell q1
            have MKR3 := Lib.hid (fun V (e : Ext w5 V) => (⟨e.cell a0, e.cell q0, e⟩ : V.cell? ⟨b, o + i * 2, none⟩ = some (.slice A' x.1.length c') ∧ V.cell? ⟨g, p * 2, none⟩ = some (.slice y.A y.x.1.length y.c) ∧ Ext w5 V))
            refine wp_region_held_drew (S := (fun V => V.cell? ⟨b, o + i * 2, none⟩ = some (.slice A' x.1.length c') ∧ V.cell? ⟨g, p * 2, none⟩ = some (.slice y.A y.x.1.length y.c) ∧ Ext w5 V)) (by kernel_rfl) ?hs39 (fun hHeld => ?go39)
            case hs39 => (exact MKR3.out _ (by with_reducible repeat (first | exact Ext.refl _ | assumption | refine Ext.drew ?_ | refine Ext.drewN ?_ _ | refine Ext.alloc ?_ _)))
            refine wpAnyH_take (i := 0) (oi := ⟨(some 40), (.move (.tmp 5)), 3, "ref.go:31", #[], none⟩) (v := ?v40) rfl (by kernel_rfl) (by kernel_rfl) (by kernel_rfl) (fun _ _ _ h => h) (Or.inl ⟨rfl, ?hy40⟩) hHeld ?rest40
            case hy40 => (intro w _; go_simp <;> rfl)
            (try simp only [PU])
            refine wpAnyH_take (i := 1) (oi := ⟨(some 41), (.move (.tmp 3)), 22, "ref.go:31", #[], none⟩) (v := ?v41) rfl (by kernel_rfl) (by kernel_rfl) (by kernel_rfl) (fun _ _ _ h => h) (Or.inl ⟨rfl, ?hy41⟩) hHeld ?rest41
            case hy41 => (intro w _; go_simp <;> rfl)
            (try simp only [PU])
            refine wpAnyH_take (i := 2) (oi := ⟨(some 42), (.call { callee := (.builtin .len), args := #[(.tmp 41)], argTypes := #[22] }), 3, "ref.go:31", #[⟨1, .data⟩], none⟩) (v := ?v42) rfl (by kernel_rfl) (by kernel_rfl) (by kernel_rfl) (fun _ _ _ h => h) (Or.inl ⟨rfl, ?hy42⟩) hHeld ?rest42
            case hy42 => (intro w _; go_simp <;> first | with_reducible rfl | rw [if_neg (by omega)] | rw [if_pos (by omega)])
            (try simp only [PU])
            refine wpAnyH_take (i := 3) (oi := ⟨(some 43), (.binOp .lss 3 (.tmp 40) (.tmp 42) 3), 4, "ref.go:31", #[⟨0, .data⟩, ⟨2, .data⟩], none⟩) (v := ?v43) rfl (by kernel_rfl) (by kernel_rfl) (by kernel_rfl) (fun _ _ _ h => h) (Or.inl ⟨rfl, ?hy43⟩) hHeld ?rest43
            case hy43 => (intro w _; go_simp <;> first | with_reducible rfl | rw [if_neg (by omega)] | rw [if_pos (by omega)])
            (try simp only [PU])
            refine wpAnyH_take (i := 4) (oi := ⟨(some 44), (.move (.tmp 43)), 4, "ref.go:31", #[⟨3, .data⟩], none⟩) (v := ?v44) rfl (by kernel_rfl) (by kernel_rfl) (by kernel_rfl) (fun _ _ _ h => h) (Or.inl ⟨rfl, ?hy44⟩) hHeld ?rest44
            case hy44 => (intro w _; go_simp <;> rfl)
            (try simp only [PU])
            refine wpAnyH_take (i := 5) (oi := ⟨(some 45), (.move (.tmp 3)), 22, "ref.go:31", #[⟨4, .guard⟩], (some (4, true))⟩) (v := ?v45) rfl (by kernel_rfl) (by kernel_rfl) (by kernel_rfl) (fun _ _ _ h => h) (Or.inl ⟨rfl, ?hy45⟩) hHeld ?rest45
            case hy45 => (intro w _; go_simp <;> rfl)
            (try simp only [PU])
            refine wpAnyH_take (i := 6) (oi := ⟨(some 46), (.move (.tmp 5)), 3, "ref.go:31", #[⟨4, .guard⟩], (some (4, true))⟩) (v := ?v46) rfl (by kernel_rfl) (by kernel_rfl) (by kernel_rfl) (fun _ _ _ h => h) (Or.inl ⟨rfl, ?hy46⟩) hHeld ?rest46
            case hy46 => (intro w _; go_simp <;> rfl)
            (try simp only [PU])
            refine wpAnyH_take (i := 7) (oi := ⟨(some 47), (.indexAddr 22 (.tmp 45) (.tmp 46)), 0, "ref.go:31", #[⟨5, .data⟩, ⟨6, .data⟩, ⟨4, .guard⟩], (some (4, true))⟩) (v := ?v47) rfl (by kernel_rfl) (by kernel_rfl) (by kernel_rfl) (fun _ _ _ h => h) (Or.inl ⟨rfl, ?hy47⟩) hHeld ?rest47
            case hy47 => (intro w _; go_simp <;> first | with_reducible rfl | rw [if_neg (by omega)] | rw [if_pos (by omega)])
            (try simp only [PU])
            refine wpAnyH_take (i := 8) (oi := ⟨(some 48), (.fieldAddr 38 (.tmp 47) 0), 0, "ref.go:31", #[⟨7, .data⟩, ⟨4, .guard⟩], (some (4, true))⟩) (v := ?v48) rfl (by kernel_rfl) (by kernel_rfl) (by kernel_rfl) (fun _ _ _ h => h) (Or.inl ⟨rfl, ?hy48⟩) hHeld ?rest48
            case hy48 => (intro w _; go_simp <;> rfl)
            (try simp only [PU])
            refine wpAnyH_take (i := 9) (oi := ⟨(some 49), (.load 24 (.tmp 48)), 24, "ref.go:31", #[⟨8, .data⟩, ⟨4, .guard⟩], (some (4, true))⟩) (v := ?v49) rfl (by kernel_rfl) (by kernel_rfl) (by kernel_rfl) (fun _ _ _ h => h) (Or.inl ⟨rfl, ?hy49⟩) hHeld ?rest49
            case hy49 => (intro w hSw; (try dsimp only at hSw); go_simp <;> first | with_reducible rfl | rw [if_neg (by omega)] | rw [if_pos (by omega)])
            (try simp only [PU])
            refine wpAnyH_take (i := 10) (oi := ⟨(some 50), (.move (.tmp 0)), 22, "ref.go:31", #[⟨4, .guard⟩], (some (4, true))⟩) (v := ?v50) rfl (by kernel_rfl) (by kernel_rfl) (by kernel_rfl) (fun _ _ _ h => h) (Or.inl ⟨rfl, ?hy50⟩) hHeld ?rest50
            case hy50 => (intro w _; go_simp <;> rfl)
            (try simp only [PU])
            refine wpAnyH_take (i := 11) (oi := ⟨(some 51), (.move (.tmp 4)), 3, "ref.go:31", #[⟨4, .guard⟩], (some (4, true))⟩) (v := ?v51) rfl (by kernel_rfl) (by kernel_rfl) (by kernel_rfl) (fun _ _ _ h => h) (Or.inl ⟨rfl, ?hy51⟩) hHeld ?rest51
            case hy51 => (intro w _; go_simp <;> rfl)
            (try simp only [PU])
            refine wpAnyH_take (i := 12) (oi := ⟨(some 52), (.indexAddr 22 (.tmp 50) (.tmp 51)), 0, "ref.go:31", #[⟨10, .data⟩, ⟨11, .data⟩, ⟨4, .guard⟩], (some (4, true))⟩) (v := ?v52) rfl (by kernel_rfl) (by kernel_rfl) (by kernel_rfl) (fun _ _ _ h => h) (Or.inl ⟨rfl, ?hy52⟩) hHeld ?rest52
            case hy52 => (intro w _; go_simp <;> first | with_reducible rfl | rw [if_neg (by omega)] | rw [if_pos (by omega)])
            (try simp only [PU])
            refine wpAnyH_take (i := 13) (oi := ⟨(some 53), (.fieldAddr 38 (.tmp 52) 0), 0, "ref.go:31", #[⟨12, .data⟩, ⟨4, .guard⟩], (some (4, true))⟩) (v := ?v53) rfl (by kernel_rfl) (by kernel_rfl) (by kernel_rfl) (fun _ _ _ h => h) (Or.inl ⟨rfl, ?hy53⟩) hHeld ?rest53
            case hy53 => (intro w _; go_simp <;> rfl)
            (try simp only [PU])
            refine wpAnyH_take (i := 14) (oi := ⟨(some 54), (.load 24 (.tmp 53)), 24, "ref.go:31", #[⟨13, .data⟩, ⟨4, .guard⟩], (some (4, true))⟩) (v := ?v54) rfl (by kernel_rfl) (by kernel_rfl) (by kernel_rfl) (fun _ _ _ h => h) (Or.inl ⟨rfl, ?hy54⟩) hHeld ?rest54
            case hy54 => (intro w hSw; (try dsimp only at hSw); go_simp <;> first | with_reducible rfl | rw [if_neg (by omega)] | rw [if_pos (by omega)])
            (try simp only [PU])
            refine wpAnyH_ready (rs := [15]) (by kernel_rfl) (by simp) ?_
            refine AllReadyH.cons (o := ⟨(some 55), (.call { callee := (.value (.func 13)), args := #[(.tmp 49), (.tmp 54)], argTypes := #[24, 24] }), 3, "ref.go:31", #[⟨9, .data⟩, ⟨14, .data⟩, ⟨4, .chain⟩, ⟨4, .guard⟩], (some (4, true))⟩) rfl (fun K hK => ?step55x0) ?more55x0
            case more55x0 => exact AllReadyH.nil
            go_simp
            (refine (HOR.out _ ((hxz0.out.trans hE5).trans (by with_reducible repeat (first | exact Ext.refl _ | assumption | refine Ext.drew ?_ | refine Ext.drewN ?_ _ | refine Ext.alloc ?_ _)))).mono ?_; rintro e w66 ⟨rfl, hxw66⟩; replace hxw66 : Ext w5 w66 := Ext.trans (by with_reducible repeat (first | exact Ext.refl _ | assumption | refine Ext.drew ?_ | refine Ext.drewN ?_ _ | refine Ext.alloc ?_ _)) hxw66)
            refine hK.out _ _ ?hS55x0 (fun hHeld55 => ?rest55x0)
            case hS55x0 => first | (exact MKR3.out _ (by with_reducible repeat (first | exact Ext.refl _ | assumption | refine Ext.drew ?_ | refine Ext.drewN ?_ _ | refine Ext.alloc ?_ _))) | ((try dsimp only); (exact MKR3.out _ (by with_reducible repeat (first | exact Ext.refl _ | assumption | refine Ext.drew ?_ | refine Ext.drewN ?_ _ | refine Ext.alloc ?_ _))))
            clear hK K
            clear hHeld
            (try simp only [PU])
            refine wpAnyH_take (i := 16) (oi := ⟨(some 56), (.binOp .eql 3 (.tmp 55) (.const (.int .i64 0)) 3), 4, "ref.go:31", #[⟨15, .data⟩, ⟨4, .guard⟩], (some (4, true))⟩) (v := ?v56) rfl (by kernel_rfl) (by kernel_rfl) (by kernel_rfl) (fun _ _ _ h => h) (Or.inl ⟨rfl, ?hy56⟩) hHeld55 ?rest56
            case hy56 => (intro w _; go_simp <;> first | with_reducible rfl | rw [if_neg (by omega)] | rw [if_pos (by omega)])
            (try simp only [PU])
            refine wpAnyH_take (i := 17) (oi := ⟨(some 57), (.pick (.tmp 44) (.tmp 56) (.const (.bool false))), 4, "ref.go:31", #[⟨4, .data⟩, ⟨16, .data⟩], none⟩) (v := ?v57) rfl (by kernel_rfl) (by kernel_rfl) (by kernel_rfl) (fun _ _ _ h => h) (Or.inl ⟨rfl, ?hy57⟩) hHeld55 ?rest57
            case hy57 => (intro w _; go_simp <;> rfl)
            (try simp only [PU])
            refine wpAnyH_done (by kernel_rfl) ?_ _
            clear hHeld55
            clear MKR3
            obtain ⟨w6, hw6⟩ : ∃ V, V = w66 := ⟨_, rfl⟩
            have hE56 : Ext w5 w6 := by rw [hw6]; exact hxw66
            rw [← hw6]
            clear hw6
            have w6E := w5E.trans hE56
            replace a0 := hE56.cell a0
            replace a1 := hE56.cell a1
            replace q0 := hE56.cell q0
            replace q1 := hE56.cell q1
            clear hxw66 HOR
            have yy1 : p + 1 ≤ hs.length := by omega
            have yy2 : ((p : Int) + 1) ≤ (hs.length : Int) := by omega
            have yy3 : ((p : Int) + 1) ≤ (c0 : Int) := by omega
            have yy4 : p + 1 ≤ c0 := by omega
            have HO5' := Lib.hid (OwnG.ext HO5.out hE56)
            have hb5 := (fun g2 (h2 : v5.ownBlock = some g2) => OwnG.lt HO5.out h2)
            have HB5 := Lib.hid hb5
            have hle56 := hE56.le
            have hlz5 := hE5.le
            have hlwz := wzE.le
            have hpl : p + 1 ≤ 8388608 := by omega
            clear hb5
            have MKC := Lib.hid (fun V (e : Ext w6 V) => (⟨e.cell q0, e.cell q1, e.cell a1⟩ : V.cell? ⟨g, p * 2, none⟩ = some (.slice y.A y.x.1.length y.c) ∧ V.cell? ⟨g, p * 2 + 1, none⟩ = some (.int .i64 y.x.2) ∧ V.cell? ⟨b, o + i * 2 + 1, none⟩ = some (.int .i64 x.2)))
            go_upto_region 10 with (fail)
            refine AnyE.start (S := (fun V => V.cell? ⟨g, p * 2, none⟩ = some (.slice y.A y.x.1.length y.c) ∧ V.cell? ⟨g, p * 2 + 1, none⟩ = some (.int .i64 y.x.2) ∧ V.cell? ⟨b, o + i * 2 + 1, none⟩ = some (.int .i64 x.2))) (E := 20) (by kernel_rfl) ?hs58 (fun hHeld => ?go58)
            case hs58 => (first | exact MKY.out _ ((hE5.trans (hE56.trans ((Ext.refl _).drew))).grown hg9 (fun g2 h2 => (HB5.out g2 h2).1)) | exact MKC.out _ (by with_reducible repeat (first | exact Ext.refl _ | assumption | refine Ext.drew ?_ | refine Ext.drewN ?_ _ | refine Ext.alloc ?_ _)))
            refine AnyE.takeP (i := 0) (oi := ⟨(some 58), (.move (.tmp 6)), 22, "ref.go:32", #[], none⟩) (v := ?v59) rfl (by kernel_rfl) (by kernel_rfl) (by kernel_rfl) (fun _ _ _ h => h) rfl (Or.inl ⟨rfl, ?hy59⟩) (fun _ => hHeld) ?rest59
            case hy59 => (intro w _; go_simp <;> rfl)
            (try simp only [PU])
            refine AnyE.takeP (i := 1) (oi := ⟨(some 59), (.move (.tmp 3)), 22, "ref.go:32", #[], none⟩) (v := ?v60) rfl (by kernel_rfl) (by kernel_rfl) (by kernel_rfl) (fun _ _ _ h => h) rfl (Or.inl ⟨rfl, ?hy60⟩) (fun _ => hHeld) ?rest60
            case hy60 => (intro w _; go_simp <;> rfl)
            (try simp only [PU])
            refine AnyE.takeP (i := 2) (oi := ⟨(some 60), (.move (.tmp 5)), 3, "ref.go:32", #[], none⟩) (v := ?v61) rfl (by kernel_rfl) (by kernel_rfl) (by kernel_rfl) (fun _ _ _ h => h) rfl (Or.inl ⟨rfl, ?hy61⟩) (fun _ => hHeld) ?rest61
            case hy61 => (intro w _; go_simp <;> rfl)
            (try simp only [PU])
            refine AnyE.takeP (i := 3) (oi := ⟨(some 61), (.indexAddr 22 (.tmp 59) (.tmp 60)), 0, "ref.go:32", #[⟨1, .data⟩, ⟨2, .data⟩], none⟩) (v := ?v62) rfl (by kernel_rfl) (by kernel_rfl) (by kernel_rfl) (fun _ _ _ h => h) rfl (Or.inl ⟨rfl, ?hy62⟩) (fun _ => hHeld) ?rest62
            case hy62 => (intro w _; go_simp <;> first | with_reducible rfl | rw [if_neg (by omega)] | rw [if_pos (by omega)])
            (try simp only [PU])
            refine AnyE.takeP (i := 4) (oi := ⟨(some 62), (.fieldAddr 38 (.tmp 61) 0), 0, "ref.go:32", #[⟨3, .data⟩], none⟩) (v := ?v63) rfl (by kernel_rfl) (by kernel_rfl) (by kernel_rfl) (fun _ _ _ h => h) rfl (Or.inl ⟨rfl, ?hy63⟩) (fun _ => hHeld) ?rest63
            case hy63 => (intro w _; go_simp <;> rfl)
            (try simp only [PU])
            refine AnyE.take (i := 5) (oi := ⟨(some 63), (.load 24 (.tmp 62)), 24, "ref.go:32", #[⟨4, .data⟩], none⟩) (v := ?v64) rfl (by kernel_rfl) (by kernel_rfl) (by kernel_rfl) (fun _ _ _ h => h) (by kernel_rfl) rfl (by kernel_rfl) (Or.inl ⟨rfl, ?hy64⟩) hHeld ?rest64
            case hy64 => (intro w hSw; (try dsimp only at hSw); go_simp <;> first | with_reducible rfl | rw [if_neg (by omega)] | rw [if_pos (by omega)])
            (try simp only [PU])
            refine AnyE.takeP (i := 6) (oi := ⟨(some 64), (.move (.tmp 3)), 22, "ref.go:32", #[], none⟩) (v := ?v65) rfl (by kernel_rfl) (by kernel_rfl) (by kernel_rfl) (fun _ _ _ h => h) rfl (Or.inl ⟨rfl, ?hy65⟩) (fun _ => hHeld) ?rest65
            case hy65 => (intro w _; go_simp <;> rfl)
            (try simp only [PU])
            refine AnyE.takeP (i := 7) (oi := ⟨(some 65), (.move (.tmp 5)), 3, "ref.go:32", #[], none⟩) (v := ?v66) rfl (by kernel_rfl) (by kernel_rfl) (by kernel_rfl) (fun _ _ _ h => h) rfl (Or.inl ⟨rfl, ?hy66⟩) (fun _ => hHeld) ?rest66
            case hy66 => (intro w _; go_simp <;> rfl)
            (try simp only [PU])
            refine AnyE.takeP (i := 8) (oi := ⟨(some 66), (.indexAddr 22 (.tmp 64) (.tmp 65)), 0, "ref.go:32", #[⟨6, .data⟩, ⟨7, .data⟩], none⟩) (v := ?v67) rfl (by kernel_rfl) (by kernel_rfl) (by kernel_rfl) (fun _ _ _ h => h) rfl (Or.inl ⟨rfl, ?hy67⟩) (fun _ => hHeld) ?rest67
            case hy67 => (intro w _; go_simp <;> first | with_reducible rfl | rw [if_neg (by omega)] | rw [if_pos (by omega)])
            (try simp only [PU])
            refine AnyE.takeP (i := 9) (oi := ⟨(some 67), (.fieldAddr 38 (.tmp 66) 1), 0, "ref.go:32", #[⟨8, .data⟩], none⟩) (v := ?v68) rfl (by kernel_rfl) (by kernel_rfl) (by kernel_rfl) (fun _ _ _ h => h) rfl (Or.inl ⟨rfl, ?hy68⟩) (fun _ => hHeld) ?rest68
            case hy68 => (intro w _; go_simp <;> rfl)
            (try simp only [PU])
            refine AnyE.take (i := 10) (oi := ⟨(some 68), (.load 3 (.tmp 67)), 3, "ref.go:32", #[⟨9, .data⟩], none⟩) (v := ?v69) rfl (by kernel_rfl) (by kernel_rfl) (by kernel_rfl) (fun _ _ _ h => h) (by kernel_rfl) rfl (by kernel_rfl) (Or.inl ⟨rfl, ?hy69⟩) hHeld ?rest69
            case hy69 => (intro w hSw; (try dsimp only at hSw); go_simp <;> first | with_reducible rfl | rw [if_neg (by omega)] | rw [if_pos (by omega)])
            (try simp only [PU])
            refine AnyE.takeP (i := 11) (oi := ⟨(some 69), (.move (.tmp 0)), 22, "ref.go:32", #[], none⟩) (v := ?v70) rfl (by kernel_rfl) (by kernel_rfl) (by kernel_rfl) (fun _ _ _ h => h) rfl (Or.inl ⟨rfl, ?hy70⟩) (fun _ => hHeld) ?rest70
            case hy70 => (intro w _; go_simp <;> rfl)
            (try simp only [PU])
            refine AnyE.takeP (i := 12) (oi := ⟨(some 70), (.move (.tmp 4)), 3, "ref.go:32", #[], none⟩) (v := ?v71) rfl (by kernel_rfl) (by kernel_rfl) (by kernel_rfl) (fun _ _ _ h => h) rfl (Or.inl ⟨rfl, ?hy71⟩) (fun _ => hHeld) ?rest71
            case hy71 => (intro w _; go_simp <;> rfl)
            (try simp only [PU])
            refine AnyE.takeP (i := 13) (oi := ⟨(some 71), (.indexAddr 22 (.tmp 69) (.tmp 70)), 0, "ref.go:32", #[⟨11, .data⟩, ⟨12, .data⟩], none⟩) (v := ?v72) rfl (by kernel_rfl) (by kernel_rfl) (by kernel_rfl) (fun _ _ _ h => h) rfl (Or.inl ⟨rfl, ?hy72⟩) (fun _ => hHeld) ?rest72
            case hy72 => (intro w _; go_simp <;> first | with_reducible rfl | rw [if_neg (by omega)] | rw [if_pos (by omega)])
            (try simp only [PU])
            refine AnyE.takeP (i := 14) (oi := ⟨(some 72), (.fieldAddr 38 (.tmp 71) 1), 0, "ref.go:32", #[⟨13, .data⟩], none⟩) (v := ?v73) rfl (by kernel_rfl) (by kernel_rfl) (by kernel_rfl) (fun _ _ _ h => h) rfl (Or.inl ⟨rfl, ?hy73⟩) (fun _ => hHeld) ?rest73
            case hy73 => (intro w _; go_simp <;> rfl)
            (try simp only [PU])
            refine AnyE.take (i := 15) (oi := ⟨(some 73), (.load 3 (.tmp 72)), 3, "ref.go:32", #[⟨14, .data⟩], none⟩) (v := ?v74) rfl (by kernel_rfl) (by kernel_rfl) (by kernel_rfl) (fun _ _ _ h => h) (by kernel_rfl) rfl (by kernel_rfl) (Or.inl ⟨rfl, ?hy74⟩) hHeld ?rest74
            case hy74 => (intro w hSw; (try dsimp only at hSw); go_simp <;> first | with_reducible rfl | rw [if_neg (by omega)] | rw [if_pos (by omega)])
            (try simp only [PU])
            refine AnyE.takeP (i := 16) (oi := ⟨(some 74), (.binOp .add 3 (.tmp 68) (.tmp 73) 3), 3, "ref.go:32", #[⟨10, .data⟩, ⟨15, .data⟩], none⟩) (v := ?v75) rfl (by kernel_rfl) (by kernel_rfl) (by kernel_rfl) (fun _ _ _ h => h) rfl (Or.inl ⟨rfl, ?hy75⟩) (fun _ => hHeld) ?rest75
            case hy75 => (intro w _; go_simp <;> first | with_reducible rfl | rw [if_neg (by omega)] | rw [if_pos (by omega)])
            (try simp only [PU])
            refine AnyE.takeP (i := 17) (oi := ⟨(some 75), (.build 38 #[(0, (.tmp 63)), (1, (.tmp 74))]), 38, "ref.go:32", #[⟨5, .data⟩, ⟨16, .data⟩], none⟩) (v := ?v76) rfl (by kernel_rfl) (by kernel_rfl) (by kernel_rfl) (fun _ _ _ h => h) rfl (Or.inl ⟨rfl, ?hy76⟩) (fun _ => hHeld) ?rest76
            case hy76 => (intro w _; go_simp <;> rfl)
            (try simp only [PU])
            refine AnyE.ready (rs := [18]) (by kernel_rfl) (by simp) ?_
            refine AllE.cons (o := ⟨(some 76), (.buildSlice 22 1 #[(0, (.tmp 75))]), 22, "ref.go:32", #[⟨17, .data⟩], none⟩) rfl (fun K hK => ?step77x0) ?more77x0
            case more77x0 => exact AllE.nil
            go_simp
            refine hK.out _ _ ?hS77x0 (fun hHeld77 => ?rest77x0)
            case hS77x0 => intro _; first | (first | exact MKY.out _ ((hE5.trans (hE56.trans ((Ext.refl _).drew))).grown hg9 (fun g2 h2 => (HB5.out g2 h2).1)) | exact MKC.out _ (by with_reducible repeat (first | exact Ext.refl _ | assumption | refine Ext.drew ?_ | refine Ext.drewN ?_ _ | refine Ext.alloc ?_ _))) | ((try dsimp only); (first | exact MKY.out _ ((hE5.trans (hE56.trans ((Ext.refl _).drew))).grown hg9 (fun g2 h2 => (HB5.out g2 h2).1)) | exact MKC.out _ (by with_reducible repeat (first | exact Ext.refl _ | assumption | refine Ext.drew ?_ | refine Ext.drewN ?_ _ | refine Ext.alloc ?_ _))))
            clear hK K
            clear hHeld
            (try simp only [PU])
            refine AnyE.ready (rs := [19]) (by kernel_rfl) (by simp) ?_
            refine AllE.cons (o := ⟨(some 77), (.call { callee := (.builtin .append), args := #[(.tmp 58), (.tmp 76)], argTypes := #[22, 22] }), 22, "ref.go:32", #[⟨0, .data⟩, ⟨18, .data⟩], none⟩) rfl (fun K hK => ?step78x0) ?more78x0
            case more78x0 => exact AllE.nil
            (refine step_pushG (v := v5) (hs := hs.take p) T_sg rfl (.tmp 58) (.tmp 76) rfl w6.drew rfl (OwnG.ext HO5'.out ((Ext.refl _).drew)) (show wz.heap.size ≤ w6.heap.size by omega) ⟨y.A, y.c, (y.x.1, wrap64 (y.x.2 + x.2))⟩ (HLYO.out _ _ hxz0.out (hE5.trans (hE56.trans ((Ext.refl _).drew))) v5 (fun g2 h2 => (HB5.out g2 h2).1)) (by rw [IntWalk.i64_left]; rfl) _ rfl rfl (by rw [HLT8.out]; exact hpl) (by decide) ?_; intro v6 w9 hO9 hg9 hd9)
            refine hK.out _ _ ?hS78x0 (fun hHeld78 => ?rest78x0)
            case hS78x0 => intro _; first | (first | exact MKY.out _ ((hE5.trans (hE56.trans ((Ext.refl _).drew))).grown hg9 (fun g2 h2 => (HB5.out g2 h2).1)) | exact MKC.out _ (by with_reducible repeat (first | exact Ext.refl _ | assumption | refine Ext.drew ?_ | refine Ext.drewN ?_ _ | refine Ext.alloc ?_ _))) | ((try dsimp only); (first | exact MKY.out _ ((hE5.trans (hE56.trans ((Ext.refl _).drew))).grown hg9 (fun g2 h2 => (HB5.out g2 h2).1)) | exact MKC.out _ (by with_reducible repeat (first | exact Ext.refl _ | assumption | refine Ext.drew ?_ | refine Ext.drewN ?_ _ | refine Ext.alloc ?_ _))))
            clear hK K
            clear hHeld77
            (try simp only [PU])
            refine AnyE.ready (rs := [20]) (by kernel_rfl) (by simp) ?_
            refine AllE.cons (o := ⟨(some 6), (.assign (.tmp 77)), 22, "ref.go:32", #[⟨19, .data⟩, ⟨19, .chain⟩, ⟨0, .phase⟩, ⟨1, .phase⟩, ⟨2, .phase⟩, ⟨3, .phase⟩, ⟨4, .phase⟩, ⟨5, .phase⟩, ⟨6, .phase⟩, ⟨7, .phase⟩, ⟨8, .phase⟩, ⟨9, .phase⟩, ⟨10, .phase⟩, ⟨11, .phase⟩, ⟨12, .phase⟩, ⟨13, .phase⟩, ⟨14, .phase⟩, ⟨15, .phase⟩, ⟨16, .phase⟩, ⟨17, .phase⟩, ⟨18, .phase⟩, ⟨19, .phase⟩], none⟩) rfl (fun K hK => ?step79x0) ?more79x0
            case more79x0 => exact AllE.nil
            go_simp
            refine hK.out _ _ ?hS79x0 (fun hHeld79 => ?rest79x0)
            case hS79x0 => first | (intro h; exact absurd h (by decide)) | (intro h; simp at h)
            clear hK K
            clear hHeld78
            (try simp only [PU])
            refine AnyE.done (by kernel_rfl) ?_ _
            clear hHeld79
            have HO9 := Lib.hid hO9
            have hEz9 : Ext wz w9 := (hE5.trans (hE56.trans ((Ext.refl _).drew))).grown hg9 (fun g2 h2 => (HB5.out g2 h2).1)
            have HFIN := Lib.hid (show (hs.take p ++ [(⟨y.A, y.c, (y.x.1, wrap64 (y.x.2 + x.2))⟩ : HSg)] ++ hs.drop (p + 1)).map HSg.x = sumZ (z.take (i + 1)) by rw [HTK.out, sumZ_snoc, ← HM.out]; exact HADD.out _ rfl)
            clear hO9 hg9 hd9 MKC a0 a1 q0 q1
            by_cases hck : c0 = p + 1
            · go_upto_region 4 with (at_builtin; go_loud (refine own_catG (v := v6) T_sg rfl (.tmp 78) (.tmp 82) rfl rfl HO9.out (by have := hEz9.le; omega) (some ⟨g, 0, none⟩) (hs.length - (p + 1)) _ (hs.drop (p + 1)) rfl (by rw [List.length_drop]) (fun h => by cases h) (OwnG.dropC (OwnG.ext HOZ.out hEz9) (p + 1) 0 (by omega) (.inr (by omega))) (fun q hq => lies_new (u := v6) HOZ.out hEz9 (fun g2 h2 => (OwnG.lt HO9.out h2).1) q (List.mem_of_mem_drop hq)) (by rw [List.length_append, HLT8.out]; simp; omega) (by decide) ?_); intro v7 w7 hO7 hg7 hd7)
              have hE7 : Ext wz w7 := hEz9.grown hg7 (fun g2 h2 => (OwnG.lt HO9.out h2).1)
              have HO7 := Lib.hid (OwnG.mono hO7 wzE.le)
              have HE7 := Lib.hid (wzE.trans hE7)
              clear hO7 hg7 hd7 HO9 hE7
              go_wp2_with fail
              go_roundw
              case rel => exact ⟨i + 1, _, by go_num, by omega, HO7, HFIN, HE7.out⟩
              case measure => simp [intOf]; omega
            · go_upto_region 4 with (at_builtin; go_loud (refine own_catG (v := v6) T_sg rfl (.tmp 78) (.tmp 82) rfl rfl HO9.out (by have := hEz9.le; omega) (some ⟨g, (p + 1) * 2, none⟩) (hs.length - (p + 1)) _ (hs.drop (p + 1)) rfl (by rw [List.length_drop]) (fun h => by cases h) (OwnG.dropC (OwnG.ext HOZ.out hEz9) (p + 1) ((p + 1) * 2) (by omega) (.inl rfl)) (fun q hq => lies_new (u := v6) HOZ.out hEz9 (fun g2 h2 => (OwnG.lt HO9.out h2).1) q (List.mem_of_mem_drop hq)) (by rw [List.length_append, HLT8.out]; simp; omega) (by decide) ?_); intro v7 w7 hO7 hg7 hd7)
              have hE7 : Ext wz w7 := hEz9.grown hg7 (fun g2 h2 => (OwnG.lt HO9.out h2).1)
              have HO7 := Lib.hid (OwnG.mono hO7 wzE.le)
              have HE7 := Lib.hid (wzE.trans hE7)
              clear hO7 hg7 hd7 HO9 hE7
              go_wp2_with fail
              go_roundw
              case rel => exact ⟨i + 1, _, by go_num, by omega, HO7, HFIN, HE7.out⟩
              case measure => simp [intOf]; omega
          · simp only [e3] at HOR
            go_upto_region 6 with (fail)
            have HHI := Lib.hid (HHI0.out e3)
            obtain ⟨-, hcap⟩ := OwnG.capT HOV.out
            have hpn : p ≤ hs.length := by omega
            have y1 : p ≤ c0 := by omega
            have y2 : (p : Int) ≤ (c0 : Int) := by omega
            have y3 : (p : Int) ≤ (hs.length : Int) := by omega
            have MKR5 := Lib.hid (fun V (e : Ext wr V) => (⟨e.cell a0, e.cell q0, e⟩ : V.cell? ⟨b, o + i * 2, none⟩ = some (.slice A' x.1.length c') ∧ V.cell? ⟨g, p * 2, none⟩ = some (.slice y.A y.x.1.length y.c) ∧ Ext wr V))
            refine wp_region_held_drew (S := (fun V => V.cell? ⟨b, o + i * 2, none⟩ = some (.slice A' x.1.length c') ∧ V.cell? ⟨g, p * 2, none⟩ = some (.slice y.A y.x.1.length y.c) ∧ Ext wr V)) (by kernel_rfl) ?hs80 (fun hHeld => ?go80)
            case hs80 => (exact MKR5.out _ (by with_reducible repeat (first | exact Ext.refl _ | assumption | refine Ext.drew ?_ | refine Ext.drewN ?_ _ | refine Ext.alloc ?_ _)))
            refine wpAnyH_take (i := 0) (oi := ⟨(some 15), (.move (.tmp 5)), 3, "ref.go:27", #[], none⟩) (v := ?v81) rfl (by kernel_rfl) (by kernel_rfl) (by kernel_rfl) (fun _ _ _ h => h) (Or.inl ⟨rfl, ?hy81⟩) hHeld ?rest81
            case hy81 => (intro w _; go_simp <;> rfl)
            (try simp only [PU])
            refine wpAnyH_take (i := 1) (oi := ⟨(some 16), (.move (.tmp 3)), 22, "ref.go:27", #[], none⟩) (v := ?v82) rfl (by kernel_rfl) (by kernel_rfl) (by kernel_rfl) (fun _ _ _ h => h) (Or.inl ⟨rfl, ?hy82⟩) hHeld ?rest82
            case hy82 => (intro w _; go_simp <;> rfl)
            (try simp only [PU])
            refine wpAnyH_take (i := 2) (oi := ⟨(some 17), (.call { callee := (.builtin .len), args := #[(.tmp 16)], argTypes := #[22] }), 3, "ref.go:27", #[⟨1, .data⟩], none⟩) (v := ?v83) rfl (by kernel_rfl) (by kernel_rfl) (by kernel_rfl) (fun _ _ _ h => h) (Or.inl ⟨rfl, ?hy83⟩) hHeld ?rest83
            case hy83 => (intro w _; go_simp <;> first | with_reducible rfl | rw [if_neg (by omega)] | rw [if_pos (by omega)])
            (try simp only [PU])
            refine wpAnyH_take (i := 3) (oi := ⟨(some 18), (.binOp .lss 3 (.tmp 15) (.tmp 17) 3), 4, "ref.go:27", #[⟨0, .data⟩, ⟨2, .data⟩], none⟩) (v := ?v84) rfl (by kernel_rfl) (by kernel_rfl) (by kernel_rfl) (fun _ _ _ h => h) (Or.inl ⟨rfl, ?hy84⟩) hHeld ?rest84
            case hy84 => (intro w _; go_simp <;> first | with_reducible rfl | rw [if_neg (by omega)] | rw [if_pos (by omega)])
            (try simp only [PU])
            refine wpAnyH_take (i := 4) (oi := ⟨(some 19), (.move (.tmp 18)), 4, "ref.go:27", #[⟨3, .data⟩], none⟩) (v := ?v85) rfl (by kernel_rfl) (by kernel_rfl) (by kernel_rfl) (fun _ _ _ h => h) (Or.inl ⟨rfl, ?hy85⟩) hHeld ?rest85
            case hy85 => (intro w _; go_simp <;> rfl)
            (try simp only [PU])
            refine wpAnyH_take (i := 5) (oi := ⟨(some 20), (.move (.tmp 3)), 22, "ref.go:27", #[⟨4, .guard⟩], (some (4, true))⟩) (v := ?v86) rfl (by kernel_rfl) (by kernel_rfl) (by kernel_rfl) (fun _ _ _ h => h) (Or.inl ⟨rfl, ?hy86⟩) hHeld ?rest86
            case hy86 => (intro w _; go_simp <;> rfl)
            (try simp only [PU])
            refine wpAnyH_take (i := 6) (oi := ⟨(some 21), (.move (.tmp 5)), 3, "ref.go:27", #[⟨4, .guard⟩], (some (4, true))⟩) (v := ?v87) rfl (by kernel_rfl) (by kernel_rfl) (by kernel_rfl) (fun _ _ _ h => h) (Or.inl ⟨rfl, ?hy87⟩) hHeld ?rest87
            case hy87 => (intro w _; go_simp <;> rfl)
            (try simp only [PU])
            refine wpAnyH_take (i := 7) (oi := ⟨(some 22), (.indexAddr 22 (.tmp 20) (.tmp 21)), 0, "ref.go:27", #[⟨5, .data⟩, ⟨6, .data⟩, ⟨4, .guard⟩], (some (4, true))⟩) (v := ?v88) rfl (by kernel_rfl) (by kernel_rfl) (by kernel_rfl) (fun _ _ _ h => h) (Or.inl ⟨rfl, ?hy88⟩) hHeld ?rest88
            case hy88 => (intro w _; go_simp <;> first | with_reducible rfl | rw [if_neg (by omega)] | rw [if_pos (by omega)])
            (try simp only [PU])
            refine wpAnyH_take (i := 8) (oi := ⟨(some 23), (.fieldAddr 38 (.tmp 22) 0), 0, "ref.go:27", #[⟨7, .data⟩, ⟨4, .guard⟩], (some (4, true))⟩) (v := ?v89) rfl (by kernel_rfl) (by kernel_rfl) (by kernel_rfl) (fun _ _ _ h => h) (Or.inl ⟨rfl, ?hy89⟩) hHeld ?rest89
            case hy89 => (intro w _; go_simp <;> rfl)
            (try simp only [PU])
            refine wpAnyH_take (i := 9) (oi := ⟨(some 24), (.load 24 (.tmp 23)), 24, "ref.go:27", #[⟨8, .data⟩, ⟨4, .guard⟩], (some (4, true))⟩) (v := ?v90) rfl (by kernel_rfl) (by kernel_rfl) (by kernel_rfl) (fun _ _ _ h => h) (Or.inl ⟨rfl, ?hy90⟩) hHeld ?rest90
            case hy90 => (intro w hSw; (try dsimp only at hSw); go_simp <;> first | with_reducible rfl | rw [if_neg (by omega)] | rw [if_pos (by omega)])
            (try simp only [PU])
            refine wpAnyH_take (i := 10) (oi := ⟨(some 25), (.move (.tmp 0)), 22, "ref.go:27", #[⟨4, .guard⟩], (some (4, true))⟩) (v := ?v91) rfl (by kernel_rfl) (by kernel_rfl) (by kernel_rfl) (fun _ _ _ h => h) (Or.inl ⟨rfl, ?hy91⟩) hHeld ?rest91
            case hy91 => (intro w _; go_simp <;> rfl)
            (try simp only [PU])
            refine wpAnyH_take (i := 11) (oi := ⟨(some 26), (.move (.tmp 4)), 3, "ref.go:27", #[⟨4, .guard⟩], (some (4, true))⟩) (v := ?v92) rfl (by kernel_rfl) (by kernel_rfl) (by kernel_rfl) (fun _ _ _ h => h) (Or.inl ⟨rfl, ?hy92⟩) hHeld ?rest92
            case hy92 => (intro w _; go_simp <;> rfl)
            (try simp only [PU])
            refine wpAnyH_take (i := 12) (oi := ⟨(some 27), (.indexAddr 22 (.tmp 25) (.tmp 26)), 0, "ref.go:27", #[⟨10, .data⟩, ⟨11, .data⟩, ⟨4, .guard⟩], (some (4, true))⟩) (v := ?v93) rfl (by kernel_rfl) (by kernel_rfl) (by kernel_rfl) (fun _ _ _ h => h) (Or.inl ⟨rfl, ?hy93⟩) hHeld ?rest93
            case hy93 => (intro w _; go_simp <;> first | with_reducible rfl | rw [if_neg (by omega)] | rw [if_pos (by omega)])
            (try simp only [PU])
            refine wpAnyH_take (i := 13) (oi := ⟨(some 28), (.fieldAddr 38 (.tmp 27) 0), 0, "ref.go:27", #[⟨12, .data⟩, ⟨4, .guard⟩], (some (4, true))⟩) (v := ?v94) rfl (by kernel_rfl) (by kernel_rfl) (by kernel_rfl) (fun _ _ _ h => h) (Or.inl ⟨rfl, ?hy94⟩) hHeld ?rest94
            case hy94 => (intro w _; go_simp <;> rfl)
            (try simp only [PU])
            refine wpAnyH_take (i := 14) (oi := ⟨(some 29), (.load 24 (.tmp 28)), 24, "ref.go:27", #[⟨13, .data⟩, ⟨4, .guard⟩], (some (4, true))⟩) (v := ?v95) rfl (by kernel_rfl) (by kernel_rfl) (by kernel_rfl) (fun _ _ _ h => h) (Or.inl ⟨rfl, ?hy95⟩) hHeld ?rest95
            case hy95 => (intro w hSw; (try dsimp only at hSw); go_simp <;> first | with_reducible rfl | rw [if_neg (by omega)] | rw [if_pos (by omega)])
            (try simp only [PU])
            refine wpAnyH_ready (rs := [15]) (by kernel_rfl) (by simp) ?_
            refine AllReadyH.cons (o := ⟨(some 30), (.call { callee := (.value (.func 13)), args := #[(.tmp 24), (.tmp 29)], argTypes := #[24, 24] }), 3, "ref.go:27", #[⟨9, .data⟩, ⟨14, .data⟩, ⟨4, .chain⟩, ⟨4, .guard⟩], (some (4, true))⟩) rfl (fun K hK => ?step96x0) ?more96x0
            case more96x0 => exact AllReadyH.nil
            go_simp
            (refine (HOR.out _ (by with_reducible repeat (first | exact Ext.refl _ | assumption | refine Ext.drew ?_ | refine Ext.drewN ?_ _ | refine Ext.alloc ?_ _))).mono ?_; rintro e w4 ⟨rfl, hxw4⟩; replace hxw4 : Ext wr w4 := Ext.trans (by with_reducible repeat (first | exact Ext.refl _ | assumption | refine Ext.drew ?_ | refine Ext.drewN ?_ _ | refine Ext.alloc ?_ _)) hxw4)
            refine hK.out _ _ ?hS96x0 (fun hHeld96 => ?rest96x0)
            case hS96x0 => first | (exact MKR5.out _ (by with_reducible repeat (first | exact Ext.refl _ | assumption | refine Ext.drew ?_ | refine Ext.drewN ?_ _ | refine Ext.alloc ?_ _))) | ((try dsimp only); (exact MKR5.out _ (by with_reducible repeat (first | exact Ext.refl _ | assumption | refine Ext.drew ?_ | refine Ext.drewN ?_ _ | refine Ext.alloc ?_ _))))
            clear hK K
            clear hHeld
            (try simp only [PU])
            refine wpAnyH_take (i := 16) (oi := ⟨(some 31), (.binOp .lss 3 (.tmp 30) (.const (.int .i64 0)) 3), 4, "ref.go:27", #[⟨15, .data⟩, ⟨4, .guard⟩], (some (4, true))⟩) (v := ?v97) rfl (by kernel_rfl) (by kernel_rfl) (by kernel_rfl) (fun _ _ _ h => h) (Or.inl ⟨rfl, ?hy97⟩) hHeld96 ?rest97
            case hy97 => (intro w _; go_simp <;> first | with_reducible rfl | rw [if_neg (by omega)] | rw [if_pos (by omega)])
            (try simp only [PU])
            refine wpAnyH_take (i := 17) (oi := ⟨(some 32), (.pick (.tmp 19) (.tmp 31) (.const (.bool false))), 4, "ref.go:27", #[⟨4, .data⟩, ⟨16, .data⟩], none⟩) (v := ?v98) rfl (by kernel_rfl) (by kernel_rfl) (by kernel_rfl) (fun _ _ _ h => h) (Or.inl ⟨rfl, ?hy98⟩) hHeld96 ?rest98
            case hy98 => (intro w _; go_simp <;> rfl)
            (try simp only [PU])
            refine wpAnyH_done (by kernel_rfl) ?_ _
            clear hHeld96
            clear MKR5
            go_upto_region 8 with (fail)
            obtain ⟨wz, hwz⟩ : ∃ V, V = w4 := ⟨_, rfl⟩
            have hxz : Ext wr wz := by rw [hwz]; exact hxw4
            rw [← hwz]
            clear hwz
            have wzE := hEr.trans hxz
            have HOZ := Lib.hid (OwnG.ext HOV.out hxz)
            replace a0 := hxz.cell a0
            replace a1 := hxz.cell a1
            have hxz0 := Lib.hid hxz
            have MKZ := Lib.hid (fun V (e : Ext wz V) => (⟨e.cell a0, e.cell a1⟩ : V.cell? ⟨b, o + i * 2, none⟩ = some (.slice A' x.1.length c') ∧ V.cell? ⟨b, o + i * 2 + 1, none⟩ = some (.int .i64 x.2)))
            replace q0 := hxz.cell q0
            clear hxz hxw4 q1
            have hpz : (p : Int) < (hs.length : Int) := by omega
            have hlt8 : ((hs.take p).length) = p := by rw [List.length_take]; omega
            have HLT8 := Lib.hid hlt8
            clear hlt8
            go_upto_region 9 with (at_builtin; go_loud (refine own_catG (v := .slice (some ⟨wz.heap.size, 0, none⟩) 0 0) (hs := ([] : List HSg)) T_sg rfl (.tmp 35) (.tmp 38) rfl rfl (OwnG.made KSg _ wz wz.heap.size (fun _ => True) (Nat.le_refl _)) (by simp) (some ⟨g, 0, none⟩) p c0 (hs.take p) rfl HLT8.out.symm (fun h => by cases h) (OwnG.takeC (OwnG.ext HOZ.out ((Ext.refl _).alloc _)) p hpn) (fun q hq => lies_new (u := .slice (some ⟨wz.heap.size, 0, none⟩) 0 0) HOZ.out ((Ext.refl _).alloc _) (fun g2 h2 => Nat.le_of_eq (Option.some.inj h2)) q (List.mem_of_mem_take hq)) (by simp <;> omega) (by decide) ?_); intro v5 w5 hO5 hg5 hd5)
            rw [List.nil_append] at hO5
            have hE5 : Ext wz w5 := ((Ext.refl _).alloc _).grown hg5 (fun g2 h2 => Nat.le_of_eq (Option.some.inj h2))
            have HO5 := Lib.hid hO5
            have w5E := wzE.trans hE5
            replace a0 := hE5.cell a0
            replace a1 := hE5.cell a1
            clear hO5 hg5 hd5
            replace q0 := hE5.cell q0
            have MKR6 := Lib.hid (fun V (e : Ext w5 V) => (⟨e.cell a0, e.cell q0, e⟩ : V.cell? ⟨b, o + i * 2, none⟩ = some (.slice A' x.1.length c') ∧ V.cell? ⟨g, p * 2, none⟩ = some (.slice y.A y.x.1.length y.c) ∧ Ext w5 V))
            refine wp_region_held_drew (S := (fun V => V.cell? ⟨b, o + i * 2, none⟩ = some (.slice A' x.1.length c') ∧ V.cell? ⟨g, p * 2, none⟩ = some (.slice y.A y.x.1.length y.c) ∧ Ext w5 V)) (by kernel_rfl) ?hs99 (fun hHeld => ?go99)
            case hs99 => (exact MKR6.out _ (by with_reducible repeat (first | exact Ext.refl _ | assumption | refine Ext.drew ?_ | refine Ext.drewN ?_ _ | refine Ext.alloc ?_ _)))
            refine wpAnyH_take (i := 0) (oi := ⟨(some 40), (.move (.tmp 5)), 3, "ref.go:31", #[], none⟩) (v := ?v100) rfl (by kernel_rfl) (by kernel_rfl) (by kernel_rfl) (fun _ _ _ h => h) (Or.inl ⟨rfl, ?hy100⟩) hHeld ?rest100
            case hy100 => (intro w _; go_simp <;> rfl)
            (try simp only [PU])
            refine wpAnyH_take (i := 1) (oi := ⟨(some 41), (.move (.tmp 3)), 22, "ref.go:31", #[], none⟩) (v := ?v101) rfl (by kernel_rfl) (by kernel_rfl) (by kernel_rfl) (fun _ _ _ h => h) (Or.inl ⟨rfl, ?hy101⟩) hHeld ?rest101
            case hy101 => (intro w _; go_simp <;> rfl)
            (try simp only [PU])
            refine wpAnyH_take (i := 2) (oi := ⟨(some 42), (.call { callee := (.builtin .len), args := #[(.tmp 41)], argTypes := #[22] }), 3, "ref.go:31", #[⟨1, .data⟩], none⟩) (v := ?v102) rfl (by kernel_rfl) (by kernel_rfl) (by kernel_rfl) (fun _ _ _ h => h) (Or.inl ⟨rfl, ?hy102⟩) hHeld ?rest102
            case hy102 => (intro w _; go_simp <;> first | with_reducible rfl | rw [if_neg (by omega)] | rw [if_pos (by omega)])
            (try simp only [PU])
            refine wpAnyH_take (i := 3) (oi := ⟨(some 43), (.binOp .lss 3 (.tmp 40) (.tmp 42) 3), 4, "ref.go:31", #[⟨0, .data⟩, ⟨2, .data⟩], none⟩) (v := ?v103) rfl (by kernel_rfl) (by kernel_rfl) (by kernel_rfl) (fun _ _ _ h => h) (Or.inl ⟨rfl, ?hy103⟩) hHeld ?rest103
            case hy103 => (intro w _; go_simp <;> first | with_reducible rfl | rw [if_neg (by omega)] | rw [if_pos (by omega)])
            (try simp only [PU])
            refine wpAnyH_take (i := 4) (oi := ⟨(some 44), (.move (.tmp 43)), 4, "ref.go:31", #[⟨3, .data⟩], none⟩) (v := ?v104) rfl (by kernel_rfl) (by kernel_rfl) (by kernel_rfl) (fun _ _ _ h => h) (Or.inl ⟨rfl, ?hy104⟩) hHeld ?rest104
            case hy104 => (intro w _; go_simp <;> rfl)
            (try simp only [PU])
            refine wpAnyH_take (i := 5) (oi := ⟨(some 45), (.move (.tmp 3)), 22, "ref.go:31", #[⟨4, .guard⟩], (some (4, true))⟩) (v := ?v105) rfl (by kernel_rfl) (by kernel_rfl) (by kernel_rfl) (fun _ _ _ h => h) (Or.inl ⟨rfl, ?hy105⟩) hHeld ?rest105
            case hy105 => (intro w _; go_simp <;> rfl)
            (try simp only [PU])
            refine wpAnyH_take (i := 6) (oi := ⟨(some 46), (.move (.tmp 5)), 3, "ref.go:31", #[⟨4, .guard⟩], (some (4, true))⟩) (v := ?v106) rfl (by kernel_rfl) (by kernel_rfl) (by kernel_rfl) (fun _ _ _ h => h) (Or.inl ⟨rfl, ?hy106⟩) hHeld ?rest106
            case hy106 => (intro w _; go_simp <;> rfl)
            (try simp only [PU])
            refine wpAnyH_take (i := 7) (oi := ⟨(some 47), (.indexAddr 22 (.tmp 45) (.tmp 46)), 0, "ref.go:31", #[⟨5, .data⟩, ⟨6, .data⟩, ⟨4, .guard⟩], (some (4, true))⟩) (v := ?v107) rfl (by kernel_rfl) (by kernel_rfl) (by kernel_rfl) (fun _ _ _ h => h) (Or.inl ⟨rfl, ?hy107⟩) hHeld ?rest107
            case hy107 => (intro w _; go_simp <;> first | with_reducible rfl | rw [if_neg (by omega)] | rw [if_pos (by omega)])
            (try simp only [PU])
            refine wpAnyH_take (i := 8) (oi := ⟨(some 48), (.fieldAddr 38 (.tmp 47) 0), 0, "ref.go:31", #[⟨7, .data⟩, ⟨4, .guard⟩], (some (4, true))⟩) (v := ?v108) rfl (by kernel_rfl) (by kernel_rfl) (by kernel_rfl) (fun _ _ _ h => h) (Or.inl ⟨rfl, ?hy108⟩) hHeld ?rest108
            case hy108 => (intro w _; go_simp <;> rfl)
            (try simp only [PU])
            refine wpAnyH_take (i := 9) (oi := ⟨(some 49), (.load 24 (.tmp 48)), 24, "ref.go:31", #[⟨8, .data⟩, ⟨4, .guard⟩], (some (4, true))⟩) (v := ?v109) rfl (by kernel_rfl) (by kernel_rfl) (by kernel_rfl) (fun _ _ _ h => h) (Or.inl ⟨rfl, ?hy109⟩) hHeld ?rest109
            case hy109 => (intro w hSw; (try dsimp only at hSw); go_simp <;> first | with_reducible rfl | rw [if_neg (by omega)] | rw [if_pos (by omega)])
            (try simp only [PU])
            refine wpAnyH_take (i := 10) (oi := ⟨(some 50), (.move (.tmp 0)), 22, "ref.go:31", #[⟨4, .guard⟩], (some (4, true))⟩) (v := ?v110) rfl (by kernel_rfl) (by kernel_rfl) (by kernel_rfl) (fun _ _ _ h => h) (Or.inl ⟨rfl, ?hy110⟩) hHeld ?rest110
            case hy110 => (intro w _; go_simp <;> rfl)
            (try simp only [PU])
            refine wpAnyH_take (i := 11) (oi := ⟨(some 51), (.move (.tmp 4)), 3, "ref.go:31", #[⟨4, .guard⟩], (some (4, true))⟩) (v := ?v111) rfl (by kernel_rfl) (by kernel_rfl) (by kernel_rfl) (fun _ _ _ h => h) (Or.inl ⟨rfl, ?hy111⟩) hHeld ?rest111
            case hy111 => (intro w _; go_simp <;> rfl)
            (try simp only [PU])
            refine wpAnyH_take (i := 12) (oi := ⟨(some 52), (.indexAddr 22 (.tmp 50) (.tmp 51)), 0, "ref.go:31", #[⟨10, .data⟩, ⟨11, .data⟩, ⟨4, .guard⟩], (some (4, true))⟩) (v := ?v112) rfl (by kernel_rfl) (by kernel_rfl) (by kernel_rfl) (fun _ _ _ h => h) (Or.inl ⟨rfl, ?hy112⟩) hHeld ?rest112
            case hy112 => (intro w _; go_simp <;> first | with_reducible rfl | rw [if_neg (by omega)] | rw [if_pos (by omega)])
            (try simp only [PU])
            refine wpAnyH_take (i := 13) (oi := ⟨(some 53), (.fieldAddr 38 (.tmp 52) 0), 0, "ref.go:31", #[⟨12, .data⟩, ⟨4, .guard⟩], (some (4, true))⟩) (v := ?v113) rfl (by kernel_rfl) (by kernel_rfl) (by kernel_rfl) (fun _ _ _ h => h) (Or.inl ⟨rfl, ?hy113⟩) hHeld ?rest113
            case hy113 => (intro w _; go_simp <;> rfl)
            (try simp only [PU])
            refine wpAnyH_take (i := 14) (oi := ⟨(some 54), (.load 24 (.tmp 53)), 24, "ref.go:31", #[⟨13, .data⟩, ⟨4, .guard⟩], (some (4, true))⟩) (v := ?v114) rfl (by kernel_rfl) (by kernel_rfl) (by kernel_rfl) (fun _ _ _ h => h) (Or.inl ⟨rfl, ?hy114⟩) hHeld ?rest114
            case hy114 => (intro w hSw; (try dsimp only at hSw); go_simp <;> first | with_reducible rfl | rw [if_neg (by omega)] | rw [if_pos (by omega)])
            (try simp only [PU])
            refine wpAnyH_ready (rs := [15]) (by kernel_rfl) (by simp) ?_
            refine AllReadyH.cons (o := ⟨(some 55), (.call { callee := (.value (.func 13)), args := #[(.tmp 49), (.tmp 54)], argTypes := #[24, 24] }), 3, "ref.go:31", #[⟨9, .data⟩, ⟨14, .data⟩, ⟨4, .chain⟩, ⟨4, .guard⟩], (some (4, true))⟩) rfl (fun K hK => ?step115x0) ?more115x0
            case more115x0 => exact AllReadyH.nil
            go_simp
            (refine (HOR.out _ ((hxz0.out.trans hE5).trans (by with_reducible repeat (first | exact Ext.refl _ | assumption | refine Ext.drew ?_ | refine Ext.drewN ?_ _ | refine Ext.alloc ?_ _)))).mono ?_; rintro e w66 ⟨rfl, hxw66⟩; replace hxw66 : Ext w5 w66 := Ext.trans (by with_reducible repeat (first | exact Ext.refl _ | assumption | refine Ext.drew ?_ | refine Ext.drewN ?_ _ | refine Ext.alloc ?_ _)) hxw66)
            refine hK.out _ _ ?hS115x0 (fun hHeld115 => ?rest115x0)
            case hS115x0 => first | (exact MKR6.out _ (by with_reducible repeat (first | exact Ext.refl _ | assumption | refine Ext.drew ?_ | refine Ext.drewN ?_ _ | refine Ext.alloc ?_ _))) | ((try dsimp only); (exact MKR6.out _ (by with_reducible repeat (first | exact Ext.refl _ | assumption | refine Ext.drew ?_ | refine Ext.drewN ?_ _ | refine Ext.alloc ?_ _))))
            clear hK K
            clear hHeld
            (try simp only [PU])
            refine wpAnyH_take (i := 16) (oi := ⟨(some 56), (.binOp .eql 3 (.tmp 55) (.const (.int .i64 0)) 3), 4, "ref.go:31", #[⟨15, .data⟩, ⟨4, .guard⟩], (some (4, true))⟩) (v := ?v116) rfl (by kernel_rfl) (by kernel_rfl) (by kernel_rfl) (fun _ _ _ h => h) (Or.inl ⟨rfl, ?hy116⟩) hHeld115 ?rest116
            case hy116 => (intro w _; go_simp <;> first | with_reducible rfl | rw [if_neg (by omega)] | rw [if_pos (by omega)])
            (try simp only [PU])
            refine wpAnyH_take (i := 17) (oi := ⟨(some 57), (.pick (.tmp 44) (.tmp 56) (.const (.bool false))), 4, "ref.go:31", #[⟨4, .data⟩, ⟨16, .data⟩], none⟩) (v := ?v117) rfl (by kernel_rfl) (by kernel_rfl) (by kernel_rfl) (fun _ _ _ h => h) (Or.inl ⟨rfl, ?hy117⟩) hHeld115 ?rest117
            case hy117 => (intro w _; go_simp <;> rfl)
            (try simp only [PU])
            refine wpAnyH_done (by kernel_rfl) ?_ _
            clear hHeld115
            clear MKR6
            obtain ⟨w6, hw6⟩ : ∃ V, V = w66 := ⟨_, rfl⟩
            have hE56 : Ext w5 w6 := by rw [hw6]; exact hxw66
            rw [← hw6]
            clear hw6
            have w6E := w5E.trans hE56
            replace a0 := hE56.cell a0
            replace a1 := hE56.cell a1
            clear hxw66 HOR q0
            have HO5' := Lib.hid (OwnG.ext HO5.out hE56)
            have hb5 := (fun g2 (h2 : v5.ownBlock = some g2) => OwnG.lt HO5.out h2)
            have HB5 := Lib.hid hb5
            have hle56 := hE56.le
            have hlz5 := hE5.le
            have hlwz := wzE.le
            have hpl : p + 1 ≤ 8388608 := by omega
            clear hb5
            have HROW := Lib.hid (fun W (e : Ext w W) => z47_row x.1 (fun b => b < w.heap.size) A' c' W (fun b hb => Nat.lt_of_lt_of_le hb e.le) (HXV.out.ext e) HRL.out)
            have MKC := Lib.hid (fun V (e : Ext w6 V) => (⟨e.cell a0, e.cell a1⟩ : V.cell? ⟨b, o + i * 2, none⟩ = some (.slice A' x.1.length c') ∧ V.cell? ⟨b, o + i * 2 + 1, none⟩ = some (.int .i64 x.2)))
            go_upto_region 12 with (fail)
            refine AnyE.start (S := (fun V => V.cell? ⟨b, o + i * 2, none⟩ = some (.slice A' x.1.length c') ∧ V.cell? ⟨b, o + i * 2 + 1, none⟩ = some (.int .i64 x.2))) (E := 15) (by kernel_rfl) ?hs118 (fun hHeld => ?go118)
            case hs118 => (first | exact MKZ.out _ ((hE5.trans (hE56.trans hd8)).grown hg9 (fun g2 h2 => (HB5.out g2 h2).1)) | exact MK9.out _ (by with_reducible repeat (first | exact Ext.refl _ | assumption | refine Ext.drew ?_ | refine Ext.drewN ?_ _ | refine Ext.alloc ?_ _)) | exact MKC.out _ (by with_reducible repeat (first | exact Ext.refl _ | assumption | refine Ext.drew ?_ | refine Ext.drewN ?_ _ | refine Ext.alloc ?_ _)))
            refine AnyE.takeP (i := 0) (oi := ⟨(some 84), (.move (.tmp 6)), 22, "ref.go:35", #[], none⟩) (v := ?v119) rfl (by kernel_rfl) (by kernel_rfl) (by kernel_rfl) (fun _ _ _ h => h) rfl (Or.inl ⟨rfl, ?hy119⟩) (fun _ => hHeld) ?rest119
            case hy119 => (intro w _; go_simp <;> rfl)
            (try simp only [PU])
            refine AnyE.takeP (i := 1) (oi := ⟨(some 85), (.move (.tmp 0)), 22, "ref.go:35", #[], none⟩) (v := ?v120) rfl (by kernel_rfl) (by kernel_rfl) (by kernel_rfl) (fun _ _ _ h => h) rfl (Or.inl ⟨rfl, ?hy120⟩) (fun _ => hHeld) ?rest120
            case hy120 => (intro w _; go_simp <;> rfl)
            (try simp only [PU])
            refine AnyE.takeP (i := 2) (oi := ⟨(some 86), (.move (.tmp 4)), 3, "ref.go:35", #[], none⟩) (v := ?v121) rfl (by kernel_rfl) (by kernel_rfl) (by kernel_rfl) (fun _ _ _ h => h) rfl (Or.inl ⟨rfl, ?hy121⟩) (fun _ => hHeld) ?rest121
            case hy121 => (intro w _; go_simp <;> rfl)
            (try simp only [PU])
            refine AnyE.takeP (i := 3) (oi := ⟨(some 87), (.indexAddr 22 (.tmp 85) (.tmp 86)), 0, "ref.go:35", #[⟨1, .data⟩, ⟨2, .data⟩], none⟩) (v := ?v122) rfl (by kernel_rfl) (by kernel_rfl) (by kernel_rfl) (fun _ _ _ h => h) rfl (Or.inl ⟨rfl, ?hy122⟩) (fun _ => hHeld) ?rest122
            case hy122 => (intro w _; go_simp <;> first | with_reducible rfl | rw [if_neg (by omega)] | rw [if_pos (by omega)])
            (try simp only [PU])
            refine AnyE.takeP (i := 4) (oi := ⟨(some 88), (.fieldAddr 38 (.tmp 87) 0), 0, "ref.go:35", #[⟨3, .data⟩], none⟩) (v := ?v123) rfl (by kernel_rfl) (by kernel_rfl) (by kernel_rfl) (fun _ _ _ h => h) rfl (Or.inl ⟨rfl, ?hy123⟩) (fun _ => hHeld) ?rest123
            case hy123 => (intro w _; go_simp <;> rfl)
            (try simp only [PU])
            refine AnyE.take (i := 5) (oi := ⟨(some 89), (.load 24 (.tmp 88)), 24, "ref.go:35", #[⟨4, .data⟩], none⟩) (v := ?v124) rfl (by kernel_rfl) (by kernel_rfl) (by kernel_rfl) (fun _ _ _ h => h) (by kernel_rfl) rfl (by kernel_rfl) (Or.inl ⟨rfl, ?hy124⟩) hHeld ?rest124
            case hy124 => (intro w hSw; (try dsimp only at hSw); go_simp <;> first | with_reducible rfl | rw [if_neg (by omega)] | rw [if_pos (by omega)])
            (try simp only [PU])
            refine AnyE.takeP (i := 7) (oi := ⟨(some 91), (.move (.tmp 0)), 22, "ref.go:35", #[], none⟩) (v := ?v125) rfl (by kernel_rfl) (by kernel_rfl) (by kernel_rfl) (fun _ _ _ h => h) rfl (Or.inl ⟨rfl, ?hy125⟩) (fun _ => hHeld) ?rest125
            case hy125 => (intro w _; go_simp <;> rfl)
            (try simp only [PU])
            refine AnyE.takeP (i := 8) (oi := ⟨(some 92), (.move (.tmp 4)), 3, "ref.go:35", #[], none⟩) (v := ?v126) rfl (by kernel_rfl) (by kernel_rfl) (by kernel_rfl) (fun _ _ _ h => h) rfl (Or.inl ⟨rfl, ?hy126⟩) (fun _ => hHeld) ?rest126
            case hy126 => (intro w _; go_simp <;> rfl)
            (try simp only [PU])
            refine AnyE.takeP (i := 9) (oi := ⟨(some 93), (.indexAddr 22 (.tmp 91) (.tmp 92)), 0, "ref.go:35", #[⟨7, .data⟩, ⟨8, .data⟩], none⟩) (v := ?v127) rfl (by kernel_rfl) (by kernel_rfl) (by kernel_rfl) (fun _ _ _ h => h) rfl (Or.inl ⟨rfl, ?hy127⟩) (fun _ => hHeld) ?rest127
            case hy127 => (intro w _; go_simp <;> first | with_reducible rfl | rw [if_neg (by omega)] | rw [if_pos (by omega)])
            (try simp only [PU])
            refine AnyE.takeP (i := 10) (oi := ⟨(some 94), (.fieldAddr 38 (.tmp 93) 1), 0, "ref.go:35", #[⟨9, .data⟩], none⟩) (v := ?v128) rfl (by kernel_rfl) (by kernel_rfl) (by kernel_rfl) (fun _ _ _ h => h) rfl (Or.inl ⟨rfl, ?hy128⟩) (fun _ => hHeld) ?rest128
            case hy128 => (intro w _; go_simp <;> rfl)
            (try simp only [PU])
            refine AnyE.take (i := 11) (oi := ⟨(some 95), (.load 3 (.tmp 94)), 3, "ref.go:35", #[⟨10, .data⟩], none⟩) (v := ?v129) rfl (by kernel_rfl) (by kernel_rfl) (by kernel_rfl) (fun _ _ _ h => h) (by kernel_rfl) rfl (by kernel_rfl) (Or.inl ⟨rfl, ?hy129⟩) hHeld ?rest129
            case hy129 => (intro w hSw; (try dsimp only at hSw); go_simp <;> first | with_reducible rfl | rw [if_neg (by omega)] | rw [if_pos (by omega)])
            (try simp only [PU])
            refine AnyE.ready (rs := [6]) (by kernel_rfl) (by simp) ?_
            refine AllE.cons (o := ⟨(some 90), (.call { callee := (.value (.func 33)), args := #[(.tmp 89)], argTypes := #[24] }), 24, "ref.go:35", #[⟨5, .data⟩], none⟩) rfl (fun K hK => ?step130x0) ?more130x0
            case more130x0 => exact AllE.nil
            go_simp
            (refine (HROW.out _ (w6E.trans (by with_reducible repeat (first | exact Ext.refl _ | assumption | refine Ext.drew ?_ | refine Ext.drewN ?_ _ | refine Ext.alloc ?_ _)))).mono ?_; rintro e w8 ⟨A5, c5, rfl, hle5, hV5, hx8⟩; have hd8 : Ext w6 w8 := Ext.trans (by with_reducible repeat (first | exact Ext.refl _ | assumption | refine Ext.drew ?_ | refine Ext.drewN ?_ _ | refine Ext.alloc ?_ _)) hx8; have MK9 := Lib.hid (fun V (e : Ext w8 V) => MKC.out V (hd8.trans e)))
            refine hK.out _ _ ?hS130x0 (fun hHeld130 => ?rest130x0)
            case hS130x0 => intro _; first | (first | exact MKZ.out _ ((hE5.trans (hE56.trans hd8)).grown hg9 (fun g2 h2 => (HB5.out g2 h2).1)) | exact MK9.out _ (by with_reducible repeat (first | exact Ext.refl _ | assumption | refine Ext.drew ?_ | refine Ext.drewN ?_ _ | refine Ext.alloc ?_ _)) | exact MKC.out _ (by with_reducible repeat (first | exact Ext.refl _ | assumption | refine Ext.drew ?_ | refine Ext.drewN ?_ _ | refine Ext.alloc ?_ _))) | ((try dsimp only); (first | exact MKZ.out _ ((hE5.trans (hE56.trans hd8)).grown hg9 (fun g2 h2 => (HB5.out g2 h2).1)) | exact MK9.out _ (by with_reducible repeat (first | exact Ext.refl _ | assumption | refine Ext.drew ?_ | refine Ext.drewN ?_ _ | refine Ext.alloc ?_ _)) | exact MKC.out _ (by with_reducible repeat (first | exact Ext.refl _ | assumption | refine Ext.drew ?_ | refine Ext.drewN ?_ _ | refine Ext.alloc ?_ _))))
            clear hK K
            clear hHeld
            (try simp only [PU])
            refine AnyE.takeP (i := 12) (oi := ⟨(some 96), (.build 38 #[(0, (.tmp 90)), (1, (.tmp 95))]), 38, "ref.go:35", #[⟨6, .data⟩, ⟨11, .data⟩], none⟩) (v := ?v131) rfl (by kernel_rfl) (by kernel_rfl) (by kernel_rfl) (fun _ _ _ h => h) rfl (Or.inl ⟨rfl, ?hy131⟩) (fun _ => (hHeld130 (by kernel_rfl))) ?rest131
            case hy131 => (intro w _; go_simp <;> rfl)
            (try simp only [PU])
            refine AnyE.ready (rs := [13]) (by kernel_rfl) (by simp) ?_
            refine AllE.cons (o := ⟨(some 97), (.buildSlice 22 1 #[(0, (.tmp 96))]), 22, "ref.go:35", #[⟨12, .data⟩], none⟩) rfl (fun K hK => ?step132x0) ?more132x0
            case more132x0 => exact AllE.nil
            go_simp
            refine hK.out _ _ ?hS132x0 (fun hHeld132 => ?rest132x0)
            case hS132x0 => intro _; first | (first | exact MKZ.out _ ((hE5.trans (hE56.trans hd8)).grown hg9 (fun g2 h2 => (HB5.out g2 h2).1)) | exact MK9.out _ (by with_reducible repeat (first | exact Ext.refl _ | assumption | refine Ext.drew ?_ | refine Ext.drewN ?_ _ | refine Ext.alloc ?_ _)) | exact MKC.out _ (by with_reducible repeat (first | exact Ext.refl _ | assumption | refine Ext.drew ?_ | refine Ext.drewN ?_ _ | refine Ext.alloc ?_ _))) | ((try dsimp only); (first | exact MKZ.out _ ((hE5.trans (hE56.trans hd8)).grown hg9 (fun g2 h2 => (HB5.out g2 h2).1)) | exact MK9.out _ (by with_reducible repeat (first | exact Ext.refl _ | assumption | refine Ext.drew ?_ | refine Ext.drewN ?_ _ | refine Ext.alloc ?_ _)) | exact MKC.out _ (by with_reducible repeat (first | exact Ext.refl _ | assumption | refine Ext.drew ?_ | refine Ext.drewN ?_ _ | refine Ext.alloc ?_ _))))
            clear hK K
            clear hHeld130
            (try simp only [PU])
            refine AnyE.ready (rs := [14]) (by kernel_rfl) (by simp) ?_
            refine AllE.cons (o := ⟨(some 98), (.call { callee := (.builtin .append), args := #[(.tmp 84), (.tmp 97)], argTypes := #[22, 22] }), 22, "ref.go:35", #[⟨0, .data⟩, ⟨13, .data⟩, ⟨6, .chain⟩], none⟩) rfl (fun K hK => ?step133x0) ?more133x0
            case more133x0 => exact AllE.nil
            (refine step_pushG (v := v5) (hs := hs.take p) T_sg rfl (.tmp 84) (.tmp 97) rfl w8 rfl (OwnG.ext HO5'.out hd8) (by have := hd8.le; omega) ⟨A5, c5, x⟩ ⟨hle5, hV5.to (fun b2 hb2 => ⟨trivial, fun e2 => by have h3 := (HB5.out b2 e2.symm).2; have h4 := (HB5.out b2 e2.symm).1; have h5 : w6.heap.size ≤ b2 ∨ b2 < w.heap.size := hb2; omega⟩)⟩ rfl _ rfl rfl (by rw [HLT8.out]; exact hpl) (by decide) ?_; intro v6 w9 hO9 hg9 hd9)
            refine hK.out _ _ ?hS133x0 (fun hHeld133 => ?rest133x0)
            case hS133x0 => intro _; first | (first | exact MKZ.out _ ((hE5.trans (hE56.trans hd8)).grown hg9 (fun g2 h2 => (HB5.out g2 h2).1)) | exact MK9.out _ (by with_reducible repeat (first | exact Ext.refl _ | assumption | refine Ext.drew ?_ | refine Ext.drewN ?_ _ | refine Ext.alloc ?_ _)) | exact MKC.out _ (by with_reducible repeat (first | exact Ext.refl _ | assumption | refine Ext.drew ?_ | refine Ext.drewN ?_ _ | refine Ext.alloc ?_ _))) | ((try dsimp only); (first | exact MKZ.out _ ((hE5.trans (hE56.trans hd8)).grown hg9 (fun g2 h2 => (HB5.out g2 h2).1)) | exact MK9.out _ (by with_reducible repeat (first | exact Ext.refl _ | assumption | refine Ext.drew ?_ | refine Ext.drewN ?_ _ | refine Ext.alloc ?_ _)) | exact MKC.out _ (by with_reducible repeat (first | exact Ext.refl _ | assumption | refine Ext.drew ?_ | refine Ext.drewN ?_ _ | refine Ext.alloc ?_ _))))
            clear hK K
            clear hHeld132
            (try simp only [PU])
            refine AnyE.ready (rs := [15]) (by kernel_rfl) (by simp) ?_
            refine AllE.cons (o := ⟨(some 6), (.assign (.tmp 98)), 22, "ref.go:35", #[⟨14, .data⟩, ⟨14, .chain⟩, ⟨0, .phase⟩, ⟨1, .phase⟩, ⟨2, .phase⟩, ⟨3, .phase⟩, ⟨4, .phase⟩, ⟨5, .phase⟩, ⟨6, .phase⟩, ⟨7, .phase⟩, ⟨8, .phase⟩, ⟨9, .phase⟩, ⟨10, .phase⟩, ⟨11, .phase⟩, ⟨12, .phase⟩, ⟨13, .phase⟩, ⟨14, .phase⟩], none⟩) rfl (fun K hK => ?step134x0) ?more134x0
            case more134x0 => exact AllE.nil
            go_simp
            refine hK.out _ _ ?hS134x0 (fun hHeld134 => ?rest134x0)
            case hS134x0 => first | (intro h; exact absurd h (by decide)) | (intro h; simp at h)
            clear hK K
            clear hHeld133
            (try simp only [PU])
            refine AnyE.done (by kernel_rfl) ?_ _
            clear hHeld134
            have HO9 := Lib.hid hO9
            have hEz9 : Ext wz w9 := (hE5.trans (hE56.trans hd8)).grown hg9 (fun g2 h2 => (HB5.out g2 h2).1)
            have HFIN := Lib.hid (show (hs.take p ++ [(⟨A5, c5, x⟩ : HSg)] ++ hs.drop p).map HSg.x = sumZ (z.take (i + 1)) by rw [HTK.out, sumZ_snoc, ← HM.out]; exact zi_ins hs p hpn hgd.out HHI.out _ rfl)
            clear hO9 hg9 hd9 HROW MKC a0 a1
            by_cases hck : c0 = p
            · go_upto_region 4 with (at_builtin; go_loud (refine own_catG (v := v6) T_sg rfl (.tmp 99) (.tmp 102) rfl rfl HO9.out (by have := hEz9.le; omega) (some ⟨g, 0, none⟩) (hs.length - (p)) _ (hs.drop (p)) rfl (by rw [List.length_drop]) (fun h => by cases h) (OwnG.dropC (OwnG.ext HOZ.out hEz9) (p) 0 (by omega) (.inr (by omega))) (fun q hq => lies_new (u := v6) HOZ.out hEz9 (fun g2 h2 => (OwnG.lt HO9.out h2).1) q (List.mem_of_mem_drop hq)) (by rw [List.length_append, HLT8.out]; simp; omega) (by decide) ?_); intro v7 w7 hO7 hg7 hd7)
              have hE7 : Ext wz w7 := hEz9.grown hg7 (fun g2 h2 => (OwnG.lt HO9.out h2).1)
              have HO7 := Lib.hid (OwnG.mono hO7 wzE.le)
              have HE7 := Lib.hid (wzE.trans hE7)
              clear hO7 hg7 hd7 HO9 hE7
              go_wp2_with fail
              go_roundw
              case rel => exact ⟨i + 1, _, by go_num, by omega, HO7, HFIN, HE7.out⟩
              case measure => simp [intOf]; omega
            · go_upto_region 4 with (at_builtin; go_loud (refine own_catG (v := v6) T_sg rfl (.tmp 99) (.tmp 102) rfl rfl HO9.out (by have := hEz9.le; omega) (some ⟨g, (p) * 2, none⟩) (hs.length - (p)) _ (hs.drop (p)) rfl (by rw [List.length_drop]) (fun h => by cases h) (OwnG.dropC (OwnG.ext HOZ.out hEz9) (p) ((p) * 2) (by omega) (.inl rfl)) (fun q hq => lies_new (u := v6) HOZ.out hEz9 (fun g2 h2 => (OwnG.lt HO9.out h2).1) q (List.mem_of_mem_drop hq)) (by rw [List.length_append, HLT8.out]; simp; omega) (by decide) ?_); intro v7 w7 hO7 hg7 hd7)
              have hE7 : Ext wz w7 := hEz9.grown hg7 (fun g2 h2 => (OwnG.lt HO9.out h2).1)
              have HO7 := Lib.hid (OwnG.mono hO7 wzE.le)
              have HE7 := Lib.hid (wzE.trans hE7)
              clear hO7 hg7 hd7 HO9 hE7
              go_wp2_with fail
              go_roundw
              case rel => exact ⟨i + 1, _, by go_num, by omega, HO7, HFIN, HE7.out⟩
              case measure => simp [intOf]; omega
        · have hpe : p = hs.length := by omega
          have HHI := Lib.hid (fun (h : p < hs.length) => (absurd h (by omega) : 0 < ordL (hs.map HSg.x)[p]!.1 x.1))
          have hnl : ¬ (p : Int) < (hs.length : Int) := by omega
          have hpe1 : p ≤ hs.length := by omega
          have hpe2 : hs.length ≤ p := by omega
          clear hpe
          go_upto_region 6 with (fail)
          have MKR8 := Lib.hid (fun V (e : Ext wr V) => (⟨e.cell a0, e⟩ : V.cell? ⟨b, o + i * 2, none⟩ = some (.slice A' x.1.length c') ∧ Ext wr V))
          refine wp_region_held_drew (S := (fun V => V.cell? ⟨b, o + i * 2, none⟩ = some (.slice A' x.1.length c') ∧ Ext wr V)) (by kernel_rfl) ?hs135 (fun hHeld => ?go135)
          case hs135 => (exact MKR8.out _ (by with_reducible repeat (first | exact Ext.refl _ | assumption | refine Ext.drew ?_ | refine Ext.drewN ?_ _ | refine Ext.alloc ?_ _)))
          refine wpAnyH_take (i := 0) (oi := ⟨(some 15), (.move (.tmp 5)), 3, "ref.go:27", #[], none⟩) (v := ?v136) rfl (by kernel_rfl) (by kernel_rfl) (by kernel_rfl) (fun _ _ _ h => h) (Or.inl ⟨rfl, ?hy136⟩) hHeld ?rest136
          case hy136 => (intro w _; go_simp <;> rfl)
          (try simp only [PU])
          refine wpAnyH_take (i := 1) (oi := ⟨(some 16), (.move (.tmp 3)), 22, "ref.go:27", #[], none⟩) (v := ?v137) rfl (by kernel_rfl) (by kernel_rfl) (by kernel_rfl) (fun _ _ _ h => h) (Or.inl ⟨rfl, ?hy137⟩) hHeld ?rest137
          case hy137 => (intro w _; go_simp <;> rfl)
          (try simp only [PU])
          refine wpAnyH_take (i := 2) (oi := ⟨(some 17), (.call { callee := (.builtin .len), args := #[(.tmp 16)], argTypes := #[22] }), 3, "ref.go:27", #[⟨1, .data⟩], none⟩) (v := ?v138) rfl (by kernel_rfl) (by kernel_rfl) (by kernel_rfl) (fun _ _ _ h => h) (Or.inl ⟨rfl, ?hy138⟩) hHeld ?rest138
          case hy138 => (intro w _; go_simp <;> first | with_reducible rfl | rw [if_neg (by omega)] | rw [if_pos (by omega)])
          (try simp only [PU])
          refine wpAnyH_take (i := 3) (oi := ⟨(some 18), (.binOp .lss 3 (.tmp 15) (.tmp 17) 3), 4, "ref.go:27", #[⟨0, .data⟩, ⟨2, .data⟩], none⟩) (v := ?v139) rfl (by kernel_rfl) (by kernel_rfl) (by kernel_rfl) (fun _ _ _ h => h) (Or.inl ⟨rfl, ?hy139⟩) hHeld ?rest139
          case hy139 => (intro w _; go_simp <;> first | with_reducible rfl | rw [if_neg (by omega)] | rw [if_pos (by omega)])
          (try simp only [PU])
          refine wpAnyH_take (i := 4) (oi := ⟨(some 19), (.move (.tmp 18)), 4, "ref.go:27", #[⟨3, .data⟩], none⟩) (v := ?v140) rfl (by kernel_rfl) (by kernel_rfl) (by kernel_rfl) (fun _ _ _ h => h) (Or.inl ⟨rfl, ?hy140⟩) hHeld ?rest140
          case hy140 => (intro w _; go_simp <;> rfl)
          (try simp only [PU])
          refine wpAnyH_take (i := 5) (oi := ⟨(some 20), (.move (.tmp 3)), 22, "ref.go:27", #[⟨4, .guard⟩], (some (4, true))⟩) (v := undef) rfl (by kernel_rfl) (by kernel_rfl) (by kernel_rfl) (fun _ _ _ h => h) (Or.inr ⟨rfl, rfl⟩) hHeld ?rest141
          (try simp only [PU])
          refine wpAnyH_take (i := 6) (oi := ⟨(some 21), (.move (.tmp 5)), 3, "ref.go:27", #[⟨4, .guard⟩], (some (4, true))⟩) (v := undef) rfl (by kernel_rfl) (by kernel_rfl) (by kernel_rfl) (fun _ _ _ h => h) (Or.inr ⟨rfl, rfl⟩) hHeld ?rest142
          (try simp only [PU])
          refine wpAnyH_take (i := 7) (oi := ⟨(some 22), (.indexAddr 22 (.tmp 20) (.tmp 21)), 0, "ref.go:27", #[⟨5, .data⟩, ⟨6, .data⟩, ⟨4, .guard⟩], (some (4, true))⟩) (v := undef) rfl (by kernel_rfl) (by kernel_rfl) (by kernel_rfl) (fun _ _ _ h => h) (Or.inr ⟨rfl, rfl⟩) hHeld ?rest143
          (try simp only [PU])
          refine wpAnyH_take (i := 8) (oi := ⟨(some 23), (.fieldAddr 38 (.tmp 22) 0), 0, "ref.go:27", #[⟨7, .data⟩, ⟨4, .guard⟩], (some (4, true))⟩) (v := undef) rfl (by kernel_rfl) (by kernel_rfl) (by kernel_rfl) (fun _ _ _ h => h) (Or.inr ⟨rfl, rfl⟩) hHeld ?rest144
          (try simp only [PU])
          refine wpAnyH_take (i := 9) (oi := ⟨(some 24), (.load 24 (.tmp 23)), 24, "ref.go:27", #[⟨8, .data⟩, ⟨4, .guard⟩], (some (4, true))⟩) (v := undef) rfl (by kernel_rfl) (by kernel_rfl) (by kernel_rfl) (fun _ _ _ h => h) (Or.inr ⟨rfl, rfl⟩) hHeld ?rest145
          (try simp only [PU])
          refine wpAnyH_take (i := 10) (oi := ⟨(some 25), (.move (.tmp 0)), 22, "ref.go:27", #[⟨4, .guard⟩], (some (4, true))⟩) (v := undef) rfl (by kernel_rfl) (by kernel_rfl) (by kernel_rfl) (fun _ _ _ h => h) (Or.inr ⟨rfl, rfl⟩) hHeld ?rest146
          (try simp only [PU])
          refine wpAnyH_take (i := 11) (oi := ⟨(some 26), (.move (.tmp 4)), 3, "ref.go:27", #[⟨4, .guard⟩], (some (4, true))⟩) (v := undef) rfl (by kernel_rfl) (by kernel_rfl) (by kernel_rfl) (fun _ _ _ h => h) (Or.inr ⟨rfl, rfl⟩) hHeld ?rest147
          (try simp only [PU])
          refine wpAnyH_take (i := 12) (oi := ⟨(some 27), (.indexAddr 22 (.tmp 25) (.tmp 26)), 0, "ref.go:27", #[⟨10, .data⟩, ⟨11, .data⟩, ⟨4, .guard⟩], (some (4, true))⟩) (v := undef) rfl (by kernel_rfl) (by kernel_rfl) (by kernel_rfl) (fun _ _ _ h => h) (Or.inr ⟨rfl, rfl⟩) hHeld ?rest148
          (try simp only [PU])
          refine wpAnyH_take (i := 13) (oi := ⟨(some 28), (.fieldAddr 38 (.tmp 27) 0), 0, "ref.go:27", #[⟨12, .data⟩, ⟨4, .guard⟩], (some (4, true))⟩) (v := undef) rfl (by kernel_rfl) (by kernel_rfl) (by kernel_rfl) (fun _ _ _ h => h) (Or.inr ⟨rfl, rfl⟩) hHeld ?rest149
          (try simp only [PU])
          refine wpAnyH_take (i := 14) (oi := ⟨(some 29), (.load 24 (.tmp 28)), 24, "ref.go:27", #[⟨13, .data⟩, ⟨4, .guard⟩], (some (4, true))⟩) (v := undef) rfl (by kernel_rfl) (by kernel_rfl) (by kernel_rfl) (fun _ _ _ h => h) (Or.inr ⟨rfl, rfl⟩) hHeld ?rest150
          (try simp only [PU])
          refine wpAnyH_take (i := 15) (oi := ⟨(some 30), (.call { callee := (.value (.func 13)), args := #[(.tmp 24), (.tmp 29)], argTypes := #[24, 24] }), 3, "ref.go:27", #[⟨9, .data⟩, ⟨14, .data⟩, ⟨4, .chain⟩, ⟨4, .guard⟩], (some (4, true))⟩) (v := undef) rfl (by kernel_rfl) (by kernel_rfl) (by kernel_rfl) (fun _ _ _ h => h) (Or.inr ⟨rfl, rfl⟩) hHeld ?rest151
          (try simp only [PU])
          refine wpAnyH_take (i := 16) (oi := ⟨(some 31), (.binOp .lss 3 (.tmp 30) (.const (.int .i64 0)) 3), 4, "ref.go:27", #[⟨15, .data⟩, ⟨4, .guard⟩], (some (4, true))⟩) (v := undef) rfl (by kernel_rfl) (by kernel_rfl) (by kernel_rfl) (fun _ _ _ h => h) (Or.inr ⟨rfl, rfl⟩) hHeld ?rest152
          (try simp only [PU])
          refine wpAnyH_take (i := 17) (oi := ⟨(some 32), (.pick (.tmp 19) (.tmp 31) (.const (.bool false))), 4, "ref.go:27", #[⟨4, .data⟩, ⟨16, .data⟩], none⟩) (v := ?v153) rfl (by kernel_rfl) (by kernel_rfl) (by kernel_rfl) (fun _ _ _ h => h) (Or.inl ⟨rfl, ?hy153⟩) hHeld ?rest153
          case hy153 => (intro w _; go_simp <;> rfl)
          (try simp only [PU])
          refine wpAnyH_done (by kernel_rfl) ?_ _
          clear hHeld
          clear MKR8
          go_upto_region 8 with (fail)
          obtain ⟨wz, hwz⟩ : ∃ V, V = wr.drew := ⟨_, rfl⟩
          have hxz : Ext wr wz := by rw [hwz]; exact (Ext.refl _).drew
          rw [← hwz]
          clear hwz
          have wzE := hEr.trans hxz
          have HOZ := Lib.hid (OwnG.ext HOV.out hxz)
          replace a0 := hxz.cell a0
          replace a1 := hxz.cell a1
          have hxz0 := Lib.hid hxz
          have MKZ := Lib.hid (fun V (e : Ext wz V) => (⟨e.cell a0, e.cell a1⟩ : V.cell? ⟨b, o + i * 2, none⟩ = some (.slice A' x.1.length c') ∧ V.cell? ⟨b, o + i * 2 + 1, none⟩ = some (.int .i64 x.2)))
          clear hxz
          have HPE2 := Lib.hid hpe2
          rcases HOZ.out.own.2 with ⟨hv0, h0⟩ | ⟨g, cap, cur, hv0, -⟩
          · injection hv0 with h1 h2 h3
            subst h1 h3
            have HN0 := Lib.hid h0
            have HP0 := Lib.hid (show p = 0 by omega)
            have hpn : p ≤ hs.length := by omega
            have hlt8 : ((hs.take p).length) = p := by rw [List.length_take]; omega
            have HLT8 := Lib.hid hlt8
            clear hlt8
            go_upto_region 9 with (at_builtin; go_loud (refine own_catG (v := .slice (some ⟨wz.heap.size, 0, none⟩) 0 0) (hs := ([] : List HSg)) T_sg rfl (.tmp 35) (.tmp 38) rfl rfl (OwnG.made KSg _ wz wz.heap.size (fun _ => True) (Nat.le_refl _)) (by simp) none p 0 (hs.take p) rfl HLT8.out.symm (fun _ => HP0.out) (fun ad h => by cases h) (fun q hq => lies_new (u := .slice (some ⟨wz.heap.size, 0, none⟩) 0 0) HOZ.out ((Ext.refl _).alloc _) (fun g2 h2 => Nat.le_of_eq (Option.some.inj h2)) q (List.mem_of_mem_take hq)) (by simp <;> omega) (by decide) ?_); intro v5 w5 hO5 hg5 hd5)
            rw [List.nil_append] at hO5
            have hE5 : Ext wz w5 := ((Ext.refl _).alloc _).grown hg5 (fun g2 h2 => Nat.le_of_eq (Option.some.inj h2))
            have HO5 := Lib.hid hO5
            have w5E := wzE.trans hE5
            replace a0 := hE5.cell a0
            replace a1 := hE5.cell a1
            clear hO5 hg5 hd5
            have MKR9 := Lib.hid (fun V (e : Ext w5 V) => (⟨e.cell a0, e⟩ : V.cell? ⟨b, o + i * 2, none⟩ = some (.slice A' x.1.length c') ∧ Ext w5 V))
            refine wp_region_held_drew (S := (fun V => V.cell? ⟨b, o + i * 2, none⟩ = some (.slice A' x.1.length c') ∧ Ext w5 V)) (by kernel_rfl) ?hs154 (fun hHeld => ?go154)
            case hs154 => (exact MKR9.out _ (by with_reducible repeat (first | exact Ext.refl _ | assumption | refine Ext.drew ?_ | refine Ext.drewN ?_ _ | refine Ext.alloc ?_ _)))
            refine wpAnyH_take (i := 0) (oi := ⟨(some 40), (.move (.tmp 5)), 3, "ref.go:31", #[], none⟩) (v := ?v155) rfl (by kernel_rfl) (by kernel_rfl) (by kernel_rfl) (fun _ _ _ h => h) (Or.inl ⟨rfl, ?hy155⟩) hHeld ?rest155
            case hy155 => (intro w _; go_simp <;> rfl)
            (try simp only [PU])
            refine wpAnyH_take (i := 1) (oi := ⟨(some 41), (.move (.tmp 3)), 22, "ref.go:31", #[], none⟩) (v := ?v156) rfl (by kernel_rfl) (by kernel_rfl) (by kernel_rfl) (fun _ _ _ h => h) (Or.inl ⟨rfl, ?hy156⟩) hHeld ?rest156
            case hy156 => (intro w _; go_simp <;> rfl)
            (try simp only [PU])
            refine wpAnyH_take (i := 2) (oi := ⟨(some 42), (.call { callee := (.builtin .len), args := #[(.tmp 41)], argTypes := #[22] }), 3, "ref.go:31", #[⟨1, .data⟩], none⟩) (v := ?v157) rfl (by kernel_rfl) (by kernel_rfl) (by kernel_rfl) (fun _ _ _ h => h) (Or.inl ⟨rfl, ?hy157⟩) hHeld ?rest157
            case hy157 => (intro w _; go_simp <;> first | with_reducible rfl | rw [if_neg (by omega)] | rw [if_pos (by omega)])
            (try simp only [PU])
            refine wpAnyH_take (i := 3) (oi := ⟨(some 43), (.binOp .lss 3 (.tmp 40) (.tmp 42) 3), 4, "ref.go:31", #[⟨0, .data⟩, ⟨2, .data⟩], none⟩) (v := ?v158) rfl (by kernel_rfl) (by kernel_rfl) (by kernel_rfl) (fun _ _ _ h => h) (Or.inl ⟨rfl, ?hy158⟩) hHeld ?rest158
            case hy158 => (intro w _; go_simp <;> first | with_reducible rfl | rw [if_neg (by omega)] | rw [if_pos (by omega)])
            (try simp only [PU])
            refine wpAnyH_take (i := 4) (oi := ⟨(some 44), (.move (.tmp 43)), 4, "ref.go:31", #[⟨3, .data⟩], none⟩) (v := ?v159) rfl (by kernel_rfl) (by kernel_rfl) (by kernel_rfl) (fun _ _ _ h => h) (Or.inl ⟨rfl, ?hy159⟩) hHeld ?rest159
            case hy159 => (intro w _; go_simp <;> rfl)
            (try simp only [PU])
            refine wpAnyH_take (i := 5) (oi := ⟨(some 45), (.move (.tmp 3)), 22, "ref.go:31", #[⟨4, .guard⟩], (some (4, true))⟩) (v := undef) rfl (by kernel_rfl) (by kernel_rfl) (by kernel_rfl) (fun _ _ _ h => h) (Or.inr ⟨rfl, rfl⟩) hHeld ?rest160
            (try simp only [PU])
            refine wpAnyH_take (i := 6) (oi := ⟨(some 46), (.move (.tmp 5)), 3, "ref.go:31", #[⟨4, .guard⟩], (some (4, true))⟩) (v := undef) rfl (by kernel_rfl) (by kernel_rfl) (by kernel_rfl) (fun _ _ _ h => h) (Or.inr ⟨rfl, rfl⟩) hHeld ?rest161
            (try simp only [PU])
            refine wpAnyH_take (i := 7) (oi := ⟨(some 47), (.indexAddr 22 (.tmp 45) (.tmp 46)), 0, "ref.go:31", #[⟨5, .data⟩, ⟨6, .data⟩, ⟨4, .guard⟩], (some (4, true))⟩) (v := undef) rfl (by kernel_rfl) (by kernel_rfl) (by kernel_rfl) (fun _ _ _ h => h) (Or.inr ⟨rfl, rfl⟩) hHeld ?rest162
            (try simp only [PU])
            refine wpAnyH_take (i := 8) (oi := ⟨(some 48), (.fieldAddr 38 (.tmp 47) 0), 0, "ref.go:31", #[⟨7, .data⟩, ⟨4, .guard⟩], (some (4, true))⟩) (v := undef) rfl (by kernel_rfl) (by kernel_rfl) (by kernel_rfl) (fun _ _ _ h => h) (Or.inr ⟨rfl, rfl⟩) hHeld ?rest163
            (try simp only [PU])
            refine wpAnyH_take (i := 9) (oi := ⟨(some 49), (.load 24 (.tmp 48)), 24, "ref.go:31", #[⟨8, .data⟩, ⟨4, .guard⟩], (some (4, true))⟩) (v := undef) rfl (by kernel_rfl) (by kernel_rfl) (by kernel_rfl) (fun _ _ _ h => h) (Or.inr ⟨rfl, rfl⟩) hHeld ?rest164
            (try simp only [PU])
            refine wpAnyH_take (i := 10) (oi := ⟨(some 50), (.move (.tmp 0)), 22, "ref.go:31", #[⟨4, .guard⟩], (some (4, true))⟩) (v := undef) rfl (by kernel_rfl) (by kernel_rfl) (by kernel_rfl) (fun _ _ _ h => h) (Or.inr ⟨rfl, rfl⟩) hHeld ?rest165
            (try simp only [PU])
            refine wpAnyH_take (i := 11) (oi := ⟨(some 51), (.move (.tmp 4)), 3, "ref.go:31", #[⟨4, .guard⟩], (some (4, true))⟩) (v := undef) rfl (by kernel_rfl) (by kernel_rfl) (by kernel_rfl) (fun _ _ _ h => h) (Or.inr ⟨rfl, rfl⟩) hHeld ?rest166
            (try simp only [PU])
            refine wpAnyH_take (i := 12) (oi := ⟨(some 52), (.indexAddr 22 (.tmp 50) (.tmp 51)), 0, "ref.go:31", #[⟨10, .data⟩, ⟨11, .data⟩, ⟨4, .guard⟩], (some (4, true))⟩) (v := undef) rfl (by kernel_rfl) (by kernel_rfl) (by kernel_rfl) (fun _ _ _ h => h) (Or.inr ⟨rfl, rfl⟩) hHeld ?rest167
            (try simp only [PU])
            refine wpAnyH_take (i := 13) (oi := ⟨(some 53), (.fieldAddr 38 (.tmp 52) 0), 0, "ref.go:31", #[⟨12, .data⟩, ⟨4, .guard⟩], (some (4, true))⟩) (v := undef) rfl (by kernel_rfl) (by kernel_rfl) (by kernel_rfl) (fun _ _ _ h => h) (Or.inr ⟨rfl, rfl⟩) hHeld ?rest168
            (try simp only [PU])
            refine wpAnyH_take (i := 14) (oi := ⟨(some 54), (.load 24 (.tmp 53)), 24, "ref.go:31", #[⟨13, .data⟩, ⟨4, .guard⟩], (some (4, true))⟩) (v := undef) rfl (by kernel_rfl) (by kernel_rfl) (by kernel_rfl) (fun _ _ _ h => h) (Or.inr ⟨rfl, rfl⟩) hHeld ?rest169
            (try simp only [PU])
            refine wpAnyH_take (i := 15) (oi := ⟨(some 55), (.call { callee := (.value (.func 13)), args := #[(.tmp 49), (.tmp 54)], argTypes := #[24, 24] }), 3, "ref.go:31", #[⟨9, .data⟩, ⟨14, .data⟩, ⟨4, .chain⟩, ⟨4, .guard⟩], (some (4, true))⟩) (v := undef) rfl (by kernel_rfl) (by kernel_rfl) (by kernel_rfl) (fun _ _ _ h => h) (Or.inr ⟨rfl, rfl⟩) hHeld ?rest170
            (try simp only [PU])
            refine wpAnyH_take (i := 16) (oi := ⟨(some 56), (.binOp .eql 3 (.tmp 55) (.const (.int .i64 0)) 3), 4, "ref.go:31", #[⟨15, .data⟩, ⟨4, .guard⟩], (some (4, true))⟩) (v := undef) rfl (by kernel_rfl) (by kernel_rfl) (by kernel_rfl) (fun _ _ _ h => h) (Or.inr ⟨rfl, rfl⟩) hHeld ?rest171
            (try simp only [PU])
            refine wpAnyH_take (i := 17) (oi := ⟨(some 57), (.pick (.tmp 44) (.tmp 56) (.const (.bool false))), 4, "ref.go:31", #[⟨4, .data⟩, ⟨16, .data⟩], none⟩) (v := ?v172) rfl (by kernel_rfl) (by kernel_rfl) (by kernel_rfl) (fun _ _ _ h => h) (Or.inl ⟨rfl, ?hy172⟩) hHeld ?rest172
            case hy172 => (intro w _; go_simp <;> rfl)
            (try simp only [PU])
            refine wpAnyH_done (by kernel_rfl) ?_ _
            clear hHeld
            clear MKR9
            obtain ⟨w6, hw6⟩ : ∃ V, V = w5.drew := ⟨_, rfl⟩
            have hE56 : Ext w5 w6 := by rw [hw6]; exact (Ext.refl _).drew
            rw [← hw6]
            clear hw6
            have w6E := w5E.trans hE56
            replace a0 := hE56.cell a0
            replace a1 := hE56.cell a1
            have HO5' := Lib.hid (OwnG.ext HO5.out hE56)
            have hb5 := (fun g2 (h2 : v5.ownBlock = some g2) => OwnG.lt HO5.out h2)
            have HB5 := Lib.hid hb5
            have hle56 := hE56.le
            have hlz5 := hE5.le
            have hlwz := wzE.le
            have hpl : p + 1 ≤ 8388608 := by omega
            clear hb5
            have HROW := Lib.hid (fun W (e : Ext w W) => z47_row x.1 (fun b => b < w.heap.size) A' c' W (fun b hb => Nat.lt_of_lt_of_le hb e.le) (HXV.out.ext e) HRL.out)
            have MKC := Lib.hid (fun V (e : Ext w6 V) => (⟨e.cell a0, e.cell a1⟩ : V.cell? ⟨b, o + i * 2, none⟩ = some (.slice A' x.1.length c') ∧ V.cell? ⟨b, o + i * 2 + 1, none⟩ = some (.int .i64 x.2)))
            go_upto_region 12 with (fail)
            refine AnyE.start (S := (fun V => V.cell? ⟨b, o + i * 2, none⟩ = some (.slice A' x.1.length c') ∧ V.cell? ⟨b, o + i * 2 + 1, none⟩ = some (.int .i64 x.2))) (E := 15) (by kernel_rfl) ?hs173 (fun hHeld => ?go173)
            case hs173 => (first | exact MKZ.out _ ((hE5.trans (hE56.trans hd8)).grown hg9 (fun g2 h2 => (HB5.out g2 h2).1)) | exact MK9.out _ (by with_reducible repeat (first | exact Ext.refl _ | assumption | refine Ext.drew ?_ | refine Ext.drewN ?_ _ | refine Ext.alloc ?_ _)) | exact MKC.out _ (by with_reducible repeat (first | exact Ext.refl _ | assumption | refine Ext.drew ?_ | refine Ext.drewN ?_ _ | refine Ext.alloc ?_ _)))
            refine AnyE.takeP (i := 0) (oi := ⟨(some 84), (.move (.tmp 6)), 22, "ref.go:35", #[], none⟩) (v := ?v174) rfl (by kernel_rfl) (by kernel_rfl) (by kernel_rfl) (fun _ _ _ h => h) rfl (Or.inl ⟨rfl, ?hy174⟩) (fun _ => hHeld) ?rest174
            case hy174 => (intro w _; go_simp <;> rfl)
            (try simp only [PU])
            refine AnyE.takeP (i := 1) (oi := ⟨(some 85), (.move (.tmp 0)), 22, "ref.go:35", #[], none⟩) (v := ?v175) rfl (by kernel_rfl) (by kernel_rfl) (by kernel_rfl) (fun _ _ _ h => h) rfl (Or.inl ⟨rfl, ?hy175⟩) (fun _ => hHeld) ?rest175
            case hy175 => (intro w _; go_simp <;> rfl)
            (try simp only [PU])
            refine AnyE.takeP (i := 2) (oi := ⟨(some 86), (.move (.tmp 4)), 3, "ref.go:35", #[], none⟩) (v := ?v176) rfl (by kernel_rfl) (by kernel_rfl) (by kernel_rfl) (fun _ _ _ h => h) rfl (Or.inl ⟨rfl, ?hy176⟩) (fun _ => hHeld) ?rest176
            case hy176 => (intro w _; go_simp <;> rfl)
            (try simp only [PU])
            refine AnyE.takeP (i := 3) (oi := ⟨(some 87), (.indexAddr 22 (.tmp 85) (.tmp 86)), 0, "ref.go:35", #[⟨1, .data⟩, ⟨2, .data⟩], none⟩) (v := ?v177) rfl (by kernel_rfl) (by kernel_rfl) (by kernel_rfl) (fun _ _ _ h => h) rfl (Or.inl ⟨rfl, ?hy177⟩) (fun _ => hHeld) ?rest177
            case hy177 => (intro w _; go_simp <;> first | with_reducible rfl | rw [if_neg (by omega)] | rw [if_pos (by omega)])
            (try simp only [PU])
            refine AnyE.takeP (i := 4) (oi := ⟨(some 88), (.fieldAddr 38 (.tmp 87) 0), 0, "ref.go:35", #[⟨3, .data⟩], none⟩) (v := ?v178) rfl (by kernel_rfl) (by kernel_rfl) (by kernel_rfl) (fun _ _ _ h => h) rfl (Or.inl ⟨rfl, ?hy178⟩) (fun _ => hHeld) ?rest178
            case hy178 => (intro w _; go_simp <;> rfl)
            (try simp only [PU])
            refine AnyE.take (i := 5) (oi := ⟨(some 89), (.load 24 (.tmp 88)), 24, "ref.go:35", #[⟨4, .data⟩], none⟩) (v := ?v179) rfl (by kernel_rfl) (by kernel_rfl) (by kernel_rfl) (fun _ _ _ h => h) (by kernel_rfl) rfl (by kernel_rfl) (Or.inl ⟨rfl, ?hy179⟩) hHeld ?rest179
            case hy179 => (intro w hSw; (try dsimp only at hSw); go_simp <;> first | with_reducible rfl | rw [if_neg (by omega)] | rw [if_pos (by omega)])
            (try simp only [PU])
            refine AnyE.takeP (i := 7) (oi := ⟨(some 91), (.move (.tmp 0)), 22, "ref.go:35", #[], none⟩) (v := ?v180) rfl (by kernel_rfl) (by kernel_rfl) (by kernel_rfl) (fun _ _ _ h => h) rfl (Or.inl ⟨rfl, ?hy180⟩) (fun _ => hHeld) ?rest180
            case hy180 => (intro w _; go_simp <;> rfl)
            (try simp only [PU])
            refine AnyE.takeP (i := 8) (oi := ⟨(some 92), (.move (.tmp 4)), 3, "ref.go:35", #[], none⟩) (v := ?v181) rfl (by kernel_rfl) (by kernel_rfl) (by kernel_rfl) (fun _ _ _ h => h) rfl (Or.inl ⟨rfl, ?hy181⟩) (fun _ => hHeld) ?rest181
            case hy181 => (intro w _; go_simp <;> rfl)
            (try simp only [PU])
            refine AnyE.takeP (i := 9) (oi := ⟨(some 93), (.indexAddr 22 (.tmp 91) (.tmp 92)), 0, "ref.go:35", #[⟨7, .data⟩, ⟨8, .data⟩], none⟩) (v := ?v182) rfl (by kernel_rfl) (by kernel_rfl) (by kernel_rfl) (fun _ _ _ h => h) rfl (Or.inl ⟨rfl, ?hy182⟩) (fun _ => hHeld) ?rest182
            case hy182 => (intro w _; go_simp <;> first | with_reducible rfl | rw [if_neg (by omega)] | rw [if_pos (by omega)])
            (try simp only [PU])
            refine AnyE.takeP (i := 10) (oi := ⟨(some 94), (.fieldAddr 38 (.tmp 93) 1), 0, "ref.go:35", #[⟨9, .data⟩], none⟩) (v := ?v183) rfl (by kernel_rfl) (by kernel_rfl) (by kernel_rfl) (fun _ _ _ h => h) rfl (Or.inl ⟨rfl, ?hy183⟩) (fun _ => hHeld) ?rest183
            case hy183 => (intro w _; go_simp <;> rfl)
            (try simp only [PU])
            refine AnyE.take (i := 11) (oi := ⟨(some 95), (.load 3 (.tmp 94)), 3, "ref.go:35", #[⟨10, .data⟩], none⟩) (v := ?v184) rfl (by kernel_rfl) (by kernel_rfl) (by kernel_rfl) (fun _ _ _ h => h) (by kernel_rfl) rfl (by kernel_rfl) (Or.inl ⟨rfl, ?hy184⟩) hHeld ?rest184
            case hy184 => (intro w hSw; (try dsimp only at hSw); go_simp <;> first | with_reducible rfl | rw [if_neg (by omega)] | rw [if_pos (by omega)])
            (try simp only [PU])
            refine AnyE.ready (rs := [6]) (by kernel_rfl) (by simp) ?_
            refine AllE.cons (o := ⟨(some 90), (.call { callee := (.value (.func 33)), args := #[(.tmp 89)], argTypes := #[24] }), 24, "ref.go:35", #[⟨5, .data⟩], none⟩) rfl (fun K hK => ?step185x0) ?more185x0
            case more185x0 => exact AllE.nil
            go_simp
            (refine (HROW.out _ (w6E.trans (by with_reducible repeat (first | exact Ext.refl _ | assumption | refine Ext.drew ?_ | refine Ext.drewN ?_ _ | refine Ext.alloc ?_ _)))).mono ?_; rintro e w8 ⟨A5, c5, rfl, hle5, hV5, hx8⟩; have hd8 : Ext w6 w8 := Ext.trans (by with_reducible repeat (first | exact Ext.refl _ | assumption | refine Ext.drew ?_ | refine Ext.drewN ?_ _ | refine Ext.alloc ?_ _)) hx8; have MK9 := Lib.hid (fun V (e : Ext w8 V) => MKC.out V (hd8.trans e)))
            refine hK.out _ _ ?hS185x0 (fun hHeld185 => ?rest185x0)
            case hS185x0 => intro _; first | (first | exact MKZ.out _ ((hE5.trans (hE56.trans hd8)).grown hg9 (fun g2 h2 => (HB5.out g2 h2).1)) | exact MK9.out _ (by with_reducible repeat (first | exact Ext.refl _ | assumption | refine Ext.drew ?_ | refine Ext.drewN ?_ _ | refine Ext.alloc ?_ _)) | exact MKC.out _ (by with_reducible repeat (first | exact Ext.refl _ | assumption | refine Ext.drew ?_ | refine Ext.drewN ?_ _ | refine Ext.alloc ?_ _))) | ((try dsimp only); (first | exact MKZ.out _ ((hE5.trans (hE56.trans hd8)).grown hg9 (fun g2 h2 => (HB5.out g2 h2).1)) | exact MK9.out _ (by with_reducible repeat (first | exact Ext.refl _ | assumption | refine Ext.drew ?_ | refine Ext.drewN ?_ _ | refine Ext.alloc ?_ _)) | exact MKC.out _ (by with_reducible repeat (first | exact Ext.refl _ | assumption | refine Ext.drew ?_ | refine Ext.drewN ?_ _ | refine Ext.alloc ?_ _))))
            clear hK K
            clear hHeld
            (try simp only [PU])
            refine AnyE.takeP (i := 12) (oi := ⟨(some 96), (.build 38 #[(0, (.tmp 90)), (1, (.tmp 95))]), 38, "ref.go:35", #[⟨6, .data⟩, ⟨11, .data⟩], none⟩) (v := ?v186) rfl (by kernel_rfl) (by kernel_rfl) (by kernel_rfl) (fun _ _ _ h => h) rfl (Or.inl ⟨rfl, ?hy186⟩) (fun _ => (hHeld185 (by kernel_rfl))) ?rest186
            case hy186 => (intro w _; go_simp <;> rfl)
            (try simp only [PU])
            refine AnyE.ready (rs := [13]) (by kernel_rfl) (by simp) ?_
            refine AllE.cons (o := ⟨(some 97), (.buildSlice 22 1 #[(0, (.tmp 96))]), 22, "ref.go:35", #[⟨12, .data⟩], none⟩) rfl (fun K hK => ?step187x0) ?more187x0
            case more187x0 => exact AllE.nil
            go_simp
            refine hK.out _ _ ?hS187x0 (fun hHeld187 => ?rest187x0)
            case hS187x0 => intro _; first | (first | exact MKZ.out _ ((hE5.trans (hE56.trans hd8)).grown hg9 (fun g2 h2 => (HB5.out g2 h2).1)) | exact MK9.out _ (by with_reducible repeat (first | exact Ext.refl _ | assumption | refine Ext.drew ?_ | refine Ext.drewN ?_ _ | refine Ext.alloc ?_ _)) | exact MKC.out _ (by with_reducible repeat (first | exact Ext.refl _ | assumption | refine Ext.drew ?_ | refine Ext.drewN ?_ _ | refine Ext.alloc ?_ _))) | ((try dsimp only); (first | exact MKZ.out _ ((hE5.trans (hE56.trans hd8)).grown hg9 (fun g2 h2 => (HB5.out g2 h2).1)) | exact MK9.out _ (by with_reducible repeat (first | exact Ext.refl _ | assumption | refine Ext.drew ?_ | refine Ext.drewN ?_ _ | refine Ext.alloc ?_ _)) | exact MKC.out _ (by with_reducible repeat (first | exact Ext.refl _ | assumption | refine Ext.drew ?_ | refine Ext.drewN ?_ _ | refine Ext.alloc ?_ _))))
            clear hK K
            clear hHeld185
            (try simp only [PU])
            refine AnyE.ready (rs := [14]) (by kernel_rfl) (by simp) ?_
            refine AllE.cons (o := ⟨(some 98), (.call { callee := (.builtin .append), args := #[(.tmp 84), (.tmp 97)], argTypes := #[22, 22] }), 22, "ref.go:35", #[⟨0, .data⟩, ⟨13, .data⟩, ⟨6, .chain⟩], none⟩) rfl (fun K hK => ?step188x0) ?more188x0
            case more188x0 => exact AllE.nil
            (refine step_pushG (v := v5) (hs := hs.take p) T_sg rfl (.tmp 84) (.tmp 97) rfl w8 rfl (OwnG.ext HO5'.out hd8) (by have := hd8.le; omega) ⟨A5, c5, x⟩ ⟨hle5, hV5.to (fun b2 hb2 => ⟨trivial, fun e2 => by have h3 := (HB5.out b2 e2.symm).2; have h4 := (HB5.out b2 e2.symm).1; have h5 : w6.heap.size ≤ b2 ∨ b2 < w.heap.size := hb2; omega⟩)⟩ rfl _ rfl rfl (by rw [HLT8.out]; exact hpl) (by decide) ?_; intro v6 w9 hO9 hg9 hd9)
            refine hK.out _ _ ?hS188x0 (fun hHeld188 => ?rest188x0)
            case hS188x0 => intro _; first | (first | exact MKZ.out _ ((hE5.trans (hE56.trans hd8)).grown hg9 (fun g2 h2 => (HB5.out g2 h2).1)) | exact MK9.out _ (by with_reducible repeat (first | exact Ext.refl _ | assumption | refine Ext.drew ?_ | refine Ext.drewN ?_ _ | refine Ext.alloc ?_ _)) | exact MKC.out _ (by with_reducible repeat (first | exact Ext.refl _ | assumption | refine Ext.drew ?_ | refine Ext.drewN ?_ _ | refine Ext.alloc ?_ _))) | ((try dsimp only); (first | exact MKZ.out _ ((hE5.trans (hE56.trans hd8)).grown hg9 (fun g2 h2 => (HB5.out g2 h2).1)) | exact MK9.out _ (by with_reducible repeat (first | exact Ext.refl _ | assumption | refine Ext.drew ?_ | refine Ext.drewN ?_ _ | refine Ext.alloc ?_ _)) | exact MKC.out _ (by with_reducible repeat (first | exact Ext.refl _ | assumption | refine Ext.drew ?_ | refine Ext.drewN ?_ _ | refine Ext.alloc ?_ _))))
            clear hK K
            clear hHeld187
            (try simp only [PU])
            refine AnyE.ready (rs := [15]) (by kernel_rfl) (by simp) ?_
            refine AllE.cons (o := ⟨(some 6), (.assign (.tmp 98)), 22, "ref.go:35", #[⟨14, .data⟩, ⟨14, .chain⟩, ⟨0, .phase⟩, ⟨1, .phase⟩, ⟨2, .phase⟩, ⟨3, .phase⟩, ⟨4, .phase⟩, ⟨5, .phase⟩, ⟨6, .phase⟩, ⟨7, .phase⟩, ⟨8, .phase⟩, ⟨9, .phase⟩, ⟨10, .phase⟩, ⟨11, .phase⟩, ⟨12, .phase⟩, ⟨13, .phase⟩, ⟨14, .phase⟩], none⟩) rfl (fun K hK => ?step189x0) ?more189x0
            case more189x0 => exact AllE.nil
            go_simp
            refine hK.out _ _ ?hS189x0 (fun hHeld189 => ?rest189x0)
            case hS189x0 => first | (intro h; exact absurd h (by decide)) | (intro h; simp at h)
            clear hK K
            clear hHeld188
            (try simp only [PU])
            refine AnyE.done (by kernel_rfl) ?_ _
            clear hHeld189
            have HO9 := Lib.hid hO9
            have hEz9 : Ext wz w9 := (hE5.trans (hE56.trans hd8)).grown hg9 (fun g2 h2 => (HB5.out g2 h2).1)
            have HFIN := Lib.hid (show (hs.take p ++ [(⟨A5, c5, x⟩ : HSg)] ++ hs.drop p).map HSg.x = sumZ (z.take (i + 1)) by rw [HTK.out, sumZ_snoc, ← HM.out]; exact zi_ins hs p hpn hgd.out HHI.out _ rfl)
            clear hO9 hg9 hd9 HROW MKC a0 a1
            go_upto_region 4 with (at_builtin; go_loud (refine own_catG (v := v6) T_sg rfl (.tmp 99) (.tmp 102) rfl rfl HO9.out (by have := hEz9.le; omega) _ 0 _ (hs.drop (p)) rfl (by rw [List.length_drop]; have := HPE2.out; omega) (fun _ => rfl) (fun ad e j u hu => by rw [List.drop_eq_nil_of_le HPE2.out] at hu; cases hu) (fun q hq => lies_new (u := v6) HOZ.out hEz9 (fun g2 h2 => (OwnG.lt HO9.out h2).1) q (List.mem_of_mem_drop hq)) (by rw [List.length_append, HLT8.out]; simp; omega) (by decide) ?_); intro v7 w7 hO7 hg7 hd7)
            have hE7 : Ext wz w7 := hEz9.grown hg7 (fun g2 h2 => (OwnG.lt HO9.out h2).1)
            have HO7 := Lib.hid (OwnG.mono hO7 wzE.le)
            have HE7 := Lib.hid (wzE.trans hE7)
            clear hO7 hg7 hd7 HO9 hE7
            go_wp2_with fail
            go_roundw
            case rel => exact ⟨i + 1, _, by go_num, by omega, HO7, HFIN, HE7.out⟩
            case measure => simp [intOf]; omega
          · injection hv0 with h1 h2 h3
            subst h1 h3
            obtain ⟨-, hcap⟩ := OwnG.capT HOV.out
            have hpn : p ≤ hs.length := by omega
            have y1 : p ≤ c0 := by omega
            have y2 : (p : Int) ≤ (c0 : Int) := by omega
            have y3 : (p : Int) ≤ (hs.length : Int) := by omega
            have hlt8 : ((hs.take p).length) = p := by rw [List.length_take]; omega
            have HLT8 := Lib.hid hlt8
            clear hlt8
            go_upto_region 9 with (at_builtin; go_loud (refine own_catG (v := .slice (some ⟨wz.heap.size, 0, none⟩) 0 0) (hs := ([] : List HSg)) T_sg rfl (.tmp 35) (.tmp 38) rfl rfl (OwnG.made KSg _ wz wz.heap.size (fun _ => True) (Nat.le_refl _)) (by simp) (some ⟨g, 0, none⟩) p c0 (hs.take p) rfl HLT8.out.symm (fun h => by cases h) (OwnG.takeC (OwnG.ext HOZ.out ((Ext.refl _).alloc _)) p hpn) (fun q hq => lies_new (u := .slice (some ⟨wz.heap.size, 0, none⟩) 0 0) HOZ.out ((Ext.refl _).alloc _) (fun g2 h2 => Nat.le_of_eq (Option.some.inj h2)) q (List.mem_of_mem_take hq)) (by simp <;> omega) (by decide) ?_); intro v5 w5 hO5 hg5 hd5)
            rw [List.nil_append] at hO5
            have hE5 : Ext wz w5 := ((Ext.refl _).alloc _).grown hg5 (fun g2 h2 => Nat.le_of_eq (Option.some.inj h2))
            have HO5 := Lib.hid hO5
            have w5E := wzE.trans hE5
            replace a0 := hE5.cell a0
            replace a1 := hE5.cell a1
            clear hO5 hg5 hd5
            have MKR11 := Lib.hid (fun V (e : Ext w5 V) => (⟨e.cell a0, e⟩ : V.cell? ⟨b, o + i * 2, none⟩ = some (.slice A' x.1.length c') ∧ Ext w5 V))
            refine wp_region_held_drew (S := (fun V => V.cell? ⟨b, o + i * 2, none⟩ = some (.slice A' x.1.length c') ∧ Ext w5 V)) (by kernel_rfl) ?hs190 (fun hHeld => ?go190)
            case hs190 => (exact MKR11.out _ (by with_reducible repeat (first | exact Ext.refl _ | assumption | refine Ext.drew ?_ | refine Ext.drewN ?_ _ | refine Ext.alloc ?_ _)))
            refine wpAnyH_take (i := 0) (oi := ⟨(some 40), (.move (.tmp 5)), 3, "ref.go:31", #[], none⟩) (v := ?v191) rfl (by kernel_rfl) (by kernel_rfl) (by kernel_rfl) (fun _ _ _ h => h) (Or.inl ⟨rfl, ?hy191⟩) hHeld ?rest191
            case hy191 => (intro w _; go_simp <;> rfl)
            (try simp only [PU])
            refine wpAnyH_take (i := 1) (oi := ⟨(some 41), (.move (.tmp 3)), 22, "ref.go:31", #[], none⟩) (v := ?v192) rfl (by kernel_rfl) (by kernel_rfl) (by kernel_rfl) (fun _ _ _ h => h) (Or.inl ⟨rfl, ?hy192⟩) hHeld ?rest192
            case hy192 => (intro w _; go_simp <;> rfl)
            (try simp only [PU])
            refine wpAnyH_take (i := 2) (oi := ⟨(some 42), (.call { callee := (.builtin .len), args := #[(.tmp 41)], argTypes := #[22] }), 3, "ref.go:31", #[⟨1, .data⟩], none⟩) (v := ?v193) rfl (by kernel_rfl) (by kernel_rfl) (by kernel_rfl) (fun _ _ _ h => h) (Or.inl ⟨rfl, ?hy193⟩) hHeld ?rest193
            case hy193 => (intro w _; go_simp <;> first | with_reducible rfl | rw [if_neg (by omega)] | rw [if_pos (by omega)])
            (try simp only [PU])
            refine wpAnyH_take (i := 3) (oi := ⟨(some 43), (.binOp .lss 3 (.tmp 40) (.tmp 42) 3), 4, "ref.go:31", #[⟨0, .data⟩, ⟨2, .data⟩], none⟩) (v := ?v194) rfl (by kernel_rfl) (by kernel_rfl) (by kernel_rfl) (fun _ _ _ h => h) (Or.inl ⟨rfl, ?hy194⟩) hHeld ?rest194
            case hy194 => (intro w _; go_simp <;> first | with_reducible rfl | rw [if_neg (by omega)] | rw [if_pos (by omega)])
            (try simp only [PU])
            refine wpAnyH_take (i := 4) (oi := ⟨(some 44), (.move (.tmp 43)), 4, "ref.go:31", #[⟨3, .data⟩], none⟩) (v := ?v195) rfl (by kernel_rfl) (by kernel_rfl) (by kernel_rfl) (fun _ _ _ h => h) (Or.inl ⟨rfl, ?hy195⟩) hHeld ?rest195
            case hy195 => (intro w _; go_simp <;> rfl)
            (try simp only [PU])
            refine wpAnyH_take (i := 5) (oi := ⟨(some 45), (.move (.tmp 3)), 22, "ref.go:31", #[⟨4, .guard⟩], (some (4, true))⟩) (v := undef) rfl (by kernel_rfl) (by kernel_rfl) (by kernel_rfl) (fun _ _ _ h => h) (Or.inr ⟨rfl, rfl⟩) hHeld ?rest196
            (try simp only [PU])
            refine wpAnyH_take (i := 6) (oi := ⟨(some 46), (.move (.tmp 5)), 3, "ref.go:31", #[⟨4, .guard⟩], (some (4, true))⟩) (v := undef) rfl (by kernel_rfl) (by kernel_rfl) (by kernel_rfl) (fun _ _ _ h => h) (Or.inr ⟨rfl, rfl⟩) hHeld ?rest197
            (try simp only [PU])
            refine wpAnyH_take (i := 7) (oi := ⟨(some 47), (.indexAddr 22 (.tmp 45) (.tmp 46)), 0, "ref.go:31", #[⟨5, .data⟩, ⟨6, .data⟩, ⟨4, .guard⟩], (some (4, true))⟩) (v := undef) rfl (by kernel_rfl) (by kernel_rfl) (by kernel_rfl) (fun _ _ _ h => h) (Or.inr ⟨rfl, rfl⟩) hHeld ?rest198
            (try simp only [PU])
            refine wpAnyH_take (i := 8) (oi := ⟨(some 48), (.fieldAddr 38 (.tmp 47) 0), 0, "ref.go:31", #[⟨7, .data⟩, ⟨4, .guard⟩], (some (4, true))⟩) (v := undef) rfl (by kernel_rfl) (by kernel_rfl) (by kernel_rfl) (fun _ _ _ h => h) (Or.inr ⟨rfl, rfl⟩) hHeld ?rest199
            (try simp only [PU])
            refine wpAnyH_take (i := 9) (oi := ⟨(some 49), (.load 24 (.tmp 48)), 24, "ref.go:31", #[⟨8, .data⟩, ⟨4, .guard⟩], (some (4, true))⟩) (v := undef) rfl (by kernel_rfl) (by kernel_rfl) (by kernel_rfl) (fun _ _ _ h => h) (Or.inr ⟨rfl, rfl⟩) hHeld ?rest200
            (try simp only [PU])
            refine wpAnyH_take (i := 10) (oi := ⟨(some 50), (.move (.tmp 0)), 22, "ref.go:31", #[⟨4, .guard⟩], (some (4, true))⟩) (v := undef) rfl (by kernel_rfl) (by kernel_rfl) (by kernel_rfl) (fun _ _ _ h => h) (Or.inr ⟨rfl, rfl⟩) hHeld ?rest201
            (try simp only [PU])
            refine wpAnyH_take (i := 11) (oi := ⟨(some 51), (.move (.tmp 4)), 3, "ref.go:31", #[⟨4, .guard⟩], (some (4, true))⟩) (v := undef) rfl (by kernel_rfl) (by kernel_rfl) (by kernel_rfl) (fun _ _ _ h => h) (Or.inr ⟨rfl, rfl⟩) hHeld ?rest202
            (try simp only [PU])
            refine wpAnyH_take (i := 12) (oi := ⟨(some 52), (.indexAddr 22 (.tmp 50) (.tmp 51)), 0, "ref.go:31", #[⟨10, .data⟩, ⟨11, .data⟩, ⟨4, .guard⟩], (some (4, true))⟩) (v := undef) rfl (by kernel_rfl) (by kernel_rfl) (by kernel_rfl) (fun _ _ _ h => h) (Or.inr ⟨rfl, rfl⟩) hHeld ?rest203
            (try simp only [PU])
            refine wpAnyH_take (i := 13) (oi := ⟨(some 53), (.fieldAddr 38 (.tmp 52) 0), 0, "ref.go:31", #[⟨12, .data⟩, ⟨4, .guard⟩], (some (4, true))⟩) (v := undef) rfl (by kernel_rfl) (by kernel_rfl) (by kernel_rfl) (fun _ _ _ h => h) (Or.inr ⟨rfl, rfl⟩) hHeld ?rest204
            (try simp only [PU])
            refine wpAnyH_take (i := 14) (oi := ⟨(some 54), (.load 24 (.tmp 53)), 24, "ref.go:31", #[⟨13, .data⟩, ⟨4, .guard⟩], (some (4, true))⟩) (v := undef) rfl (by kernel_rfl) (by kernel_rfl) (by kernel_rfl) (fun _ _ _ h => h) (Or.inr ⟨rfl, rfl⟩) hHeld ?rest205
            (try simp only [PU])
            refine wpAnyH_take (i := 15) (oi := ⟨(some 55), (.call { callee := (.value (.func 13)), args := #[(.tmp 49), (.tmp 54)], argTypes := #[24, 24] }), 3, "ref.go:31", #[⟨9, .data⟩, ⟨14, .data⟩, ⟨4, .chain⟩, ⟨4, .guard⟩], (some (4, true))⟩) (v := undef) rfl (by kernel_rfl) (by kernel_rfl) (by kernel_rfl) (fun _ _ _ h => h) (Or.inr ⟨rfl, rfl⟩) hHeld ?rest206
            (try simp only [PU])
            refine wpAnyH_take (i := 16) (oi := ⟨(some 56), (.binOp .eql 3 (.tmp 55) (.const (.int .i64 0)) 3), 4, "ref.go:31", #[⟨15, .data⟩, ⟨4, .guard⟩], (some (4, true))⟩) (v := undef) rfl (by kernel_rfl) (by kernel_rfl) (by kernel_rfl) (fun _ _ _ h => h) (Or.inr ⟨rfl, rfl⟩) hHeld ?rest207
            (try simp only [PU])
            refine wpAnyH_take (i := 17) (oi := ⟨(some 57), (.pick (.tmp 44) (.tmp 56) (.const (.bool false))), 4, "ref.go:31", #[⟨4, .data⟩, ⟨16, .data⟩], none⟩) (v := ?v208) rfl (by kernel_rfl) (by kernel_rfl) (by kernel_rfl) (fun _ _ _ h => h) (Or.inl ⟨rfl, ?hy208⟩) hHeld ?rest208
            case hy208 => (intro w _; go_simp <;> rfl)
            (try simp only [PU])
            refine wpAnyH_done (by kernel_rfl) ?_ _
            clear hHeld
            clear MKR11
            obtain ⟨w6, hw6⟩ : ∃ V, V = w5.drew := ⟨_, rfl⟩
            have hE56 : Ext w5 w6 := by rw [hw6]; exact (Ext.refl _).drew
            rw [← hw6]
            clear hw6
            have w6E := w5E.trans hE56
            replace a0 := hE56.cell a0
            replace a1 := hE56.cell a1
            have HO5' := Lib.hid (OwnG.ext HO5.out hE56)
            have hb5 := (fun g2 (h2 : v5.ownBlock = some g2) => OwnG.lt HO5.out h2)
            have HB5 := Lib.hid hb5
            have hle56 := hE56.le
            have hlz5 := hE5.le
            have hlwz := wzE.le
            have hpl : p + 1 ≤ 8388608 := by omega
            clear hb5
            have HROW := Lib.hid (fun W (e : Ext w W) => z47_row x.1 (fun b => b < w.heap.size) A' c' W (fun b hb => Nat.lt_of_lt_of_le hb e.le) (HXV.out.ext e) HRL.out)
            have MKC := Lib.hid (fun V (e : Ext w6 V) => (⟨e.cell a0, e.cell a1⟩ : V.cell? ⟨b, o + i * 2, none⟩ = some (.slice A' x.1.length c') ∧ V.cell? ⟨b, o + i * 2 + 1, none⟩ = some (.int .i64 x.2)))
            go_upto_region 12 with (fail)
            refine AnyE.start (S := (fun V => V.cell? ⟨b, o + i * 2, none⟩ = some (.slice A' x.1.length c') ∧ V.cell? ⟨b, o + i * 2 + 1, none⟩ = some (.int .i64 x.2))) (E := 15) (by kernel_rfl) ?hs209 (fun hHeld => ?go209)
            case hs209 => (first | exact MKZ.out _ ((hE5.trans (hE56.trans hd8)).grown hg9 (fun g2 h2 => (HB5.out g2 h2).1)) | exact MK9.out _ (by with_reducible repeat (first | exact Ext.refl _ | assumption | refine Ext.drew ?_ | refine Ext.drewN ?_ _ | refine Ext.alloc ?_ _)) | exact MKC.out _ (by with_reducible repeat (first | exact Ext.refl _ | assumption | refine Ext.drew ?_ | refine Ext.drewN ?_ _ | refine Ext.alloc ?_ _)))
            refine AnyE.takeP (i := 0) (oi := ⟨(some 84), (.move (.tmp 6)), 22, "ref.go:35", #[], none⟩) (v := ?v210) rfl (by kernel_rfl) (by kernel_rfl) (by kernel_rfl) (fun _ _ _ h => h) rfl (Or.inl ⟨rfl, ?hy210⟩) (fun _ => hHeld) ?rest210
            case hy210 => (intro w _; go_simp <;> rfl)
            (try simp only [PU])
            refine AnyE.takeP (i := 1) (oi := ⟨(some 85), (.move (.tmp 0)), 22, "ref.go:35", #[], none⟩) (v := ?v211) rfl (by kernel_rfl) (by kernel_rfl) (by kernel_rfl) (fun _ _ _ h => h) rfl (Or.inl ⟨rfl, ?hy211⟩) (fun _ => hHeld) ?rest211
            case hy211 => (intro w _; go_simp <;> rfl)
            (try simp only [PU])
            refine AnyE.takeP (i := 2) (oi := ⟨(some 86), (.move (.tmp 4)), 3, "ref.go:35", #[], none⟩) (v := ?v212) rfl (by kernel_rfl) (by kernel_rfl) (by kernel_rfl) (fun _ _ _ h => h) rfl (Or.inl ⟨rfl, ?hy212⟩) (fun _ => hHeld) ?rest212
            case hy212 => (intro w _; go_simp <;> rfl)
            (try simp only [PU])
            refine AnyE.takeP (i := 3) (oi := ⟨(some 87), (.indexAddr 22 (.tmp 85) (.tmp 86)), 0, "ref.go:35", #[⟨1, .data⟩, ⟨2, .data⟩], none⟩) (v := ?v213) rfl (by kernel_rfl) (by kernel_rfl) (by kernel_rfl) (fun _ _ _ h => h) rfl (Or.inl ⟨rfl, ?hy213⟩) (fun _ => hHeld) ?rest213
            case hy213 => (intro w _; go_simp <;> first | with_reducible rfl | rw [if_neg (by omega)] | rw [if_pos (by omega)])
            (try simp only [PU])
            refine AnyE.takeP (i := 4) (oi := ⟨(some 88), (.fieldAddr 38 (.tmp 87) 0), 0, "ref.go:35", #[⟨3, .data⟩], none⟩) (v := ?v214) rfl (by kernel_rfl) (by kernel_rfl) (by kernel_rfl) (fun _ _ _ h => h) rfl (Or.inl ⟨rfl, ?hy214⟩) (fun _ => hHeld) ?rest214
            case hy214 => (intro w _; go_simp <;> rfl)
            (try simp only [PU])
            refine AnyE.take (i := 5) (oi := ⟨(some 89), (.load 24 (.tmp 88)), 24, "ref.go:35", #[⟨4, .data⟩], none⟩) (v := ?v215) rfl (by kernel_rfl) (by kernel_rfl) (by kernel_rfl) (fun _ _ _ h => h) (by kernel_rfl) rfl (by kernel_rfl) (Or.inl ⟨rfl, ?hy215⟩) hHeld ?rest215
            case hy215 => (intro w hSw; (try dsimp only at hSw); go_simp <;> first | with_reducible rfl | rw [if_neg (by omega)] | rw [if_pos (by omega)])
            (try simp only [PU])
            refine AnyE.takeP (i := 7) (oi := ⟨(some 91), (.move (.tmp 0)), 22, "ref.go:35", #[], none⟩) (v := ?v216) rfl (by kernel_rfl) (by kernel_rfl) (by kernel_rfl) (fun _ _ _ h => h) rfl (Or.inl ⟨rfl, ?hy216⟩) (fun _ => hHeld) ?rest216
            case hy216 => (intro w _; go_simp <;> rfl)
            (try simp only [PU])
            refine AnyE.takeP (i := 8) (oi := ⟨(some 92), (.move (.tmp 4)), 3, "ref.go:35", #[], none⟩) (v := ?v217) rfl (by kernel_rfl) (by kernel_rfl) (by kernel_rfl) (fun _ _ _ h => h) rfl (Or.inl ⟨rfl, ?hy217⟩) (fun _ => hHeld) ?rest217
            case hy217 => (intro w _; go_simp <;> rfl)
            (try simp only [PU])
            refine AnyE.takeP (i := 9) (oi := ⟨(some 93), (.indexAddr 22 (.tmp 91) (.tmp 92)), 0, "ref.go:35", #[⟨7, .data⟩, ⟨8, .data⟩], none⟩) (v := ?v218) rfl (by kernel_rfl) (by kernel_rfl) (by kernel_rfl) (fun _ _ _ h => h) rfl (Or.inl ⟨rfl, ?hy218⟩) (fun _ => hHeld) ?rest218
            case hy218 => (intro w _; go_simp <;> first | with_reducible rfl | rw [if_neg (by omega)] | rw [if_pos (by omega)])
            (try simp only [PU])
            refine AnyE.takeP (i := 10) (oi := ⟨(some 94), (.fieldAddr 38 (.tmp 93) 1), 0, "ref.go:35", #[⟨9, .data⟩], none⟩) (v := ?v219) rfl (by kernel_rfl) (by kernel_rfl) (by kernel_rfl) (fun _ _ _ h => h) rfl (Or.inl ⟨rfl, ?hy219⟩) (fun _ => hHeld) ?rest219
            case hy219 => (intro w _; go_simp <;> rfl)
            (try simp only [PU])
            refine AnyE.take (i := 11) (oi := ⟨(some 95), (.load 3 (.tmp 94)), 3, "ref.go:35", #[⟨10, .data⟩], none⟩) (v := ?v220) rfl (by kernel_rfl) (by kernel_rfl) (by kernel_rfl) (fun _ _ _ h => h) (by kernel_rfl) rfl (by kernel_rfl) (Or.inl ⟨rfl, ?hy220⟩) hHeld ?rest220
            case hy220 => (intro w hSw; (try dsimp only at hSw); go_simp <;> first | with_reducible rfl | rw [if_neg (by omega)] | rw [if_pos (by omega)])
            (try simp only [PU])
            refine AnyE.ready (rs := [6]) (by kernel_rfl) (by simp) ?_
            refine AllE.cons (o := ⟨(some 90), (.call { callee := (.value (.func 33)), args := #[(.tmp 89)], argTypes := #[24] }), 24, "ref.go:35", #[⟨5, .data⟩], none⟩) rfl (fun K hK => ?step221x0) ?more221x0
            case more221x0 => exact AllE.nil
            go_simp
            (refine (HROW.out _ (w6E.trans (by with_reducible repeat (first | exact Ext.refl _ | assumption | refine Ext.drew ?_ | refine Ext.drewN ?_ _ | refine Ext.alloc ?_ _)))).mono ?_; rintro e w8 ⟨A5, c5, rfl, hle5, hV5, hx8⟩; have hd8 : Ext w6 w8 := Ext.trans (by with_reducible repeat (first | exact Ext.refl _ | assumption | refine Ext.drew ?_ | refine Ext.drewN ?_ _ | refine Ext.alloc ?_ _)) hx8; have MK9 := Lib.hid (fun V (e : Ext w8 V) => MKC.out V (hd8.trans e)))
            refine hK.out _ _ ?hS221x0 (fun hHeld221 => ?rest221x0)
            case hS221x0 => intro _; first | (first | exact MKZ.out _ ((hE5.trans (hE56.trans hd8)).grown hg9 (fun g2 h2 => (HB5.out g2 h2).1)) | exact MK9.out _ (by with_reducible repeat (first | exact Ext.refl _ | assumption | refine Ext.drew ?_ | refine Ext.drewN ?_ _ | refine Ext.alloc ?_ _)) | exact MKC.out _ (by with_reducible repeat (first | exact Ext.refl _ | assumption | refine Ext.drew ?_ | refine Ext.drewN ?_ _ | refine Ext.alloc ?_ _))) | ((try dsimp only); (first | exact MKZ.out _ ((hE5.trans (hE56.trans hd8)).grown hg9 (fun g2 h2 => (HB5.out g2 h2).1)) | exact MK9.out _ (by with_reducible repeat (first | exact Ext.refl _ | assumption | refine Ext.drew ?_ | refine Ext.drewN ?_ _ | refine Ext.alloc ?_ _)) | exact MKC.out _ (by with_reducible repeat (first | exact Ext.refl _ | assumption | refine Ext.drew ?_ | refine Ext.drewN ?_ _ | refine Ext.alloc ?_ _))))
            clear hK K
            clear hHeld
            (try simp only [PU])
            refine AnyE.takeP (i := 12) (oi := ⟨(some 96), (.build 38 #[(0, (.tmp 90)), (1, (.tmp 95))]), 38, "ref.go:35", #[⟨6, .data⟩, ⟨11, .data⟩], none⟩) (v := ?v222) rfl (by kernel_rfl) (by kernel_rfl) (by kernel_rfl) (fun _ _ _ h => h) rfl (Or.inl ⟨rfl, ?hy222⟩) (fun _ => (hHeld221 (by kernel_rfl))) ?rest222
            case hy222 => (intro w _; go_simp <;> rfl)
            (try simp only [PU])
            refine AnyE.ready (rs := [13]) (by kernel_rfl) (by simp) ?_
            refine AllE.cons (o := ⟨(some 97), (.buildSlice 22 1 #[(0, (.tmp 96))]), 22, "ref.go:35", #[⟨12, .data⟩], none⟩) rfl (fun K hK => ?step223x0) ?more223x0
            case more223x0 => exact AllE.nil
            go_simp
            refine hK.out _ _ ?hS223x0 (fun hHeld223 => ?rest223x0)
            case hS223x0 => intro _; first | (first | exact MKZ.out _ ((hE5.trans (hE56.trans hd8)).grown hg9 (fun g2 h2 => (HB5.out g2 h2).1)) | exact MK9.out _ (by with_reducible repeat (first | exact Ext.refl _ | assumption | refine Ext.drew ?_ | refine Ext.drewN ?_ _ | refine Ext.alloc ?_ _)) | exact MKC.out _ (by with_reducible repeat (first | exact Ext.refl _ | assumption | refine Ext.drew ?_ | refine Ext.drewN ?_ _ | refine Ext.alloc ?_ _))) | ((try dsimp only); (first | exact MKZ.out _ ((hE5.trans (hE56.trans hd8)).grown hg9 (fun g2 h2 => (HB5.out g2 h2).1)) | exact MK9.out _ (by with_reducible repeat (first | exact Ext.refl _ | assumption | refine Ext.drew ?_ | refine Ext.drewN ?_ _ | refine Ext.alloc ?_ _)) | exact MKC.out _ (by with_reducible repeat (first | exact Ext.refl _ | assumption | refine Ext.drew ?_ | refine Ext.drewN ?_ _ | refine Ext.alloc ?_ _))))
            clear hK K
            clear hHeld221
            (try simp only [PU])
            refine AnyE.ready (rs := [14]) (by kernel_rfl) (by simp) ?_
            refine AllE.cons (o := ⟨(some 98), (.call { callee := (.builtin .append), args := #[(.tmp 84), (.tmp 97)], argTypes := #[22, 22] }), 22, "ref.go:35", #[⟨0, .data⟩, ⟨13, .data⟩, ⟨6, .chain⟩], none⟩) rfl (fun K hK => ?step224x0) ?more224x0
            case more224x0 => exact AllE.nil
            (refine step_pushG (v := v5) (hs := hs.take p) T_sg rfl (.tmp 84) (.tmp 97) rfl w8 rfl (OwnG.ext HO5'.out hd8) (by have := hd8.le; omega) ⟨A5, c5, x⟩ ⟨hle5, hV5.to (fun b2 hb2 => ⟨trivial, fun e2 => by have h3 := (HB5.out b2 e2.symm).2; have h4 := (HB5.out b2 e2.symm).1; have h5 : w6.heap.size ≤ b2 ∨ b2 < w.heap.size := hb2; omega⟩)⟩ rfl _ rfl rfl (by rw [HLT8.out]; exact hpl) (by decide) ?_; intro v6 w9 hO9 hg9 hd9)
            refine hK.out _ _ ?hS224x0 (fun hHeld224 => ?rest224x0)
            case hS224x0 => intro _; first | (first | exact MKZ.out _ ((hE5.trans (hE56.trans hd8)).grown hg9 (fun g2 h2 => (HB5.out g2 h2).1)) | exact MK9.out _ (by with_reducible repeat (first | exact Ext.refl _ | assumption | refine Ext.drew ?_ | refine Ext.drewN ?_ _ | refine Ext.alloc ?_ _)) | exact MKC.out _ (by with_reducible repeat (first | exact Ext.refl _ | assumption | refine Ext.drew ?_ | refine Ext.drewN ?_ _ | refine Ext.alloc ?_ _))) | ((try dsimp only); (first | exact MKZ.out _ ((hE5.trans (hE56.trans hd8)).grown hg9 (fun g2 h2 => (HB5.out g2 h2).1)) | exact MK9.out _ (by with_reducible repeat (first | exact Ext.refl _ | assumption | refine Ext.drew ?_ | refine Ext.drewN ?_ _ | refine Ext.alloc ?_ _)) | exact MKC.out _ (by with_reducible repeat (first | exact Ext.refl _ | assumption | refine Ext.drew ?_ | refine Ext.drewN ?_ _ | refine Ext.alloc ?_ _))))
            clear hK K
            clear hHeld223
            (try simp only [PU])
            refine AnyE.ready (rs := [15]) (by kernel_rfl) (by simp) ?_
            refine AllE.cons (o := ⟨(some 6), (.assign (.tmp 98)), 22, "ref.go:35", #[⟨14, .data⟩, ⟨14, .chain⟩, ⟨0, .phase⟩, ⟨1, .phase⟩, ⟨2, .phase⟩, ⟨3, .phase⟩, ⟨4, .phase⟩, ⟨5, .phase⟩, ⟨6, .phase⟩, ⟨7, .phase⟩, ⟨8, .phase⟩, ⟨9, .phase⟩, ⟨10, .phase⟩, ⟨11, .phase⟩, ⟨12, .phase⟩, ⟨13, .phase⟩, ⟨14, .phase⟩], none⟩) rfl (fun K hK => ?step225x0) ?more225x0
            case more225x0 => exact AllE.nil
            go_simp
            refine hK.out _ _ ?hS225x0 (fun hHeld225 => ?rest225x0)
            case hS225x0 => first | (intro h; exact absurd h (by decide)) | (intro h; simp at h)
            clear hK K
            clear hHeld224
            (try simp only [PU])
            refine AnyE.done (by kernel_rfl) ?_ _
            clear hHeld225
            have HO9 := Lib.hid hO9
            have hEz9 : Ext wz w9 := (hE5.trans (hE56.trans hd8)).grown hg9 (fun g2 h2 => (HB5.out g2 h2).1)
            have HFIN := Lib.hid (show (hs.take p ++ [(⟨A5, c5, x⟩ : HSg)] ++ hs.drop p).map HSg.x = sumZ (z.take (i + 1)) by rw [HTK.out, sumZ_snoc, ← HM.out]; exact zi_ins hs p hpn hgd.out HHI.out _ rfl)
            clear hO9 hg9 hd9 HROW MKC a0 a1
            by_cases hck : c0 = p
            · go_upto_region 4 with (at_builtin; go_loud (refine own_catG (v := v6) T_sg rfl (.tmp 99) (.tmp 102) rfl rfl HO9.out (by have := hEz9.le; omega) _ 0 _ (hs.drop (p)) rfl (by rw [List.length_drop]; have := HPE2.out; omega) (fun _ => rfl) (fun ad e j u hu => by rw [List.drop_eq_nil_of_le HPE2.out] at hu; cases hu) (fun q hq => lies_new (u := v6) HOZ.out hEz9 (fun g2 h2 => (OwnG.lt HO9.out h2).1) q (List.mem_of_mem_drop hq)) (by rw [List.length_append, HLT8.out]; simp; omega) (by decide) ?_); intro v7 w7 hO7 hg7 hd7)
              have hE7 : Ext wz w7 := hEz9.grown hg7 (fun g2 h2 => (OwnG.lt HO9.out h2).1)
              have HO7 := Lib.hid (OwnG.mono hO7 wzE.le)
              have HE7 := Lib.hid (wzE.trans hE7)
              clear hO7 hg7 hd7 HO9 hE7
              go_wp2_with fail
              go_roundw
              case rel => exact ⟨i + 1, _, by go_num, by omega, HO7, HFIN, HE7.out⟩
              case measure => simp [intOf]; omega
            · go_upto_region 4 with (at_builtin; go_loud (refine own_catG (v := v6) T_sg rfl (.tmp 99) (.tmp 102) rfl rfl HO9.out (by have := hEz9.le; omega) _ 0 _ (hs.drop (p)) rfl (by rw [List.length_drop]; have := HPE2.out; omega) (fun _ => rfl) (fun ad e j u hu => by rw [List.drop_eq_nil_of_le HPE2.out] at hu; cases hu) (fun q hq => lies_new (u := v6) HOZ.out hEz9 (fun g2 h2 => (OwnG.lt HO9.out h2).1) q (List.mem_of_mem_drop hq)) (by rw [List.length_append, HLT8.out]; simp; omega) (by decide) ?_); intro v7 w7 hO7 hg7 hd7)
              have hE7 : Ext wz w7 := hEz9.grown hg7 (fun g2 h2 => (OwnG.lt HO9.out h2).1)
              have HO7 := Lib.hid (OwnG.mono hO7 wzE.le)
              have HE7 := Lib.hid (wzE.trans hE7)
              clear hO7 hg7 hd7 HO9 hE7
              go_wp2_with fail
              go_roundw
              case rel => exact ⟨i + 1, _, by go_num, by omega, HO7, HFIN, HE7.out⟩
              case measure => simp [intOf]; omega
    · have hkz : i = z.length := by omega
      have HM2 := Lib.hid (show hs.map HSg.x = sumZ z by have := HM.out; rwa [hkz, List.take_length] at this)
      clear HM hkz
      have hhl : hs.length ≤ 1000 := by
        have h1 := congrArg List.length HM2.out
        rw [List.length_map] at h1
        have h2 := sumZ_len z
        omega
      obtain ⟨A0, c0, rfl⟩ := OwnG.form hown.out
      obtain ⟨wo, hwo⟩ : ∃ V, V = wr := ⟨_, rfl⟩
      subst hwo
      have HS1 := Lib.hid (OwnG.nil KSg 38 wo wo.heap.size (fun _ => True))
      have hlw := hEo.le
      go_wp2_with fail
      go_loopw [7, 8] (fun v u W => ∃ (k : Nat) (out : List HSg), u = .int .i64 k ∧ k ≤ hs.length ∧ Hid (OwnZ W wo.heap.size (fun _ => True) v out) ∧ out = (hs.take k).filter (fun h => !(h.x.2 == 0)) ∧ Ext wo W) (fun _ u _ => hs.length - (intOf u).toNat)
      case atStart => exact ⟨0, [], rfl, Nat.zero_le _, HS1, rfl, (by with_reducible repeat (first | exact Ext.refl _ | assumption | refine Ext.drew ?_ | refine Ext.drewN ?_ _ | refine Ext.alloc ?_ _))⟩
      case round =>
        clear HS1
        obtain ⟨k, out, rfl, hk, hout, hof, hE2⟩ := hrel
        have HOV := Lib.hid (OwnG.ext hown.out hE2)
        by_cases hlt : k < hs.length
        · obtain ⟨g, c1, hvv, hg0, hg1⟩ := own_some HOV.out (by omega)
          injection hvv with h1 h2 h3
          subst h1 h3
          obtain ⟨q0, q1, -, -⟩ := own_cells2 HOV.out hlt
          obtain ⟨A9, c9, rfl⟩ := OwnG.form hout.out
          have HLY := Lib.hid (lies_new (u := .slice A9 out.length c9) hown.out hE2 (fun g2 h2 => (OwnG.lt hout.out h2).1) hs[k] (List.getElem_mem hlt))
          have hol : out.length ≤ k := by rw [hof]; exact Nat.le_trans (List.length_filter_le _ _) (by rw [List.length_take]; omega)
          have hos : (hs.take (k + 1)).filter (fun h => !(h.x.2 == 0)) = out ++ (if hs[k].x.2 = 0 then [] else [hs[k]]) := by
            rw [List.take_succ_eq_append_getElem hlt, List.filter_append, hof]
            by_cases h0 : hs[k].x.2 = 0
            · simp [h0]
            · simp [h0]
          have HOS := Lib.hid hos
          clear hos h2 hof
          generalize hs[k] = y at *
          have zlt : (k : Int) < (hs.length : Int) := by omega
          have hle2 := hE2.le
          by_cases hn : y.x.2 = 0
          · have HOS' := Lib.hid (show (hs.take (k + 1)).filter (fun h => !(h.x.2 == 0)) = out by rw [HOS.out, if_pos hn, List.append_nil])
            go_wp2_with fail
            go_roundw
            case rel => exact ⟨k + 1, out, by go_num, by omega, hout, HOS'.out.symm, hE2⟩
            case measure => simp [intOf]; omega
          · have HOS' := Lib.hid (show (hs.take (k + 1)).filter (fun h => !(h.x.2 == 0)) = out ++ [y] by rw [HOS.out, if_neg hn])
            go_wp2_with (at_builtin; go_loud (refine own_pushG (v := .slice A9 out.length c9) (hs := out) T_sg rfl (.tmp 116) (.tmp 121) rfl wr rfl hout.out (show wo.heap.size ≤ wr.heap.size by omega) y HLY.out rfl _ rfl rfl (by omega) (by decide) ?_); intro v6 w6 hO6 hg6 hd6)
            have hE6 : Ext wo w6 := hE2.grown hg6 (fun g2 h2 => (OwnG.lt hout.out h2).1)
            go_wp2_with fail
            go_roundw
            case rel => exact ⟨k + 1, _, by go_num, by omega, Lib.hid hO6, HOS'.out.symm, hE6⟩
            case measure => simp [intOf]; omega
        · have hke : k = hs.length := by omega
          have hfl : out = hs.filter (fun h => !(h.x.2 == 0)) := by rw [hof, hke, List.take_length]
          have hon : out.map HSg.x = normP z := by rw [hfl, filter_x, HM2.out]; rfl
          obtain ⟨A5, c5, rfl, hle5, hb5⟩ := OwnZ.bag hout.out (by have := List.length_filter_le (fun h : HSg => !(h.x.2 == 0)) hs; rw [hfl]; omega)
          rw [hon] at hb5
          have hlen : out.length = (normP z).length := by rw [← hon, List.length_map]
          have HB5 := Lib.hid (hb5.to (ok' := fun _ => True) (fun _ _ => trivial))
          clear hb5 hfl
          go_wp2_with fail
          go_ret
          exact ⟨A5, c5, by rw [hlen]; rfl, by omega, HB5.out, hEo.trans hE2⟩
end Go.Proofs.YtgojggmjajlbpaaGreatDoor
