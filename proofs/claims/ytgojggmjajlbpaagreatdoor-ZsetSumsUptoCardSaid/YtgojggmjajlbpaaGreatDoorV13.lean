/- PARTS OF THE WALKS, joined: Zma, Zn, Zo, Zp. -/
import Derived.Test.YtgojggmjajlbpaaGreatDoorV12
/- THE WALK over the reference's Valid (chapter 47). -/
namespace Go.Proofs.YtgojggmjajlbpaaGreatDoor
open Go.RowKit Go.Sort
set_option maxRecDepth 100000 in
set_option maxHeartbeats 3200000 in
theorem r47_Valid (z : List Sg) (ok : Nat → Prop) (A : Option Addr) (c : Nat) (w : World) (hv : Bag w ok A z) (hk0 : OkZ z) (hl : z.length ≤ 8000000) :
    Calls Tryz.prog 15 #[.slice A z.length c] w fun e w' => e = .returned (.bool (validZ z)) ∧ Ext w w' := by
  have HV := Lib.hid hv
  have HK := Lib.hid hk0
  clear hv hk0
  go_enter Tryz.func15, Tryz.ntmps15
  go_wp2_with fail
  go_loopw [3] (fun u W => ∃ k : Nat, u = .int .i64 k ∧ k ≤ z.length ∧ Hid (∀ i < k, stepV z i) ∧ Ext w W) (fun u _ => z.length - (intOf u).toNat)
  case atStart => exact ⟨0, rfl, Nat.zero_le _, Lib.hid (fun i hi => absurd hi (Nat.not_lt_zero _)), Ext.refl _⟩
  case round =>
    obtain ⟨k, rfl, hk, hg, hE⟩ := hrel
    by_cases hlt : k < z.length
    · obtain ⟨b, o, hA0, A', c', c0, c1, hle5, hl5⟩ := HV.out.at_ hlt
      replace c0 := hE.cell c0
      replace c1 := hE.cell c1
      have zlt : (k : Int) < (z.length : Int) := by omega
      have HBAD := Lib.hid (fun h => validZ_f (z := z) hlt h)
      have HGOOD := Lib.hid (fun (h : stepV z k) i (hi : i < k + 1) => (if e : i = k then (by rw [e]; exact h) else hg.out i (by omega) : stepV z i))
      have hsx : szL z[k]!.1 := by rw [getElem!_pos z k hlt]; exact (HK.out _ (List.getElem_mem hlt)).2.1
      by_cases hn : z[k]!.2 = 0
      · have HF := Lib.hid (HBAD.out (fun h => h.1 hn))
        subst hA0
        generalize z[k]! = x at *
        rw [hn] at c1
        clear hl5 HBAD HGOOD hsx
        go_upto_region 4 with (fail)
        have MKR1 := Lib.hid (fun V (e : Ext wr V) => (⟨e.cell c1, e⟩ : V.cell? ⟨b, o + k * 2 + 1, none⟩ = some (.int .i64 0) ∧ Ext wr V))
        refine wp_region_held_drew (S := (fun V => V.cell? ⟨b, o + k * 2 + 1, none⟩ = some (.int .i64 0) ∧ Ext wr V)) (by kernel_rfl) ?hs1 (fun hHeld => ?go1)
        case hs1 => (exact MKR1.out _ (by with_reducible repeat (first | exact Ext.refl _ | assumption | refine Ext.drew ?_ | refine Ext.drewN ?_ _ | refine Ext.alloc ?_ _)))
        refine wpAnyH_take (i := 0) (oi := ⟨(some 10), (.move (.tmp 0)), 22, "ref.go:15", #[], none⟩) (v := ?v2) rfl (by kernel_rfl) (by kernel_rfl) (by kernel_rfl) (fun _ _ _ h => h) (Or.inl ⟨rfl, ?hy2⟩) hHeld ?rest2
        case hy2 => (intro w _; go_simp <;> rfl)
        (try simp only [PU])
        refine wpAnyH_take (i := 1) (oi := ⟨(some 11), (.move (.tmp 3)), 3, "ref.go:15", #[], none⟩) (v := ?v3) rfl (by kernel_rfl) (by kernel_rfl) (by kernel_rfl) (fun _ _ _ h => h) (Or.inl ⟨rfl, ?hy3⟩) hHeld ?rest3
        case hy3 => (intro w _; go_simp <;> rfl)
        (try simp only [PU])
        refine wpAnyH_take (i := 2) (oi := ⟨(some 12), (.indexAddr 22 (.tmp 10) (.tmp 11)), 0, "ref.go:15", #[⟨0, .data⟩, ⟨1, .data⟩], none⟩) (v := ?v4) rfl (by kernel_rfl) (by kernel_rfl) (by kernel_rfl) (fun _ _ _ h => h) (Or.inl ⟨rfl, ?hy4⟩) hHeld ?rest4
        case hy4 => (intro w _; go_simp <;> first | with_reducible rfl | rw [if_neg (by omega)] | rw [if_pos (by omega)])
        (try simp only [PU])
        refine wpAnyH_take (i := 3) (oi := ⟨(some 13), (.fieldAddr 38 (.tmp 12) 1), 0, "ref.go:15", #[⟨2, .data⟩], none⟩) (v := ?v5) rfl (by kernel_rfl) (by kernel_rfl) (by kernel_rfl) (fun _ _ _ h => h) (Or.inl ⟨rfl, ?hy5⟩) hHeld ?rest5
        case hy5 => (intro w _; go_simp <;> rfl)
        (try simp only [PU])
        refine wpAnyH_take (i := 4) (oi := ⟨(some 14), (.load 3 (.tmp 13)), 3, "ref.go:15", #[⟨3, .data⟩], none⟩) (v := ?v6) rfl (by kernel_rfl) (by kernel_rfl) (by kernel_rfl) (fun _ _ _ h => h) (Or.inl ⟨rfl, ?hy6⟩) hHeld ?rest6
        case hy6 => (intro w hSw; (try dsimp only at hSw); go_simp <;> first | with_reducible rfl | rw [if_neg (by omega)] | rw [if_pos (by omega)])
        (try simp only [PU])
        refine wpAnyH_take (i := 5) (oi := ⟨(some 15), (.binOp .eql 3 (.tmp 14) (.const (.int .i64 0)) 3), 4, "ref.go:15", #[⟨4, .data⟩], none⟩) (v := ?v7) rfl (by kernel_rfl) (by kernel_rfl) (by kernel_rfl) (fun _ _ _ h => h) (Or.inl ⟨rfl, ?hy7⟩) hHeld ?rest7
        case hy7 => (intro w _; go_simp <;> first | with_reducible rfl | rw [if_neg (by omega)] | rw [if_pos (by omega)])
        (try simp only [PU])
        refine wpAnyH_take (i := 6) (oi := ⟨(some 16), (.move (.tmp 15)), 4, "ref.go:15", #[⟨5, .data⟩], none⟩) (v := ?v8) rfl (by kernel_rfl) (by kernel_rfl) (by kernel_rfl) (fun _ _ _ h => h) (Or.inl ⟨rfl, ?hy8⟩) hHeld ?rest8
        case hy8 => (intro w _; go_simp <;> rfl)
        (try simp only [PU])
        refine wpAnyH_take (i := 7) (oi := ⟨(some 17), (.move (.tmp 3)), 3, "ref.go:15", #[⟨6, .guard⟩], (some (6, false))⟩) (v := undef) rfl (by kernel_rfl) (by kernel_rfl) (by kernel_rfl) (fun _ _ _ h => h) (Or.inr ⟨rfl, rfl⟩) hHeld ?rest9
        (try simp only [PU])
        refine wpAnyH_take (i := 8) (oi := ⟨(some 18), (.binOp .gtr 3 (.tmp 17) (.const (.int .i64 0)) 3), 4, "ref.go:15", #[⟨7, .data⟩, ⟨6, .guard⟩], (some (6, false))⟩) (v := undef) rfl (by kernel_rfl) (by kernel_rfl) (by kernel_rfl) (fun _ _ _ h => h) (Or.inr ⟨rfl, rfl⟩) hHeld ?rest10
        (try simp only [PU])
        refine wpAnyH_take (i := 9) (oi := ⟨(some 19), (.move (.tmp 18)), 4, "ref.go:15", #[⟨8, .data⟩, ⟨6, .chain⟩, ⟨6, .guard⟩], (some (6, false))⟩) (v := undef) rfl (by kernel_rfl) (by kernel_rfl) (by kernel_rfl) (fun _ _ _ h => h) (Or.inr ⟨rfl, rfl⟩) hHeld ?rest11
        (try simp only [PU])
        refine wpAnyH_take (i := 10) (oi := ⟨(some 20), (.move (.tmp 0)), 22, "ref.go:15", #[⟨9, .guard⟩], (some (9, true))⟩) (v := undef) rfl (by kernel_rfl) (by kernel_rfl) (by kernel_rfl) (fun _ _ _ h => h) (Or.inr ⟨rfl, rfl⟩) hHeld ?rest12
        (try simp only [PU])
        refine wpAnyH_take (i := 11) (oi := ⟨(some 21), (.move (.tmp 3)), 3, "ref.go:15", #[⟨9, .guard⟩], (some (9, true))⟩) (v := undef) rfl (by kernel_rfl) (by kernel_rfl) (by kernel_rfl) (fun _ _ _ h => h) (Or.inr ⟨rfl, rfl⟩) hHeld ?rest13
        (try simp only [PU])
        refine wpAnyH_take (i := 12) (oi := ⟨(some 22), (.binOp .sub 3 (.tmp 21) (.const (.int .i64 1)) 3), 3, "ref.go:15", #[⟨11, .data⟩, ⟨9, .guard⟩], (some (9, true))⟩) (v := undef) rfl (by kernel_rfl) (by kernel_rfl) (by kernel_rfl) (fun _ _ _ h => h) (Or.inr ⟨rfl, rfl⟩) hHeld ?rest14
        (try simp only [PU])
        refine wpAnyH_take (i := 13) (oi := ⟨(some 23), (.indexAddr 22 (.tmp 20) (.tmp 22)), 0, "ref.go:15", #[⟨10, .data⟩, ⟨12, .data⟩, ⟨9, .guard⟩], (some (9, true))⟩) (v := undef) rfl (by kernel_rfl) (by kernel_rfl) (by kernel_rfl) (fun _ _ _ h => h) (Or.inr ⟨rfl, rfl⟩) hHeld ?rest15
        (try simp only [PU])
        refine wpAnyH_take (i := 14) (oi := ⟨(some 24), (.fieldAddr 38 (.tmp 23) 0), 0, "ref.go:15", #[⟨13, .data⟩, ⟨9, .guard⟩], (some (9, true))⟩) (v := undef) rfl (by kernel_rfl) (by kernel_rfl) (by kernel_rfl) (fun _ _ _ h => h) (Or.inr ⟨rfl, rfl⟩) hHeld ?rest16
        (try simp only [PU])
        refine wpAnyH_take (i := 15) (oi := ⟨(some 25), (.load 24 (.tmp 24)), 24, "ref.go:15", #[⟨14, .data⟩, ⟨9, .guard⟩], (some (9, true))⟩) (v := undef) rfl (by kernel_rfl) (by kernel_rfl) (by kernel_rfl) (fun _ _ _ h => h) (Or.inr ⟨rfl, rfl⟩) hHeld ?rest17
        (try simp only [PU])
        refine wpAnyH_take (i := 16) (oi := ⟨(some 26), (.move (.tmp 0)), 22, "ref.go:15", #[⟨9, .guard⟩], (some (9, true))⟩) (v := undef) rfl (by kernel_rfl) (by kernel_rfl) (by kernel_rfl) (fun _ _ _ h => h) (Or.inr ⟨rfl, rfl⟩) hHeld ?rest18
        (try simp only [PU])
        refine wpAnyH_take (i := 17) (oi := ⟨(some 27), (.move (.tmp 3)), 3, "ref.go:15", #[⟨9, .guard⟩], (some (9, true))⟩) (v := undef) rfl (by kernel_rfl) (by kernel_rfl) (by kernel_rfl) (fun _ _ _ h => h) (Or.inr ⟨rfl, rfl⟩) hHeld ?rest19
        (try simp only [PU])
        refine wpAnyH_take (i := 18) (oi := ⟨(some 28), (.indexAddr 22 (.tmp 26) (.tmp 27)), 0, "ref.go:15", #[⟨16, .data⟩, ⟨17, .data⟩, ⟨9, .guard⟩], (some (9, true))⟩) (v := undef) rfl (by kernel_rfl) (by kernel_rfl) (by kernel_rfl) (fun _ _ _ h => h) (Or.inr ⟨rfl, rfl⟩) hHeld ?rest20
        (try simp only [PU])
        refine wpAnyH_take (i := 19) (oi := ⟨(some 29), (.fieldAddr 38 (.tmp 28) 0), 0, "ref.go:15", #[⟨18, .data⟩, ⟨9, .guard⟩], (some (9, true))⟩) (v := undef) rfl (by kernel_rfl) (by kernel_rfl) (by kernel_rfl) (fun _ _ _ h => h) (Or.inr ⟨rfl, rfl⟩) hHeld ?rest21
        (try simp only [PU])
        refine wpAnyH_take (i := 20) (oi := ⟨(some 30), (.load 24 (.tmp 29)), 24, "ref.go:15", #[⟨19, .data⟩, ⟨9, .guard⟩], (some (9, true))⟩) (v := undef) rfl (by kernel_rfl) (by kernel_rfl) (by kernel_rfl) (fun _ _ _ h => h) (Or.inr ⟨rfl, rfl⟩) hHeld ?rest22
        (try simp only [PU])
        refine wpAnyH_take (i := 21) (oi := ⟨(some 31), (.call { callee := (.value (.func 13)), args := #[(.tmp 25), (.tmp 30)], argTypes := #[24, 24] }), 3, "ref.go:15", #[⟨15, .data⟩, ⟨20, .data⟩, ⟨9, .chain⟩, ⟨9, .guard⟩], (some (9, true))⟩) (v := undef) rfl (by kernel_rfl) (by kernel_rfl) (by kernel_rfl) (fun _ _ _ h => h) (Or.inr ⟨rfl, rfl⟩) hHeld ?rest23
        (try simp only [PU])
        refine wpAnyH_take (i := 22) (oi := ⟨(some 32), (.binOp .geq 3 (.tmp 31) (.const (.int .i64 0)) 3), 4, "ref.go:15", #[⟨21, .data⟩, ⟨9, .guard⟩], (some (9, true))⟩) (v := undef) rfl (by kernel_rfl) (by kernel_rfl) (by kernel_rfl) (fun _ _ _ h => h) (Or.inr ⟨rfl, rfl⟩) hHeld ?rest24
        (try simp only [PU])
        refine wpAnyH_take (i := 23) (oi := ⟨(some 33), (.pick (.tmp 19) (.tmp 32) (.const (.bool false))), 4, "ref.go:15", #[⟨9, .data⟩, ⟨22, .data⟩, ⟨6, .guard⟩], (some (6, false))⟩) (v := undef) rfl (by kernel_rfl) (by kernel_rfl) (by kernel_rfl) (fun _ _ _ h => h) (Or.inr ⟨rfl, rfl⟩) hHeld ?rest25
        (try simp only [PU])
        refine wpAnyH_take (i := 24) (oi := ⟨(some 34), (.pick (.tmp 16) (.const (.bool true)) (.tmp 33)), 4, "ref.go:15", #[⟨6, .data⟩, ⟨23, .data⟩], none⟩) (v := ?v26) rfl (by kernel_rfl) (by kernel_rfl) (by kernel_rfl) (fun _ _ _ h => h) (Or.inl ⟨rfl, ?hy26⟩) hHeld ?rest26
        case hy26 => (intro w _; go_simp <;> rfl)
        (try simp only [PU])
        refine wpAnyH_done (by kernel_rfl) ?_ _
        clear hHeld
        clear MKR1
        go_wp2_with fail
        go_ret
        exact ⟨ret_b HF.out.symm, hE.trans (by with_reducible repeat (first | exact Ext.refl _ | assumption | refine Ext.drew ?_ | refine Ext.drewN ?_ _ | refine Ext.alloc ?_ _))⟩
      · have hn2 : (z[k]!.2 == 0) = false := beq_eq_false_iff_ne.2 hn
        rcases Nat.eq_zero_or_pos k with h0 | h0
        · have HG := Lib.hid (HGOOD.out ⟨hn, .inl h0⟩)
          have hk0 : ¬ (0 : Int) < (k : Int) := by omega
          have hk1 : decide ((k : Int) > 0) = false := decide_eq_false hk0
          have hk2 : decide (0 < (k : Int)) = false := decide_eq_false hk0
          have hk3 : decide (0 < k) = false := decide_eq_false (by omega)
          clear h0
          subst hA0
          generalize z[k]! = x at *
          clear hl5 HBAD HGOOD hsx
          go_upto_region 4 with (fail)
          have MKR2 := Lib.hid (fun V (e : Ext wr V) => (⟨e.cell c1, e⟩ : V.cell? ⟨b, o + k * 2 + 1, none⟩ = some (.int .i64 x.2) ∧ Ext wr V))
          refine wp_region_held_drew (S := (fun V => V.cell? ⟨b, o + k * 2 + 1, none⟩ = some (.int .i64 x.2) ∧ Ext wr V)) (by kernel_rfl) ?hs27 (fun hHeld => ?go27)
          case hs27 => (exact MKR2.out _ (by with_reducible repeat (first | exact Ext.refl _ | assumption | refine Ext.drew ?_ | refine Ext.drewN ?_ _ | refine Ext.alloc ?_ _)))
          refine wpAnyH_take (i := 0) (oi := ⟨(some 10), (.move (.tmp 0)), 22, "ref.go:15", #[], none⟩) (v := ?v28) rfl (by kernel_rfl) (by kernel_rfl) (by kernel_rfl) (fun _ _ _ h => h) (Or.inl ⟨rfl, ?hy28⟩) hHeld ?rest28
          case hy28 => (intro w _; go_simp <;> rfl)
          (try simp only [PU])
          refine wpAnyH_take (i := 1) (oi := ⟨(some 11), (.move (.tmp 3)), 3, "ref.go:15", #[], none⟩) (v := ?v29) rfl (by kernel_rfl) (by kernel_rfl) (by kernel_rfl) (fun _ _ _ h => h) (Or.inl ⟨rfl, ?hy29⟩) hHeld ?rest29
          case hy29 => (intro w _; go_simp <;> rfl)
          (try simp only [PU])
          refine wpAnyH_take (i := 2) (oi := ⟨(some 12), (.indexAddr 22 (.tmp 10) (.tmp 11)), 0, "ref.go:15", #[⟨0, .data⟩, ⟨1, .data⟩], none⟩) (v := ?v30) rfl (by kernel_rfl) (by kernel_rfl) (by kernel_rfl) (fun _ _ _ h => h) (Or.inl ⟨rfl, ?hy30⟩) hHeld ?rest30
          case hy30 => (intro w _; go_simp <;> first | with_reducible rfl | rw [if_neg (by omega)] | rw [if_pos (by omega)])
          (try simp only [PU])
          refine wpAnyH_take (i := 3) (oi := ⟨(some 13), (.fieldAddr 38 (.tmp 12) 1), 0, "ref.go:15", #[⟨2, .data⟩], none⟩) (v := ?v31) rfl (by kernel_rfl) (by kernel_rfl) (by kernel_rfl) (fun _ _ _ h => h) (Or.inl ⟨rfl, ?hy31⟩) hHeld ?rest31
          case hy31 => (intro w _; go_simp <;> rfl)
          (try simp only [PU])
          refine wpAnyH_take (i := 4) (oi := ⟨(some 14), (.load 3 (.tmp 13)), 3, "ref.go:15", #[⟨3, .data⟩], none⟩) (v := ?v32) rfl (by kernel_rfl) (by kernel_rfl) (by kernel_rfl) (fun _ _ _ h => h) (Or.inl ⟨rfl, ?hy32⟩) hHeld ?rest32
          case hy32 => (intro w hSw; (try dsimp only at hSw); go_simp <;> first | with_reducible rfl | rw [if_neg (by omega)] | rw [if_pos (by omega)])
          (try simp only [PU])
          refine wpAnyH_take (i := 5) (oi := ⟨(some 15), (.binOp .eql 3 (.tmp 14) (.const (.int .i64 0)) 3), 4, "ref.go:15", #[⟨4, .data⟩], none⟩) (v := ?v33) rfl (by kernel_rfl) (by kernel_rfl) (by kernel_rfl) (fun _ _ _ h => h) (Or.inl ⟨rfl, ?hy33⟩) hHeld ?rest33
          case hy33 => (intro w _; go_simp <;> first | with_reducible rfl | rw [if_neg (by omega)] | rw [if_pos (by omega)])
          (try simp only [PU])
          refine wpAnyH_take (i := 6) (oi := ⟨(some 16), (.move (.tmp 15)), 4, "ref.go:15", #[⟨5, .data⟩], none⟩) (v := ?v34) rfl (by kernel_rfl) (by kernel_rfl) (by kernel_rfl) (fun _ _ _ h => h) (Or.inl ⟨rfl, ?hy34⟩) hHeld ?rest34
          case hy34 => (intro w _; go_simp <;> rfl)
          (try simp only [PU])
          refine wpAnyH_take (i := 7) (oi := ⟨(some 17), (.move (.tmp 3)), 3, "ref.go:15", #[⟨6, .guard⟩], (some (6, false))⟩) (v := ?v35) rfl (by kernel_rfl) (by kernel_rfl) (by kernel_rfl) (fun _ _ _ h => h) (Or.inl ⟨rfl, ?hy35⟩) hHeld ?rest35
          case hy35 => (intro w _; go_simp <;> rfl)
          (try simp only [PU])
          refine wpAnyH_take (i := 8) (oi := ⟨(some 18), (.binOp .gtr 3 (.tmp 17) (.const (.int .i64 0)) 3), 4, "ref.go:15", #[⟨7, .data⟩, ⟨6, .guard⟩], (some (6, false))⟩) (v := ?v36) rfl (by kernel_rfl) (by kernel_rfl) (by kernel_rfl) (fun _ _ _ h => h) (Or.inl ⟨rfl, ?hy36⟩) hHeld ?rest36
          case hy36 => (intro w _; go_simp <;> first | with_reducible rfl | rw [if_neg (by omega)] | rw [if_pos (by omega)])
          (try simp only [PU])
          refine wpAnyH_take (i := 9) (oi := ⟨(some 19), (.move (.tmp 18)), 4, "ref.go:15", #[⟨8, .data⟩, ⟨6, .chain⟩, ⟨6, .guard⟩], (some (6, false))⟩) (v := ?v37) rfl (by kernel_rfl) (by kernel_rfl) (by kernel_rfl) (fun _ _ _ h => h) (Or.inl ⟨rfl, ?hy37⟩) hHeld ?rest37
          case hy37 => (intro w _; go_simp <;> rfl)
          (try simp only [PU])
          refine wpAnyH_take (i := 10) (oi := ⟨(some 20), (.move (.tmp 0)), 22, "ref.go:15", #[⟨9, .guard⟩], (some (9, true))⟩) (v := undef) rfl (by kernel_rfl) (by kernel_rfl) (by kernel_rfl) (fun _ _ _ h => h) (Or.inr ⟨rfl, rfl⟩) hHeld ?rest38
          (try simp only [PU])
          refine wpAnyH_take (i := 11) (oi := ⟨(some 21), (.move (.tmp 3)), 3, "ref.go:15", #[⟨9, .guard⟩], (some (9, true))⟩) (v := undef) rfl (by kernel_rfl) (by kernel_rfl) (by kernel_rfl) (fun _ _ _ h => h) (Or.inr ⟨rfl, rfl⟩) hHeld ?rest39
          (try simp only [PU])
          refine wpAnyH_take (i := 12) (oi := ⟨(some 22), (.binOp .sub 3 (.tmp 21) (.const (.int .i64 1)) 3), 3, "ref.go:15", #[⟨11, .data⟩, ⟨9, .guard⟩], (some (9, true))⟩) (v := undef) rfl (by kernel_rfl) (by kernel_rfl) (by kernel_rfl) (fun _ _ _ h => h) (Or.inr ⟨rfl, rfl⟩) hHeld ?rest40
          (try simp only [PU])
          refine wpAnyH_take (i := 13) (oi := ⟨(some 23), (.indexAddr 22 (.tmp 20) (.tmp 22)), 0, "ref.go:15", #[⟨10, .data⟩, ⟨12, .data⟩, ⟨9, .guard⟩], (some (9, true))⟩) (v := undef) rfl (by kernel_rfl) (by kernel_rfl) (by kernel_rfl) (fun _ _ _ h => h) (Or.inr ⟨rfl, rfl⟩) hHeld ?rest41
          (try simp only [PU])
          refine wpAnyH_take (i := 14) (oi := ⟨(some 24), (.fieldAddr 38 (.tmp 23) 0), 0, "ref.go:15", #[⟨13, .data⟩, ⟨9, .guard⟩], (some (9, true))⟩) (v := undef) rfl (by kernel_rfl) (by kernel_rfl) (by kernel_rfl) (fun _ _ _ h => h) (Or.inr ⟨rfl, rfl⟩) hHeld ?rest42
          (try simp only [PU])
          refine wpAnyH_take (i := 15) (oi := ⟨(some 25), (.load 24 (.tmp 24)), 24, "ref.go:15", #[⟨14, .data⟩, ⟨9, .guard⟩], (some (9, true))⟩) (v := undef) rfl (by kernel_rfl) (by kernel_rfl) (by kernel_rfl) (fun _ _ _ h => h) (Or.inr ⟨rfl, rfl⟩) hHeld ?rest43
          (try simp only [PU])
          refine wpAnyH_take (i := 16) (oi := ⟨(some 26), (.move (.tmp 0)), 22, "ref.go:15", #[⟨9, .guard⟩], (some (9, true))⟩) (v := undef) rfl (by kernel_rfl) (by kernel_rfl) (by kernel_rfl) (fun _ _ _ h => h) (Or.inr ⟨rfl, rfl⟩) hHeld ?rest44
          (try simp only [PU])
          refine wpAnyH_take (i := 17) (oi := ⟨(some 27), (.move (.tmp 3)), 3, "ref.go:15", #[⟨9, .guard⟩], (some (9, true))⟩) (v := undef) rfl (by kernel_rfl) (by kernel_rfl) (by kernel_rfl) (fun _ _ _ h => h) (Or.inr ⟨rfl, rfl⟩) hHeld ?rest45
          (try simp only [PU])
          refine wpAnyH_take (i := 18) (oi := ⟨(some 28), (.indexAddr 22 (.tmp 26) (.tmp 27)), 0, "ref.go:15", #[⟨16, .data⟩, ⟨17, .data⟩, ⟨9, .guard⟩], (some (9, true))⟩) (v := undef) rfl (by kernel_rfl) (by kernel_rfl) (by kernel_rfl) (fun _ _ _ h => h) (Or.inr ⟨rfl, rfl⟩) hHeld ?rest46
          (try simp only [PU])
          refine wpAnyH_take (i := 19) (oi := ⟨(some 29), (.fieldAddr 38 (.tmp 28) 0), 0, "ref.go:15", #[⟨18, .data⟩, ⟨9, .guard⟩], (some (9, true))⟩) (v := undef) rfl (by kernel_rfl) (by kernel_rfl) (by kernel_rfl) (fun _ _ _ h => h) (Or.inr ⟨rfl, rfl⟩) hHeld ?rest47
          (try simp only [PU])
          refine wpAnyH_take (i := 20) (oi := ⟨(some 30), (.load 24 (.tmp 29)), 24, "ref.go:15", #[⟨19, .data⟩, ⟨9, .guard⟩], (some (9, true))⟩) (v := undef) rfl (by kernel_rfl) (by kernel_rfl) (by kernel_rfl) (fun _ _ _ h => h) (Or.inr ⟨rfl, rfl⟩) hHeld ?rest48
          (try simp only [PU])
          refine wpAnyH_take (i := 21) (oi := ⟨(some 31), (.call { callee := (.value (.func 13)), args := #[(.tmp 25), (.tmp 30)], argTypes := #[24, 24] }), 3, "ref.go:15", #[⟨15, .data⟩, ⟨20, .data⟩, ⟨9, .chain⟩, ⟨9, .guard⟩], (some (9, true))⟩) (v := undef) rfl (by kernel_rfl) (by kernel_rfl) (by kernel_rfl) (fun _ _ _ h => h) (Or.inr ⟨rfl, rfl⟩) hHeld ?rest49
          (try simp only [PU])
          refine wpAnyH_take (i := 22) (oi := ⟨(some 32), (.binOp .geq 3 (.tmp 31) (.const (.int .i64 0)) 3), 4, "ref.go:15", #[⟨21, .data⟩, ⟨9, .guard⟩], (some (9, true))⟩) (v := undef) rfl (by kernel_rfl) (by kernel_rfl) (by kernel_rfl) (fun _ _ _ h => h) (Or.inr ⟨rfl, rfl⟩) hHeld ?rest50
          (try simp only [PU])
          refine wpAnyH_take (i := 23) (oi := ⟨(some 33), (.pick (.tmp 19) (.tmp 32) (.const (.bool false))), 4, "ref.go:15", #[⟨9, .data⟩, ⟨22, .data⟩, ⟨6, .guard⟩], (some (6, false))⟩) (v := ?v51) rfl (by kernel_rfl) (by kernel_rfl) (by kernel_rfl) (fun _ _ _ h => h) (Or.inl ⟨rfl, ?hy51⟩) hHeld ?rest51
          case hy51 => (intro w _; go_simp <;> rfl)
          (try simp only [PU])
          refine wpAnyH_take (i := 24) (oi := ⟨(some 34), (.pick (.tmp 16) (.const (.bool true)) (.tmp 33)), 4, "ref.go:15", #[⟨6, .data⟩, ⟨23, .data⟩], none⟩) (v := ?v52) rfl (by kernel_rfl) (by kernel_rfl) (by kernel_rfl) (fun _ _ _ h => h) (Or.inl ⟨rfl, ?hy52⟩) hHeld ?rest52
          case hy52 => (intro w _; go_simp <;> rfl)
          (try simp only [PU])
          refine wpAnyH_done (by kernel_rfl) ?_ _
          clear hHeld
          clear MKR2
          go_wp2_with fail
          go_roundw
          case rel => exact ⟨k + 1, by go_num, by omega, HG, hE.trans (by with_reducible repeat (first | exact Ext.refl _ | assumption | refine Ext.drew ?_ | refine Ext.drewN ?_ _ | refine Ext.alloc ?_ _))⟩
          case measure => simp [intOf]; omega
        · obtain ⟨j, rfl⟩ : ∃ j, k = j + 1 := ⟨k - 1, by omega⟩
          obtain ⟨b1, o1, hA1, B', d', d0, -, -, hm5⟩ := HV.out.at_ (show j < z.length by omega)
          have hsy : szL z[j]!.1 := by rw [getElem!_pos z j (by omega)]; exact (HK.out _ (List.getElem_mem _)).2.1
          rw [hA0] at hA1
          injection hA1 with hA1
          injection hA1 with hb1 ho1
          subst hb1 ho1 hA0
          replace d0 := hE.cell d0
          have HOR := Lib.hid (fun W (e : Ext wr W) => r4_OrderRows z[j]!.1 z[j + 1]!.1 _ _ B' A' d' c' W (hm5.ext (hE.trans e)) (hl5.ext (hE.trans e)) hsy hsx)
          have HB := Lib.hid (fun (h : ¬ ordL z[j]!.1 z[j + 1]!.1 < 0) => HBAD.out (fun h2 => h (h2.2.resolve_left (by omega))))
          have HG := Lib.hid (fun (h : ordL z[j]!.1 z[j + 1]!.1 < 0) => HGOOD.out ⟨hn, .inr h⟩)
          have hk0 : (0 : Int) < (j : Int) + 1 := by omega
          have hk1 : decide ((j : Int) + 1 > 0) = true := decide_eq_true hk0
          have hk2 : decide (0 < (j : Int) + 1) = true := decide_eq_true hk0
          generalize z[j + 1]! = x at *
          generalize z[j]! = y at *
          clear hl5 hm5 HBAD HGOOD hsx hsy
          have hjl : j < z.length := by omega
          have hjz : (j : Int) < (z.length : Int) := by omega
          have hwj : IntKind.i64.wrap (j : Int) = (j : Int) := IntWalk.i64_in _ ⟨by omega, by omega⟩
          rcases TotC.row.rng y.1 x.1 with e3 | e3 | e3
          · have HG2 := Lib.hid (HG.out (by omega))
            simp only [e3] at HOR
            clear HB HG
            go_upto_region 4 with (fail)
            have MKR3 := Lib.hid (fun V (e : Ext wr V) => (⟨e.cell c1, e.cell c0, e.cell d0, e⟩ : V.cell? ⟨b, o + (j + 1) * 2 + 1, none⟩ = some (.int .i64 x.2) ∧ V.cell? ⟨b, o + (j + 1) * 2, none⟩ = some (.slice A' x.1.length c') ∧ V.cell? ⟨b, o + j * 2, none⟩ = some (.slice B' y.1.length d') ∧ Ext wr V))
            refine wp_region_held_drew (S := (fun V => V.cell? ⟨b, o + (j + 1) * 2 + 1, none⟩ = some (.int .i64 x.2) ∧ V.cell? ⟨b, o + (j + 1) * 2, none⟩ = some (.slice A' x.1.length c') ∧ V.cell? ⟨b, o + j * 2, none⟩ = some (.slice B' y.1.length d') ∧ Ext wr V)) (by kernel_rfl) ?hs53 (fun hHeld => ?go53)
            case hs53 => (exact MKR3.out _ (by with_reducible repeat (first | exact Ext.refl _ | assumption | refine Ext.drew ?_ | refine Ext.drewN ?_ _ | refine Ext.alloc ?_ _)))
            refine wpAnyH_take (i := 0) (oi := ⟨(some 10), (.move (.tmp 0)), 22, "ref.go:15", #[], none⟩) (v := ?v54) rfl (by kernel_rfl) (by kernel_rfl) (by kernel_rfl) (fun _ _ _ h => h) (Or.inl ⟨rfl, ?hy54⟩) hHeld ?rest54
            case hy54 => (intro w _; go_simp <;> rfl)
            (try simp only [PU])
            refine wpAnyH_take (i := 1) (oi := ⟨(some 11), (.move (.tmp 3)), 3, "ref.go:15", #[], none⟩) (v := ?v55) rfl (by kernel_rfl) (by kernel_rfl) (by kernel_rfl) (fun _ _ _ h => h) (Or.inl ⟨rfl, ?hy55⟩) hHeld ?rest55
            case hy55 => (intro w _; go_simp <;> rfl)
            (try simp only [PU])
            refine wpAnyH_take (i := 2) (oi := ⟨(some 12), (.indexAddr 22 (.tmp 10) (.tmp 11)), 0, "ref.go:15", #[⟨0, .data⟩, ⟨1, .data⟩], none⟩) (v := ?v56) rfl (by kernel_rfl) (by kernel_rfl) (by kernel_rfl) (fun _ _ _ h => h) (Or.inl ⟨rfl, ?hy56⟩) hHeld ?rest56
            case hy56 => (intro w _; go_simp <;> first | with_reducible rfl | rw [if_neg (by omega)] | rw [if_pos (by omega)])
            (try simp only [PU])
            refine wpAnyH_take (i := 3) (oi := ⟨(some 13), (.fieldAddr 38 (.tmp 12) 1), 0, "ref.go:15", #[⟨2, .data⟩], none⟩) (v := ?v57) rfl (by kernel_rfl) (by kernel_rfl) (by kernel_rfl) (fun _ _ _ h => h) (Or.inl ⟨rfl, ?hy57⟩) hHeld ?rest57
            case hy57 => (intro w _; go_simp <;> rfl)
            (try simp only [PU])
            refine wpAnyH_take (i := 4) (oi := ⟨(some 14), (.load 3 (.tmp 13)), 3, "ref.go:15", #[⟨3, .data⟩], none⟩) (v := ?v58) rfl (by kernel_rfl) (by kernel_rfl) (by kernel_rfl) (fun _ _ _ h => h) (Or.inl ⟨rfl, ?hy58⟩) hHeld ?rest58
            case hy58 => (intro w hSw; (try dsimp only at hSw); go_simp <;> first | with_reducible rfl | rw [if_neg (by omega)] | rw [if_pos (by omega)])
            (try simp only [PU])
            refine wpAnyH_take (i := 5) (oi := ⟨(some 15), (.binOp .eql 3 (.tmp 14) (.const (.int .i64 0)) 3), 4, "ref.go:15", #[⟨4, .data⟩], none⟩) (v := ?v59) rfl (by kernel_rfl) (by kernel_rfl) (by kernel_rfl) (fun _ _ _ h => h) (Or.inl ⟨rfl, ?hy59⟩) hHeld ?rest59
            case hy59 => (intro w _; go_simp <;> first | with_reducible rfl | rw [if_neg (by omega)] | rw [if_pos (by omega)])
            (try simp only [PU])
            refine wpAnyH_take (i := 6) (oi := ⟨(some 16), (.move (.tmp 15)), 4, "ref.go:15", #[⟨5, .data⟩], none⟩) (v := ?v60) rfl (by kernel_rfl) (by kernel_rfl) (by kernel_rfl) (fun _ _ _ h => h) (Or.inl ⟨rfl, ?hy60⟩) hHeld ?rest60
            case hy60 => (intro w _; go_simp <;> rfl)
            (try simp only [PU])
            refine wpAnyH_take (i := 7) (oi := ⟨(some 17), (.move (.tmp 3)), 3, "ref.go:15", #[⟨6, .guard⟩], (some (6, false))⟩) (v := ?v61) rfl (by kernel_rfl) (by kernel_rfl) (by kernel_rfl) (fun _ _ _ h => h) (Or.inl ⟨rfl, ?hy61⟩) hHeld ?rest61
            case hy61 => (intro w _; go_simp <;> rfl)
            (try simp only [PU])
            refine wpAnyH_take (i := 8) (oi := ⟨(some 18), (.binOp .gtr 3 (.tmp 17) (.const (.int .i64 0)) 3), 4, "ref.go:15", #[⟨7, .data⟩, ⟨6, .guard⟩], (some (6, false))⟩) (v := ?v62) rfl (by kernel_rfl) (by kernel_rfl) (by kernel_rfl) (fun _ _ _ h => h) (Or.inl ⟨rfl, ?hy62⟩) hHeld ?rest62
            case hy62 => (intro w _; go_simp <;> first | with_reducible rfl | rw [if_neg (by omega)] | rw [if_pos (by omega)])
            (try simp only [PU])
            refine wpAnyH_take (i := 9) (oi := ⟨(some 19), (.move (.tmp 18)), 4, "ref.go:15", #[⟨8, .data⟩, ⟨6, .chain⟩, ⟨6, .guard⟩], (some (6, false))⟩) (v := ?v63) rfl (by kernel_rfl) (by kernel_rfl) (by kernel_rfl) (fun _ _ _ h => h) (Or.inl ⟨rfl, ?hy63⟩) hHeld ?rest63
            case hy63 => (intro w _; go_simp <;> rfl)
            (try simp only [PU])
            refine wpAnyH_take (i := 10) (oi := ⟨(some 20), (.move (.tmp 0)), 22, "ref.go:15", #[⟨9, .guard⟩], (some (9, true))⟩) (v := ?v64) rfl (by kernel_rfl) (by kernel_rfl) (by kernel_rfl) (fun _ _ _ h => h) (Or.inl ⟨rfl, ?hy64⟩) hHeld ?rest64
            case hy64 => (intro w _; go_simp <;> rfl)
            (try simp only [PU])
            refine wpAnyH_take (i := 11) (oi := ⟨(some 21), (.move (.tmp 3)), 3, "ref.go:15", #[⟨9, .guard⟩], (some (9, true))⟩) (v := ?v65) rfl (by kernel_rfl) (by kernel_rfl) (by kernel_rfl) (fun _ _ _ h => h) (Or.inl ⟨rfl, ?hy65⟩) hHeld ?rest65
            case hy65 => (intro w _; go_simp <;> rfl)
            (try simp only [PU])
            refine wpAnyH_take (i := 12) (oi := ⟨(some 22), (.binOp .sub 3 (.tmp 21) (.const (.int .i64 1)) 3), 3, "ref.go:15", #[⟨11, .data⟩, ⟨9, .guard⟩], (some (9, true))⟩) (v := ?v66) rfl (by kernel_rfl) (by kernel_rfl) (by kernel_rfl) (fun _ _ _ h => h) (Or.inl ⟨rfl, ?hy66⟩) hHeld ?rest66
            case hy66 => (intro w _; go_simp <;> first | with_reducible rfl | rw [if_neg (by omega)] | rw [if_pos (by omega)])
            (try simp only [PU])
            refine wpAnyH_take (i := 13) (oi := ⟨(some 23), (.indexAddr 22 (.tmp 20) (.tmp 22)), 0, "ref.go:15", #[⟨10, .data⟩, ⟨12, .data⟩, ⟨9, .guard⟩], (some (9, true))⟩) (v := ?v67) rfl (by kernel_rfl) (by kernel_rfl) (by kernel_rfl) (fun _ _ _ h => h) (Or.inl ⟨rfl, ?hy67⟩) hHeld ?rest67
            case hy67 => (intro w _; go_simp <;> first | with_reducible rfl | rw [if_neg (by omega)] | rw [if_pos (by omega)])
            (try simp only [PU])
            refine wpAnyH_take (i := 14) (oi := ⟨(some 24), (.fieldAddr 38 (.tmp 23) 0), 0, "ref.go:15", #[⟨13, .data⟩, ⟨9, .guard⟩], (some (9, true))⟩) (v := ?v68) rfl (by kernel_rfl) (by kernel_rfl) (by kernel_rfl) (fun _ _ _ h => h) (Or.inl ⟨rfl, ?hy68⟩) hHeld ?rest68
            case hy68 => (intro w _; go_simp <;> rfl)
            (try simp only [PU])
            refine wpAnyH_take (i := 15) (oi := ⟨(some 25), (.load 24 (.tmp 24)), 24, "ref.go:15", #[⟨14, .data⟩, ⟨9, .guard⟩], (some (9, true))⟩) (v := ?v69) rfl (by kernel_rfl) (by kernel_rfl) (by kernel_rfl) (fun _ _ _ h => h) (Or.inl ⟨rfl, ?hy69⟩) hHeld ?rest69
            case hy69 => (intro w hSw; (try dsimp only at hSw); go_simp <;> first | with_reducible rfl | rw [if_neg (by omega)] | rw [if_pos (by omega)])
            (try simp only [PU])
            refine wpAnyH_take (i := 16) (oi := ⟨(some 26), (.move (.tmp 0)), 22, "ref.go:15", #[⟨9, .guard⟩], (some (9, true))⟩) (v := ?v70) rfl (by kernel_rfl) (by kernel_rfl) (by kernel_rfl) (fun _ _ _ h => h) (Or.inl ⟨rfl, ?hy70⟩) hHeld ?rest70
            case hy70 => (intro w _; go_simp <;> rfl)
            (try simp only [PU])
            refine wpAnyH_take (i := 17) (oi := ⟨(some 27), (.move (.tmp 3)), 3, "ref.go:15", #[⟨9, .guard⟩], (some (9, true))⟩) (v := ?v71) rfl (by kernel_rfl) (by kernel_rfl) (by kernel_rfl) (fun _ _ _ h => h) (Or.inl ⟨rfl, ?hy71⟩) hHeld ?rest71
            case hy71 => (intro w _; go_simp <;> rfl)
            (try simp only [PU])
            refine wpAnyH_take (i := 18) (oi := ⟨(some 28), (.indexAddr 22 (.tmp 26) (.tmp 27)), 0, "ref.go:15", #[⟨16, .data⟩, ⟨17, .data⟩, ⟨9, .guard⟩], (some (9, true))⟩) (v := ?v72) rfl (by kernel_rfl) (by kernel_rfl) (by kernel_rfl) (fun _ _ _ h => h) (Or.inl ⟨rfl, ?hy72⟩) hHeld ?rest72
            case hy72 => (intro w _; go_simp <;> first | with_reducible rfl | rw [if_neg (by omega)] | rw [if_pos (by omega)])
            (try simp only [PU])
            refine wpAnyH_take (i := 19) (oi := ⟨(some 29), (.fieldAddr 38 (.tmp 28) 0), 0, "ref.go:15", #[⟨18, .data⟩, ⟨9, .guard⟩], (some (9, true))⟩) (v := ?v73) rfl (by kernel_rfl) (by kernel_rfl) (by kernel_rfl) (fun _ _ _ h => h) (Or.inl ⟨rfl, ?hy73⟩) hHeld ?rest73
            case hy73 => (intro w _; go_simp <;> rfl)
            (try simp only [PU])
            refine wpAnyH_take (i := 20) (oi := ⟨(some 30), (.load 24 (.tmp 29)), 24, "ref.go:15", #[⟨19, .data⟩, ⟨9, .guard⟩], (some (9, true))⟩) (v := ?v74) rfl (by kernel_rfl) (by kernel_rfl) (by kernel_rfl) (fun _ _ _ h => h) (Or.inl ⟨rfl, ?hy74⟩) hHeld ?rest74
            case hy74 => (intro w hSw; (try dsimp only at hSw); go_simp <;> first | with_reducible rfl | rw [if_neg (by omega)] | rw [if_pos (by omega)])
            (try simp only [PU])
            refine wpAnyH_ready (rs := [21]) (by kernel_rfl) (by simp) ?_
            refine AllReadyH.cons (o := ⟨(some 31), (.call { callee := (.value (.func 13)), args := #[(.tmp 25), (.tmp 30)], argTypes := #[24, 24] }), 3, "ref.go:15", #[⟨15, .data⟩, ⟨20, .data⟩, ⟨9, .chain⟩, ⟨9, .guard⟩], (some (9, true))⟩) rfl (fun K hK => ?step75x0) ?more75x0
            case more75x0 => exact AllReadyH.nil
            go_simp
            (refine (HOR.out _ (by with_reducible repeat (first | exact Ext.refl _ | assumption | refine Ext.drew ?_ | refine Ext.drewN ?_ _ | refine Ext.alloc ?_ _))).mono ?_; rintro e w4 ⟨rfl, hxw4⟩; replace hxw4 : Ext wr w4 := Ext.trans (by with_reducible repeat (first | exact Ext.refl _ | assumption | refine Ext.drew ?_ | refine Ext.drewN ?_ _ | refine Ext.alloc ?_ _)) hxw4)
            refine hK.out _ _ ?hS75x0 (fun hHeld75 => ?rest75x0)
            case hS75x0 => first | (exact MKR3.out _ (by with_reducible repeat (first | exact Ext.refl _ | assumption | refine Ext.drew ?_ | refine Ext.drewN ?_ _ | refine Ext.alloc ?_ _))) | ((try dsimp only); (exact MKR3.out _ (by with_reducible repeat (first | exact Ext.refl _ | assumption | refine Ext.drew ?_ | refine Ext.drewN ?_ _ | refine Ext.alloc ?_ _))))
            clear hK K
            clear hHeld
            (try simp only [PU])
            refine wpAnyH_take (i := 22) (oi := ⟨(some 32), (.binOp .geq 3 (.tmp 31) (.const (.int .i64 0)) 3), 4, "ref.go:15", #[⟨21, .data⟩, ⟨9, .guard⟩], (some (9, true))⟩) (v := ?v76) rfl (by kernel_rfl) (by kernel_rfl) (by kernel_rfl) (fun _ _ _ h => h) (Or.inl ⟨rfl, ?hy76⟩) hHeld75 ?rest76
            case hy76 => (intro w _; go_simp <;> first | with_reducible rfl | rw [if_neg (by omega)] | rw [if_pos (by omega)])
            (try simp only [PU])
            refine wpAnyH_take (i := 23) (oi := ⟨(some 33), (.pick (.tmp 19) (.tmp 32) (.const (.bool false))), 4, "ref.go:15", #[⟨9, .data⟩, ⟨22, .data⟩, ⟨6, .guard⟩], (some (6, false))⟩) (v := ?v77) rfl (by kernel_rfl) (by kernel_rfl) (by kernel_rfl) (fun _ _ _ h => h) (Or.inl ⟨rfl, ?hy77⟩) hHeld75 ?rest77
            case hy77 => (intro w _; go_simp <;> rfl)
            (try simp only [PU])
            refine wpAnyH_take (i := 24) (oi := ⟨(some 34), (.pick (.tmp 16) (.const (.bool true)) (.tmp 33)), 4, "ref.go:15", #[⟨6, .data⟩, ⟨23, .data⟩], none⟩) (v := ?v78) rfl (by kernel_rfl) (by kernel_rfl) (by kernel_rfl) (fun _ _ _ h => h) (Or.inl ⟨rfl, ?hy78⟩) hHeld75 ?rest78
            case hy78 => (intro w _; go_simp <;> rfl)
            (try simp only [PU])
            refine wpAnyH_done (by kernel_rfl) ?_ _
            clear hHeld75
            clear MKR3
            go_wp2_with fail
            go_roundw
            case rel => exact ⟨j + 1 + 1, by go_num, by omega, HG2, hE.trans (by with_reducible repeat (first | exact Ext.refl _ | assumption | refine Ext.drew ?_ | refine Ext.drewN ?_ _ | refine Ext.alloc ?_ _))⟩
            case measure => simp [intOf]; omega
          · have HF := Lib.hid (HB.out (by omega))
            simp only [e3] at HOR
            clear HB HG
            go_upto_region 4 with (fail)
            have MKR4 := Lib.hid (fun V (e : Ext wr V) => (⟨e.cell c1, e.cell c0, e.cell d0, e⟩ : V.cell? ⟨b, o + (j + 1) * 2 + 1, none⟩ = some (.int .i64 x.2) ∧ V.cell? ⟨b, o + (j + 1) * 2, none⟩ = some (.slice A' x.1.length c') ∧ V.cell? ⟨b, o + j * 2, none⟩ = some (.slice B' y.1.length d') ∧ Ext wr V))
            refine wp_region_held_drew (S := (fun V => V.cell? ⟨b, o + (j + 1) * 2 + 1, none⟩ = some (.int .i64 x.2) ∧ V.cell? ⟨b, o + (j + 1) * 2, none⟩ = some (.slice A' x.1.length c') ∧ V.cell? ⟨b, o + j * 2, none⟩ = some (.slice B' y.1.length d') ∧ Ext wr V)) (by kernel_rfl) ?hs79 (fun hHeld => ?go79)
            case hs79 => (exact MKR4.out _ (by with_reducible repeat (first | exact Ext.refl _ | assumption | refine Ext.drew ?_ | refine Ext.drewN ?_ _ | refine Ext.alloc ?_ _)))
            refine wpAnyH_take (i := 0) (oi := ⟨(some 10), (.move (.tmp 0)), 22, "ref.go:15", #[], none⟩) (v := ?v80) rfl (by kernel_rfl) (by kernel_rfl) (by kernel_rfl) (fun _ _ _ h => h) (Or.inl ⟨rfl, ?hy80⟩) hHeld ?rest80
            case hy80 => (intro w _; go_simp <;> rfl)
            (try simp only [PU])
            refine wpAnyH_take (i := 1) (oi := ⟨(some 11), (.move (.tmp 3)), 3, "ref.go:15", #[], none⟩) (v := ?v81) rfl (by kernel_rfl) (by kernel_rfl) (by kernel_rfl) (fun _ _ _ h => h) (Or.inl ⟨rfl, ?hy81⟩) hHeld ?rest81
            case hy81 => (intro w _; go_simp <;> rfl)
            (try simp only [PU])
            refine wpAnyH_take (i := 2) (oi := ⟨(some 12), (.indexAddr 22 (.tmp 10) (.tmp 11)), 0, "ref.go:15", #[⟨0, .data⟩, ⟨1, .data⟩], none⟩) (v := ?v82) rfl (by kernel_rfl) (by kernel_rfl) (by kernel_rfl) (fun _ _ _ h => h) (Or.inl ⟨rfl, ?hy82⟩) hHeld ?rest82
            case hy82 => (intro w _; go_simp <;> first | with_reducible rfl | rw [if_neg (by omega)] | rw [if_pos (by omega)])
            (try simp only [PU])
            refine wpAnyH_take (i := 3) (oi := ⟨(some 13), (.fieldAddr 38 (.tmp 12) 1), 0, "ref.go:15", #[⟨2, .data⟩], none⟩) (v := ?v83) rfl (by kernel_rfl) (by kernel_rfl) (by kernel_rfl) (fun _ _ _ h => h) (Or.inl ⟨rfl, ?hy83⟩) hHeld ?rest83
            case hy83 => (intro w _; go_simp <;> rfl)
            (try simp only [PU])
            refine wpAnyH_take (i := 4) (oi := ⟨(some 14), (.load 3 (.tmp 13)), 3, "ref.go:15", #[⟨3, .data⟩], none⟩) (v := ?v84) rfl (by kernel_rfl) (by kernel_rfl) (by kernel_rfl) (fun _ _ _ h => h) (Or.inl ⟨rfl, ?hy84⟩) hHeld ?rest84
            case hy84 => (intro w hSw; (try dsimp only at hSw); go_simp <;> first | with_reducible rfl | rw [if_neg (by omega)] | rw [if_pos (by omega)])
            (try simp only [PU])
            refine wpAnyH_take (i := 5) (oi := ⟨(some 15), (.binOp .eql 3 (.tmp 14) (.const (.int .i64 0)) 3), 4, "ref.go:15", #[⟨4, .data⟩], none⟩) (v := ?v85) rfl (by kernel_rfl) (by kernel_rfl) (by kernel_rfl) (fun _ _ _ h => h) (Or.inl ⟨rfl, ?hy85⟩) hHeld ?rest85
            case hy85 => (intro w _; go_simp <;> first | with_reducible rfl | rw [if_neg (by omega)] | rw [if_pos (by omega)])
            (try simp only [PU])
            refine wpAnyH_take (i := 6) (oi := ⟨(some 16), (.move (.tmp 15)), 4, "ref.go:15", #[⟨5, .data⟩], none⟩) (v := ?v86) rfl (by kernel_rfl) (by kernel_rfl) (by kernel_rfl) (fun _ _ _ h => h) (Or.inl ⟨rfl, ?hy86⟩) hHeld ?rest86
            case hy86 => (intro w _; go_simp <;> rfl)
            (try simp only [PU])
            refine wpAnyH_take (i := 7) (oi := ⟨(some 17), (.move (.tmp 3)), 3, "ref.go:15", #[⟨6, .guard⟩], (some (6, false))⟩) (v := ?v87) rfl (by kernel_rfl) (by kernel_rfl) (by kernel_rfl) (fun _ _ _ h => h) (Or.inl ⟨rfl, ?hy87⟩) hHeld ?rest87
            case hy87 => (intro w _; go_simp <;> rfl)
            (try simp only [PU])
            refine wpAnyH_take (i := 8) (oi := ⟨(some 18), (.binOp .gtr 3 (.tmp 17) (.const (.int .i64 0)) 3), 4, "ref.go:15", #[⟨7, .data⟩, ⟨6, .guard⟩], (some (6, false))⟩) (v := ?v88) rfl (by kernel_rfl) (by kernel_rfl) (by kernel_rfl) (fun _ _ _ h => h) (Or.inl ⟨rfl, ?hy88⟩) hHeld ?rest88
            case hy88 => (intro w _; go_simp <;> first | with_reducible rfl | rw [if_neg (by omega)] | rw [if_pos (by omega)])
            (try simp only [PU])
            refine wpAnyH_take (i := 9) (oi := ⟨(some 19), (.move (.tmp 18)), 4, "ref.go:15", #[⟨8, .data⟩, ⟨6, .chain⟩, ⟨6, .guard⟩], (some (6, false))⟩) (v := ?v89) rfl (by kernel_rfl) (by kernel_rfl) (by kernel_rfl) (fun _ _ _ h => h) (Or.inl ⟨rfl, ?hy89⟩) hHeld ?rest89
            case hy89 => (intro w _; go_simp <;> rfl)
            (try simp only [PU])
            refine wpAnyH_take (i := 10) (oi := ⟨(some 20), (.move (.tmp 0)), 22, "ref.go:15", #[⟨9, .guard⟩], (some (9, true))⟩) (v := ?v90) rfl (by kernel_rfl) (by kernel_rfl) (by kernel_rfl) (fun _ _ _ h => h) (Or.inl ⟨rfl, ?hy90⟩) hHeld ?rest90
            case hy90 => (intro w _; go_simp <;> rfl)
            (try simp only [PU])
            refine wpAnyH_take (i := 11) (oi := ⟨(some 21), (.move (.tmp 3)), 3, "ref.go:15", #[⟨9, .guard⟩], (some (9, true))⟩) (v := ?v91) rfl (by kernel_rfl) (by kernel_rfl) (by kernel_rfl) (fun _ _ _ h => h) (Or.inl ⟨rfl, ?hy91⟩) hHeld ?rest91
            case hy91 => (intro w _; go_simp <;> rfl)
            (try simp only [PU])
            refine wpAnyH_take (i := 12) (oi := ⟨(some 22), (.binOp .sub 3 (.tmp 21) (.const (.int .i64 1)) 3), 3, "ref.go:15", #[⟨11, .data⟩, ⟨9, .guard⟩], (some (9, true))⟩) (v := ?v92) rfl (by kernel_rfl) (by kernel_rfl) (by kernel_rfl) (fun _ _ _ h => h) (Or.inl ⟨rfl, ?hy92⟩) hHeld ?rest92
            case hy92 => (intro w _; go_simp <;> first | with_reducible rfl | rw [if_neg (by omega)] | rw [if_pos (by omega)])
            (try simp only [PU])
            refine wpAnyH_take (i := 13) (oi := ⟨(some 23), (.indexAddr 22 (.tmp 20) (.tmp 22)), 0, "ref.go:15", #[⟨10, .data⟩, ⟨12, .data⟩, ⟨9, .guard⟩], (some (9, true))⟩) (v := ?v93) rfl (by kernel_rfl) (by kernel_rfl) (by kernel_rfl) (fun _ _ _ h => h) (Or.inl ⟨rfl, ?hy93⟩) hHeld ?rest93
            case hy93 => (intro w _; go_simp <;> first | with_reducible rfl | rw [if_neg (by omega)] | rw [if_pos (by omega)])
            (try simp only [PU])
            refine wpAnyH_take (i := 14) (oi := ⟨(some 24), (.fieldAddr 38 (.tmp 23) 0), 0, "ref.go:15", #[⟨13, .data⟩, ⟨9, .guard⟩], (some (9, true))⟩) (v := ?v94) rfl (by kernel_rfl) (by kernel_rfl) (by kernel_rfl) (fun _ _ _ h => h) (Or.inl ⟨rfl, ?hy94⟩) hHeld ?rest94
            case hy94 => (intro w _; go_simp <;> rfl)
            (try simp only [PU])
            refine wpAnyH_take (i := 15) (oi := ⟨(some 25), (.load 24 (.tmp 24)), 24, "ref.go:15", #[⟨14, .data⟩, ⟨9, .guard⟩], (some (9, true))⟩) (v := ?v95) rfl (by kernel_rfl) (by kernel_rfl) (by kernel_rfl) (fun _ _ _ h => h) (Or.inl ⟨rfl, ?hy95⟩) hHeld ?rest95
            case hy95 => (intro w hSw; (try dsimp only at hSw); go_simp <;> first | with_reducible rfl | rw [if_neg (by omega)] | rw [if_pos (by omega)])
            (try simp only [PU])
            refine wpAnyH_take (i := 16) (oi := ⟨(some 26), (.move (.tmp 0)), 22, "ref.go:15", #[⟨9, .guard⟩], (some (9, true))⟩) (v := ?v96) rfl (by kernel_rfl) (by kernel_rfl) (by kernel_rfl) (fun _ _ _ h => h) (Or.inl ⟨rfl, ?hy96⟩) hHeld ?rest96
            case hy96 => (intro w _; go_simp <;> rfl)
            (try simp only [PU])
            refine wpAnyH_take (i := 17) (oi := ⟨(some 27), (.move (.tmp 3)), 3, "ref.go:15", #[⟨9, .guard⟩], (some (9, true))⟩) (v := ?v97) rfl (by kernel_rfl) (by kernel_rfl) (by kernel_rfl) (fun _ _ _ h => h) (Or.inl ⟨rfl, ?hy97⟩) hHeld ?rest97
            case hy97 => (intro w _; go_simp <;> rfl)
            (try simp only [PU])
            refine wpAnyH_take (i := 18) (oi := ⟨(some 28), (.indexAddr 22 (.tmp 26) (.tmp 27)), 0, "ref.go:15", #[⟨16, .data⟩, ⟨17, .data⟩, ⟨9, .guard⟩], (some (9, true))⟩) (v := ?v98) rfl (by kernel_rfl) (by kernel_rfl) (by kernel_rfl) (fun _ _ _ h => h) (Or.inl ⟨rfl, ?hy98⟩) hHeld ?rest98
            case hy98 => (intro w _; go_simp <;> first | with_reducible rfl | rw [if_neg (by omega)] | rw [if_pos (by omega)])
            (try simp only [PU])
            refine wpAnyH_take (i := 19) (oi := ⟨(some 29), (.fieldAddr 38 (.tmp 28) 0), 0, "ref.go:15", #[⟨18, .data⟩, ⟨9, .guard⟩], (some (9, true))⟩) (v := ?v99) rfl (by kernel_rfl) (by kernel_rfl) (by kernel_rfl) (fun _ _ _ h => h) (Or.inl ⟨rfl, ?hy99⟩) hHeld ?rest99
            case hy99 => (intro w _; go_simp <;> rfl)
            (try simp only [PU])
            refine wpAnyH_take (i := 20) (oi := ⟨(some 30), (.load 24 (.tmp 29)), 24, "ref.go:15", #[⟨19, .data⟩, ⟨9, .guard⟩], (some (9, true))⟩) (v := ?v100) rfl (by kernel_rfl) (by kernel_rfl) (by kernel_rfl) (fun _ _ _ h => h) (Or.inl ⟨rfl, ?hy100⟩) hHeld ?rest100
            case hy100 => (intro w hSw; (try dsimp only at hSw); go_simp <;> first | with_reducible rfl | rw [if_neg (by omega)] | rw [if_pos (by omega)])
            (try simp only [PU])
            refine wpAnyH_ready (rs := [21]) (by kernel_rfl) (by simp) ?_
            refine AllReadyH.cons (o := ⟨(some 31), (.call { callee := (.value (.func 13)), args := #[(.tmp 25), (.tmp 30)], argTypes := #[24, 24] }), 3, "ref.go:15", #[⟨15, .data⟩, ⟨20, .data⟩, ⟨9, .chain⟩, ⟨9, .guard⟩], (some (9, true))⟩) rfl (fun K hK => ?step101x0) ?more101x0
            case more101x0 => exact AllReadyH.nil
            go_simp
            (refine (HOR.out _ (by with_reducible repeat (first | exact Ext.refl _ | assumption | refine Ext.drew ?_ | refine Ext.drewN ?_ _ | refine Ext.alloc ?_ _))).mono ?_; rintro e w4 ⟨rfl, hxw4⟩; replace hxw4 : Ext wr w4 := Ext.trans (by with_reducible repeat (first | exact Ext.refl _ | assumption | refine Ext.drew ?_ | refine Ext.drewN ?_ _ | refine Ext.alloc ?_ _)) hxw4)
            refine hK.out _ _ ?hS101x0 (fun hHeld101 => ?rest101x0)
            case hS101x0 => first | (exact MKR4.out _ (by with_reducible repeat (first | exact Ext.refl _ | assumption | refine Ext.drew ?_ | refine Ext.drewN ?_ _ | refine Ext.alloc ?_ _))) | ((try dsimp only); (exact MKR4.out _ (by with_reducible repeat (first | exact Ext.refl _ | assumption | refine Ext.drew ?_ | refine Ext.drewN ?_ _ | refine Ext.alloc ?_ _))))
            clear hK K
            clear hHeld
            (try simp only [PU])
            refine wpAnyH_take (i := 22) (oi := ⟨(some 32), (.binOp .geq 3 (.tmp 31) (.const (.int .i64 0)) 3), 4, "ref.go:15", #[⟨21, .data⟩, ⟨9, .guard⟩], (some (9, true))⟩) (v := ?v102) rfl (by kernel_rfl) (by kernel_rfl) (by kernel_rfl) (fun _ _ _ h => h) (Or.inl ⟨rfl, ?hy102⟩) hHeld101 ?rest102
            case hy102 => (intro w _; go_simp <;> first | with_reducible rfl | rw [if_neg (by omega)] | rw [if_pos (by omega)])
            (try simp only [PU])
            refine wpAnyH_take (i := 23) (oi := ⟨(some 33), (.pick (.tmp 19) (.tmp 32) (.const (.bool false))), 4, "ref.go:15", #[⟨9, .data⟩, ⟨22, .data⟩, ⟨6, .guard⟩], (some (6, false))⟩) (v := ?v103) rfl (by kernel_rfl) (by kernel_rfl) (by kernel_rfl) (fun _ _ _ h => h) (Or.inl ⟨rfl, ?hy103⟩) hHeld101 ?rest103
            case hy103 => (intro w _; go_simp <;> rfl)
            (try simp only [PU])
            refine wpAnyH_take (i := 24) (oi := ⟨(some 34), (.pick (.tmp 16) (.const (.bool true)) (.tmp 33)), 4, "ref.go:15", #[⟨6, .data⟩, ⟨23, .data⟩], none⟩) (v := ?v104) rfl (by kernel_rfl) (by kernel_rfl) (by kernel_rfl) (fun _ _ _ h => h) (Or.inl ⟨rfl, ?hy104⟩) hHeld101 ?rest104
            case hy104 => (intro w _; go_simp <;> rfl)
            (try simp only [PU])
            refine wpAnyH_done (by kernel_rfl) ?_ _
            clear hHeld101
            clear MKR4
            go_wp2_with fail
            go_ret
            exact ⟨ret_b HF.out.symm, hE.trans (by with_reducible repeat (first | exact Ext.refl _ | assumption | refine Ext.drew ?_ | refine Ext.drewN ?_ _ | refine Ext.alloc ?_ _))⟩
          · have HF := Lib.hid (HB.out (by omega))
            simp only [e3] at HOR
            clear HB HG
            go_upto_region 4 with (fail)
            have MKR5 := Lib.hid (fun V (e : Ext wr V) => (⟨e.cell c1, e.cell c0, e.cell d0, e⟩ : V.cell? ⟨b, o + (j + 1) * 2 + 1, none⟩ = some (.int .i64 x.2) ∧ V.cell? ⟨b, o + (j + 1) * 2, none⟩ = some (.slice A' x.1.length c') ∧ V.cell? ⟨b, o + j * 2, none⟩ = some (.slice B' y.1.length d') ∧ Ext wr V))
            refine wp_region_held_drew (S := (fun V => V.cell? ⟨b, o + (j + 1) * 2 + 1, none⟩ = some (.int .i64 x.2) ∧ V.cell? ⟨b, o + (j + 1) * 2, none⟩ = some (.slice A' x.1.length c') ∧ V.cell? ⟨b, o + j * 2, none⟩ = some (.slice B' y.1.length d') ∧ Ext wr V)) (by kernel_rfl) ?hs105 (fun hHeld => ?go105)
            case hs105 => (exact MKR5.out _ (by with_reducible repeat (first | exact Ext.refl _ | assumption | refine Ext.drew ?_ | refine Ext.drewN ?_ _ | refine Ext.alloc ?_ _)))
            refine wpAnyH_take (i := 0) (oi := ⟨(some 10), (.move (.tmp 0)), 22, "ref.go:15", #[], none⟩) (v := ?v106) rfl (by kernel_rfl) (by kernel_rfl) (by kernel_rfl) (fun _ _ _ h => h) (Or.inl ⟨rfl, ?hy106⟩) hHeld ?rest106
            case hy106 => (intro w _; go_simp <;> rfl)
            (try simp only [PU])
            refine wpAnyH_take (i := 1) (oi := ⟨(some 11), (.move (.tmp 3)), 3, "ref.go:15", #[], none⟩) (v := ?v107) rfl (by kernel_rfl) (by kernel_rfl) (by kernel_rfl) (fun _ _ _ h => h) (Or.inl ⟨rfl, ?hy107⟩) hHeld ?rest107
            case hy107 => (intro w _; go_simp <;> rfl)
            (try simp only [PU])
            refine wpAnyH_take (i := 2) (oi := ⟨(some 12), (.indexAddr 22 (.tmp 10) (.tmp 11)), 0, "ref.go:15", #[⟨0, .data⟩, ⟨1, .data⟩], none⟩) (v := ?v108) rfl (by kernel_rfl) (by kernel_rfl) (by kernel_rfl) (fun _ _ _ h => h) (Or.inl ⟨rfl, ?hy108⟩) hHeld ?rest108
            case hy108 => (intro w _; go_simp <;> first | with_reducible rfl | rw [if_neg (by omega)] | rw [if_pos (by omega)])
            (try simp only [PU])
            refine wpAnyH_take (i := 3) (oi := ⟨(some 13), (.fieldAddr 38 (.tmp 12) 1), 0, "ref.go:15", #[⟨2, .data⟩], none⟩) (v := ?v109) rfl (by kernel_rfl) (by kernel_rfl) (by kernel_rfl) (fun _ _ _ h => h) (Or.inl ⟨rfl, ?hy109⟩) hHeld ?rest109
            case hy109 => (intro w _; go_simp <;> rfl)
            (try simp only [PU])
            refine wpAnyH_take (i := 4) (oi := ⟨(some 14), (.load 3 (.tmp 13)), 3, "ref.go:15", #[⟨3, .data⟩], none⟩) (v := ?v110) rfl (by kernel_rfl) (by kernel_rfl) (by kernel_rfl) (fun _ _ _ h => h) (Or.inl ⟨rfl, ?hy110⟩) hHeld ?rest110
            case hy110 => (intro w hSw; (try dsimp only at hSw); go_simp <;> first | with_reducible rfl | rw [if_neg (by omega)] | rw [if_pos (by omega)])
            (try simp only [PU])
            refine wpAnyH_take (i := 5) (oi := ⟨(some 15), (.binOp .eql 3 (.tmp 14) (.const (.int .i64 0)) 3), 4, "ref.go:15", #[⟨4, .data⟩], none⟩) (v := ?v111) rfl (by kernel_rfl) (by kernel_rfl) (by kernel_rfl) (fun _ _ _ h => h) (Or.inl ⟨rfl, ?hy111⟩) hHeld ?rest111
            case hy111 => (intro w _; go_simp <;> first | with_reducible rfl | rw [if_neg (by omega)] | rw [if_pos (by omega)])
            (try simp only [PU])
            refine wpAnyH_take (i := 6) (oi := ⟨(some 16), (.move (.tmp 15)), 4, "ref.go:15", #[⟨5, .data⟩], none⟩) (v := ?v112) rfl (by kernel_rfl) (by kernel_rfl) (by kernel_rfl) (fun _ _ _ h => h) (Or.inl ⟨rfl, ?hy112⟩) hHeld ?rest112
            case hy112 => (intro w _; go_simp <;> rfl)
            (try simp only [PU])
            refine wpAnyH_take (i := 7) (oi := ⟨(some 17), (.move (.tmp 3)), 3, "ref.go:15", #[⟨6, .guard⟩], (some (6, false))⟩) (v := ?v113) rfl (by kernel_rfl) (by kernel_rfl) (by kernel_rfl) (fun _ _ _ h => h) (Or.inl ⟨rfl, ?hy113⟩) hHeld ?rest113
            case hy113 => (intro w _; go_simp <;> rfl)
            (try simp only [PU])
            refine wpAnyH_take (i := 8) (oi := ⟨(some 18), (.binOp .gtr 3 (.tmp 17) (.const (.int .i64 0)) 3), 4, "ref.go:15", #[⟨7, .data⟩, ⟨6, .guard⟩], (some (6, false))⟩) (v := ?v114) rfl (by kernel_rfl) (by kernel_rfl) (by kernel_rfl) (fun _ _ _ h => h) (Or.inl ⟨rfl, ?hy114⟩) hHeld ?rest114
            case hy114 => (intro w _; go_simp <;> first | with_reducible rfl | rw [if_neg (by omega)] | rw [if_pos (by omega)])
            (try simp only [PU])
            refine wpAnyH_take (i := 9) (oi := ⟨(some 19), (.move (.tmp 18)), 4, "ref.go:15", #[⟨8, .data⟩, ⟨6, .chain⟩, ⟨6, .guard⟩], (some (6, false))⟩) (v := ?v115) rfl (by kernel_rfl) (by kernel_rfl) (by kernel_rfl) (fun _ _ _ h => h) (Or.inl ⟨rfl, ?hy115⟩) hHeld ?rest115
            case hy115 => (intro w _; go_simp <;> rfl)
            (try simp only [PU])
            refine wpAnyH_take (i := 10) (oi := ⟨(some 20), (.move (.tmp 0)), 22, "ref.go:15", #[⟨9, .guard⟩], (some (9, true))⟩) (v := ?v116) rfl (by kernel_rfl) (by kernel_rfl) (by kernel_rfl) (fun _ _ _ h => h) (Or.inl ⟨rfl, ?hy116⟩) hHeld ?rest116
            case hy116 => (intro w _; go_simp <;> rfl)
            (try simp only [PU])
            refine wpAnyH_take (i := 11) (oi := ⟨(some 21), (.move (.tmp 3)), 3, "ref.go:15", #[⟨9, .guard⟩], (some (9, true))⟩) (v := ?v117) rfl (by kernel_rfl) (by kernel_rfl) (by kernel_rfl) (fun _ _ _ h => h) (Or.inl ⟨rfl, ?hy117⟩) hHeld ?rest117
            case hy117 => (intro w _; go_simp <;> rfl)
            (try simp only [PU])
            refine wpAnyH_take (i := 12) (oi := ⟨(some 22), (.binOp .sub 3 (.tmp 21) (.const (.int .i64 1)) 3), 3, "ref.go:15", #[⟨11, .data⟩, ⟨9, .guard⟩], (some (9, true))⟩) (v := ?v118) rfl (by kernel_rfl) (by kernel_rfl) (by kernel_rfl) (fun _ _ _ h => h) (Or.inl ⟨rfl, ?hy118⟩) hHeld ?rest118
            case hy118 => (intro w _; go_simp <;> first | with_reducible rfl | rw [if_neg (by omega)] | rw [if_pos (by omega)])
            (try simp only [PU])
            refine wpAnyH_take (i := 13) (oi := ⟨(some 23), (.indexAddr 22 (.tmp 20) (.tmp 22)), 0, "ref.go:15", #[⟨10, .data⟩, ⟨12, .data⟩, ⟨9, .guard⟩], (some (9, true))⟩) (v := ?v119) rfl (by kernel_rfl) (by kernel_rfl) (by kernel_rfl) (fun _ _ _ h => h) (Or.inl ⟨rfl, ?hy119⟩) hHeld ?rest119
            case hy119 => (intro w _; go_simp <;> first | with_reducible rfl | rw [if_neg (by omega)] | rw [if_pos (by omega)])
            (try simp only [PU])
            refine wpAnyH_take (i := 14) (oi := ⟨(some 24), (.fieldAddr 38 (.tmp 23) 0), 0, "ref.go:15", #[⟨13, .data⟩, ⟨9, .guard⟩], (some (9, true))⟩) (v := ?v120) rfl (by kernel_rfl) (by kernel_rfl) (by kernel_rfl) (fun _ _ _ h => h) (Or.inl ⟨rfl, ?hy120⟩) hHeld ?rest120
            case hy120 => (intro w _; go_simp <;> rfl)
            (try simp only [PU])
            refine wpAnyH_take (i := 15) (oi := ⟨(some 25), (.load 24 (.tmp 24)), 24, "ref.go:15", #[⟨14, .data⟩, ⟨9, .guard⟩], (some (9, true))⟩) (v := ?v121) rfl (by kernel_rfl) (by kernel_rfl) (by kernel_rfl) (fun _ _ _ h => h) (Or.inl ⟨rfl, ?hy121⟩) hHeld ?rest121
            case hy121 => (intro w hSw; (try dsimp only at hSw); go_simp <;> first | with_reducible rfl | rw [if_neg (by omega)] | rw [if_pos (by omega)])
            (try simp only [PU])
            refine wpAnyH_take (i := 16) (oi := ⟨(some 26), (.move (.tmp 0)), 22, "ref.go:15", #[⟨9, .guard⟩], (some (9, true))⟩) (v := ?v122) rfl (by kernel_rfl) (by kernel_rfl) (by kernel_rfl) (fun _ _ _ h => h) (Or.inl ⟨rfl, ?hy122⟩) hHeld ?rest122
            case hy122 => (intro w _; go_simp <;> rfl)
            (try simp only [PU])
            refine wpAnyH_take (i := 17) (oi := ⟨(some 27), (.move (.tmp 3)), 3, "ref.go:15", #[⟨9, .guard⟩], (some (9, true))⟩) (v := ?v123) rfl (by kernel_rfl) (by kernel_rfl) (by kernel_rfl) (fun _ _ _ h => h) (Or.inl ⟨rfl, ?hy123⟩) hHeld ?rest123
            case hy123 => (intro w _; go_simp <;> rfl)
            (try simp only [PU])
            refine wpAnyH_take (i := 18) (oi := ⟨(some 28), (.indexAddr 22 (.tmp 26) (.tmp 27)), 0, "ref.go:15", #[⟨16, .data⟩, ⟨17, .data⟩, ⟨9, .guard⟩], (some (9, true))⟩) (v := ?v124) rfl (by kernel_rfl) (by kernel_rfl) (by kernel_rfl) (fun _ _ _ h => h) (Or.inl ⟨rfl, ?hy124⟩) hHeld ?rest124
            case hy124 => (intro w _; go_simp <;> first | with_reducible rfl | rw [if_neg (by omega)] | rw [if_pos (by omega)])
            (try simp only [PU])
            refine wpAnyH_take (i := 19) (oi := ⟨(some 29), (.fieldAddr 38 (.tmp 28) 0), 0, "ref.go:15", #[⟨18, .data⟩, ⟨9, .guard⟩], (some (9, true))⟩) (v := ?v125) rfl (by kernel_rfl) (by kernel_rfl) (by kernel_rfl) (fun _ _ _ h => h) (Or.inl ⟨rfl, ?hy125⟩) hHeld ?rest125
            case hy125 => (intro w _; go_simp <;> rfl)
            (try simp only [PU])
            refine wpAnyH_take (i := 20) (oi := ⟨(some 30), (.load 24 (.tmp 29)), 24, "ref.go:15", #[⟨19, .data⟩, ⟨9, .guard⟩], (some (9, true))⟩) (v := ?v126) rfl (by kernel_rfl) (by kernel_rfl) (by kernel_rfl) (fun _ _ _ h => h) (Or.inl ⟨rfl, ?hy126⟩) hHeld ?rest126
            case hy126 => (intro w hSw; (try dsimp only at hSw); go_simp <;> first | with_reducible rfl | rw [if_neg (by omega)] | rw [if_pos (by omega)])
            (try simp only [PU])
            refine wpAnyH_ready (rs := [21]) (by kernel_rfl) (by simp) ?_
            refine AllReadyH.cons (o := ⟨(some 31), (.call { callee := (.value (.func 13)), args := #[(.tmp 25), (.tmp 30)], argTypes := #[24, 24] }), 3, "ref.go:15", #[⟨15, .data⟩, ⟨20, .data⟩, ⟨9, .chain⟩, ⟨9, .guard⟩], (some (9, true))⟩) rfl (fun K hK => ?step127x0) ?more127x0
            case more127x0 => exact AllReadyH.nil
            go_simp
            (refine (HOR.out _ (by with_reducible repeat (first | exact Ext.refl _ | assumption | refine Ext.drew ?_ | refine Ext.drewN ?_ _ | refine Ext.alloc ?_ _))).mono ?_; rintro e w4 ⟨rfl, hxw4⟩; replace hxw4 : Ext wr w4 := Ext.trans (by with_reducible repeat (first | exact Ext.refl _ | assumption | refine Ext.drew ?_ | refine Ext.drewN ?_ _ | refine Ext.alloc ?_ _)) hxw4)
            refine hK.out _ _ ?hS127x0 (fun hHeld127 => ?rest127x0)
            case hS127x0 => first | (exact MKR5.out _ (by with_reducible repeat (first | exact Ext.refl _ | assumption | refine Ext.drew ?_ | refine Ext.drewN ?_ _ | refine Ext.alloc ?_ _))) | ((try dsimp only); (exact MKR5.out _ (by with_reducible repeat (first | exact Ext.refl _ | assumption | refine Ext.drew ?_ | refine Ext.drewN ?_ _ | refine Ext.alloc ?_ _))))
            clear hK K
            clear hHeld
            (try simp only [PU])
            refine wpAnyH_take (i := 22) (oi := ⟨(some 32), (.binOp .geq 3 (.tmp 31) (.const (.int .i64 0)) 3), 4, "ref.go:15", #[⟨21, .data⟩, ⟨9, .guard⟩], (some (9, true))⟩) (v := ?v128) rfl (by kernel_rfl) (by kernel_rfl) (by kernel_rfl) (fun _ _ _ h => h) (Or.inl ⟨rfl, ?hy128⟩) hHeld127 ?rest128
            case hy128 => (intro w _; go_simp <;> first | with_reducible rfl | rw [if_neg (by omega)] | rw [if_pos (by omega)])
            (try simp only [PU])
            refine wpAnyH_take (i := 23) (oi := ⟨(some 33), (.pick (.tmp 19) (.tmp 32) (.const (.bool false))), 4, "ref.go:15", #[⟨9, .data⟩, ⟨22, .data⟩, ⟨6, .guard⟩], (some (6, false))⟩) (v := ?v129) rfl (by kernel_rfl) (by kernel_rfl) (by kernel_rfl) (fun _ _ _ h => h) (Or.inl ⟨rfl, ?hy129⟩) hHeld127 ?rest129
            case hy129 => (intro w _; go_simp <;> rfl)
            (try simp only [PU])
            refine wpAnyH_take (i := 24) (oi := ⟨(some 34), (.pick (.tmp 16) (.const (.bool true)) (.tmp 33)), 4, "ref.go:15", #[⟨6, .data⟩, ⟨23, .data⟩], none⟩) (v := ?v130) rfl (by kernel_rfl) (by kernel_rfl) (by kernel_rfl) (fun _ _ _ h => h) (Or.inl ⟨rfl, ?hy130⟩) hHeld127 ?rest130
            case hy130 => (intro w _; go_simp <;> rfl)
            (try simp only [PU])
            refine wpAnyH_done (by kernel_rfl) ?_ _
            clear hHeld127
            clear MKR5
            go_wp2_with fail
            go_ret
            exact ⟨ret_b HF.out.symm, hE.trans (by with_reducible repeat (first | exact Ext.refl _ | assumption | refine Ext.drew ?_ | refine Ext.drewN ?_ _ | refine Ext.alloc ?_ _))⟩
    · have HF := Lib.hid (validZ_t (z := z) (fun i hi => hg.out i (by omega)))
      go_wp2_with fail
      go_ret
      exact ⟨ret_b HF.out.symm, hE⟩
end Go.Proofs.YtgojggmjajlbpaaGreatDoor

/- THE WALKS over the reference's Add, Neg, Sub, Count and Distinct (chapter 47). -/
namespace Go.Proofs.YtgojggmjajlbpaaGreatDoor
open Go.RowKit Go.Sort
theorem cnt_at {r : List Val} {L : List Sg} {k : Nat} (hi : Inc L) (hk : k < L.length) (he : ordL L[k]!.1 r = 0) : cntZ r L = L[k]!.2 := by
  have he' := he
  rw [getElem!_pos L k hk] at he' ⊢
  have h1 : L = L.take k ++ L[k] :: L.drop (k + 1) := by rw [List.getElem_cons_drop]; exact (List.take_append_drop k L).symm
  have hr := ordL_eq.1 he'
  have h2 := hi
  unfold Inc at h2
  rw [h1, List.pairwise_append] at h2
  obtain ⟨-, h3, h4⟩ := h2
  rw [List.pairwise_cons] at h3
  have e1 : cntZ r (L.take k) = 0 := cntZ_zero (fun x hx => by have := h4 x hx L[k] List.mem_cons_self; rw [hr] at this; omega)
  have e2 : cntZ r (L.drop (k + 1)) = 0 := cntZ_zero (fun x hx => by have := h3.1 x hx; rw [hr] at this; have := ordL_anti r x.1; omega)
  have h5 : cntZ r L = cntZ r (L.take k ++ L[k] :: L.drop (k + 1)) := by rw [← h1]
  rw [h5, cntZ_app, cntZ_cons, if_pos he', e1, e2]; omega
theorem cnt_no {r : List Val} {L : List Sg} (h : ∀ i < L.length, ordL L[i]!.1 r ≠ 0) : cntZ r L = 0 := cntZ_zero (fun x hx => by
  obtain ⟨i, hi, rfl⟩ := List.getElem_of_mem hx
  have := h i hi
  rwa [getElem!_pos L i hi] at this)
set_option maxRecDepth 100000 in
set_option maxHeartbeats 1600000 in
theorem r47_Add (a b : List Sg) (oka okb : Nat → Prop) (A B : Option Addr) (ca cb : Nat) (w : World) (ha : Bag w oka A a) (hb : Bag w okb B b) (ka : OkZ a) (kb : OkZ b) (hl : a.length + b.length ≤ 1000) :
    Calls Tryz.prog 26 #[.slice A a.length ca, .slice B b.length cb] w (Gives w (addP a b)) := by
  obtain ⟨ha2, hma, hlie1, hcells1⟩ := ha.inb.heads
  obtain ⟨hb2, hmb, hlie2, hcells2⟩ := hb.inb.heads
  have HA1 := Lib.hid hlie1
  have HA2 := Lib.hid hcells1
  have HB1 := Lib.hid hlie2
  have HB2 := Lib.hid hcells2
  have HNA := Lib.hid (SliceR.none_ ha)
  have HNB := Lib.hid (SliceR.none_ hb)
  have HLA := Lib.hid (x_len hma)
  have HLB := Lib.hid (x_len hmb)
  have hmm : (([] ++ ha2) ++ hb2).map HSg.x = a ++ b := by rw [List.nil_append, List.map_append, hma, hmb]
  have HMM := Lib.hid hmm
  have HO := Lib.hid (OwnG.made KSg 38 w w.heap.size (fun b => b < w.heap.size) (Nat.le_refl _))
  have HF := Lib.hid (fun (A5 : Option Addr) (c5 : Nat) (W : World) (h : Bag W (fun _ => True) A5 (a ++ b)) => (by have := r47_NormW (a ++ b) (fun _ => True) A5 c5 W h (ok_app ka kb) (by rw [List.length_append]; omega); rwa [List.length_append] at this : Calls Tryz.prog 18 #[.slice A5 (a.length + b.length) c5] W (Gives W (normP (a ++ b)))))
  clear ha hb ka kb hlie1 hcells1 hlie2 hcells2 hma hmb hmm
  go_enter Tryz.func26, Tryz.ntmps26
  go_wp2_with (first | (go_at_call 18; ((with_reducible refine (HF.out A6 c6 w6 hB6).mono ?_); rintro e w7 ⟨A7, c7, rfl, hle7, hB7, hx7⟩)) | (at_builtin; refine own_catG (v := v5) (hs := [] ++ ha2) T_sg rfl (.tmp 7) (.tmp 8) rfl rfl hO5 hx5.le B b.length cb hb2 rfl HLB.out.symm HNB.out (fun ad e j u hu => hx5.cell (HB2.out ad e j u hu)) (fun p hp => KSg.keep _ _ _ _ _ (fun b o x hb hc => ⟨hx5.cell hc, hb, fun e => by have h2 := (OwnG.lt hO5 e.symm).1; omega⟩) (HB1.out p hp)) (by have := HLA.out; simp; omega) (by decide) ?_; intro v6 w6 hO6 hg6 hd6; have hx6 : Ext w w6 := hx5.grown hg6 (fun g hg => (OwnG.lt hO5 hg).1); obtain ⟨A6, c6, hv6, hle6, hB6, -⟩ := own_gives (w := w6) hO6 HMM.out (by rw [x_len HMM.out, List.length_append]; omega) (Ext.refl _); injection hv6 with hv6; subst hv6) | (at_builtin; refine own_catG (v := .slice (some ⟨w.heap.size, 0, none⟩) 0 0) (hs := ([] : List HSg)) T_sg rfl (.tmp 5) (.tmp 6) rfl rfl HO.out (by simp) A a.length ca ha2 rfl HLA.out.symm HNA.out (fun a e j u hu => ((Ext.refl w).alloc _).cell (HA2.out a e j u hu)) (fun p hp => KSg.keep _ _ _ _ _ (fun b o x hb hc => ⟨((Ext.refl w).alloc _).cell hc, hb, fun e => by have h2 : b = w.heap.size := Option.some.inj e; omega⟩) (HA1.out p hp)) (by simp <;> omega) (by decide) ?_; intro v5 w5 hO5 hg5 hd5; have hx5 : Ext w w5 := ((Ext.refl _).alloc _).grown hg5 (fun b hb => by have h2 : w.heap.size = b := Option.some.inj hb; omega)))
  go_ret
  exact ⟨A7, c7, rfl, hle7, hB7, hx6.trans hx7⟩
set_option maxRecDepth 100000 in
set_option maxHeartbeats 1600000 in
theorem r47_Count (z : List Sg) (r : List Val) (ok okr : Nat → Prop) (A R : Option Addr) (c cr : Nat) (w : World) (hv : Bag w ok A z) (hr : Vals w okr R r) (hk0 : OkZ z) (hrg : RgZ z) (hs : szL r) (hl : z.length ≤ 1000) :
    Calls Tryz.prog 24 #[.slice A z.length c, .slice R r.length cr] w fun e w' => e = .returned (.int .i64 (wrap64 (cntZ r z))) ∧ Ext w w' := by
  have HN := Lib.hid (r47_NormW z ok A c w hv hk0 hl)
  have HR := Lib.hid hr
  have HSR := Lib.hid hs
  have HC := Lib.hid (norm_cnt hrg r)
  have HI := Lib.hid (norm_good hrg).inc
  have HK := Lib.hid (ok_sub hk0 (norm_sub z))
  have hnl := norm_len z
  clear hv hr hk0 hrg hs
  go_enter Tryz.func24, Tryz.ntmps24
  rw [← HC.out]
  generalize normP z = L at *
  go_upto_region 2 with (go_at_call 18; ((with_reducible refine (HN.out).mono ?_); rintro e w4 ⟨A4, c4, rfl, hle4, hB4, hx4⟩))
  have HV := Lib.hid hB4
  clear hB4 HN
  go_wp2_with fail
  go_loopw [6] (fun u W => ∃ k : Nat, u = .int .i64 k ∧ k ≤ L.length ∧ Hid (∀ i < k, ordL L[i]!.1 r ≠ 0) ∧ Ext w4 W) (fun u _ => L.length - (intOf u).toNat)
  case atStart => exact ⟨0, rfl, Nat.zero_le _, Lib.hid (fun i hi => absurd hi (Nat.not_lt_zero _)), Ext.refl _⟩
  case round =>
    obtain ⟨k, rfl, hk, hg, hE⟩ := hrel
    by_cases hlt : k < L.length
    · obtain ⟨b, o, rfl, A', c', c0, c1, hle5, hl5⟩ := HV.out.at_ hlt
      replace c0 := hE.cell c0
      replace c1 := hE.cell c1
      have hsz : szL L[k]!.1 := by rw [getElem!_pos L k hlt]; exact (HK.out _ (List.getElem_mem hlt)).2.1
      have HOR := Lib.hid (fun W (e : Ext wr W) => r4_OrderRows L[k]!.1 r _ _ A' R c' cr W (hl5.ext (hE.trans e)) (HR.out.ext (hx4.trans (hE.trans e))) hsz HSR.out)
      have HAT := Lib.hid (fun h => cnt_at (r := r) HI.out hlt h)
      have HNX := Lib.hid (fun (h : ordL L[k]!.1 r ≠ 0) i (hi : i < k + 1) => (if e : i = k then (by rw [e]; exact h) else hg.out i (by omega) : ordL L[i]!.1 r ≠ 0))
      have zlt : (k : Int) < (L.length : Int) := by omega
      generalize L[k]! = x at *
      clear hl5 hsz
      rcases TotC.row.rng x.1 r with e3 | e3 | e3
      · have HN2 := Lib.hid (HNX.out (by omega))
        simp only [e3] at HOR
        go_wp2_with (go_at_call 13; ((with_reducible refine (HOR.out _ (Ext.refl _)).mono ?_); rintro e w5 ⟨rfl, hx5⟩))
        go_roundw
        case rel => exact ⟨k + 1, by go_num, by omega, HN2, hE.trans hx5⟩
        case measure => simp [intOf]; omega
      · have HX := Lib.hid (HAT.out e3)
        simp only [e3] at HOR
        clear HAT HNX
        go_wp2_with (go_at_call 13; ((with_reducible refine (HOR.out _ (Ext.refl _)).mono ?_); rintro e w5 ⟨rfl, hx5⟩; replace c1 := hx5.cell c1))
        go_ret
        exact ⟨by rw [HX.out]; rfl, hx4.trans (hE.trans hx5)⟩
      · have HN2 := Lib.hid (HNX.out (by omega))
        simp only [e3] at HOR
        go_wp2_with (go_at_call 13; ((with_reducible refine (HOR.out _ (Ext.refl _)).mono ?_); rintro e w5 ⟨rfl, hx5⟩))
        go_roundw
        case rel => exact ⟨k + 1, by go_num, by omega, HN2, hE.trans hx5⟩
        case measure => simp [intOf]; omega
    · have HX := Lib.hid (cnt_no (r := r) (L := L) (fun i hi => hg.out i (by omega)))
      go_wp2_with fail
      go_ret
      exact ⟨by rw [HX.out]; rfl, hx4.trans hE⟩
end Go.Proofs.YtgojggmjajlbpaaGreatDoor

/- THE WALKS over the reference's Neg, Sub and Distinct (chapter 47). -/
namespace Go.Proofs.YtgojggmjajlbpaaGreatDoor
open Go.RowKit Go.Sort
theorem neg_take {L : List Sg} {k : Nat} (h : k < L.length) : negZ (L.take (k + 1)) = negZ (L.take k) ++ [(L[k]!.1, wrap64 (-L[k]!.2))] := by
  unfold negZ
  rw [take_snoc h, List.map_append]; rfl
def distL (L : List Sg) : List Sg := (L.filter (fun x => decide (0 < x.2))).map (fun x => (x.1, 1))
theorem dist_take {L : List Sg} {k : Nat} (h : k < L.length) : distL (L.take (k + 1)) = distL (L.take k) ++ (if 0 < L[k]!.2 then [(L[k]!.1, 1)] else []) := by
  unfold distL
  rw [take_snoc h, List.filter_append, List.map_append]
  by_cases h0 : 0 < L[k]!.2
  · rw [if_pos h0, List.filter_cons, if_pos (decide_eq_true h0)]; rfl
  · rw [if_neg h0, List.filter_cons, if_neg (by rw [decide_eq_true_iff]; exact h0)]; rfl
theorem dist_len (L : List Sg) : (distL L).length ≤ L.length := by unfold distL; rw [List.length_map]; exact List.length_filter_le _ _
set_option maxRecDepth 100000 in
set_option maxHeartbeats 3200000 in
theorem r47_Neg (z : List Sg) (ok : Nat → Prop) (A : Option Addr) (c : Nat) (w : World) (hv : Bag w ok A z) (hk0 : OkZ z) (hl : z.length ≤ 1000) :
    Calls Tryz.prog 20 #[.slice A z.length c] w (Gives w (negP z)) := by
  have HN := Lib.hid (r47_NormW z ok A c w hv hk0 hl)
  have hnl := norm_len z
  clear hv hk0
  unfold negP
  go_enter Tryz.func20, Tryz.ntmps20
  generalize normP z = L at *
  go_upto_region 2 with (go_at_call 18; ((with_reducible refine (HN.out).mono ?_); rintro e w4 ⟨A4, c4, rfl, hle4, hB4, hx4⟩))
  have HV := Lib.hid hB4.inb
  have HS0 := Lib.hid (OwnG.nil KSg 38 w4 w4.heap.size (fun _ => True))
  clear hB4 HN
  go_wp2_with fail
  go_loopw [4, 5] (fun v u W => ∃ (k : Nat) (hs : List HSg), u = .int .i64 k ∧ k ≤ L.length ∧ Hid (OwnZ W w4.heap.size (fun _ => True) v hs) ∧ hs.map HSg.x = negZ (L.take k) ∧ Ext w4 W) (fun _ u _ => L.length - (intOf u).toNat)
  case atStart => exact ⟨0, [], rfl, Nat.zero_le _, HS0, rfl, Ext.refl _⟩
  case round =>
    clear HS0
    obtain ⟨k, hs, rfl, hk, hO, hm, hE⟩ := hrel
    have hhl : hs.length ≤ k := by rw [x_len hm]; unfold negZ; rw [List.length_map, List.length_take]; omega
    obtain ⟨A9, c9, rfl⟩ := OwnG.form hO.out
    by_cases hlt : k < L.length
    · obtain ⟨b, o, rfl, A', c', c0, c1, hle5, hl5⟩ := HV.out.at_ hlt
      have MKZ := Lib.hid (fun V (e : Ext w4 V) => (⟨e.cell c0, e.cell c1⟩ : V.cell? ⟨b, o + k * 2, none⟩ = some (.slice A' L[k]!.1.length c') ∧ V.cell? ⟨b, o + k * 2 + 1, none⟩ = some (.int .i64 L[k]!.2)))
      replace c0 := hE.cell c0
      replace c1 := hE.cell c1
      have HTK := Lib.hid (neg_take hlt)
      have hown := fun g (h : (Value.slice A9 hs.length c9).ownBlock = some g) => (OwnG.lt hO.out h).1
      have HLY := Lib.hid (show KSg.lies wr.drew (fun b => True ∧ some b ≠ (Value.slice A9 hs.length c9).ownBlock) ⟨A', c', (L[k]!.1, wrap64 (-L[k]!.2))⟩ from ⟨hle5, (hl5.ext hE.drew).to (fun b hb => ⟨trivial, fun e => by have := hown b e.symm; omega⟩)⟩)
      have hle := hE.le
      have hhl2 : hs.length + 1 ≤ 8388608 := by omega
      generalize L[k]! = x at *
      have zlt : (k : Int) < (L.length : Int) := by omega
      have MKC := Lib.hid (fun V (e : Ext wr V) => (⟨e.cell c0, e.cell c1⟩ : V.cell? ⟨b, o + k * 2, none⟩ = some (.slice A' x.1.length c') ∧ V.cell? ⟨b, o + k * 2 + 1, none⟩ = some (.int .i64 x.2)))
      have HHO := Lib.hid hown
      clear hl5 hown c0 c1 hhl
      go_upto_region 6 with (fail)
      refine AnyE.start (S := (fun V => V.cell? ⟨b, o + k * 2, none⟩ = some (.slice A' x.1.length c') ∧ V.cell? ⟨b, o + k * 2 + 1, none⟩ = some (.int .i64 x.2))) (E := 15) (by kernel_rfl) ?hs1 (fun hHeld => ?go1)
      case hs1 => (first | exact MKZ.out _ (hE.drew.grown hg6 HHO.out) | exact MKC.out _ (by with_reducible repeat (first | exact Ext.refl _ | assumption | refine Ext.drew ?_ | refine Ext.drewN ?_ _ | refine Ext.alloc ?_ _)))
      refine AnyE.takeP (i := 0) (oi := ⟨(some 14), (.move (.tmp 4)), 22, "ref.go:67", #[], none⟩) (v := ?v2) rfl (by kernel_rfl) (by kernel_rfl) (by kernel_rfl) (fun _ _ _ h => h) rfl (Or.inl ⟨rfl, ?hy2⟩) (fun _ => hHeld) ?rest2
      case hy2 => (intro w _; go_simp <;> rfl)
      (try simp only [PU])
      refine AnyE.takeP (i := 1) (oi := ⟨(some 15), (.move (.tmp 3)), 22, "ref.go:67", #[], none⟩) (v := ?v3) rfl (by kernel_rfl) (by kernel_rfl) (by kernel_rfl) (fun _ _ _ h => h) rfl (Or.inl ⟨rfl, ?hy3⟩) (fun _ => hHeld) ?rest3
      case hy3 => (intro w _; go_simp <;> rfl)
      (try simp only [PU])
      refine AnyE.takeP (i := 2) (oi := ⟨(some 16), (.move (.tmp 5)), 3, "ref.go:67", #[], none⟩) (v := ?v4) rfl (by kernel_rfl) (by kernel_rfl) (by kernel_rfl) (fun _ _ _ h => h) rfl (Or.inl ⟨rfl, ?hy4⟩) (fun _ => hHeld) ?rest4
      case hy4 => (intro w _; go_simp <;> rfl)
      (try simp only [PU])
      refine AnyE.takeP (i := 3) (oi := ⟨(some 17), (.indexAddr 22 (.tmp 15) (.tmp 16)), 0, "ref.go:67", #[⟨1, .data⟩, ⟨2, .data⟩], none⟩) (v := ?v5) rfl (by kernel_rfl) (by kernel_rfl) (by kernel_rfl) (fun _ _ _ h => h) rfl (Or.inl ⟨rfl, ?hy5⟩) (fun _ => hHeld) ?rest5
      case hy5 => (intro w _; go_simp <;> first | with_reducible rfl | rw [if_neg (by omega)] | rw [if_pos (by omega)])
      (try simp only [PU])
      refine AnyE.takeP (i := 4) (oi := ⟨(some 18), (.fieldAddr 38 (.tmp 17) 0), 0, "ref.go:67", #[⟨3, .data⟩], none⟩) (v := ?v6) rfl (by kernel_rfl) (by kernel_rfl) (by kernel_rfl) (fun _ _ _ h => h) rfl (Or.inl ⟨rfl, ?hy6⟩) (fun _ => hHeld) ?rest6
      case hy6 => (intro w _; go_simp <;> rfl)
      (try simp only [PU])
      refine AnyE.take (i := 5) (oi := ⟨(some 19), (.load 24 (.tmp 18)), 24, "ref.go:67", #[⟨4, .data⟩], none⟩) (v := ?v7) rfl (by kernel_rfl) (by kernel_rfl) (by kernel_rfl) (fun _ _ _ h => h) (by kernel_rfl) rfl (by kernel_rfl) (Or.inl ⟨rfl, ?hy7⟩) hHeld ?rest7
      case hy7 => (intro w hSw; (try dsimp only at hSw); go_simp <;> first | with_reducible rfl | rw [if_neg (by omega)] | rw [if_pos (by omega)])
      (try simp only [PU])
      refine AnyE.takeP (i := 6) (oi := ⟨(some 20), (.move (.tmp 3)), 22, "ref.go:67", #[], none⟩) (v := ?v8) rfl (by kernel_rfl) (by kernel_rfl) (by kernel_rfl) (fun _ _ _ h => h) rfl (Or.inl ⟨rfl, ?hy8⟩) (fun _ => hHeld) ?rest8
      case hy8 => (intro w _; go_simp <;> rfl)
      (try simp only [PU])
      refine AnyE.takeP (i := 7) (oi := ⟨(some 21), (.move (.tmp 5)), 3, "ref.go:67", #[], none⟩) (v := ?v9) rfl (by kernel_rfl) (by kernel_rfl) (by kernel_rfl) (fun _ _ _ h => h) rfl (Or.inl ⟨rfl, ?hy9⟩) (fun _ => hHeld) ?rest9
      case hy9 => (intro w _; go_simp <;> rfl)
      (try simp only [PU])
      refine AnyE.takeP (i := 8) (oi := ⟨(some 22), (.indexAddr 22 (.tmp 20) (.tmp 21)), 0, "ref.go:67", #[⟨6, .data⟩, ⟨7, .data⟩], none⟩) (v := ?v10) rfl (by kernel_rfl) (by kernel_rfl) (by kernel_rfl) (fun _ _ _ h => h) rfl (Or.inl ⟨rfl, ?hy10⟩) (fun _ => hHeld) ?rest10
      case hy10 => (intro w _; go_simp <;> first | with_reducible rfl | rw [if_neg (by omega)] | rw [if_pos (by omega)])
      (try simp only [PU])
      refine AnyE.takeP (i := 9) (oi := ⟨(some 23), (.fieldAddr 38 (.tmp 22) 1), 0, "ref.go:67", #[⟨8, .data⟩], none⟩) (v := ?v11) rfl (by kernel_rfl) (by kernel_rfl) (by kernel_rfl) (fun _ _ _ h => h) rfl (Or.inl ⟨rfl, ?hy11⟩) (fun _ => hHeld) ?rest11
      case hy11 => (intro w _; go_simp <;> rfl)
      (try simp only [PU])
      refine AnyE.take (i := 10) (oi := ⟨(some 24), (.load 3 (.tmp 23)), 3, "ref.go:67", #[⟨9, .data⟩], none⟩) (v := ?v12) rfl (by kernel_rfl) (by kernel_rfl) (by kernel_rfl) (fun _ _ _ h => h) (by kernel_rfl) rfl (by kernel_rfl) (Or.inl ⟨rfl, ?hy12⟩) hHeld ?rest12
      case hy12 => (intro w hSw; (try dsimp only at hSw); go_simp <;> first | with_reducible rfl | rw [if_neg (by omega)] | rw [if_pos (by omega)])
      (try simp only [PU])
      refine AnyE.takeP (i := 11) (oi := ⟨(some 25), (.unOp .neg 3 (.tmp 24)), 3, "ref.go:67", #[⟨10, .data⟩], none⟩) (v := ?v13) rfl (by kernel_rfl) (by kernel_rfl) (by kernel_rfl) (fun _ _ _ h => h) rfl (Or.inl ⟨rfl, ?hy13⟩) (fun _ => hHeld) ?rest13
      case hy13 => (intro w _; go_simp <;> first | with_reducible rfl | rw [if_neg (by omega)] | rw [if_pos (by omega)])
      (try simp only [PU])
      refine AnyE.takeP (i := 12) (oi := ⟨(some 26), (.build 38 #[(0, (.tmp 19)), (1, (.tmp 25))]), 38, "ref.go:67", #[⟨5, .data⟩, ⟨11, .data⟩], none⟩) (v := ?v14) rfl (by kernel_rfl) (by kernel_rfl) (by kernel_rfl) (fun _ _ _ h => h) rfl (Or.inl ⟨rfl, ?hy14⟩) (fun _ => hHeld) ?rest14
      case hy14 => (intro w _; go_simp <;> rfl)
      (try simp only [PU])
      refine AnyE.ready (rs := [13]) (by kernel_rfl) (by simp) ?_
      refine AllE.cons (o := ⟨(some 27), (.buildSlice 22 1 #[(0, (.tmp 26))]), 22, "ref.go:67", #[⟨12, .data⟩], none⟩) rfl (fun K hK => ?step15x0) ?more15x0
      case more15x0 => exact AllE.nil
      go_simp
      refine hK.out _ _ ?hS15x0 (fun hHeld15 => ?rest15x0)
      case hS15x0 => intro _; first | (first | exact MKZ.out _ (hE.drew.grown hg6 HHO.out) | exact MKC.out _ (by with_reducible repeat (first | exact Ext.refl _ | assumption | refine Ext.drew ?_ | refine Ext.drewN ?_ _ | refine Ext.alloc ?_ _))) | ((try dsimp only); (first | exact MKZ.out _ (hE.drew.grown hg6 HHO.out) | exact MKC.out _ (by with_reducible repeat (first | exact Ext.refl _ | assumption | refine Ext.drew ?_ | refine Ext.drewN ?_ _ | refine Ext.alloc ?_ _))))
      clear hK K
      clear hHeld
      (try simp only [PU])
      refine AnyE.ready (rs := [14]) (by kernel_rfl) (by simp) ?_
      refine AllE.cons (o := ⟨(some 28), (.call { callee := (.builtin .append), args := #[(.tmp 14), (.tmp 27)], argTypes := #[22, 22] }), 22, "ref.go:67", #[⟨0, .data⟩, ⟨13, .data⟩], none⟩) rfl (fun K hK => ?step16x0) ?more16x0
      case more16x0 => exact AllE.nil
      (refine step_pushG (v := .slice A9 hs.length c9) (hs := hs) T_sg rfl (.tmp 14) (.tmp 27) rfl wr.drew rfl (OwnG.ext hO.out ((Ext.refl _).drew)) (show w4.heap.size ≤ wr.heap.size from hle) ⟨A', c', (x.1, wrap64 (-x.2))⟩ HLY.out (by (try rw [IntWalk.i64_left]); rfl) _ rfl rfl hhl2 (by decide) ?_; intro v6 w6 hO6 hg6 hd6)
      refine hK.out _ _ ?hS16x0 (fun hHeld16 => ?rest16x0)
      case hS16x0 => intro _; first | (first | exact MKZ.out _ (hE.drew.grown hg6 HHO.out) | exact MKC.out _ (by with_reducible repeat (first | exact Ext.refl _ | assumption | refine Ext.drew ?_ | refine Ext.drewN ?_ _ | refine Ext.alloc ?_ _))) | ((try dsimp only); (first | exact MKZ.out _ (hE.drew.grown hg6 HHO.out) | exact MKC.out _ (by with_reducible repeat (first | exact Ext.refl _ | assumption | refine Ext.drew ?_ | refine Ext.drewN ?_ _ | refine Ext.alloc ?_ _))))
      clear hK K
      clear hHeld15
      (try simp only [PU])
      refine AnyE.ready (rs := [15]) (by kernel_rfl) (by simp) ?_
      refine AllE.cons (o := ⟨(some 4), (.assign (.tmp 28)), 22, "ref.go:67", #[⟨14, .data⟩, ⟨14, .chain⟩, ⟨0, .phase⟩, ⟨1, .phase⟩, ⟨2, .phase⟩, ⟨3, .phase⟩, ⟨4, .phase⟩, ⟨5, .phase⟩, ⟨6, .phase⟩, ⟨7, .phase⟩, ⟨8, .phase⟩, ⟨9, .phase⟩, ⟨10, .phase⟩, ⟨11, .phase⟩, ⟨12, .phase⟩, ⟨13, .phase⟩, ⟨14, .phase⟩], none⟩) rfl (fun K hK => ?step17x0) ?more17x0
      case more17x0 => exact AllE.nil
      go_simp
      refine hK.out _ _ ?hS17x0 (fun hHeld17 => ?rest17x0)
      case hS17x0 => first | (intro h; exact absurd h (by decide)) | (intro h; simp at h)
      clear hK K
      clear hHeld16
      (try simp only [PU])
      refine AnyE.done (by kernel_rfl) ?_ _
      clear hHeld17
      have hE6 : Ext w4 w6 := hE.drew.grown hg6 HHO.out
      go_wp2_with fail
      go_roundw
      case rel => exact ⟨k + 1, _, by go_num, by omega, Lib.hid hO6, by rw [HTK.out, List.map_append, hm]; rfl, hE6⟩
      case measure => simp [intOf]; omega
    · have hke : k = L.length := by omega
      rw [hke, List.take_length] at hm
      have HM := Lib.hid hm
      clear hm hke
      go_wp2_with fail
      go_ret
      exact own_gives hO.out HM.out (by omega) (hx4.trans hE)
set_option maxRecDepth 100000 in
set_option maxHeartbeats 1600000 in
theorem r47_Distinct (z : List Sg) (ok : Nat → Prop) (A : Option Addr) (c : Nat) (w : World) (hv : Bag w ok A z) (hk0 : OkZ z) (hl : z.length ≤ 1000) :
    Calls Tryz.prog 22 #[.slice A z.length c] w (Gives w (distP z)) := by
  have HN := Lib.hid (r47_NormW z ok A c w hv hk0 hl)
  have hnl := norm_len z
  clear hv hk0
  show Calls _ _ _ _ (Gives w (distL (normP z)))
  go_enter Tryz.func22, Tryz.ntmps22
  generalize normP z = L at *
  go_upto_region 2 with (go_at_call 18; ((with_reducible refine (HN.out).mono ?_); rintro e w4 ⟨A4, c4, rfl, hle4, hB4, hx4⟩))
  have HV := Lib.hid hB4.inb
  have HS0 := Lib.hid (OwnG.nil KSg 38 w4 w4.heap.size (fun _ => True))
  clear hB4 HN
  go_wp2_with fail
  go_loopw [4, 5] (fun v u W => ∃ (k : Nat) (hs : List HSg), u = .int .i64 k ∧ k ≤ L.length ∧ Hid (OwnZ W w4.heap.size (fun _ => True) v hs) ∧ hs.map HSg.x = distL (L.take k) ∧ Ext w4 W) (fun _ u _ => L.length - (intOf u).toNat)
  case atStart => exact ⟨0, [], rfl, Nat.zero_le _, HS0, rfl, Ext.refl _⟩
  case round =>
    clear HS0
    obtain ⟨k, hs, rfl, hk, hO, hm, hE⟩ := hrel
    have hhl : hs.length ≤ k := by rw [x_len hm]; have := dist_len (L.take k); rw [List.length_take] at this; omega
    obtain ⟨A9, c9, rfl⟩ := OwnG.form hO.out
    by_cases hlt : k < L.length
    · obtain ⟨b, o, rfl, A', c', c0, c1, hle5, hl5⟩ := HV.out.at_ hlt
      replace c0 := hE.cell c0
      replace c1 := hE.cell c1
      have hdt := dist_take hlt
      have hown := fun g (h : (Value.slice A9 hs.length c9).ownBlock = some g) => (OwnG.lt hO.out h).1
      have HLY := Lib.hid (show KSg.lies wr (fun b => True ∧ some b ≠ (Value.slice A9 hs.length c9).ownBlock) ⟨A', c', (L[k]!.1, 1)⟩ from ⟨hle5, (hl5.ext hE).to (fun b hb => ⟨trivial, fun e => by have := hown b e.symm; omega⟩)⟩)
      have hle := hE.le
      have hhl2 : hs.length + 1 ≤ 8388608 := by omega
      generalize L[k]! = x at *
      have zlt : (k : Int) < (L.length : Int) := by omega
      have HHO := Lib.hid hown
      clear hl5 hown hhl
      by_cases hp : 0 < x.2
      · have HTK := Lib.hid (show distL (L.take (k + 1)) = distL (L.take k) ++ [(x.1, 1)] by rw [hdt, if_pos hp])
        clear hdt
        go_wp2_with (at_builtin; go_loud (refine own_pushG (v := .slice A9 hs.length c9) (hs := hs) T_sg rfl (.tmp 20) (.tmp 27) rfl wr rfl hO.out hle ⟨A', c', (x.1, 1)⟩ HLY.out rfl _ rfl rfl hhl2 (by decide) ?_); intro v6 w6 hO6 hg6 hd6)
        have hE6 : Ext w4 w6 := hE.grown hg6 HHO.out
        go_wp2_with fail
        go_roundw
        case rel => exact ⟨k + 1, _, by go_num, by omega, Lib.hid hO6, by rw [HTK.out, List.map_append, hm]; rfl, hE6⟩
        case measure => simp [intOf]; omega
      · have HTK := Lib.hid (show distL (L.take (k + 1)) = distL (L.take k) by rw [hdt, if_neg hp, List.append_nil])
        clear hdt
        go_wp2_with fail
        go_roundw
        case rel => exact ⟨k + 1, hs, by go_num, by omega, hO, by rw [HTK.out, hm], hE⟩
        case measure => simp [intOf]; omega
    · have hke : k = L.length := by omega
      rw [hke, List.take_length] at hm
      have HM := Lib.hid hm
      clear hm hke
      go_wp2_with fail
      go_ret
      exact own_gives hO.out HM.out (by omega) (hx4.trans hE)
theorem r47_Sub (a b : List Sg) (oka okb : Nat → Prop) (A B : Option Addr) (ca cb : Nat) (w : World) (ha : Bag w oka A a) (hb : Bag w okb B b) (ka : OkZ a) (kb : OkZ b) (hl : a.length + b.length ≤ 1000) :
    Calls Tryz.prog 28 #[.slice A a.length ca, .slice B b.length cb] w (Gives w (subP a b)) := by
  have HN := Lib.hid (r47_Neg b okb B cb w hb kb (by omega))
  have HF := Lib.hid (fun (A5 : Option Addr) (c5 : Nat) (W : World) (e : Ext w W) (h : Bag W (fun _ => True) A5 (negP b)) => r47_Add a (negP b) oka (fun _ => True) A A5 ca c5 W (ha.ext e) h ka (ok_sub kb (negP_sub b)) (by have := neg_len b; omega))
  clear ha hb ka kb
  go_enter Tryz.func28, Tryz.ntmps28
  go_wp2_with (first | (go_at_call 20; ((with_reducible refine (HN.out).mono ?_); rintro e w4 ⟨A4, c4, rfl, hle4, hB4, hx4⟩)) | (go_at_call 26; ((with_reducible refine (HF.out A4 c4 w4 hx4 hB4).mono ?_); rintro e w5 ⟨A5, c5, rfl, hle5, hB5, hx5⟩)))
  go_ret
  exact ⟨A5, c5, rfl, hle5, hB5, hx4.trans hx5⟩
end Go.Proofs.YtgojggmjajlbpaaGreatDoor

/- THE WALK over the reference's Same (chapter 47), at two bags that hold the same. -/
namespace Go.Proofs.YtgojggmjajlbpaaGreatDoor
open Go.RowKit Go.Sort
set_option maxRecDepth 100000 in
set_option maxHeartbeats 3200000 in
theorem r47_Same (z : List Sg) (oka okb : Nat → Prop) (A B : Option Addr) (ca cb : Nat) (w : World) (ha : Bag w oka A z) (hb : Bag w okb B z) (hk0 : OkZ z) (hl : z.length ≤ 8000000) :
    Calls Tryz.prog 16 #[.slice A z.length ca, .slice B z.length cb] w fun e w' => e = .returned (.bool true) ∧ Ext w w' := by
  have HA := Lib.hid ha
  have HB := Lib.hid hb
  have HK := Lib.hid hk0
  clear ha hb hk0
  go_enter Tryz.func16, Tryz.ntmps16
  go_wp2_with fail
  go_loopw [5] (fun u W => ∃ k : Nat, u = .int .i64 k ∧ k ≤ z.length ∧ Ext w W) (fun u _ => z.length - (intOf u).toNat)
  case atStart => exact ⟨0, rfl, Nat.zero_le _, Ext.refl _⟩
  case round =>
    obtain ⟨k, rfl, hk, hE⟩ := hrel
    by_cases hlt : k < z.length
    · obtain ⟨b, o, rfl, A', c', c0, c1, hle5, hl5⟩ := HA.out.at_ hlt
      obtain ⟨b2, o2, rfl, B', d', d0, d1, hle6, hl6⟩ := HB.out.at_ hlt
      replace c0 := hE.cell c0
      replace c1 := hE.cell c1
      replace d0 := hE.cell d0
      replace d1 := hE.cell d1
      have hsx : szL z[k]!.1 := by rw [getElem!_pos z k hlt]; exact (HK.out _ (List.getElem_mem hlt)).2.1
      have hor := fun W (e : Ext wr W) => r4_OrderRows z[k]!.1 z[k]!.1 _ _ A' B' c' d' W (hl5.ext (hE.trans e)) (hl6.ext (hE.trans e)) hsx hsx
      rw [ordL_self] at hor
      have HOR := Lib.hid hor
      have zlt : (k : Int) < (z.length : Int) := by omega
      generalize z[k]! = x at *
      clear hl5 hl6 hsx hor
      go_upto_region 6 with (fail)
      have MKR1 := Lib.hid (fun V (e : Ext wr V) => (⟨e.cell c1, e.cell d1, e.cell c0, e.cell d0, e⟩ : V.cell? ⟨b, o + k * 2 + 1, none⟩ = some (.int .i64 x.2) ∧ V.cell? ⟨b2, o2 + k * 2 + 1, none⟩ = some (.int .i64 x.2) ∧ V.cell? ⟨b, o + k * 2, none⟩ = some (.slice A' x.1.length c') ∧ V.cell? ⟨b2, o2 + k * 2, none⟩ = some (.slice B' x.1.length d') ∧ Ext wr V))
      refine wp_region_held_drew (S := (fun V => V.cell? ⟨b, o + k * 2 + 1, none⟩ = some (.int .i64 x.2) ∧ V.cell? ⟨b2, o2 + k * 2 + 1, none⟩ = some (.int .i64 x.2) ∧ V.cell? ⟨b, o + k * 2, none⟩ = some (.slice A' x.1.length c') ∧ V.cell? ⟨b2, o2 + k * 2, none⟩ = some (.slice B' x.1.length d') ∧ Ext wr V)) (by kernel_rfl) ?hs1 (fun hHeld => ?go1)
      case hs1 => (exact MKR1.out _ (by with_reducible repeat (first | exact Ext.refl _ | assumption | refine Ext.drew ?_ | refine Ext.drewN ?_ _ | refine Ext.alloc ?_ _)))
      refine wpAnyH_take (i := 0) (oi := ⟨(some 17), (.move (.tmp 0)), 22, "ref.go:119", #[], none⟩) (v := ?v2) rfl (by kernel_rfl) (by kernel_rfl) (by kernel_rfl) (fun _ _ _ h => h) (Or.inl ⟨rfl, ?hy2⟩) hHeld ?rest2
      case hy2 => (intro w _; go_simp <;> rfl)
      (try simp only [PU])
      refine wpAnyH_take (i := 1) (oi := ⟨(some 18), (.move (.tmp 5)), 3, "ref.go:119", #[], none⟩) (v := ?v3) rfl (by kernel_rfl) (by kernel_rfl) (by kernel_rfl) (fun _ _ _ h => h) (Or.inl ⟨rfl, ?hy3⟩) hHeld ?rest3
      case hy3 => (intro w _; go_simp <;> rfl)
      (try simp only [PU])
      refine wpAnyH_take (i := 2) (oi := ⟨(some 19), (.indexAddr 22 (.tmp 17) (.tmp 18)), 0, "ref.go:119", #[⟨0, .data⟩, ⟨1, .data⟩], none⟩) (v := ?v4) rfl (by kernel_rfl) (by kernel_rfl) (by kernel_rfl) (fun _ _ _ h => h) (Or.inl ⟨rfl, ?hy4⟩) hHeld ?rest4
      case hy4 => (intro w _; go_simp <;> first | with_reducible rfl | rw [if_neg (by omega)] | rw [if_pos (by omega)])
      (try simp only [PU])
      refine wpAnyH_take (i := 3) (oi := ⟨(some 20), (.fieldAddr 38 (.tmp 19) 1), 0, "ref.go:119", #[⟨2, .data⟩], none⟩) (v := ?v5) rfl (by kernel_rfl) (by kernel_rfl) (by kernel_rfl) (fun _ _ _ h => h) (Or.inl ⟨rfl, ?hy5⟩) hHeld ?rest5
      case hy5 => (intro w _; go_simp <;> rfl)
      (try simp only [PU])
      refine wpAnyH_take (i := 4) (oi := ⟨(some 21), (.load 3 (.tmp 20)), 3, "ref.go:119", #[⟨3, .data⟩], none⟩) (v := ?v6) rfl (by kernel_rfl) (by kernel_rfl) (by kernel_rfl) (fun _ _ _ h => h) (Or.inl ⟨rfl, ?hy6⟩) hHeld ?rest6
      case hy6 => (intro w hSw; (try dsimp only at hSw); go_simp <;> first | with_reducible rfl | rw [if_neg (by omega)] | rw [if_pos (by omega)])
      (try simp only [PU])
      refine wpAnyH_take (i := 5) (oi := ⟨(some 22), (.move (.tmp 1)), 22, "ref.go:119", #[], none⟩) (v := ?v7) rfl (by kernel_rfl) (by kernel_rfl) (by kernel_rfl) (fun _ _ _ h => h) (Or.inl ⟨rfl, ?hy7⟩) hHeld ?rest7
      case hy7 => (intro w _; go_simp <;> rfl)
      (try simp only [PU])
      refine wpAnyH_take (i := 6) (oi := ⟨(some 23), (.move (.tmp 5)), 3, "ref.go:119", #[], none⟩) (v := ?v8) rfl (by kernel_rfl) (by kernel_rfl) (by kernel_rfl) (fun _ _ _ h => h) (Or.inl ⟨rfl, ?hy8⟩) hHeld ?rest8
      case hy8 => (intro w _; go_simp <;> rfl)
      (try simp only [PU])
      refine wpAnyH_take (i := 7) (oi := ⟨(some 24), (.indexAddr 22 (.tmp 22) (.tmp 23)), 0, "ref.go:119", #[⟨5, .data⟩, ⟨6, .data⟩], none⟩) (v := ?v9) rfl (by kernel_rfl) (by kernel_rfl) (by kernel_rfl) (fun _ _ _ h => h) (Or.inl ⟨rfl, ?hy9⟩) hHeld ?rest9
      case hy9 => (intro w _; go_simp <;> first | with_reducible rfl | rw [if_neg (by omega)] | rw [if_pos (by omega)])
      (try simp only [PU])
      refine wpAnyH_take (i := 8) (oi := ⟨(some 25), (.fieldAddr 38 (.tmp 24) 1), 0, "ref.go:119", #[⟨7, .data⟩], none⟩) (v := ?v10) rfl (by kernel_rfl) (by kernel_rfl) (by kernel_rfl) (fun _ _ _ h => h) (Or.inl ⟨rfl, ?hy10⟩) hHeld ?rest10
      case hy10 => (intro w _; go_simp <;> rfl)
      (try simp only [PU])
      refine wpAnyH_take (i := 9) (oi := ⟨(some 26), (.load 3 (.tmp 25)), 3, "ref.go:119", #[⟨8, .data⟩], none⟩) (v := ?v11) rfl (by kernel_rfl) (by kernel_rfl) (by kernel_rfl) (fun _ _ _ h => h) (Or.inl ⟨rfl, ?hy11⟩) hHeld ?rest11
      case hy11 => (intro w hSw; (try dsimp only at hSw); go_simp <;> first | with_reducible rfl | rw [if_neg (by omega)] | rw [if_pos (by omega)])
      (try simp only [PU])
      refine wpAnyH_take (i := 10) (oi := ⟨(some 27), (.binOp .neq 3 (.tmp 21) (.tmp 26) 3), 4, "ref.go:119", #[⟨4, .data⟩, ⟨9, .data⟩], none⟩) (v := ?v12) rfl (by kernel_rfl) (by kernel_rfl) (by kernel_rfl) (fun _ _ _ h => h) (Or.inl ⟨rfl, ?hy12⟩) hHeld ?rest12
      case hy12 => (intro w _; go_simp <;> first | with_reducible rfl | rw [if_neg (by omega)] | rw [if_pos (by omega)])
      (try simp only [PU])
      refine wpAnyH_take (i := 11) (oi := ⟨(some 28), (.move (.tmp 27)), 4, "ref.go:119", #[⟨10, .data⟩], none⟩) (v := ?v13) rfl (by kernel_rfl) (by kernel_rfl) (by kernel_rfl) (fun _ _ _ h => h) (Or.inl ⟨rfl, ?hy13⟩) hHeld ?rest13
      case hy13 => (intro w _; go_simp <;> rfl)
      (try simp only [PU])
      refine wpAnyH_take (i := 12) (oi := ⟨(some 29), (.move (.tmp 0)), 22, "ref.go:119", #[⟨11, .guard⟩], (some (11, false))⟩) (v := ?v14) rfl (by kernel_rfl) (by kernel_rfl) (by kernel_rfl) (fun _ _ _ h => h) (Or.inl ⟨rfl, ?hy14⟩) hHeld ?rest14
      case hy14 => (intro w _; go_simp <;> rfl)
      (try simp only [PU])
      refine wpAnyH_take (i := 13) (oi := ⟨(some 30), (.move (.tmp 5)), 3, "ref.go:119", #[⟨11, .guard⟩], (some (11, false))⟩) (v := ?v15) rfl (by kernel_rfl) (by kernel_rfl) (by kernel_rfl) (fun _ _ _ h => h) (Or.inl ⟨rfl, ?hy15⟩) hHeld ?rest15
      case hy15 => (intro w _; go_simp <;> rfl)
      (try simp only [PU])
      refine wpAnyH_take (i := 14) (oi := ⟨(some 31), (.indexAddr 22 (.tmp 29) (.tmp 30)), 0, "ref.go:119", #[⟨12, .data⟩, ⟨13, .data⟩, ⟨11, .guard⟩], (some (11, false))⟩) (v := ?v16) rfl (by kernel_rfl) (by kernel_rfl) (by kernel_rfl) (fun _ _ _ h => h) (Or.inl ⟨rfl, ?hy16⟩) hHeld ?rest16
      case hy16 => (intro w _; go_simp <;> first | with_reducible rfl | rw [if_neg (by omega)] | rw [if_pos (by omega)])
      (try simp only [PU])
      refine wpAnyH_take (i := 15) (oi := ⟨(some 32), (.fieldAddr 38 (.tmp 31) 0), 0, "ref.go:119", #[⟨14, .data⟩, ⟨11, .guard⟩], (some (11, false))⟩) (v := ?v17) rfl (by kernel_rfl) (by kernel_rfl) (by kernel_rfl) (fun _ _ _ h => h) (Or.inl ⟨rfl, ?hy17⟩) hHeld ?rest17
      case hy17 => (intro w _; go_simp <;> rfl)
      (try simp only [PU])
      refine wpAnyH_take (i := 16) (oi := ⟨(some 33), (.load 24 (.tmp 32)), 24, "ref.go:119", #[⟨15, .data⟩, ⟨11, .guard⟩], (some (11, false))⟩) (v := ?v18) rfl (by kernel_rfl) (by kernel_rfl) (by kernel_rfl) (fun _ _ _ h => h) (Or.inl ⟨rfl, ?hy18⟩) hHeld ?rest18
      case hy18 => (intro w hSw; (try dsimp only at hSw); go_simp <;> first | with_reducible rfl | rw [if_neg (by omega)] | rw [if_pos (by omega)])
      (try simp only [PU])
      refine wpAnyH_take (i := 17) (oi := ⟨(some 34), (.move (.tmp 1)), 22, "ref.go:119", #[⟨11, .guard⟩], (some (11, false))⟩) (v := ?v19) rfl (by kernel_rfl) (by kernel_rfl) (by kernel_rfl) (fun _ _ _ h => h) (Or.inl ⟨rfl, ?hy19⟩) hHeld ?rest19
      case hy19 => (intro w _; go_simp <;> rfl)
      (try simp only [PU])
      refine wpAnyH_take (i := 18) (oi := ⟨(some 35), (.move (.tmp 5)), 3, "ref.go:119", #[⟨11, .guard⟩], (some (11, false))⟩) (v := ?v20) rfl (by kernel_rfl) (by kernel_rfl) (by kernel_rfl) (fun _ _ _ h => h) (Or.inl ⟨rfl, ?hy20⟩) hHeld ?rest20
      case hy20 => (intro w _; go_simp <;> rfl)
      (try simp only [PU])
      refine wpAnyH_take (i := 19) (oi := ⟨(some 36), (.indexAddr 22 (.tmp 34) (.tmp 35)), 0, "ref.go:119", #[⟨17, .data⟩, ⟨18, .data⟩, ⟨11, .guard⟩], (some (11, false))⟩) (v := ?v21) rfl (by kernel_rfl) (by kernel_rfl) (by kernel_rfl) (fun _ _ _ h => h) (Or.inl ⟨rfl, ?hy21⟩) hHeld ?rest21
      case hy21 => (intro w _; go_simp <;> first | with_reducible rfl | rw [if_neg (by omega)] | rw [if_pos (by omega)])
      (try simp only [PU])
      refine wpAnyH_take (i := 20) (oi := ⟨(some 37), (.fieldAddr 38 (.tmp 36) 0), 0, "ref.go:119", #[⟨19, .data⟩, ⟨11, .guard⟩], (some (11, false))⟩) (v := ?v22) rfl (by kernel_rfl) (by kernel_rfl) (by kernel_rfl) (fun _ _ _ h => h) (Or.inl ⟨rfl, ?hy22⟩) hHeld ?rest22
      case hy22 => (intro w _; go_simp <;> rfl)
      (try simp only [PU])
      refine wpAnyH_take (i := 21) (oi := ⟨(some 38), (.load 24 (.tmp 37)), 24, "ref.go:119", #[⟨20, .data⟩, ⟨11, .guard⟩], (some (11, false))⟩) (v := ?v23) rfl (by kernel_rfl) (by kernel_rfl) (by kernel_rfl) (fun _ _ _ h => h) (Or.inl ⟨rfl, ?hy23⟩) hHeld ?rest23
      case hy23 => (intro w hSw; (try dsimp only at hSw); go_simp <;> first | with_reducible rfl | rw [if_neg (by omega)] | rw [if_pos (by omega)])
      (try simp only [PU])
      refine wpAnyH_ready (rs := [22]) (by kernel_rfl) (by simp) ?_
      refine AllReadyH.cons (o := ⟨(some 39), (.call { callee := (.value (.func 13)), args := #[(.tmp 33), (.tmp 38)], argTypes := #[24, 24] }), 3, "ref.go:119", #[⟨16, .data⟩, ⟨21, .data⟩, ⟨11, .chain⟩, ⟨11, .guard⟩], (some (11, false))⟩) rfl (fun K hK => ?step24x0) ?more24x0
      case more24x0 => exact AllReadyH.nil
      go_simp
      (refine (HOR.out _ (by with_reducible repeat (first | exact Ext.refl _ | assumption | refine Ext.drew ?_ | refine Ext.drewN ?_ _ | refine Ext.alloc ?_ _))).mono ?_; rintro e w4 ⟨rfl, hxw4⟩; replace hxw4 : Ext wr w4 := Ext.trans (by with_reducible repeat (first | exact Ext.refl _ | assumption | refine Ext.drew ?_ | refine Ext.drewN ?_ _ | refine Ext.alloc ?_ _)) hxw4)
      refine hK.out _ _ ?hS24x0 (fun hHeld24 => ?rest24x0)
      case hS24x0 => first | (exact MKR1.out _ (by with_reducible repeat (first | exact Ext.refl _ | assumption | refine Ext.drew ?_ | refine Ext.drewN ?_ _ | refine Ext.alloc ?_ _))) | ((try dsimp only); (exact MKR1.out _ (by with_reducible repeat (first | exact Ext.refl _ | assumption | refine Ext.drew ?_ | refine Ext.drewN ?_ _ | refine Ext.alloc ?_ _))))
      clear hK K
      clear hHeld
      (try simp only [PU])
      refine wpAnyH_take (i := 23) (oi := ⟨(some 40), (.binOp .neq 3 (.tmp 39) (.const (.int .i64 0)) 3), 4, "ref.go:119", #[⟨22, .data⟩, ⟨11, .guard⟩], (some (11, false))⟩) (v := ?v25) rfl (by kernel_rfl) (by kernel_rfl) (by kernel_rfl) (fun _ _ _ h => h) (Or.inl ⟨rfl, ?hy25⟩) hHeld24 ?rest25
      case hy25 => (intro w _; go_simp <;> first | with_reducible rfl | rw [if_neg (by omega)] | rw [if_pos (by omega)])
      (try simp only [PU])
      refine wpAnyH_take (i := 24) (oi := ⟨(some 41), (.pick (.tmp 28) (.const (.bool true)) (.tmp 40)), 4, "ref.go:119", #[⟨11, .data⟩, ⟨23, .data⟩], none⟩) (v := ?v26) rfl (by kernel_rfl) (by kernel_rfl) (by kernel_rfl) (fun _ _ _ h => h) (Or.inl ⟨rfl, ?hy26⟩) hHeld24 ?rest26
      case hy26 => (intro w _; go_simp <;> rfl)
      (try simp only [PU])
      refine wpAnyH_done (by kernel_rfl) ?_ _
      clear hHeld24
      clear MKR1
      go_wp2_with fail
      go_roundw
      case rel => exact ⟨k + 1, by go_num, by omega, hE.trans (by with_reducible repeat (first | exact Ext.refl _ | assumption | refine Ext.drew ?_ | refine Ext.drewN ?_ _ | refine Ext.alloc ?_ _))⟩
      case measure => simp [intOf]; omega
    · go_wp2_with fail
      go_ret
      exact ⟨rfl, hE⟩
end Go.Proofs.YtgojggmjajlbpaaGreatDoor
