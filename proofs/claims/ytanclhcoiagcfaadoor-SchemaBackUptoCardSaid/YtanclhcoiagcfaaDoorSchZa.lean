/- THE WALK over schema.Parse. -/
import Derived.Test.YtanclhcoiagcfaaDoorSchZ
import Derived.Test.YtanclhcoiagcfaaDoorPlainSd
namespace Go.Proofs.YtanclhcoiagcfaaDoor
open Go.RowKit

theorem forget_world {Q : Program} {c : Code} {X : Exit → Act → World → Prop} {a : Act} {W : World} (F : World → Prop) (h : F W) (k : ∀ W', F W' → Code.wp Q c X a W') : Code.wp Q c X a W := k W h

/-- what the walk leans on: the variables laid, the world shaped -/
structure LaidS (w : World) : Prop where
  laid : LaidW w
  shaped : w.ShapedOpen Tryd.prog
theorem LaidS.ext {w w' : World} (h : LaidS w) (e : Ext w w') : LaidS w' :=
  ⟨h.laid.below e, h.shaped.keptBut (Below.frame e (fun _ => False)) (fun _ h => h.elim)⟩

theorem headB_data (k : Int) : (headB k ++ ⟨#[32]⟩).data.toList = headL k ++ [32] := by
  rw [ba_app]; rfl

theorem s_Cut (s : ByteArray) (k : Int) (w : World) : Calls Tryd.prog 23 #[.string s, .string (headB k ++ ⟨#[32]⟩)] w fun e w' => e = .returned (.tuple #[.string (asB (Lib.trimPrefix s.data.toList (headL k ++ [32]))), .bool (Lib.hasPrefix s.data.toList (headL k ++ [32]))]) ∧ w' = w := by
  have h := Tryd.strings_CutPrefix s (headB k ++ ⟨#[32]⟩) w
  rw [headB_data] at h
  exact h

theorem trim_size (s : ByteArray) (p : List UInt8) : (asB (Lib.trimPrefix s.data.toList p)).size ≤ s.size := by
  show (Lib.trimPrefix s.data.toList p).toArray.size ≤ _
  unfold Lib.trimPrefix
  split
  · simp
  · simp

theorem s_Split (s : ByteArray) (w : World) (hw : LaidS w) (hs : s.size ≤ 1048576) : Calls Tryd.prog 25 #[.string s, .string ⟨#[32]⟩] w fun e w' => ∃ (W : List ByteArray) (g : Nat), e = .returned (.slice (some ⟨g, 0, none⟩) W.length W.length) ∧ W.map (·.data.toList) = pieces s.data.toList ∧ W.length ≤ 1048577 ∧ (∀ k, k < W.length → w'.cell? ⟨g, k, none⟩ = some (.string W[k]!)) ∧ (∀ k, k < W.length → W[k]!.size ≤ 1048576) ∧ Ext w w' := by
  refine (Tryd.strings_Split_shaped s ⟨#[32]⟩ w hw.shaped (by omega) (by decide)).mono ?_
  rintro e w' ⟨rfl, rfl⟩
  have hd : (Lib.splitB ⟨#[32]⟩ 0 (Lib.countB s ⟨#[32]⟩) s).map (·.data.toList) = pieces s.data.toList := by
    rw [Lib.splitB_data]
    exact splitK_pieces s.data.toList
  have hlen := Lib.splitB_all ⟨#[32]⟩ (by decide) 0 _ s rfl
  have hle := Lib.countB_le ⟨#[32]⟩ (by decide) s.size s (Nat.le_refl _)
  rw [← hlen]
  generalize Lib.splitB ⟨#[32]⟩ 0 (Lib.countB s ⟨#[32]⟩) s = W at hd hlen ⊢
  refine ⟨W, w.heap.size, rfl, hd, by omega, fun k hk => ?_, fun k hk => ?_, (Ext.refl w).alloc _⟩
  · rw [cell_of_row _ _ _ _ _ _ (heap_alloc_new w _), getElem!_pos W k hk]
    simp [hk]
  · have hm : W[k]!.data.toList ∈ pieces s.data.toList := by
      rw [← hd, getElem!_pos W k hk]
      exact List.mem_map.2 ⟨_, List.getElem_mem _, rfl⟩
    have h2 := cutW_mem _ _ _ hm
    have e : s.data.toList.length = s.size := by simp
    have e2 : W[k]!.data.toList.length = W[k]!.size := by simp
    simp only [List.length_nil] at h2
    omega

/-- a rule in a box that may be written -/
structure Box6 (w : World) (g : Nat) (r : RuleP) : Prop where
  c0 : w.cell? ⟨g, 0, none⟩ = some (.int .i64 r.kind)
  c1 : w.cell? ⟨g, 1, none⟩ = some (.int .i64 r.n)
  c2 : w.cell? ⟨g, 2, none⟩ = some (.string r.name)
  c3 : w.cell? ⟨g, 3, none⟩ = some (.string r.key)
  c4 : w.cell? ⟨g, 4, none⟩ = some (.string r.frm)
  c5 : w.cell? ⟨g, 5, none⟩ = some (.string r.tov)
  f0 : w.frozen? ⟨g, 0, none⟩ = false
  f1 : w.frozen? ⟨g, 1, none⟩ = false
  f2 : w.frozen? ⟨g, 2, none⟩ = false
  f3 : w.frozen? ⟨g, 3, none⟩ = false
  f4 : w.frozen? ⟨g, 4, none⟩ = false
  f5 : w.frozen? ⟨g, 5, none⟩ = false
theorem Box6.ext {a w : World} {g : Nat} {r : RuleP} (h : Box6 a g r) (e : Ext a w) : Box6 w g r :=
  ⟨e.cell h.c0, e.cell h.c1, e.cell h.c2, e.cell h.c3, e.cell h.c4, e.cell h.c5, (Below.frozen e (p := ⟨g, 0, none⟩) (block_lt_of_cell h.c0)).trans h.f0, (Below.frozen e (p := ⟨g, 1, none⟩) (block_lt_of_cell h.c1)).trans h.f1, (Below.frozen e (p := ⟨g, 2, none⟩) (block_lt_of_cell h.c2)).trans h.f2, (Below.frozen e (p := ⟨g, 3, none⟩) (block_lt_of_cell h.c3)).trans h.f3, (Below.frozen e (p := ⟨g, 4, none⟩) (block_lt_of_cell h.c4)).trans h.f4, (Below.frozen e (p := ⟨g, 5, none⟩) (block_lt_of_cell h.c5)).trans h.f5⟩
theorem box6_new (w : World) (r : RuleP) : Box6 (w.alloc (.cells #[.int .i64 r.kind, .int .i64 r.n, .string r.name, .string r.key, .string r.frm, .string r.tov] 23)) w.heap.size r :=
  ⟨by go_simp, by go_simp, by go_simp, by go_simp, by go_simp, by go_simp, by go_simp, by go_simp, by go_simp, by go_simp, by go_simp, by go_simp⟩

theorem truth_t (w : World) : Calls Tryd.prog 28 #[.bool true] w fun e w' => e = .returned (.int .i64 1) ∧ w' = w := s_truth true w
theorem truth_f (w : World) : Calls Tryd.prog 28 #[.bool false] w fun e w' => e = .returned (.int .i64 0) ∧ w' = w := s_truth false w

set_option maxRecDepth 100000 in
set_option maxHeartbeats 6400000 in
theorem s_Parse (s : ByteArray) (w : World) (hw : LaidS w) (hs : s.size ≤ 1048576) : Calls Tryd.prog 12 #[.string s] w (HandedP s w) := by
  have HL := Lib.hid hw
  have HTB := Lib.hid (fun r => text_beq r s)
  have HCUT := Lib.hid (fun k W => s_Cut s k W)
  have HSP := Lib.hid (fun p W (h : Ext w W) => s_Split (asB (Lib.trimPrefix s.data.toList p)) W (hw.ext h) (Nat.le_trans (trim_size s p) hs))
  clear hw hs
  obtain ⟨g, w1, hg, hw1, hz, hx, hle⟩ := box_zero w
  have HZ := Lib.hid (fun V (e : Ext w1 V) => hz.ext e)
  go_enter Tryd.func12, Tryd.ntmps12
  have HW1 := Lib.hid hw1
  have HG := Lib.hid hg
  clear hw1 hg
  go_upto_region 1 with (fail)
  rw [← HW1.out, ← HG.out]
  clear HW1 HG hz
  go_wp2_with fail
  go_loopw [4] (fun u W => ∃ k : Nat, u = .int .i64 k ∧ 1 ≤ k ∧ k ≤ 8 ∧ Hid (∀ r, chkR r = 0 → textL r = s.data.toList → (k : Int) ≤ r.kind) ∧ Ext w1 W) (fun u _ => 8 - (intOf u).toNat)
  case atStart => exact ⟨1, rfl, Nat.le_refl _, by omega, Lib.hid (fun r hr _ => (chkR_ok hr).1), Ext.refl _⟩
  case round =>
    obtain ⟨k, rfl, hk1, hk8, hK, hE⟩ := hrel
    by_cases hlt : k ≤ 7
    · have HH := Lib.hid (fun W => s_head (k : Int) W (by omega) (by omega))
      have hhs := head_size (k : Int)
      go_wp2_with fail
      refine (HH.out _).mono ?_
      rintro e w2 ⟨rfl, rfl⟩
      clear HH
      go_wp2_with fail
      refine (HCUT.out (k : Int) _).mono ?_
      rintro e w3 ⟨rfl, rfl⟩
      go_wp2_with fail
      refine (HSP.out _ _ (hx.trans hE)).mono ?_
      rintro e w4 ⟨W, gw, rfl, hWd, hWl, hWc, hWs, hE4⟩
      have hE4' := hE.trans hE4
      have HWd := Lib.hid hWd
      have HQ := Lib.hid (fun V (e : Ext w4 V) j (hj : j < W.length) => e.cell (hWc j hj))
      have HWS := Lib.hid hWs
      clear hWd hWc hWs hE4 hE hhs
      by_cases hp : Lib.hasPrefix s.data.toList (headL (k : Int) ++ [32]) = true
      · rw [hp]
        have HOKP := Lib.hid hp
        clear hp
        by_cases h2 : 2 ≤ W.length
        · have hl2 : (2 : Int) ≤ (W.length : Int) := by omega
          have hq0 : (0 : Int) < (W.length : Int) := by omega
          have hq1 : (1 : Int) < (W.length : Int) := by omega
          obtain ⟨a0, ha0⟩ : ∃ a : ByteArray, a = W[0]! := ⟨_, rfl⟩
          obtain ⟨a1, ha1⟩ : ∃ a : ByteArray, a = W[1]! := ⟨_, rfl⟩
          obtain ⟨a2, ha2⟩ : ∃ a : ByteArray, a = W[2]! := ⟨_, rfl⟩
          have q0 : w4.cell? ⟨gw, 0, none⟩ = some (.string a0) := by rw [ha0]; exact HQ.out w4 (Ext.refl _) 0 (by omega)
          have HA := Lib.hid (show a0 = W[0]! ∧ a1 = W[1]! ∧ a2 = W[2]! from ⟨ha0, ha1, ha2⟩)
          clear ha0 ha1 ha2
          obtain ⟨g8, w8, hg8, hw8⟩ : ∃ (g8 : Nat) (w8 : World), g8 = w4.heap.size ∧ w8 = w4.alloc (.cells #[.int .i64 (k : Int), .int .i64 0, .string a0, .string ⟨#[]⟩, .string ⟨#[]⟩, .string ⟨#[]⟩] 23) := ⟨_, _, rfl, rfl⟩
          have hb8 : Box6 w8 g8 ⟨(k : Int), 0, a0, emptyB, emptyB, emptyB⟩ := by rw [hg8, hw8]; exact box6_new w4 ⟨(k : Int), 0, a0, emptyB, emptyB, emptyB⟩
          have hx8 : Ext w4 w8 := by rw [hw8]; exact (Ext.refl w4).alloc _
          have hle8 : w4.heap.size ≤ g8 := by omega
          have hgle := (hx.trans hE4').le
          have hgle1 : w1.heap.size ≤ g8 := Nat.le_trans hE4'.le hle8
          have hgle0 : w.heap.size ≤ g8 := Nat.le_trans (hx.trans hE4').le hle8
          have HW8 := Lib.hid hw8
          have HG8 := Lib.hid hg8
          clear hw8 hg8
          go_wp2_with fail
          rw [← HW8.out, ← HG8.out]
          clear HW8 HG8 q0
          have hcl : (k = 1 ∨ k = 2 ∨ k = 4) ∨ (k = 3 ∨ k = 5) ∨ k = 6 ∨ k = 7 := by omega
          rcases hcl with hcl | hcl | hcl | hcl
          · have hfl : keyK (k : Int) = true ∧ nK (k : Int) = false ∧ eK (k : Int) = false ∧ okK (k : Int) = true := by rcases hcl with rfl | rfl | rfl <;> exact ⟨rfl, rfl, rfl, rfl⟩
            have HF := Lib.hid (fun V => (by have h := s_fields (k : Int) V; rw [hfl.1, hfl.2.1, hfl.2.2.1, hfl.2.2.2] at h; exact h : Calls Tryd.prog 26 #[.int .i64 (k : Int)] V fun e w' => e = .returned (.tuple #[.agg #[.bool true, .bool false, .bool false], .bool true]) ∧ Ext V w'))
            have HCL := Lib.hid hcl
            clear hfl hcl
            refine (HF.out _).mono ?_
            rintro e w5 ⟨rfl, hE5⟩
            obtain ⟨g9, w9, hg9, hw9, u0, u1, u2, hx9⟩ := box_uses w5 true false false
            have HW9 := Lib.hid hw9
            have HG9 := Lib.hid hg9
            clear hw9 hg9 HF
            go_upto_region 10 with (fail)
            rw [← HW9.out, ← HG9.out]
            clear HW9 HG9
            have hx49 := hx8.trans (hE5.trans hx9)
            have hxw1 := hE4'.trans hx49
            have hxw := hx.trans hxw1
            obtain ⟨r0, r1, r2, r3, r4, r5, fr0, fr1, fr2, fr3, fr4, fr5⟩ := hb8.ext (hE5.trans hx9)
            simp only [emptyB] at r0 r1 r2 r3 r4 r5
            clear hE5 hx9 hx8 hb8
            have q1 : w9.cell? ⟨gw, 1, none⟩ = some (.string a1) := by rw [HA.out.2.1]; exact HQ.out w9 hx49 1 (by omega)
            have HNP := Lib.hid (fun V (h : Ext w V) => num_Parse a1 V (HL.out.ext h).laid (by rw [HA.out.2.1]; exact Nat.le_trans (HWS.out 1 (by omega)) (by decide)))
            go_upto_region 17 with (fail)
            refine forget_world (fun V => CellsR V g8 0 ⟨(k : Int), 0, a0, a1, emptyB, emptyB⟩ ∧ Ext w1 V) ⟨⟨(by first | (go_simp; done) | (go_simp; rfl)), (by first | (go_simp; done) | (go_simp; rfl)), (by first | (go_simp; done) | (go_simp; rfl)), (by first | (go_simp; done) | (go_simp; rfl)), (by first | (go_simp; done) | (go_simp; rfl)), (by first | (go_simp; done) | (go_simp; rfl))⟩, (by repeat (first | with_reducible exact Ext.refl _ | with_reducible assumption | with_reducible refine Ext.drew ?_ | with_reducible refine Ext.drewN ?_ _ | with_reducible refine Ext.alloc ?_ _ | (with_reducible refine Ext.setCell ?_ (by first | assumption | omega) _)))⟩ ?_
            rintro V ⟨hbV, hxV⟩
            have HGK := Lib.hid (show guessK (k : Int) W = ⟨(k : Int), 0, a0, a1, emptyB, emptyB⟩ by have hc := HCL.out; obtain ⟨e0, e1, e2⟩ := HA.out; subst e0 e1 e2; unfold guessK; rw [if_neg (by omega), if_neg (by omega), if_pos (by unfold keyK; simp; omega)])
            obtain ⟨d0, d1, d2, d3, d4, d5⟩ := id hbV
            simp only at d0 d1 d2 d3 d4 d5
            clear r0 r1 r2 r3 r4 r5 fr0 fr1 fr2 fr3 fr4 fr5 u0 u1 u2 q1
            have HTX := Lib.hid (s_Text ⟨(k : Int), 0, a0, a1, emptyB, emptyB⟩ V ((HL.out.ext (hx.trans hxV)).laid))
            go_wp2_with fail
            refine HTX.out.mono ?_
            rintro e w7 ⟨rfl, hE7⟩
            have hxW := hxV.trans hE7
            obtain ⟨d0', d1', d2', d3', d4', d5'⟩ := hbV.ext hE7
            simp only at d0' d1' d2' d3' d4' d5'
            clear d0 d1 d2 d3 d4 d5 HTX
            obtain ⟨z0, f0, z1, f1, z2, f2, z3, f3, z4, f4, z5, f5⟩ := HZ.out w7 hxW
            by_cases ht : textL ⟨(k : Int), 0, a0, a1, emptyB, emptyB⟩ = s.data.toList
            · have HT := Lib.hid ht
              have hbt : ((asB (textL ⟨(k : Int), 0, a0, a1, emptyB, emptyB⟩)).toList == s.toList) = true := by rw [HTB.out]; exact decide_eq_true ht
              clear ht
              go_wp2_with fail
              exact bodyPost_ret (v := .tuple #[RuleP.val ⟨(k : Int), 0, a0, a1, emptyB, emptyB⟩, .int .i64 0]) (by simp [results, Tryd.results12, RuleP.val, go_sem, z0, z1, z2, z3, z4, z5] <;> rfl) rfl ⟨⟨(k : Int), 0, a0, a1, emptyB, emptyB⟩, 0, rfl, step_hit HOKP.out HT.out, by have hxE := hx.trans hxW; exact (by repeat (first | with_reducible exact Ext.refl _ | with_reducible assumption | with_reducible refine Ext.drew ?_ | with_reducible refine Ext.drewN ?_ _ | with_reducible refine Ext.alloc ?_ _ | (with_reducible refine Ext.setCell ?_ (by first | assumption | omega) _)))⟩
            · have HT := Lib.hid ht
              have hbt : ((asB (textL ⟨(k : Int), 0, a0, a1, emptyB, emptyB⟩)).toList == s.toList) = false := by rw [HTB.out]; exact decide_eq_false ht
              clear ht
              go_wp2_with fail
              go_roundw
              case rel => exact ⟨k + 1, by go_num, by omega, by omega, Lib.hid (step_on hK.out (step_miss HWd.out (by rw [HGK.out]; exact HT.out))), hxW⟩
              case measure => simp [intOf]; omega
          · have hfl : keyK (k : Int) = true ∧ nK (k : Int) = true ∧ eK (k : Int) = false ∧ okK (k : Int) = true := by rcases hcl with rfl | rfl <;> exact ⟨rfl, rfl, rfl, rfl⟩
            have HF := Lib.hid (fun V => (by have h := s_fields (k : Int) V; rw [hfl.1, hfl.2.1, hfl.2.2.1, hfl.2.2.2] at h; exact h : Calls Tryd.prog 26 #[.int .i64 (k : Int)] V fun e w' => e = .returned (.tuple #[.agg #[.bool true, .bool true, .bool false], .bool true]) ∧ Ext V w'))
            have HCL := Lib.hid hcl
            clear hfl hcl
            refine (HF.out _).mono ?_
            rintro e w5 ⟨rfl, hE5⟩
            obtain ⟨g9, w9, hg9, hw9, u0, u1, u2, hx9⟩ := box_uses w5 true true false
            have HW9 := Lib.hid hw9
            have HG9 := Lib.hid hg9
            clear hw9 hg9 HF
            go_upto_region 10 with (fail)
            rw [← HW9.out, ← HG9.out]
            clear HW9 HG9
            have hx49 := hx8.trans (hE5.trans hx9)
            have hxw1 := hE4'.trans hx49
            have hxw := hx.trans hxw1
            obtain ⟨r0, r1, r2, r3, r4, r5, fr0, fr1, fr2, fr3, fr4, fr5⟩ := hb8.ext (hE5.trans hx9)
            simp only [emptyB] at r0 r1 r2 r3 r4 r5
            clear hE5 hx9 hx8 hb8
            have q1 : w9.cell? ⟨gw, 1, none⟩ = some (.string a1) := by rw [HA.out.2.1]; exact HQ.out w9 hx49 1 (by omega)
            have HNP := Lib.hid (fun V (h : Ext w V) => num_Parse a1 V (HL.out.ext h).laid (by rw [HA.out.2.1]; exact Nat.le_trans (HWS.out 1 (by omega)) (by decide)))
            by_cases h3 : W.length = 3
            · have MK := Lib.hid (fun V (e : Ext w4 V) => (⟨by rw [HA.out.2.2]; exact HQ.out V e 2 (by omega), e⟩ : V.cell? ⟨gw, 2, none⟩ = some (.string a2) ∧ Ext w4 V))
              have hn3 : ((W.length : Int) == 3) = true := by simp; omega
              have hq2 : (2 : Int) < (W.length : Int) := by omega
              have H3 := Lib.hid h3
              have b1 := beq_list a2 [98, 111, 111, 108]
              have b2 := beq_list a2 [105, 110, 116]
              have b3 := beq_list a2 [115, 116, 114]
              clear h3
              rcases word_cases a2.data.toList with h | ⟨h1, h⟩ | ⟨h1, h2, h⟩ | ⟨h1, h2, h3⟩
              · have HV := Lib.hid (show kindW a2.data.toList = 1 by unfold kindW; rw [if_pos h])
                rw [decide_eq_true h] at b1
                rw [h, decide_eq_false (by decide)] at b2 b3
                clear h
                go_wp2_with fail
                refine wp_region_held_drew (S := (fun V => V.cell? ⟨gw, 2, none⟩ = some (.string a2) ∧ Ext w4 V)) (by kernel_rfl) ?hs1 (fun hHeld => ?go1)
                case hs1 => (exact MK.out _ (by repeat (first | with_reducible exact Ext.refl _ | with_reducible assumption | with_reducible refine Ext.drew ?_ | with_reducible refine Ext.drewN ?_ _ | with_reducible refine Ext.alloc ?_ _ | (with_reducible refine Ext.setCell ?_ (by first | assumption | omega) _))))
                refine wpAnyH_take (i := 0) (oi := { dst := (some 84), op := (Op.move (Operand.tmp 7)), type := 51, pos := "schema.go:175", after := #[], guard := none }) (v := ?v2) rfl (by kernel_rfl) (by kernel_rfl) (by kernel_rfl) (fun _ _ _ h => h) (Or.inl ⟨rfl, ?hy2⟩) hHeld ?rest2
                case hy2 => (intro w hSw; (try dsimp only at hSw); go_simp <;> first | with_reducible rfl | rw [if_neg (by omega)] | rw [if_pos (by omega)])
                (try simp only [Act.put]); (try simp only [List.setIfInBounds_toArray]); (try simp only [List.set_cons_succ]); (try simp only [List.set_cons_zero])
                refine wpAnyH_take (i := 1) (oi := { dst := (some 85), op := (Op.indexAddr 51 (Operand.tmp 84) (Operand.const (Value.int IntKind.i64 2))), type := 0, pos := "schema.go:175", after := #[{ on := 0, ground := Ground.data }], guard := none }) (v := ?v3) rfl (by kernel_rfl) (by kernel_rfl) (by kernel_rfl) (fun _ _ _ h => h) (Or.inl ⟨rfl, ?hy3⟩) hHeld ?rest3
                case hy3 => (intro w hSw; (try dsimp only at hSw); go_simp <;> first | with_reducible rfl | rw [if_neg (by omega)] | rw [if_pos (by omega)])
                (try simp only [Act.put]); (try simp only [List.setIfInBounds_toArray]); (try simp only [List.set_cons_succ]); (try simp only [List.set_cons_zero])
                refine wpAnyH_take (i := 2) (oi := { dst := (some 86), op := (Op.load 9 (Operand.tmp 85)), type := 9, pos := "schema.go:175", after := #[{ on := 1, ground := Ground.data }], guard := none }) (v := ?v4) rfl (by kernel_rfl) (by kernel_rfl) (by kernel_rfl) (fun _ _ _ h => h) (Or.inl ⟨rfl, ?hy4⟩) hHeld ?rest4
                case hy4 => (intro w hSw; (try dsimp only at hSw); go_simp <;> first | with_reducible rfl | rw [if_neg (by omega)] | rw [if_pos (by omega)])
                (try simp only [Act.put]); (try simp only [List.setIfInBounds_toArray]); (try simp only [List.set_cons_succ]); (try simp only [List.set_cons_zero])
                refine wpAnyH_take (i := 3) (oi := { dst := (some 87), op := (Op.binOp BinOp.eql 9 (Operand.tmp 86) (Operand.const (Value.string { data := #[98, 111, 111, 108] })) 9), type := 4, pos := "schema.go:175", after := #[{ on := 2, ground := Ground.data }], guard := none }) (v := ?v5) rfl (by kernel_rfl) (by kernel_rfl) (by kernel_rfl) (fun _ _ _ h => h) (Or.inl ⟨rfl, ?hy5⟩) hHeld ?rest5
                case hy5 => (intro w hSw; (try dsimp only at hSw); go_simp <;> first | with_reducible rfl | rw [if_neg (by omega)] | rw [if_pos (by omega)])
                (try simp only [Act.put]); (try simp only [List.setIfInBounds_toArray]); (try simp only [List.set_cons_succ]); (try simp only [List.set_cons_zero])
                refine wpAnyH_take (i := 6) (oi := { dst := (some 90), op := (Op.move (Operand.tmp 7)), type := 51, pos := "schema.go:175", after := #[], guard := none }) (v := ?v6) rfl (by kernel_rfl) (by kernel_rfl) (by kernel_rfl) (fun _ _ _ h => h) (Or.inl ⟨rfl, ?hy6⟩) hHeld ?rest6
                case hy6 => (intro w hSw; (try dsimp only at hSw); go_simp <;> first | with_reducible rfl | rw [if_neg (by omega)] | rw [if_pos (by omega)])
                (try simp only [Act.put]); (try simp only [List.setIfInBounds_toArray]); (try simp only [List.set_cons_succ]); (try simp only [List.set_cons_zero])
                refine wpAnyH_take (i := 7) (oi := { dst := (some 91), op := (Op.indexAddr 51 (Operand.tmp 90) (Operand.const (Value.int IntKind.i64 2))), type := 0, pos := "schema.go:175", after := #[{ on := 6, ground := Ground.data }], guard := none }) (v := ?v7) rfl (by kernel_rfl) (by kernel_rfl) (by kernel_rfl) (fun _ _ _ h => h) (Or.inl ⟨rfl, ?hy7⟩) hHeld ?rest7
                case hy7 => (intro w hSw; (try dsimp only at hSw); go_simp <;> first | with_reducible rfl | rw [if_neg (by omega)] | rw [if_pos (by omega)])
                (try simp only [Act.put]); (try simp only [List.setIfInBounds_toArray]); (try simp only [List.set_cons_succ]); (try simp only [List.set_cons_zero])
                refine wpAnyH_take (i := 8) (oi := { dst := (some 92), op := (Op.load 9 (Operand.tmp 91)), type := 9, pos := "schema.go:175", after := #[{ on := 7, ground := Ground.data }], guard := none }) (v := ?v8) rfl (by kernel_rfl) (by kernel_rfl) (by kernel_rfl) (fun _ _ _ h => h) (Or.inl ⟨rfl, ?hy8⟩) hHeld ?rest8
                case hy8 => (intro w hSw; (try dsimp only at hSw); go_simp <;> first | with_reducible rfl | rw [if_neg (by omega)] | rw [if_pos (by omega)])
                (try simp only [Act.put]); (try simp only [List.setIfInBounds_toArray]); (try simp only [List.set_cons_succ]); (try simp only [List.set_cons_zero])
                refine wpAnyH_take (i := 9) (oi := { dst := (some 93), op := (Op.binOp BinOp.eql 9 (Operand.tmp 92) (Operand.const (Value.string { data := #[105, 110, 116] })) 9), type := 4, pos := "schema.go:175", after := #[{ on := 8, ground := Ground.data }], guard := none }) (v := ?v9) rfl (by kernel_rfl) (by kernel_rfl) (by kernel_rfl) (fun _ _ _ h => h) (Or.inl ⟨rfl, ?hy9⟩) hHeld ?rest9
                case hy9 => (intro w hSw; (try dsimp only at hSw); go_simp <;> first | with_reducible rfl | rw [if_neg (by omega)] | rw [if_pos (by omega)])
                (try simp only [Act.put]); (try simp only [List.setIfInBounds_toArray]); (try simp only [List.set_cons_succ]); (try simp only [List.set_cons_zero])
                refine wpAnyH_take (i := 12) (oi := { dst := (some 96), op := (Op.move (Operand.tmp 7)), type := 51, pos := "schema.go:175", after := #[], guard := none }) (v := ?v10) rfl (by kernel_rfl) (by kernel_rfl) (by kernel_rfl) (fun _ _ _ h => h) (Or.inl ⟨rfl, ?hy10⟩) hHeld ?rest10
                case hy10 => (intro w hSw; (try dsimp only at hSw); go_simp <;> first | with_reducible rfl | rw [if_neg (by omega)] | rw [if_pos (by omega)])
                (try simp only [Act.put]); (try simp only [List.setIfInBounds_toArray]); (try simp only [List.set_cons_succ]); (try simp only [List.set_cons_zero])
                refine wpAnyH_take (i := 13) (oi := { dst := (some 97), op := (Op.indexAddr 51 (Operand.tmp 96) (Operand.const (Value.int IntKind.i64 2))), type := 0, pos := "schema.go:175", after := #[{ on := 12, ground := Ground.data }], guard := none }) (v := ?v11) rfl (by kernel_rfl) (by kernel_rfl) (by kernel_rfl) (fun _ _ _ h => h) (Or.inl ⟨rfl, ?hy11⟩) hHeld ?rest11
                case hy11 => (intro w hSw; (try dsimp only at hSw); go_simp <;> first | with_reducible rfl | rw [if_neg (by omega)] | rw [if_pos (by omega)])
                (try simp only [Act.put]); (try simp only [List.setIfInBounds_toArray]); (try simp only [List.set_cons_succ]); (try simp only [List.set_cons_zero])
                refine wpAnyH_take (i := 14) (oi := { dst := (some 98), op := (Op.load 9 (Operand.tmp 97)), type := 9, pos := "schema.go:175", after := #[{ on := 13, ground := Ground.data }], guard := none }) (v := ?v12) rfl (by kernel_rfl) (by kernel_rfl) (by kernel_rfl) (fun _ _ _ h => h) (Or.inl ⟨rfl, ?hy12⟩) hHeld ?rest12
                case hy12 => (intro w hSw; (try dsimp only at hSw); go_simp <;> first | with_reducible rfl | rw [if_neg (by omega)] | rw [if_pos (by omega)])
                (try simp only [Act.put]); (try simp only [List.setIfInBounds_toArray]); (try simp only [List.set_cons_succ]); (try simp only [List.set_cons_zero])
                refine wpAnyH_take (i := 15) (oi := { dst := (some 99), op := (Op.binOp BinOp.eql 9 (Operand.tmp 98) (Operand.const (Value.string { data := #[115, 116, 114] })) 9), type := 4, pos := "schema.go:175", after := #[{ on := 14, ground := Ground.data }], guard := none }) (v := ?v13) rfl (by kernel_rfl) (by kernel_rfl) (by kernel_rfl) (fun _ _ _ h => h) (Or.inl ⟨rfl, ?hy13⟩) hHeld ?rest13
                case hy13 => (intro w hSw; (try dsimp only at hSw); go_simp <;> first | with_reducible rfl | rw [if_neg (by omega)] | rw [if_pos (by omega)])
                (try simp only [Act.put]); (try simp only [List.setIfInBounds_toArray]); (try simp only [List.set_cons_succ]); (try simp only [List.set_cons_zero])
                refine wpAnyH_ready (rs := [4]) (by kernel_rfl) (by simp) ?_
                refine AllReadyH.cons (o := { dst := (some 88), op := (Op.call { callee := (Callee.value (Operand.func 28)), args := #[(Operand.tmp 87)], argTypes := #[4] }), type := 3, pos := "schema.go:175", after := #[{ on := 3, ground := Ground.data }], guard := none }) rfl (fun K hK => ?step14x0) ?more14x0
                case more14x0 => exact AllReadyH.nil
                go_simp
                first | (go_at_call 28; refine (truth_t _).mono ?_; rintro e w' ⟨rfl, rfl⟩) | (go_at_call 28; refine (truth_f _).mono ?_; rintro e w' ⟨rfl, rfl⟩)
                refine hK.out _ _ ?hS14x0 (fun hHeld14 => ?rest14x0)
                case hS14x0 => first | (exact MK.out _ (by repeat (first | with_reducible exact Ext.refl _ | with_reducible assumption | with_reducible refine Ext.drew ?_ | with_reducible refine Ext.drewN ?_ _ | with_reducible refine Ext.alloc ?_ _ | (with_reducible refine Ext.setCell ?_ (by first | assumption | omega) _)))) | ((try dsimp only); (exact MK.out _ (by repeat (first | with_reducible exact Ext.refl _ | with_reducible assumption | with_reducible refine Ext.drew ?_ | with_reducible refine Ext.drewN ?_ _ | with_reducible refine Ext.alloc ?_ _ | (with_reducible refine Ext.setCell ?_ (by first | assumption | omega) _)))))
                clear hK K
                clear hHeld
                (try simp only [Act.put]); (try simp only [List.setIfInBounds_toArray]); (try simp only [List.set_cons_succ]); (try simp only [List.set_cons_zero])
                refine wpAnyH_take (i := 5) (oi := { dst := (some 89), op := (Op.binOp BinOp.mul 3 (Operand.const (Value.int IntKind.i64 1)) (Operand.tmp 88) 3), type := 3, pos := "schema.go:175", after := #[{ on := 4, ground := Ground.data }], guard := none }) (v := ?v15) rfl (by kernel_rfl) (by kernel_rfl) (by kernel_rfl) (fun _ _ _ h => h) (Or.inl ⟨rfl, ?hy15⟩) hHeld14 ?rest15
                case hy15 => (intro w hSw; (try dsimp only at hSw); go_simp <;> first | with_reducible rfl | rw [if_neg (by omega)] | rw [if_pos (by omega)])
                (try simp only [Act.put]); (try simp only [List.setIfInBounds_toArray]); (try simp only [List.set_cons_succ]); (try simp only [List.set_cons_zero])
                refine wpAnyH_ready (rs := [10]) (by kernel_rfl) (by simp) ?_
                refine AllReadyH.cons (o := { dst := (some 94), op := (Op.call { callee := (Callee.value (Operand.func 28)), args := #[(Operand.tmp 93)], argTypes := #[4] }), type := 3, pos := "schema.go:175", after := #[{ on := 9, ground := Ground.data }, { on := 4, ground := Ground.chain }], guard := none }) rfl (fun K hK => ?step16x0) ?more16x0
                case more16x0 => exact AllReadyH.nil
                go_simp
                first | (go_at_call 28; refine (truth_t _).mono ?_; rintro e w' ⟨rfl, rfl⟩) | (go_at_call 28; refine (truth_f _).mono ?_; rintro e w' ⟨rfl, rfl⟩)
                refine hK.out _ _ ?hS16x0 (fun hHeld16 => ?rest16x0)
                case hS16x0 => first | (exact MK.out _ (by repeat (first | with_reducible exact Ext.refl _ | with_reducible assumption | with_reducible refine Ext.drew ?_ | with_reducible refine Ext.drewN ?_ _ | with_reducible refine Ext.alloc ?_ _ | (with_reducible refine Ext.setCell ?_ (by first | assumption | omega) _)))) | ((try dsimp only); (exact MK.out _ (by repeat (first | with_reducible exact Ext.refl _ | with_reducible assumption | with_reducible refine Ext.drew ?_ | with_reducible refine Ext.drewN ?_ _ | with_reducible refine Ext.alloc ?_ _ | (with_reducible refine Ext.setCell ?_ (by first | assumption | omega) _)))))
                clear hK K
                clear hHeld14
                (try simp only [Act.put]); (try simp only [List.setIfInBounds_toArray]); (try simp only [List.set_cons_succ]); (try simp only [List.set_cons_zero])
                refine wpAnyH_take (i := 11) (oi := { dst := (some 95), op := (Op.binOp BinOp.mul 3 (Operand.const (Value.int IntKind.i64 2)) (Operand.tmp 94) 3), type := 3, pos := "schema.go:175", after := #[{ on := 10, ground := Ground.data }], guard := none }) (v := ?v17) rfl (by kernel_rfl) (by kernel_rfl) (by kernel_rfl) (fun _ _ _ h => h) (Or.inl ⟨rfl, ?hy17⟩) hHeld16 ?rest17
                case hy17 => (intro w hSw; (try dsimp only at hSw); go_simp <;> first | with_reducible rfl | rw [if_neg (by omega)] | rw [if_pos (by omega)])
                (try simp only [Act.put]); (try simp only [List.setIfInBounds_toArray]); (try simp only [List.set_cons_succ]); (try simp only [List.set_cons_zero])
                refine wpAnyH_ready (rs := [16]) (by kernel_rfl) (by simp) ?_
                refine AllReadyH.cons (o := { dst := (some 100), op := (Op.call { callee := (Callee.value (Operand.func 28)), args := #[(Operand.tmp 99)], argTypes := #[4] }), type := 3, pos := "schema.go:175", after := #[{ on := 15, ground := Ground.data }, { on := 10, ground := Ground.chain }], guard := none }) rfl (fun K hK => ?step18x0) ?more18x0
                case more18x0 => exact AllReadyH.nil
                go_simp
                first | (go_at_call 28; refine (truth_t _).mono ?_; rintro e w' ⟨rfl, rfl⟩) | (go_at_call 28; refine (truth_f _).mono ?_; rintro e w' ⟨rfl, rfl⟩)
                refine hK.out _ _ ?hS18x0 (fun hHeld18 => ?rest18x0)
                case hS18x0 => first | (exact MK.out _ (by repeat (first | with_reducible exact Ext.refl _ | with_reducible assumption | with_reducible refine Ext.drew ?_ | with_reducible refine Ext.drewN ?_ _ | with_reducible refine Ext.alloc ?_ _ | (with_reducible refine Ext.setCell ?_ (by first | assumption | omega) _)))) | ((try dsimp only); (exact MK.out _ (by repeat (first | with_reducible exact Ext.refl _ | with_reducible assumption | with_reducible refine Ext.drew ?_ | with_reducible refine Ext.drewN ?_ _ | with_reducible refine Ext.alloc ?_ _ | (with_reducible refine Ext.setCell ?_ (by first | assumption | omega) _)))))
                clear hK K
                clear hHeld16
                (try simp only [Act.put]); (try simp only [List.setIfInBounds_toArray]); (try simp only [List.set_cons_succ]); (try simp only [List.set_cons_zero])
                refine wpAnyH_take (i := 17) (oi := { dst := (some 101), op := (Op.binOp BinOp.mul 3 (Operand.const (Value.int IntKind.i64 4)) (Operand.tmp 100) 3), type := 3, pos := "schema.go:175", after := #[{ on := 16, ground := Ground.data }], guard := none }) (v := ?v19) rfl (by kernel_rfl) (by kernel_rfl) (by kernel_rfl) (fun _ _ _ h => h) (Or.inl ⟨rfl, ?hy19⟩) hHeld18 ?rest19
                case hy19 => (intro w hSw; (try dsimp only at hSw); go_simp <;> first | with_reducible rfl | rw [if_neg (by omega)] | rw [if_pos (by omega)])
                (try simp only [Act.put]); (try simp only [List.setIfInBounds_toArray]); (try simp only [List.set_cons_succ]); (try simp only [List.set_cons_zero])
                refine wpAnyH_take (i := 18) (oi := { dst := (some 102), op := (Op.call { callee := (Callee.builtin Builtin.max), args := #[(Operand.tmp 89), (Operand.tmp 95), (Operand.tmp 101)], argTypes := #[3, 3, 3] }), type := 3, pos := "schema.go:175", after := #[{ on := 5, ground := Ground.data }, { on := 11, ground := Ground.data }, { on := 17, ground := Ground.data }], guard := none }) (v := ?v20) rfl (by kernel_rfl) (by kernel_rfl) (by kernel_rfl) (fun _ _ _ h => h) (Or.inl ⟨rfl, ?hy20⟩) hHeld18 ?rest20
                case hy20 => (intro w hSw; (try dsimp only at hSw); go_simp <;> first | with_reducible rfl | rw [if_neg (by omega)] | rw [if_pos (by omega)])
                (try simp only [Act.put]); (try simp only [List.setIfInBounds_toArray]); (try simp only [List.set_cons_succ]); (try simp only [List.set_cons_zero])
                refine wpAnyH_take (i := 19) (oi := { dst := (some 103), op := (Op.fieldAddr 23 (Operand.tmp 8) 1), type := 0, pos := "schema.go:175", after := #[{ on := 0, ground := Ground.phase }, { on := 1, ground := Ground.phase }, { on := 2, ground := Ground.phase }, { on := 3, ground := Ground.phase }, { on := 4, ground := Ground.phase }, { on := 5, ground := Ground.phase }, { on := 6, ground := Ground.phase }, { on := 7, ground := Ground.phase }, { on := 8, ground := Ground.phase }, { on := 9, ground := Ground.phase }, { on := 10, ground := Ground.phase }, { on := 11, ground := Ground.phase }, { on := 12, ground := Ground.phase }, { on := 13, ground := Ground.phase }, { on := 14, ground := Ground.phase }, { on := 15, ground := Ground.phase }, { on := 16, ground := Ground.phase }, { on := 17, ground := Ground.phase }, { on := 18, ground := Ground.phase }], guard := none }) (v := ?v21) rfl (by kernel_rfl) (by kernel_rfl) (by kernel_rfl) (fun _ _ _ h => h) (Or.inl ⟨rfl, ?hy21⟩) hHeld18 ?rest21
                case hy21 => (intro w hSw; (try dsimp only at hSw); go_simp <;> first | with_reducible rfl | rw [if_neg (by omega)] | rw [if_pos (by omega)])
                (try simp only [Act.put]); (try simp only [List.setIfInBounds_toArray]); (try simp only [List.set_cons_succ]); (try simp only [List.set_cons_zero])
                refine wpAnyH_ready (rs := [20]) (by kernel_rfl) (by simp) ?_
                refine AllReadyH.cons (o := { dst := none, op := (Op.store 3 (Operand.tmp 103) (Operand.tmp 102)), type := 0, pos := "schema.go:175", after := #[{ on := 19, ground := Ground.data }, { on := 18, ground := Ground.data }, { on := 16, ground := Ground.chain }, { on := 0, ground := Ground.phase }, { on := 1, ground := Ground.phase }, { on := 2, ground := Ground.phase }, { on := 3, ground := Ground.phase }, { on := 4, ground := Ground.phase }, { on := 5, ground := Ground.phase }, { on := 6, ground := Ground.phase }, { on := 7, ground := Ground.phase }, { on := 8, ground := Ground.phase }, { on := 9, ground := Ground.phase }, { on := 10, ground := Ground.phase }, { on := 11, ground := Ground.phase }, { on := 12, ground := Ground.phase }, { on := 13, ground := Ground.phase }, { on := 14, ground := Ground.phase }, { on := 15, ground := Ground.phase }, { on := 16, ground := Ground.phase }, { on := 17, ground := Ground.phase }, { on := 18, ground := Ground.phase }], guard := none }) rfl (fun K hK => ?step22x0) ?more22x0
                case more22x0 => exact AllReadyH.nil
                go_simp
                refine hK.out _ _ ?hS22x0 (fun hHeld22 => ?rest22x0)
                case hS22x0 => first | (exact MK.out _ (by repeat (first | with_reducible exact Ext.refl _ | with_reducible assumption | with_reducible refine Ext.drew ?_ | with_reducible refine Ext.drewN ?_ _ | with_reducible refine Ext.alloc ?_ _ | (with_reducible refine Ext.setCell ?_ (by first | assumption | omega) _)))) | ((try dsimp only); (exact MK.out _ (by repeat (first | with_reducible exact Ext.refl _ | with_reducible assumption | with_reducible refine Ext.drew ?_ | with_reducible refine Ext.drewN ?_ _ | with_reducible refine Ext.alloc ?_ _ | (with_reducible refine Ext.setCell ?_ (by first | assumption | omega) _)))))
                clear hK K
                clear hHeld18
                (try simp only [Act.put]); (try simp only [List.setIfInBounds_toArray]); (try simp only [List.set_cons_succ]); (try simp only [List.set_cons_zero])
                refine wpAnyH_done (by kernel_rfl) ?_ _
                clear hHeld22
                go_upto_region 17 with (fail)
                refine forget_world (fun V => CellsR V g8 0 ⟨(k : Int), 1, a0, a1, emptyB, emptyB⟩ ∧ Ext w1 V) ⟨⟨(by first | (go_simp; done) | (go_simp; rfl)), (by first | (go_simp; done) | (go_simp; rfl)), (by first | (go_simp; done) | (go_simp; rfl)), (by first | (go_simp; done) | (go_simp; rfl)), (by first | (go_simp; done) | (go_simp; rfl)), (by first | (go_simp; done) | (go_simp; rfl))⟩, (by repeat (first | with_reducible exact Ext.refl _ | with_reducible assumption | with_reducible refine Ext.drew ?_ | with_reducible refine Ext.drewN ?_ _ | with_reducible refine Ext.alloc ?_ _ | (with_reducible refine Ext.setCell ?_ (by first | assumption | omega) _)))⟩ ?_
                rintro V ⟨hbV, hxV⟩
                have HGK := Lib.hid (show guessK (k : Int) W = ⟨(k : Int), 1, a0, a1, emptyB, emptyB⟩ by have hc := HCL.out; obtain ⟨e0, e1, e2⟩ := HA.out; subst e0 e1 e2; unfold guessK; rw [if_neg (by omega), if_pos ⟨by omega, H3.out⟩, HV.out])
                obtain ⟨d0, d1, d2, d3, d4, d5⟩ := id hbV
                simp only at d0 d1 d2 d3 d4 d5
                clear r0 r1 r2 r3 r4 r5 fr0 fr1 fr2 fr3 fr4 fr5 u0 u1 u2 q1
                have HTX := Lib.hid (s_Text ⟨(k : Int), 1, a0, a1, emptyB, emptyB⟩ V ((HL.out.ext (hx.trans hxV)).laid))
                go_wp2_with fail
                refine HTX.out.mono ?_
                rintro e w7 ⟨rfl, hE7⟩
                have hxW := hxV.trans hE7
                obtain ⟨d0', d1', d2', d3', d4', d5'⟩ := hbV.ext hE7
                simp only at d0' d1' d2' d3' d4' d5'
                clear d0 d1 d2 d3 d4 d5 HTX
                obtain ⟨z0, f0, z1, f1, z2, f2, z3, f3, z4, f4, z5, f5⟩ := HZ.out w7 hxW
                by_cases ht : textL ⟨(k : Int), 1, a0, a1, emptyB, emptyB⟩ = s.data.toList
                · have HT := Lib.hid ht
                  have hbt : ((asB (textL ⟨(k : Int), 1, a0, a1, emptyB, emptyB⟩)).toList == s.toList) = true := by rw [HTB.out]; exact decide_eq_true ht
                  clear ht
                  go_wp2_with fail
                  exact bodyPost_ret (v := .tuple #[RuleP.val ⟨(k : Int), 1, a0, a1, emptyB, emptyB⟩, .int .i64 0]) (by simp [results, Tryd.results12, RuleP.val, go_sem, z0, z1, z2, z3, z4, z5] <;> rfl) rfl ⟨⟨(k : Int), 1, a0, a1, emptyB, emptyB⟩, 0, rfl, step_hit HOKP.out HT.out, by have hxE := hx.trans hxW; exact (by repeat (first | with_reducible exact Ext.refl _ | with_reducible assumption | with_reducible refine Ext.drew ?_ | with_reducible refine Ext.drewN ?_ _ | with_reducible refine Ext.alloc ?_ _ | (with_reducible refine Ext.setCell ?_ (by first | assumption | omega) _)))⟩
                · have HT := Lib.hid ht
                  have hbt : ((asB (textL ⟨(k : Int), 1, a0, a1, emptyB, emptyB⟩)).toList == s.toList) = false := by rw [HTB.out]; exact decide_eq_false ht
                  clear ht
                  go_wp2_with fail
                  go_roundw
                  case rel => exact ⟨k + 1, by go_num, by omega, by omega, Lib.hid (step_on hK.out (step_miss HWd.out (by rw [HGK.out]; exact HT.out))), hxW⟩
                  case measure => simp [intOf]; omega
              · have HV := Lib.hid (show kindW a2.data.toList = 2 by unfold kindW; rw [if_neg h1, if_pos h])
                rw [decide_eq_false h1] at b1
                rw [decide_eq_true h] at b2
                rw [h, decide_eq_false (by decide)] at b3
                clear h h1
                go_wp2_with fail
                refine wp_region_held_drew (S := (fun V => V.cell? ⟨gw, 2, none⟩ = some (.string a2) ∧ Ext w4 V)) (by kernel_rfl) ?hs23 (fun hHeld => ?go23)
                case hs23 => (exact MK.out _ (by repeat (first | with_reducible exact Ext.refl _ | with_reducible assumption | with_reducible refine Ext.drew ?_ | with_reducible refine Ext.drewN ?_ _ | with_reducible refine Ext.alloc ?_ _ | (with_reducible refine Ext.setCell ?_ (by first | assumption | omega) _))))
                refine wpAnyH_take (i := 0) (oi := { dst := (some 84), op := (Op.move (Operand.tmp 7)), type := 51, pos := "schema.go:175", after := #[], guard := none }) (v := ?v24) rfl (by kernel_rfl) (by kernel_rfl) (by kernel_rfl) (fun _ _ _ h => h) (Or.inl ⟨rfl, ?hy24⟩) hHeld ?rest24
                case hy24 => (intro w hSw; (try dsimp only at hSw); go_simp <;> first | with_reducible rfl | rw [if_neg (by omega)] | rw [if_pos (by omega)])
                (try simp only [Act.put]); (try simp only [List.setIfInBounds_toArray]); (try simp only [List.set_cons_succ]); (try simp only [List.set_cons_zero])
                refine wpAnyH_take (i := 1) (oi := { dst := (some 85), op := (Op.indexAddr 51 (Operand.tmp 84) (Operand.const (Value.int IntKind.i64 2))), type := 0, pos := "schema.go:175", after := #[{ on := 0, ground := Ground.data }], guard := none }) (v := ?v25) rfl (by kernel_rfl) (by kernel_rfl) (by kernel_rfl) (fun _ _ _ h => h) (Or.inl ⟨rfl, ?hy25⟩) hHeld ?rest25
                case hy25 => (intro w hSw; (try dsimp only at hSw); go_simp <;> first | with_reducible rfl | rw [if_neg (by omega)] | rw [if_pos (by omega)])
                (try simp only [Act.put]); (try simp only [List.setIfInBounds_toArray]); (try simp only [List.set_cons_succ]); (try simp only [List.set_cons_zero])
                refine wpAnyH_take (i := 2) (oi := { dst := (some 86), op := (Op.load 9 (Operand.tmp 85)), type := 9, pos := "schema.go:175", after := #[{ on := 1, ground := Ground.data }], guard := none }) (v := ?v26) rfl (by kernel_rfl) (by kernel_rfl) (by kernel_rfl) (fun _ _ _ h => h) (Or.inl ⟨rfl, ?hy26⟩) hHeld ?rest26
                case hy26 => (intro w hSw; (try dsimp only at hSw); go_simp <;> first | with_reducible rfl | rw [if_neg (by omega)] | rw [if_pos (by omega)])
                (try simp only [Act.put]); (try simp only [List.setIfInBounds_toArray]); (try simp only [List.set_cons_succ]); (try simp only [List.set_cons_zero])
                refine wpAnyH_take (i := 3) (oi := { dst := (some 87), op := (Op.binOp BinOp.eql 9 (Operand.tmp 86) (Operand.const (Value.string { data := #[98, 111, 111, 108] })) 9), type := 4, pos := "schema.go:175", after := #[{ on := 2, ground := Ground.data }], guard := none }) (v := ?v27) rfl (by kernel_rfl) (by kernel_rfl) (by kernel_rfl) (fun _ _ _ h => h) (Or.inl ⟨rfl, ?hy27⟩) hHeld ?rest27
                case hy27 => (intro w hSw; (try dsimp only at hSw); go_simp <;> first | with_reducible rfl | rw [if_neg (by omega)] | rw [if_pos (by omega)])
                (try simp only [Act.put]); (try simp only [List.setIfInBounds_toArray]); (try simp only [List.set_cons_succ]); (try simp only [List.set_cons_zero])
                refine wpAnyH_take (i := 6) (oi := { dst := (some 90), op := (Op.move (Operand.tmp 7)), type := 51, pos := "schema.go:175", after := #[], guard := none }) (v := ?v28) rfl (by kernel_rfl) (by kernel_rfl) (by kernel_rfl) (fun _ _ _ h => h) (Or.inl ⟨rfl, ?hy28⟩) hHeld ?rest28
                case hy28 => (intro w hSw; (try dsimp only at hSw); go_simp <;> first | with_reducible rfl | rw [if_neg (by omega)] | rw [if_pos (by omega)])
                (try simp only [Act.put]); (try simp only [List.setIfInBounds_toArray]); (try simp only [List.set_cons_succ]); (try simp only [List.set_cons_zero])
                refine wpAnyH_take (i := 7) (oi := { dst := (some 91), op := (Op.indexAddr 51 (Operand.tmp 90) (Operand.const (Value.int IntKind.i64 2))), type := 0, pos := "schema.go:175", after := #[{ on := 6, ground := Ground.data }], guard := none }) (v := ?v29) rfl (by kernel_rfl) (by kernel_rfl) (by kernel_rfl) (fun _ _ _ h => h) (Or.inl ⟨rfl, ?hy29⟩) hHeld ?rest29
                case hy29 => (intro w hSw; (try dsimp only at hSw); go_simp <;> first | with_reducible rfl | rw [if_neg (by omega)] | rw [if_pos (by omega)])
                (try simp only [Act.put]); (try simp only [List.setIfInBounds_toArray]); (try simp only [List.set_cons_succ]); (try simp only [List.set_cons_zero])
                refine wpAnyH_take (i := 8) (oi := { dst := (some 92), op := (Op.load 9 (Operand.tmp 91)), type := 9, pos := "schema.go:175", after := #[{ on := 7, ground := Ground.data }], guard := none }) (v := ?v30) rfl (by kernel_rfl) (by kernel_rfl) (by kernel_rfl) (fun _ _ _ h => h) (Or.inl ⟨rfl, ?hy30⟩) hHeld ?rest30
                case hy30 => (intro w hSw; (try dsimp only at hSw); go_simp <;> first | with_reducible rfl | rw [if_neg (by omega)] | rw [if_pos (by omega)])
                (try simp only [Act.put]); (try simp only [List.setIfInBounds_toArray]); (try simp only [List.set_cons_succ]); (try simp only [List.set_cons_zero])
                refine wpAnyH_take (i := 9) (oi := { dst := (some 93), op := (Op.binOp BinOp.eql 9 (Operand.tmp 92) (Operand.const (Value.string { data := #[105, 110, 116] })) 9), type := 4, pos := "schema.go:175", after := #[{ on := 8, ground := Ground.data }], guard := none }) (v := ?v31) rfl (by kernel_rfl) (by kernel_rfl) (by kernel_rfl) (fun _ _ _ h => h) (Or.inl ⟨rfl, ?hy31⟩) hHeld ?rest31
                case hy31 => (intro w hSw; (try dsimp only at hSw); go_simp <;> first | with_reducible rfl | rw [if_neg (by omega)] | rw [if_pos (by omega)])
                (try simp only [Act.put]); (try simp only [List.setIfInBounds_toArray]); (try simp only [List.set_cons_succ]); (try simp only [List.set_cons_zero])
                refine wpAnyH_take (i := 12) (oi := { dst := (some 96), op := (Op.move (Operand.tmp 7)), type := 51, pos := "schema.go:175", after := #[], guard := none }) (v := ?v32) rfl (by kernel_rfl) (by kernel_rfl) (by kernel_rfl) (fun _ _ _ h => h) (Or.inl ⟨rfl, ?hy32⟩) hHeld ?rest32
                case hy32 => (intro w hSw; (try dsimp only at hSw); go_simp <;> first | with_reducible rfl | rw [if_neg (by omega)] | rw [if_pos (by omega)])
                (try simp only [Act.put]); (try simp only [List.setIfInBounds_toArray]); (try simp only [List.set_cons_succ]); (try simp only [List.set_cons_zero])
                refine wpAnyH_take (i := 13) (oi := { dst := (some 97), op := (Op.indexAddr 51 (Operand.tmp 96) (Operand.const (Value.int IntKind.i64 2))), type := 0, pos := "schema.go:175", after := #[{ on := 12, ground := Ground.data }], guard := none }) (v := ?v33) rfl (by kernel_rfl) (by kernel_rfl) (by kernel_rfl) (fun _ _ _ h => h) (Or.inl ⟨rfl, ?hy33⟩) hHeld ?rest33
                case hy33 => (intro w hSw; (try dsimp only at hSw); go_simp <;> first | with_reducible rfl | rw [if_neg (by omega)] | rw [if_pos (by omega)])
                (try simp only [Act.put]); (try simp only [List.setIfInBounds_toArray]); (try simp only [List.set_cons_succ]); (try simp only [List.set_cons_zero])
                refine wpAnyH_take (i := 14) (oi := { dst := (some 98), op := (Op.load 9 (Operand.tmp 97)), type := 9, pos := "schema.go:175", after := #[{ on := 13, ground := Ground.data }], guard := none }) (v := ?v34) rfl (by kernel_rfl) (by kernel_rfl) (by kernel_rfl) (fun _ _ _ h => h) (Or.inl ⟨rfl, ?hy34⟩) hHeld ?rest34
                case hy34 => (intro w hSw; (try dsimp only at hSw); go_simp <;> first | with_reducible rfl | rw [if_neg (by omega)] | rw [if_pos (by omega)])
                (try simp only [Act.put]); (try simp only [List.setIfInBounds_toArray]); (try simp only [List.set_cons_succ]); (try simp only [List.set_cons_zero])
                refine wpAnyH_take (i := 15) (oi := { dst := (some 99), op := (Op.binOp BinOp.eql 9 (Operand.tmp 98) (Operand.const (Value.string { data := #[115, 116, 114] })) 9), type := 4, pos := "schema.go:175", after := #[{ on := 14, ground := Ground.data }], guard := none }) (v := ?v35) rfl (by kernel_rfl) (by kernel_rfl) (by kernel_rfl) (fun _ _ _ h => h) (Or.inl ⟨rfl, ?hy35⟩) hHeld ?rest35
                case hy35 => (intro w hSw; (try dsimp only at hSw); go_simp <;> first | with_reducible rfl | rw [if_neg (by omega)] | rw [if_pos (by omega)])
                (try simp only [Act.put]); (try simp only [List.setIfInBounds_toArray]); (try simp only [List.set_cons_succ]); (try simp only [List.set_cons_zero])
                refine wpAnyH_ready (rs := [4]) (by kernel_rfl) (by simp) ?_
                refine AllReadyH.cons (o := { dst := (some 88), op := (Op.call { callee := (Callee.value (Operand.func 28)), args := #[(Operand.tmp 87)], argTypes := #[4] }), type := 3, pos := "schema.go:175", after := #[{ on := 3, ground := Ground.data }], guard := none }) rfl (fun K hK => ?step36x0) ?more36x0
                case more36x0 => exact AllReadyH.nil
                go_simp
                first | (go_at_call 28; refine (truth_t _).mono ?_; rintro e w' ⟨rfl, rfl⟩) | (go_at_call 28; refine (truth_f _).mono ?_; rintro e w' ⟨rfl, rfl⟩)
                refine hK.out _ _ ?hS36x0 (fun hHeld36 => ?rest36x0)
                case hS36x0 => first | (exact MK.out _ (by repeat (first | with_reducible exact Ext.refl _ | with_reducible assumption | with_reducible refine Ext.drew ?_ | with_reducible refine Ext.drewN ?_ _ | with_reducible refine Ext.alloc ?_ _ | (with_reducible refine Ext.setCell ?_ (by first | assumption | omega) _)))) | ((try dsimp only); (exact MK.out _ (by repeat (first | with_reducible exact Ext.refl _ | with_reducible assumption | with_reducible refine Ext.drew ?_ | with_reducible refine Ext.drewN ?_ _ | with_reducible refine Ext.alloc ?_ _ | (with_reducible refine Ext.setCell ?_ (by first | assumption | omega) _)))))
                clear hK K
                clear hHeld
                (try simp only [Act.put]); (try simp only [List.setIfInBounds_toArray]); (try simp only [List.set_cons_succ]); (try simp only [List.set_cons_zero])
                refine wpAnyH_take (i := 5) (oi := { dst := (some 89), op := (Op.binOp BinOp.mul 3 (Operand.const (Value.int IntKind.i64 1)) (Operand.tmp 88) 3), type := 3, pos := "schema.go:175", after := #[{ on := 4, ground := Ground.data }], guard := none }) (v := ?v37) rfl (by kernel_rfl) (by kernel_rfl) (by kernel_rfl) (fun _ _ _ h => h) (Or.inl ⟨rfl, ?hy37⟩) hHeld36 ?rest37
                case hy37 => (intro w hSw; (try dsimp only at hSw); go_simp <;> first | with_reducible rfl | rw [if_neg (by omega)] | rw [if_pos (by omega)])
                (try simp only [Act.put]); (try simp only [List.setIfInBounds_toArray]); (try simp only [List.set_cons_succ]); (try simp only [List.set_cons_zero])
                refine wpAnyH_ready (rs := [10]) (by kernel_rfl) (by simp) ?_
                refine AllReadyH.cons (o := { dst := (some 94), op := (Op.call { callee := (Callee.value (Operand.func 28)), args := #[(Operand.tmp 93)], argTypes := #[4] }), type := 3, pos := "schema.go:175", after := #[{ on := 9, ground := Ground.data }, { on := 4, ground := Ground.chain }], guard := none }) rfl (fun K hK => ?step38x0) ?more38x0
                case more38x0 => exact AllReadyH.nil
                go_simp
                first | (go_at_call 28; refine (truth_t _).mono ?_; rintro e w' ⟨rfl, rfl⟩) | (go_at_call 28; refine (truth_f _).mono ?_; rintro e w' ⟨rfl, rfl⟩)
                refine hK.out _ _ ?hS38x0 (fun hHeld38 => ?rest38x0)
                case hS38x0 => first | (exact MK.out _ (by repeat (first | with_reducible exact Ext.refl _ | with_reducible assumption | with_reducible refine Ext.drew ?_ | with_reducible refine Ext.drewN ?_ _ | with_reducible refine Ext.alloc ?_ _ | (with_reducible refine Ext.setCell ?_ (by first | assumption | omega) _)))) | ((try dsimp only); (exact MK.out _ (by repeat (first | with_reducible exact Ext.refl _ | with_reducible assumption | with_reducible refine Ext.drew ?_ | with_reducible refine Ext.drewN ?_ _ | with_reducible refine Ext.alloc ?_ _ | (with_reducible refine Ext.setCell ?_ (by first | assumption | omega) _)))))
                clear hK K
                clear hHeld36
                (try simp only [Act.put]); (try simp only [List.setIfInBounds_toArray]); (try simp only [List.set_cons_succ]); (try simp only [List.set_cons_zero])
                refine wpAnyH_take (i := 11) (oi := { dst := (some 95), op := (Op.binOp BinOp.mul 3 (Operand.const (Value.int IntKind.i64 2)) (Operand.tmp 94) 3), type := 3, pos := "schema.go:175", after := #[{ on := 10, ground := Ground.data }], guard := none }) (v := ?v39) rfl (by kernel_rfl) (by kernel_rfl) (by kernel_rfl) (fun _ _ _ h => h) (Or.inl ⟨rfl, ?hy39⟩) hHeld38 ?rest39
                case hy39 => (intro w hSw; (try dsimp only at hSw); go_simp <;> first | with_reducible rfl | rw [if_neg (by omega)] | rw [if_pos (by omega)])
                (try simp only [Act.put]); (try simp only [List.setIfInBounds_toArray]); (try simp only [List.set_cons_succ]); (try simp only [List.set_cons_zero])
                refine wpAnyH_ready (rs := [16]) (by kernel_rfl) (by simp) ?_
                refine AllReadyH.cons (o := { dst := (some 100), op := (Op.call { callee := (Callee.value (Operand.func 28)), args := #[(Operand.tmp 99)], argTypes := #[4] }), type := 3, pos := "schema.go:175", after := #[{ on := 15, ground := Ground.data }, { on := 10, ground := Ground.chain }], guard := none }) rfl (fun K hK => ?step40x0) ?more40x0
                case more40x0 => exact AllReadyH.nil
                go_simp
                first | (go_at_call 28; refine (truth_t _).mono ?_; rintro e w' ⟨rfl, rfl⟩) | (go_at_call 28; refine (truth_f _).mono ?_; rintro e w' ⟨rfl, rfl⟩)
                refine hK.out _ _ ?hS40x0 (fun hHeld40 => ?rest40x0)
                case hS40x0 => first | (exact MK.out _ (by repeat (first | with_reducible exact Ext.refl _ | with_reducible assumption | with_reducible refine Ext.drew ?_ | with_reducible refine Ext.drewN ?_ _ | with_reducible refine Ext.alloc ?_ _ | (with_reducible refine Ext.setCell ?_ (by first | assumption | omega) _)))) | ((try dsimp only); (exact MK.out _ (by repeat (first | with_reducible exact Ext.refl _ | with_reducible assumption | with_reducible refine Ext.drew ?_ | with_reducible refine Ext.drewN ?_ _ | with_reducible refine Ext.alloc ?_ _ | (with_reducible refine Ext.setCell ?_ (by first | assumption | omega) _)))))
                clear hK K
                clear hHeld38
                (try simp only [Act.put]); (try simp only [List.setIfInBounds_toArray]); (try simp only [List.set_cons_succ]); (try simp only [List.set_cons_zero])
                refine wpAnyH_take (i := 17) (oi := { dst := (some 101), op := (Op.binOp BinOp.mul 3 (Operand.const (Value.int IntKind.i64 4)) (Operand.tmp 100) 3), type := 3, pos := "schema.go:175", after := #[{ on := 16, ground := Ground.data }], guard := none }) (v := ?v41) rfl (by kernel_rfl) (by kernel_rfl) (by kernel_rfl) (fun _ _ _ h => h) (Or.inl ⟨rfl, ?hy41⟩) hHeld40 ?rest41
                case hy41 => (intro w hSw; (try dsimp only at hSw); go_simp <;> first | with_reducible rfl | rw [if_neg (by omega)] | rw [if_pos (by omega)])
                (try simp only [Act.put]); (try simp only [List.setIfInBounds_toArray]); (try simp only [List.set_cons_succ]); (try simp only [List.set_cons_zero])
                refine wpAnyH_take (i := 18) (oi := { dst := (some 102), op := (Op.call { callee := (Callee.builtin Builtin.max), args := #[(Operand.tmp 89), (Operand.tmp 95), (Operand.tmp 101)], argTypes := #[3, 3, 3] }), type := 3, pos := "schema.go:175", after := #[{ on := 5, ground := Ground.data }, { on := 11, ground := Ground.data }, { on := 17, ground := Ground.data }], guard := none }) (v := ?v42) rfl (by kernel_rfl) (by kernel_rfl) (by kernel_rfl) (fun _ _ _ h => h) (Or.inl ⟨rfl, ?hy42⟩) hHeld40 ?rest42
                case hy42 => (intro w hSw; (try dsimp only at hSw); go_simp <;> first | with_reducible rfl | rw [if_neg (by omega)] | rw [if_pos (by omega)])
                (try simp only [Act.put]); (try simp only [List.setIfInBounds_toArray]); (try simp only [List.set_cons_succ]); (try simp only [List.set_cons_zero])
                refine wpAnyH_take (i := 19) (oi := { dst := (some 103), op := (Op.fieldAddr 23 (Operand.tmp 8) 1), type := 0, pos := "schema.go:175", after := #[{ on := 0, ground := Ground.phase }, { on := 1, ground := Ground.phase }, { on := 2, ground := Ground.phase }, { on := 3, ground := Ground.phase }, { on := 4, ground := Ground.phase }, { on := 5, ground := Ground.phase }, { on := 6, ground := Ground.phase }, { on := 7, ground := Ground.phase }, { on := 8, ground := Ground.phase }, { on := 9, ground := Ground.phase }, { on := 10, ground := Ground.phase }, { on := 11, ground := Ground.phase }, { on := 12, ground := Ground.phase }, { on := 13, ground := Ground.phase }, { on := 14, ground := Ground.phase }, { on := 15, ground := Ground.phase }, { on := 16, ground := Ground.phase }, { on := 17, ground := Ground.phase }, { on := 18, ground := Ground.phase }], guard := none }) (v := ?v43) rfl (by kernel_rfl) (by kernel_rfl) (by kernel_rfl) (fun _ _ _ h => h) (Or.inl ⟨rfl, ?hy43⟩) hHeld40 ?rest43
                case hy43 => (intro w hSw; (try dsimp only at hSw); go_simp <;> first | with_reducible rfl | rw [if_neg (by omega)] | rw [if_pos (by omega)])
                (try simp only [Act.put]); (try simp only [List.setIfInBounds_toArray]); (try simp only [List.set_cons_succ]); (try simp only [List.set_cons_zero])
                refine wpAnyH_ready (rs := [20]) (by kernel_rfl) (by simp) ?_
                refine AllReadyH.cons (o := { dst := none, op := (Op.store 3 (Operand.tmp 103) (Operand.tmp 102)), type := 0, pos := "schema.go:175", after := #[{ on := 19, ground := Ground.data }, { on := 18, ground := Ground.data }, { on := 16, ground := Ground.chain }, { on := 0, ground := Ground.phase }, { on := 1, ground := Ground.phase }, { on := 2, ground := Ground.phase }, { on := 3, ground := Ground.phase }, { on := 4, ground := Ground.phase }, { on := 5, ground := Ground.phase }, { on := 6, ground := Ground.phase }, { on := 7, ground := Ground.phase }, { on := 8, ground := Ground.phase }, { on := 9, ground := Ground.phase }, { on := 10, ground := Ground.phase }, { on := 11, ground := Ground.phase }, { on := 12, ground := Ground.phase }, { on := 13, ground := Ground.phase }, { on := 14, ground := Ground.phase }, { on := 15, ground := Ground.phase }, { on := 16, ground := Ground.phase }, { on := 17, ground := Ground.phase }, { on := 18, ground := Ground.phase }], guard := none }) rfl (fun K hK => ?step44x0) ?more44x0
                case more44x0 => exact AllReadyH.nil
                go_simp
                refine hK.out _ _ ?hS44x0 (fun hHeld44 => ?rest44x0)
                case hS44x0 => first | (exact MK.out _ (by repeat (first | with_reducible exact Ext.refl _ | with_reducible assumption | with_reducible refine Ext.drew ?_ | with_reducible refine Ext.drewN ?_ _ | with_reducible refine Ext.alloc ?_ _ | (with_reducible refine Ext.setCell ?_ (by first | assumption | omega) _)))) | ((try dsimp only); (exact MK.out _ (by repeat (first | with_reducible exact Ext.refl _ | with_reducible assumption | with_reducible refine Ext.drew ?_ | with_reducible refine Ext.drewN ?_ _ | with_reducible refine Ext.alloc ?_ _ | (with_reducible refine Ext.setCell ?_ (by first | assumption | omega) _)))))
                clear hK K
                clear hHeld40
                (try simp only [Act.put]); (try simp only [List.setIfInBounds_toArray]); (try simp only [List.set_cons_succ]); (try simp only [List.set_cons_zero])
                refine wpAnyH_done (by kernel_rfl) ?_ _
                clear hHeld44
                go_upto_region 17 with (fail)
                refine forget_world (fun V => CellsR V g8 0 ⟨(k : Int), 2, a0, a1, emptyB, emptyB⟩ ∧ Ext w1 V) ⟨⟨(by first | (go_simp; done) | (go_simp; rfl)), (by first | (go_simp; done) | (go_simp; rfl)), (by first | (go_simp; done) | (go_simp; rfl)), (by first | (go_simp; done) | (go_simp; rfl)), (by first | (go_simp; done) | (go_simp; rfl)), (by first | (go_simp; done) | (go_simp; rfl))⟩, (by repeat (first | with_reducible exact Ext.refl _ | with_reducible assumption | with_reducible refine Ext.drew ?_ | with_reducible refine Ext.drewN ?_ _ | with_reducible refine Ext.alloc ?_ _ | (with_reducible refine Ext.setCell ?_ (by first | assumption | omega) _)))⟩ ?_
                rintro V ⟨hbV, hxV⟩
                have HGK := Lib.hid (show guessK (k : Int) W = ⟨(k : Int), 2, a0, a1, emptyB, emptyB⟩ by have hc := HCL.out; obtain ⟨e0, e1, e2⟩ := HA.out; subst e0 e1 e2; unfold guessK; rw [if_neg (by omega), if_pos ⟨by omega, H3.out⟩, HV.out])
                obtain ⟨d0, d1, d2, d3, d4, d5⟩ := id hbV
                simp only at d0 d1 d2 d3 d4 d5
                clear r0 r1 r2 r3 r4 r5 fr0 fr1 fr2 fr3 fr4 fr5 u0 u1 u2 q1
                have HTX := Lib.hid (s_Text ⟨(k : Int), 2, a0, a1, emptyB, emptyB⟩ V ((HL.out.ext (hx.trans hxV)).laid))
                go_wp2_with fail
                refine HTX.out.mono ?_
                rintro e w7 ⟨rfl, hE7⟩
                have hxW := hxV.trans hE7
                obtain ⟨d0', d1', d2', d3', d4', d5'⟩ := hbV.ext hE7
                simp only at d0' d1' d2' d3' d4' d5'
                clear d0 d1 d2 d3 d4 d5 HTX
                obtain ⟨z0, f0, z1, f1, z2, f2, z3, f3, z4, f4, z5, f5⟩ := HZ.out w7 hxW
                by_cases ht : textL ⟨(k : Int), 2, a0, a1, emptyB, emptyB⟩ = s.data.toList
                · have HT := Lib.hid ht
                  have hbt : ((asB (textL ⟨(k : Int), 2, a0, a1, emptyB, emptyB⟩)).toList == s.toList) = true := by rw [HTB.out]; exact decide_eq_true ht
                  clear ht
                  go_wp2_with fail
                  exact bodyPost_ret (v := .tuple #[RuleP.val ⟨(k : Int), 2, a0, a1, emptyB, emptyB⟩, .int .i64 0]) (by simp [results, Tryd.results12, RuleP.val, go_sem, z0, z1, z2, z3, z4, z5] <;> rfl) rfl ⟨⟨(k : Int), 2, a0, a1, emptyB, emptyB⟩, 0, rfl, step_hit HOKP.out HT.out, by have hxE := hx.trans hxW; exact (by repeat (first | with_reducible exact Ext.refl _ | with_reducible assumption | with_reducible refine Ext.drew ?_ | with_reducible refine Ext.drewN ?_ _ | with_reducible refine Ext.alloc ?_ _ | (with_reducible refine Ext.setCell ?_ (by first | assumption | omega) _)))⟩
                · have HT := Lib.hid ht
                  have hbt : ((asB (textL ⟨(k : Int), 2, a0, a1, emptyB, emptyB⟩)).toList == s.toList) = false := by rw [HTB.out]; exact decide_eq_false ht
                  clear ht
                  go_wp2_with fail
                  go_roundw
                  case rel => exact ⟨k + 1, by go_num, by omega, by omega, Lib.hid (step_on hK.out (step_miss HWd.out (by rw [HGK.out]; exact HT.out))), hxW⟩
                  case measure => simp [intOf]; omega
              · have HV := Lib.hid (show kindW a2.data.toList = 4 by unfold kindW; rw [if_neg h1, if_neg h2, if_pos h])
                rw [decide_eq_false h1] at b1
                rw [decide_eq_false h2] at b2
                rw [decide_eq_true h] at b3
                clear h h1 h2
                go_wp2_with fail
                refine wp_region_held_drew (S := (fun V => V.cell? ⟨gw, 2, none⟩ = some (.string a2) ∧ Ext w4 V)) (by kernel_rfl) ?hs45 (fun hHeld => ?go45)
                case hs45 => (exact MK.out _ (by repeat (first | with_reducible exact Ext.refl _ | with_reducible assumption | with_reducible refine Ext.drew ?_ | with_reducible refine Ext.drewN ?_ _ | with_reducible refine Ext.alloc ?_ _ | (with_reducible refine Ext.setCell ?_ (by first | assumption | omega) _))))
                refine wpAnyH_take (i := 0) (oi := { dst := (some 84), op := (Op.move (Operand.tmp 7)), type := 51, pos := "schema.go:175", after := #[], guard := none }) (v := ?v46) rfl (by kernel_rfl) (by kernel_rfl) (by kernel_rfl) (fun _ _ _ h => h) (Or.inl ⟨rfl, ?hy46⟩) hHeld ?rest46
                case hy46 => (intro w hSw; (try dsimp only at hSw); go_simp <;> first | with_reducible rfl | rw [if_neg (by omega)] | rw [if_pos (by omega)])
                (try simp only [Act.put]); (try simp only [List.setIfInBounds_toArray]); (try simp only [List.set_cons_succ]); (try simp only [List.set_cons_zero])
                refine wpAnyH_take (i := 1) (oi := { dst := (some 85), op := (Op.indexAddr 51 (Operand.tmp 84) (Operand.const (Value.int IntKind.i64 2))), type := 0, pos := "schema.go:175", after := #[{ on := 0, ground := Ground.data }], guard := none }) (v := ?v47) rfl (by kernel_rfl) (by kernel_rfl) (by kernel_rfl) (fun _ _ _ h => h) (Or.inl ⟨rfl, ?hy47⟩) hHeld ?rest47
                case hy47 => (intro w hSw; (try dsimp only at hSw); go_simp <;> first | with_reducible rfl | rw [if_neg (by omega)] | rw [if_pos (by omega)])
                (try simp only [Act.put]); (try simp only [List.setIfInBounds_toArray]); (try simp only [List.set_cons_succ]); (try simp only [List.set_cons_zero])
                refine wpAnyH_take (i := 2) (oi := { dst := (some 86), op := (Op.load 9 (Operand.tmp 85)), type := 9, pos := "schema.go:175", after := #[{ on := 1, ground := Ground.data }], guard := none }) (v := ?v48) rfl (by kernel_rfl) (by kernel_rfl) (by kernel_rfl) (fun _ _ _ h => h) (Or.inl ⟨rfl, ?hy48⟩) hHeld ?rest48
                case hy48 => (intro w hSw; (try dsimp only at hSw); go_simp <;> first | with_reducible rfl | rw [if_neg (by omega)] | rw [if_pos (by omega)])
                (try simp only [Act.put]); (try simp only [List.setIfInBounds_toArray]); (try simp only [List.set_cons_succ]); (try simp only [List.set_cons_zero])
                refine wpAnyH_take (i := 3) (oi := { dst := (some 87), op := (Op.binOp BinOp.eql 9 (Operand.tmp 86) (Operand.const (Value.string { data := #[98, 111, 111, 108] })) 9), type := 4, pos := "schema.go:175", after := #[{ on := 2, ground := Ground.data }], guard := none }) (v := ?v49) rfl (by kernel_rfl) (by kernel_rfl) (by kernel_rfl) (fun _ _ _ h => h) (Or.inl ⟨rfl, ?hy49⟩) hHeld ?rest49
                case hy49 => (intro w hSw; (try dsimp only at hSw); go_simp <;> first | with_reducible rfl | rw [if_neg (by omega)] | rw [if_pos (by omega)])
                (try simp only [Act.put]); (try simp only [List.setIfInBounds_toArray]); (try simp only [List.set_cons_succ]); (try simp only [List.set_cons_zero])
                refine wpAnyH_take (i := 6) (oi := { dst := (some 90), op := (Op.move (Operand.tmp 7)), type := 51, pos := "schema.go:175", after := #[], guard := none }) (v := ?v50) rfl (by kernel_rfl) (by kernel_rfl) (by kernel_rfl) (fun _ _ _ h => h) (Or.inl ⟨rfl, ?hy50⟩) hHeld ?rest50
                case hy50 => (intro w hSw; (try dsimp only at hSw); go_simp <;> first | with_reducible rfl | rw [if_neg (by omega)] | rw [if_pos (by omega)])
                (try simp only [Act.put]); (try simp only [List.setIfInBounds_toArray]); (try simp only [List.set_cons_succ]); (try simp only [List.set_cons_zero])
                refine wpAnyH_take (i := 7) (oi := { dst := (some 91), op := (Op.indexAddr 51 (Operand.tmp 90) (Operand.const (Value.int IntKind.i64 2))), type := 0, pos := "schema.go:175", after := #[{ on := 6, ground := Ground.data }], guard := none }) (v := ?v51) rfl (by kernel_rfl) (by kernel_rfl) (by kernel_rfl) (fun _ _ _ h => h) (Or.inl ⟨rfl, ?hy51⟩) hHeld ?rest51
                case hy51 => (intro w hSw; (try dsimp only at hSw); go_simp <;> first | with_reducible rfl | rw [if_neg (by omega)] | rw [if_pos (by omega)])
                (try simp only [Act.put]); (try simp only [List.setIfInBounds_toArray]); (try simp only [List.set_cons_succ]); (try simp only [List.set_cons_zero])
                refine wpAnyH_take (i := 8) (oi := { dst := (some 92), op := (Op.load 9 (Operand.tmp 91)), type := 9, pos := "schema.go:175", after := #[{ on := 7, ground := Ground.data }], guard := none }) (v := ?v52) rfl (by kernel_rfl) (by kernel_rfl) (by kernel_rfl) (fun _ _ _ h => h) (Or.inl ⟨rfl, ?hy52⟩) hHeld ?rest52
                case hy52 => (intro w hSw; (try dsimp only at hSw); go_simp <;> first | with_reducible rfl | rw [if_neg (by omega)] | rw [if_pos (by omega)])
                (try simp only [Act.put]); (try simp only [List.setIfInBounds_toArray]); (try simp only [List.set_cons_succ]); (try simp only [List.set_cons_zero])
                refine wpAnyH_take (i := 9) (oi := { dst := (some 93), op := (Op.binOp BinOp.eql 9 (Operand.tmp 92) (Operand.const (Value.string { data := #[105, 110, 116] })) 9), type := 4, pos := "schema.go:175", after := #[{ on := 8, ground := Ground.data }], guard := none }) (v := ?v53) rfl (by kernel_rfl) (by kernel_rfl) (by kernel_rfl) (fun _ _ _ h => h) (Or.inl ⟨rfl, ?hy53⟩) hHeld ?rest53
                case hy53 => (intro w hSw; (try dsimp only at hSw); go_simp <;> first | with_reducible rfl | rw [if_neg (by omega)] | rw [if_pos (by omega)])
                (try simp only [Act.put]); (try simp only [List.setIfInBounds_toArray]); (try simp only [List.set_cons_succ]); (try simp only [List.set_cons_zero])
                refine wpAnyH_take (i := 12) (oi := { dst := (some 96), op := (Op.move (Operand.tmp 7)), type := 51, pos := "schema.go:175", after := #[], guard := none }) (v := ?v54) rfl (by kernel_rfl) (by kernel_rfl) (by kernel_rfl) (fun _ _ _ h => h) (Or.inl ⟨rfl, ?hy54⟩) hHeld ?rest54
                case hy54 => (intro w hSw; (try dsimp only at hSw); go_simp <;> first | with_reducible rfl | rw [if_neg (by omega)] | rw [if_pos (by omega)])
                (try simp only [Act.put]); (try simp only [List.setIfInBounds_toArray]); (try simp only [List.set_cons_succ]); (try simp only [List.set_cons_zero])
                refine wpAnyH_take (i := 13) (oi := { dst := (some 97), op := (Op.indexAddr 51 (Operand.tmp 96) (Operand.const (Value.int IntKind.i64 2))), type := 0, pos := "schema.go:175", after := #[{ on := 12, ground := Ground.data }], guard := none }) (v := ?v55) rfl (by kernel_rfl) (by kernel_rfl) (by kernel_rfl) (fun _ _ _ h => h) (Or.inl ⟨rfl, ?hy55⟩) hHeld ?rest55
                case hy55 => (intro w hSw; (try dsimp only at hSw); go_simp <;> first | with_reducible rfl | rw [if_neg (by omega)] | rw [if_pos (by omega)])
                (try simp only [Act.put]); (try simp only [List.setIfInBounds_toArray]); (try simp only [List.set_cons_succ]); (try simp only [List.set_cons_zero])
                refine wpAnyH_take (i := 14) (oi := { dst := (some 98), op := (Op.load 9 (Operand.tmp 97)), type := 9, pos := "schema.go:175", after := #[{ on := 13, ground := Ground.data }], guard := none }) (v := ?v56) rfl (by kernel_rfl) (by kernel_rfl) (by kernel_rfl) (fun _ _ _ h => h) (Or.inl ⟨rfl, ?hy56⟩) hHeld ?rest56
                case hy56 => (intro w hSw; (try dsimp only at hSw); go_simp <;> first | with_reducible rfl | rw [if_neg (by omega)] | rw [if_pos (by omega)])
                (try simp only [Act.put]); (try simp only [List.setIfInBounds_toArray]); (try simp only [List.set_cons_succ]); (try simp only [List.set_cons_zero])
                refine wpAnyH_take (i := 15) (oi := { dst := (some 99), op := (Op.binOp BinOp.eql 9 (Operand.tmp 98) (Operand.const (Value.string { data := #[115, 116, 114] })) 9), type := 4, pos := "schema.go:175", after := #[{ on := 14, ground := Ground.data }], guard := none }) (v := ?v57) rfl (by kernel_rfl) (by kernel_rfl) (by kernel_rfl) (fun _ _ _ h => h) (Or.inl ⟨rfl, ?hy57⟩) hHeld ?rest57
                case hy57 => (intro w hSw; (try dsimp only at hSw); go_simp <;> first | with_reducible rfl | rw [if_neg (by omega)] | rw [if_pos (by omega)])
                (try simp only [Act.put]); (try simp only [List.setIfInBounds_toArray]); (try simp only [List.set_cons_succ]); (try simp only [List.set_cons_zero])
                refine wpAnyH_ready (rs := [4]) (by kernel_rfl) (by simp) ?_
                refine AllReadyH.cons (o := { dst := (some 88), op := (Op.call { callee := (Callee.value (Operand.func 28)), args := #[(Operand.tmp 87)], argTypes := #[4] }), type := 3, pos := "schema.go:175", after := #[{ on := 3, ground := Ground.data }], guard := none }) rfl (fun K hK => ?step58x0) ?more58x0
                case more58x0 => exact AllReadyH.nil
                go_simp
                first | (go_at_call 28; refine (truth_t _).mono ?_; rintro e w' ⟨rfl, rfl⟩) | (go_at_call 28; refine (truth_f _).mono ?_; rintro e w' ⟨rfl, rfl⟩)
                refine hK.out _ _ ?hS58x0 (fun hHeld58 => ?rest58x0)
                case hS58x0 => first | (exact MK.out _ (by repeat (first | with_reducible exact Ext.refl _ | with_reducible assumption | with_reducible refine Ext.drew ?_ | with_reducible refine Ext.drewN ?_ _ | with_reducible refine Ext.alloc ?_ _ | (with_reducible refine Ext.setCell ?_ (by first | assumption | omega) _)))) | ((try dsimp only); (exact MK.out _ (by repeat (first | with_reducible exact Ext.refl _ | with_reducible assumption | with_reducible refine Ext.drew ?_ | with_reducible refine Ext.drewN ?_ _ | with_reducible refine Ext.alloc ?_ _ | (with_reducible refine Ext.setCell ?_ (by first | assumption | omega) _)))))
                clear hK K
                clear hHeld
                (try simp only [Act.put]); (try simp only [List.setIfInBounds_toArray]); (try simp only [List.set_cons_succ]); (try simp only [List.set_cons_zero])
                refine wpAnyH_take (i := 5) (oi := { dst := (some 89), op := (Op.binOp BinOp.mul 3 (Operand.const (Value.int IntKind.i64 1)) (Operand.tmp 88) 3), type := 3, pos := "schema.go:175", after := #[{ on := 4, ground := Ground.data }], guard := none }) (v := ?v59) rfl (by kernel_rfl) (by kernel_rfl) (by kernel_rfl) (fun _ _ _ h => h) (Or.inl ⟨rfl, ?hy59⟩) hHeld58 ?rest59
                case hy59 => (intro w hSw; (try dsimp only at hSw); go_simp <;> first | with_reducible rfl | rw [if_neg (by omega)] | rw [if_pos (by omega)])
                (try simp only [Act.put]); (try simp only [List.setIfInBounds_toArray]); (try simp only [List.set_cons_succ]); (try simp only [List.set_cons_zero])
                refine wpAnyH_ready (rs := [10]) (by kernel_rfl) (by simp) ?_
                refine AllReadyH.cons (o := { dst := (some 94), op := (Op.call { callee := (Callee.value (Operand.func 28)), args := #[(Operand.tmp 93)], argTypes := #[4] }), type := 3, pos := "schema.go:175", after := #[{ on := 9, ground := Ground.data }, { on := 4, ground := Ground.chain }], guard := none }) rfl (fun K hK => ?step60x0) ?more60x0
                case more60x0 => exact AllReadyH.nil
                go_simp
                first | (go_at_call 28; refine (truth_t _).mono ?_; rintro e w' ⟨rfl, rfl⟩) | (go_at_call 28; refine (truth_f _).mono ?_; rintro e w' ⟨rfl, rfl⟩)
                refine hK.out _ _ ?hS60x0 (fun hHeld60 => ?rest60x0)
                case hS60x0 => first | (exact MK.out _ (by repeat (first | with_reducible exact Ext.refl _ | with_reducible assumption | with_reducible refine Ext.drew ?_ | with_reducible refine Ext.drewN ?_ _ | with_reducible refine Ext.alloc ?_ _ | (with_reducible refine Ext.setCell ?_ (by first | assumption | omega) _)))) | ((try dsimp only); (exact MK.out _ (by repeat (first | with_reducible exact Ext.refl _ | with_reducible assumption | with_reducible refine Ext.drew ?_ | with_reducible refine Ext.drewN ?_ _ | with_reducible refine Ext.alloc ?_ _ | (with_reducible refine Ext.setCell ?_ (by first | assumption | omega) _)))))
                clear hK K
                clear hHeld58
                (try simp only [Act.put]); (try simp only [List.setIfInBounds_toArray]); (try simp only [List.set_cons_succ]); (try simp only [List.set_cons_zero])
                refine wpAnyH_take (i := 11) (oi := { dst := (some 95), op := (Op.binOp BinOp.mul 3 (Operand.const (Value.int IntKind.i64 2)) (Operand.tmp 94) 3), type := 3, pos := "schema.go:175", after := #[{ on := 10, ground := Ground.data }], guard := none }) (v := ?v61) rfl (by kernel_rfl) (by kernel_rfl) (by kernel_rfl) (fun _ _ _ h => h) (Or.inl ⟨rfl, ?hy61⟩) hHeld60 ?rest61
                case hy61 => (intro w hSw; (try dsimp only at hSw); go_simp <;> first | with_reducible rfl | rw [if_neg (by omega)] | rw [if_pos (by omega)])
                (try simp only [Act.put]); (try simp only [List.setIfInBounds_toArray]); (try simp only [List.set_cons_succ]); (try simp only [List.set_cons_zero])
                refine wpAnyH_ready (rs := [16]) (by kernel_rfl) (by simp) ?_
                refine AllReadyH.cons (o := { dst := (some 100), op := (Op.call { callee := (Callee.value (Operand.func 28)), args := #[(Operand.tmp 99)], argTypes := #[4] }), type := 3, pos := "schema.go:175", after := #[{ on := 15, ground := Ground.data }, { on := 10, ground := Ground.chain }], guard := none }) rfl (fun K hK => ?step62x0) ?more62x0
                case more62x0 => exact AllReadyH.nil
                go_simp
                first | (go_at_call 28; refine (truth_t _).mono ?_; rintro e w' ⟨rfl, rfl⟩) | (go_at_call 28; refine (truth_f _).mono ?_; rintro e w' ⟨rfl, rfl⟩)
                refine hK.out _ _ ?hS62x0 (fun hHeld62 => ?rest62x0)
                case hS62x0 => first | (exact MK.out _ (by repeat (first | with_reducible exact Ext.refl _ | with_reducible assumption | with_reducible refine Ext.drew ?_ | with_reducible refine Ext.drewN ?_ _ | with_reducible refine Ext.alloc ?_ _ | (with_reducible refine Ext.setCell ?_ (by first | assumption | omega) _)))) | ((try dsimp only); (exact MK.out _ (by repeat (first | with_reducible exact Ext.refl _ | with_reducible assumption | with_reducible refine Ext.drew ?_ | with_reducible refine Ext.drewN ?_ _ | with_reducible refine Ext.alloc ?_ _ | (with_reducible refine Ext.setCell ?_ (by first | assumption | omega) _)))))
                clear hK K
                clear hHeld60
                (try simp only [Act.put]); (try simp only [List.setIfInBounds_toArray]); (try simp only [List.set_cons_succ]); (try simp only [List.set_cons_zero])
                refine wpAnyH_take (i := 17) (oi := { dst := (some 101), op := (Op.binOp BinOp.mul 3 (Operand.const (Value.int IntKind.i64 4)) (Operand.tmp 100) 3), type := 3, pos := "schema.go:175", after := #[{ on := 16, ground := Ground.data }], guard := none }) (v := ?v63) rfl (by kernel_rfl) (by kernel_rfl) (by kernel_rfl) (fun _ _ _ h => h) (Or.inl ⟨rfl, ?hy63⟩) hHeld62 ?rest63
                case hy63 => (intro w hSw; (try dsimp only at hSw); go_simp <;> first | with_reducible rfl | rw [if_neg (by omega)] | rw [if_pos (by omega)])
                (try simp only [Act.put]); (try simp only [List.setIfInBounds_toArray]); (try simp only [List.set_cons_succ]); (try simp only [List.set_cons_zero])
                refine wpAnyH_take (i := 18) (oi := { dst := (some 102), op := (Op.call { callee := (Callee.builtin Builtin.max), args := #[(Operand.tmp 89), (Operand.tmp 95), (Operand.tmp 101)], argTypes := #[3, 3, 3] }), type := 3, pos := "schema.go:175", after := #[{ on := 5, ground := Ground.data }, { on := 11, ground := Ground.data }, { on := 17, ground := Ground.data }], guard := none }) (v := ?v64) rfl (by kernel_rfl) (by kernel_rfl) (by kernel_rfl) (fun _ _ _ h => h) (Or.inl ⟨rfl, ?hy64⟩) hHeld62 ?rest64
                case hy64 => (intro w hSw; (try dsimp only at hSw); go_simp <;> first | with_reducible rfl | rw [if_neg (by omega)] | rw [if_pos (by omega)])
                (try simp only [Act.put]); (try simp only [List.setIfInBounds_toArray]); (try simp only [List.set_cons_succ]); (try simp only [List.set_cons_zero])
                refine wpAnyH_take (i := 19) (oi := { dst := (some 103), op := (Op.fieldAddr 23 (Operand.tmp 8) 1), type := 0, pos := "schema.go:175", after := #[{ on := 0, ground := Ground.phase }, { on := 1, ground := Ground.phase }, { on := 2, ground := Ground.phase }, { on := 3, ground := Ground.phase }, { on := 4, ground := Ground.phase }, { on := 5, ground := Ground.phase }, { on := 6, ground := Ground.phase }, { on := 7, ground := Ground.phase }, { on := 8, ground := Ground.phase }, { on := 9, ground := Ground.phase }, { on := 10, ground := Ground.phase }, { on := 11, ground := Ground.phase }, { on := 12, ground := Ground.phase }, { on := 13, ground := Ground.phase }, { on := 14, ground := Ground.phase }, { on := 15, ground := Ground.phase }, { on := 16, ground := Ground.phase }, { on := 17, ground := Ground.phase }, { on := 18, ground := Ground.phase }], guard := none }) (v := ?v65) rfl (by kernel_rfl) (by kernel_rfl) (by kernel_rfl) (fun _ _ _ h => h) (Or.inl ⟨rfl, ?hy65⟩) hHeld62 ?rest65
                case hy65 => (intro w hSw; (try dsimp only at hSw); go_simp <;> first | with_reducible rfl | rw [if_neg (by omega)] | rw [if_pos (by omega)])
                (try simp only [Act.put]); (try simp only [List.setIfInBounds_toArray]); (try simp only [List.set_cons_succ]); (try simp only [List.set_cons_zero])
                refine wpAnyH_ready (rs := [20]) (by kernel_rfl) (by simp) ?_
                refine AllReadyH.cons (o := { dst := none, op := (Op.store 3 (Operand.tmp 103) (Operand.tmp 102)), type := 0, pos := "schema.go:175", after := #[{ on := 19, ground := Ground.data }, { on := 18, ground := Ground.data }, { on := 16, ground := Ground.chain }, { on := 0, ground := Ground.phase }, { on := 1, ground := Ground.phase }, { on := 2, ground := Ground.phase }, { on := 3, ground := Ground.phase }, { on := 4, ground := Ground.phase }, { on := 5, ground := Ground.phase }, { on := 6, ground := Ground.phase }, { on := 7, ground := Ground.phase }, { on := 8, ground := Ground.phase }, { on := 9, ground := Ground.phase }, { on := 10, ground := Ground.phase }, { on := 11, ground := Ground.phase }, { on := 12, ground := Ground.phase }, { on := 13, ground := Ground.phase }, { on := 14, ground := Ground.phase }, { on := 15, ground := Ground.phase }, { on := 16, ground := Ground.phase }, { on := 17, ground := Ground.phase }, { on := 18, ground := Ground.phase }], guard := none }) rfl (fun K hK => ?step66x0) ?more66x0
                case more66x0 => exact AllReadyH.nil
                go_simp
                refine hK.out _ _ ?hS66x0 (fun hHeld66 => ?rest66x0)
                case hS66x0 => first | (exact MK.out _ (by repeat (first | with_reducible exact Ext.refl _ | with_reducible assumption | with_reducible refine Ext.drew ?_ | with_reducible refine Ext.drewN ?_ _ | with_reducible refine Ext.alloc ?_ _ | (with_reducible refine Ext.setCell ?_ (by first | assumption | omega) _)))) | ((try dsimp only); (exact MK.out _ (by repeat (first | with_reducible exact Ext.refl _ | with_reducible assumption | with_reducible refine Ext.drew ?_ | with_reducible refine Ext.drewN ?_ _ | with_reducible refine Ext.alloc ?_ _ | (with_reducible refine Ext.setCell ?_ (by first | assumption | omega) _)))))
                clear hK K
                clear hHeld62
                (try simp only [Act.put]); (try simp only [List.setIfInBounds_toArray]); (try simp only [List.set_cons_succ]); (try simp only [List.set_cons_zero])
                refine wpAnyH_done (by kernel_rfl) ?_ _
                clear hHeld66
                go_upto_region 17 with (fail)
                refine forget_world (fun V => CellsR V g8 0 ⟨(k : Int), 4, a0, a1, emptyB, emptyB⟩ ∧ Ext w1 V) ⟨⟨(by first | (go_simp; done) | (go_simp; rfl)), (by first | (go_simp; done) | (go_simp; rfl)), (by first | (go_simp; done) | (go_simp; rfl)), (by first | (go_simp; done) | (go_simp; rfl)), (by first | (go_simp; done) | (go_simp; rfl)), (by first | (go_simp; done) | (go_simp; rfl))⟩, (by repeat (first | with_reducible exact Ext.refl _ | with_reducible assumption | with_reducible refine Ext.drew ?_ | with_reducible refine Ext.drewN ?_ _ | with_reducible refine Ext.alloc ?_ _ | (with_reducible refine Ext.setCell ?_ (by first | assumption | omega) _)))⟩ ?_
                rintro V ⟨hbV, hxV⟩
                have HGK := Lib.hid (show guessK (k : Int) W = ⟨(k : Int), 4, a0, a1, emptyB, emptyB⟩ by have hc := HCL.out; obtain ⟨e0, e1, e2⟩ := HA.out; subst e0 e1 e2; unfold guessK; rw [if_neg (by omega), if_pos ⟨by omega, H3.out⟩, HV.out])
                obtain ⟨d0, d1, d2, d3, d4, d5⟩ := id hbV
                simp only at d0 d1 d2 d3 d4 d5
                clear r0 r1 r2 r3 r4 r5 fr0 fr1 fr2 fr3 fr4 fr5 u0 u1 u2 q1
                have HTX := Lib.hid (s_Text ⟨(k : Int), 4, a0, a1, emptyB, emptyB⟩ V ((HL.out.ext (hx.trans hxV)).laid))
                go_wp2_with fail
                refine HTX.out.mono ?_
                rintro e w7 ⟨rfl, hE7⟩
                have hxW := hxV.trans hE7
                obtain ⟨d0', d1', d2', d3', d4', d5'⟩ := hbV.ext hE7
                simp only at d0' d1' d2' d3' d4' d5'
                clear d0 d1 d2 d3 d4 d5 HTX
                obtain ⟨z0, f0, z1, f1, z2, f2, z3, f3, z4, f4, z5, f5⟩ := HZ.out w7 hxW
                by_cases ht : textL ⟨(k : Int), 4, a0, a1, emptyB, emptyB⟩ = s.data.toList
                · have HT := Lib.hid ht
                  have hbt : ((asB (textL ⟨(k : Int), 4, a0, a1, emptyB, emptyB⟩)).toList == s.toList) = true := by rw [HTB.out]; exact decide_eq_true ht
                  clear ht
                  go_wp2_with fail
                  exact bodyPost_ret (v := .tuple #[RuleP.val ⟨(k : Int), 4, a0, a1, emptyB, emptyB⟩, .int .i64 0]) (by simp [results, Tryd.results12, RuleP.val, go_sem, z0, z1, z2, z3, z4, z5] <;> rfl) rfl ⟨⟨(k : Int), 4, a0, a1, emptyB, emptyB⟩, 0, rfl, step_hit HOKP.out HT.out, by have hxE := hx.trans hxW; exact (by repeat (first | with_reducible exact Ext.refl _ | with_reducible assumption | with_reducible refine Ext.drew ?_ | with_reducible refine Ext.drewN ?_ _ | with_reducible refine Ext.alloc ?_ _ | (with_reducible refine Ext.setCell ?_ (by first | assumption | omega) _)))⟩
                · have HT := Lib.hid ht
                  have hbt : ((asB (textL ⟨(k : Int), 4, a0, a1, emptyB, emptyB⟩)).toList == s.toList) = false := by rw [HTB.out]; exact decide_eq_false ht
                  clear ht
                  go_wp2_with fail
                  go_roundw
                  case rel => exact ⟨k + 1, by go_num, by omega, by omega, Lib.hid (step_on hK.out (step_miss HWd.out (by rw [HGK.out]; exact HT.out))), hxW⟩
                  case measure => simp [intOf]; omega
              · have HV := Lib.hid (show kindW a2.data.toList = 0 by unfold kindW; rw [if_neg h1, if_neg h2, if_neg h3])
                rw [decide_eq_false h1] at b1
                rw [decide_eq_false h2] at b2
                rw [decide_eq_false h3] at b3
                clear h1 h2 h3
                go_wp2_with fail
                refine wp_region_held_drew (S := (fun V => V.cell? ⟨gw, 2, none⟩ = some (.string a2) ∧ Ext w4 V)) (by kernel_rfl) ?hs67 (fun hHeld => ?go67)
                case hs67 => (exact MK.out _ (by repeat (first | with_reducible exact Ext.refl _ | with_reducible assumption | with_reducible refine Ext.drew ?_ | with_reducible refine Ext.drewN ?_ _ | with_reducible refine Ext.alloc ?_ _ | (with_reducible refine Ext.setCell ?_ (by first | assumption | omega) _))))
                refine wpAnyH_take (i := 0) (oi := { dst := (some 84), op := (Op.move (Operand.tmp 7)), type := 51, pos := "schema.go:175", after := #[], guard := none }) (v := ?v68) rfl (by kernel_rfl) (by kernel_rfl) (by kernel_rfl) (fun _ _ _ h => h) (Or.inl ⟨rfl, ?hy68⟩) hHeld ?rest68
                case hy68 => (intro w hSw; (try dsimp only at hSw); go_simp <;> first | with_reducible rfl | rw [if_neg (by omega)] | rw [if_pos (by omega)])
                (try simp only [Act.put]); (try simp only [List.setIfInBounds_toArray]); (try simp only [List.set_cons_succ]); (try simp only [List.set_cons_zero])
                refine wpAnyH_take (i := 1) (oi := { dst := (some 85), op := (Op.indexAddr 51 (Operand.tmp 84) (Operand.const (Value.int IntKind.i64 2))), type := 0, pos := "schema.go:175", after := #[{ on := 0, ground := Ground.data }], guard := none }) (v := ?v69) rfl (by kernel_rfl) (by kernel_rfl) (by kernel_rfl) (fun _ _ _ h => h) (Or.inl ⟨rfl, ?hy69⟩) hHeld ?rest69
                case hy69 => (intro w hSw; (try dsimp only at hSw); go_simp <;> first | with_reducible rfl | rw [if_neg (by omega)] | rw [if_pos (by omega)])
                (try simp only [Act.put]); (try simp only [List.setIfInBounds_toArray]); (try simp only [List.set_cons_succ]); (try simp only [List.set_cons_zero])
                refine wpAnyH_take (i := 2) (oi := { dst := (some 86), op := (Op.load 9 (Operand.tmp 85)), type := 9, pos := "schema.go:175", after := #[{ on := 1, ground := Ground.data }], guard := none }) (v := ?v70) rfl (by kernel_rfl) (by kernel_rfl) (by kernel_rfl) (fun _ _ _ h => h) (Or.inl ⟨rfl, ?hy70⟩) hHeld ?rest70
                case hy70 => (intro w hSw; (try dsimp only at hSw); go_simp <;> first | with_reducible rfl | rw [if_neg (by omega)] | rw [if_pos (by omega)])
                (try simp only [Act.put]); (try simp only [List.setIfInBounds_toArray]); (try simp only [List.set_cons_succ]); (try simp only [List.set_cons_zero])
                refine wpAnyH_take (i := 3) (oi := { dst := (some 87), op := (Op.binOp BinOp.eql 9 (Operand.tmp 86) (Operand.const (Value.string { data := #[98, 111, 111, 108] })) 9), type := 4, pos := "schema.go:175", after := #[{ on := 2, ground := Ground.data }], guard := none }) (v := ?v71) rfl (by kernel_rfl) (by kernel_rfl) (by kernel_rfl) (fun _ _ _ h => h) (Or.inl ⟨rfl, ?hy71⟩) hHeld ?rest71
                case hy71 => (intro w hSw; (try dsimp only at hSw); go_simp <;> first | with_reducible rfl | rw [if_neg (by omega)] | rw [if_pos (by omega)])
                (try simp only [Act.put]); (try simp only [List.setIfInBounds_toArray]); (try simp only [List.set_cons_succ]); (try simp only [List.set_cons_zero])
                refine wpAnyH_take (i := 6) (oi := { dst := (some 90), op := (Op.move (Operand.tmp 7)), type := 51, pos := "schema.go:175", after := #[], guard := none }) (v := ?v72) rfl (by kernel_rfl) (by kernel_rfl) (by kernel_rfl) (fun _ _ _ h => h) (Or.inl ⟨rfl, ?hy72⟩) hHeld ?rest72
                case hy72 => (intro w hSw; (try dsimp only at hSw); go_simp <;> first | with_reducible rfl | rw [if_neg (by omega)] | rw [if_pos (by omega)])
                (try simp only [Act.put]); (try simp only [List.setIfInBounds_toArray]); (try simp only [List.set_cons_succ]); (try simp only [List.set_cons_zero])
                refine wpAnyH_take (i := 7) (oi := { dst := (some 91), op := (Op.indexAddr 51 (Operand.tmp 90) (Operand.const (Value.int IntKind.i64 2))), type := 0, pos := "schema.go:175", after := #[{ on := 6, ground := Ground.data }], guard := none }) (v := ?v73) rfl (by kernel_rfl) (by kernel_rfl) (by kernel_rfl) (fun _ _ _ h => h) (Or.inl ⟨rfl, ?hy73⟩) hHeld ?rest73
                case hy73 => (intro w hSw; (try dsimp only at hSw); go_simp <;> first | with_reducible rfl | rw [if_neg (by omega)] | rw [if_pos (by omega)])
                (try simp only [Act.put]); (try simp only [List.setIfInBounds_toArray]); (try simp only [List.set_cons_succ]); (try simp only [List.set_cons_zero])
                refine wpAnyH_take (i := 8) (oi := { dst := (some 92), op := (Op.load 9 (Operand.tmp 91)), type := 9, pos := "schema.go:175", after := #[{ on := 7, ground := Ground.data }], guard := none }) (v := ?v74) rfl (by kernel_rfl) (by kernel_rfl) (by kernel_rfl) (fun _ _ _ h => h) (Or.inl ⟨rfl, ?hy74⟩) hHeld ?rest74
                case hy74 => (intro w hSw; (try dsimp only at hSw); go_simp <;> first | with_reducible rfl | rw [if_neg (by omega)] | rw [if_pos (by omega)])
                (try simp only [Act.put]); (try simp only [List.setIfInBounds_toArray]); (try simp only [List.set_cons_succ]); (try simp only [List.set_cons_zero])
                refine wpAnyH_take (i := 9) (oi := { dst := (some 93), op := (Op.binOp BinOp.eql 9 (Operand.tmp 92) (Operand.const (Value.string { data := #[105, 110, 116] })) 9), type := 4, pos := "schema.go:175", after := #[{ on := 8, ground := Ground.data }], guard := none }) (v := ?v75) rfl (by kernel_rfl) (by kernel_rfl) (by kernel_rfl) (fun _ _ _ h => h) (Or.inl ⟨rfl, ?hy75⟩) hHeld ?rest75
                case hy75 => (intro w hSw; (try dsimp only at hSw); go_simp <;> first | with_reducible rfl | rw [if_neg (by omega)] | rw [if_pos (by omega)])
                (try simp only [Act.put]); (try simp only [List.setIfInBounds_toArray]); (try simp only [List.set_cons_succ]); (try simp only [List.set_cons_zero])
                refine wpAnyH_take (i := 12) (oi := { dst := (some 96), op := (Op.move (Operand.tmp 7)), type := 51, pos := "schema.go:175", after := #[], guard := none }) (v := ?v76) rfl (by kernel_rfl) (by kernel_rfl) (by kernel_rfl) (fun _ _ _ h => h) (Or.inl ⟨rfl, ?hy76⟩) hHeld ?rest76
                case hy76 => (intro w hSw; (try dsimp only at hSw); go_simp <;> first | with_reducible rfl | rw [if_neg (by omega)] | rw [if_pos (by omega)])
                (try simp only [Act.put]); (try simp only [List.setIfInBounds_toArray]); (try simp only [List.set_cons_succ]); (try simp only [List.set_cons_zero])
                refine wpAnyH_take (i := 13) (oi := { dst := (some 97), op := (Op.indexAddr 51 (Operand.tmp 96) (Operand.const (Value.int IntKind.i64 2))), type := 0, pos := "schema.go:175", after := #[{ on := 12, ground := Ground.data }], guard := none }) (v := ?v77) rfl (by kernel_rfl) (by kernel_rfl) (by kernel_rfl) (fun _ _ _ h => h) (Or.inl ⟨rfl, ?hy77⟩) hHeld ?rest77
                case hy77 => (intro w hSw; (try dsimp only at hSw); go_simp <;> first | with_reducible rfl | rw [if_neg (by omega)] | rw [if_pos (by omega)])
                (try simp only [Act.put]); (try simp only [List.setIfInBounds_toArray]); (try simp only [List.set_cons_succ]); (try simp only [List.set_cons_zero])
                refine wpAnyH_take (i := 14) (oi := { dst := (some 98), op := (Op.load 9 (Operand.tmp 97)), type := 9, pos := "schema.go:175", after := #[{ on := 13, ground := Ground.data }], guard := none }) (v := ?v78) rfl (by kernel_rfl) (by kernel_rfl) (by kernel_rfl) (fun _ _ _ h => h) (Or.inl ⟨rfl, ?hy78⟩) hHeld ?rest78
                case hy78 => (intro w hSw; (try dsimp only at hSw); go_simp <;> first | with_reducible rfl | rw [if_neg (by omega)] | rw [if_pos (by omega)])
                (try simp only [Act.put]); (try simp only [List.setIfInBounds_toArray]); (try simp only [List.set_cons_succ]); (try simp only [List.set_cons_zero])
                refine wpAnyH_take (i := 15) (oi := { dst := (some 99), op := (Op.binOp BinOp.eql 9 (Operand.tmp 98) (Operand.const (Value.string { data := #[115, 116, 114] })) 9), type := 4, pos := "schema.go:175", after := #[{ on := 14, ground := Ground.data }], guard := none }) (v := ?v79) rfl (by kernel_rfl) (by kernel_rfl) (by kernel_rfl) (fun _ _ _ h => h) (Or.inl ⟨rfl, ?hy79⟩) hHeld ?rest79
                case hy79 => (intro w hSw; (try dsimp only at hSw); go_simp <;> first | with_reducible rfl | rw [if_neg (by omega)] | rw [if_pos (by omega)])
                (try simp only [Act.put]); (try simp only [List.setIfInBounds_toArray]); (try simp only [List.set_cons_succ]); (try simp only [List.set_cons_zero])
                refine wpAnyH_ready (rs := [4]) (by kernel_rfl) (by simp) ?_
                refine AllReadyH.cons (o := { dst := (some 88), op := (Op.call { callee := (Callee.value (Operand.func 28)), args := #[(Operand.tmp 87)], argTypes := #[4] }), type := 3, pos := "schema.go:175", after := #[{ on := 3, ground := Ground.data }], guard := none }) rfl (fun K hK => ?step80x0) ?more80x0
                case more80x0 => exact AllReadyH.nil
                go_simp
                first | (go_at_call 28; refine (truth_t _).mono ?_; rintro e w' ⟨rfl, rfl⟩) | (go_at_call 28; refine (truth_f _).mono ?_; rintro e w' ⟨rfl, rfl⟩)
                refine hK.out _ _ ?hS80x0 (fun hHeld80 => ?rest80x0)
                case hS80x0 => first | (exact MK.out _ (by repeat (first | with_reducible exact Ext.refl _ | with_reducible assumption | with_reducible refine Ext.drew ?_ | with_reducible refine Ext.drewN ?_ _ | with_reducible refine Ext.alloc ?_ _ | (with_reducible refine Ext.setCell ?_ (by first | assumption | omega) _)))) | ((try dsimp only); (exact MK.out _ (by repeat (first | with_reducible exact Ext.refl _ | with_reducible assumption | with_reducible refine Ext.drew ?_ | with_reducible refine Ext.drewN ?_ _ | with_reducible refine Ext.alloc ?_ _ | (with_reducible refine Ext.setCell ?_ (by first | assumption | omega) _)))))
                clear hK K
                clear hHeld
                (try simp only [Act.put]); (try simp only [List.setIfInBounds_toArray]); (try simp only [List.set_cons_succ]); (try simp only [List.set_cons_zero])
                refine wpAnyH_take (i := 5) (oi := { dst := (some 89), op := (Op.binOp BinOp.mul 3 (Operand.const (Value.int IntKind.i64 1)) (Operand.tmp 88) 3), type := 3, pos := "schema.go:175", after := #[{ on := 4, ground := Ground.data }], guard := none }) (v := ?v81) rfl (by kernel_rfl) (by kernel_rfl) (by kernel_rfl) (fun _ _ _ h => h) (Or.inl ⟨rfl, ?hy81⟩) hHeld80 ?rest81
                case hy81 => (intro w hSw; (try dsimp only at hSw); go_simp <;> first | with_reducible rfl | rw [if_neg (by omega)] | rw [if_pos (by omega)])
                (try simp only [Act.put]); (try simp only [List.setIfInBounds_toArray]); (try simp only [List.set_cons_succ]); (try simp only [List.set_cons_zero])
                refine wpAnyH_ready (rs := [10]) (by kernel_rfl) (by simp) ?_
                refine AllReadyH.cons (o := { dst := (some 94), op := (Op.call { callee := (Callee.value (Operand.func 28)), args := #[(Operand.tmp 93)], argTypes := #[4] }), type := 3, pos := "schema.go:175", after := #[{ on := 9, ground := Ground.data }, { on := 4, ground := Ground.chain }], guard := none }) rfl (fun K hK => ?step82x0) ?more82x0
                case more82x0 => exact AllReadyH.nil
                go_simp
                first | (go_at_call 28; refine (truth_t _).mono ?_; rintro e w' ⟨rfl, rfl⟩) | (go_at_call 28; refine (truth_f _).mono ?_; rintro e w' ⟨rfl, rfl⟩)
                refine hK.out _ _ ?hS82x0 (fun hHeld82 => ?rest82x0)
                case hS82x0 => first | (exact MK.out _ (by repeat (first | with_reducible exact Ext.refl _ | with_reducible assumption | with_reducible refine Ext.drew ?_ | with_reducible refine Ext.drewN ?_ _ | with_reducible refine Ext.alloc ?_ _ | (with_reducible refine Ext.setCell ?_ (by first | assumption | omega) _)))) | ((try dsimp only); (exact MK.out _ (by repeat (first | with_reducible exact Ext.refl _ | with_reducible assumption | with_reducible refine Ext.drew ?_ | with_reducible refine Ext.drewN ?_ _ | with_reducible refine Ext.alloc ?_ _ | (with_reducible refine Ext.setCell ?_ (by first | assumption | omega) _)))))
                clear hK K
                clear hHeld80
                (try simp only [Act.put]); (try simp only [List.setIfInBounds_toArray]); (try simp only [List.set_cons_succ]); (try simp only [List.set_cons_zero])
                refine wpAnyH_take (i := 11) (oi := { dst := (some 95), op := (Op.binOp BinOp.mul 3 (Operand.const (Value.int IntKind.i64 2)) (Operand.tmp 94) 3), type := 3, pos := "schema.go:175", after := #[{ on := 10, ground := Ground.data }], guard := none }) (v := ?v83) rfl (by kernel_rfl) (by kernel_rfl) (by kernel_rfl) (fun _ _ _ h => h) (Or.inl ⟨rfl, ?hy83⟩) hHeld82 ?rest83
                case hy83 => (intro w hSw; (try dsimp only at hSw); go_simp <;> first | with_reducible rfl | rw [if_neg (by omega)] | rw [if_pos (by omega)])
                (try simp only [Act.put]); (try simp only [List.setIfInBounds_toArray]); (try simp only [List.set_cons_succ]); (try simp only [List.set_cons_zero])
                refine wpAnyH_ready (rs := [16]) (by kernel_rfl) (by simp) ?_
                refine AllReadyH.cons (o := { dst := (some 100), op := (Op.call { callee := (Callee.value (Operand.func 28)), args := #[(Operand.tmp 99)], argTypes := #[4] }), type := 3, pos := "schema.go:175", after := #[{ on := 15, ground := Ground.data }, { on := 10, ground := Ground.chain }], guard := none }) rfl (fun K hK => ?step84x0) ?more84x0
                case more84x0 => exact AllReadyH.nil
                go_simp
                first | (go_at_call 28; refine (truth_t _).mono ?_; rintro e w' ⟨rfl, rfl⟩) | (go_at_call 28; refine (truth_f _).mono ?_; rintro e w' ⟨rfl, rfl⟩)
                refine hK.out _ _ ?hS84x0 (fun hHeld84 => ?rest84x0)
                case hS84x0 => first | (exact MK.out _ (by repeat (first | with_reducible exact Ext.refl _ | with_reducible assumption | with_reducible refine Ext.drew ?_ | with_reducible refine Ext.drewN ?_ _ | with_reducible refine Ext.alloc ?_ _ | (with_reducible refine Ext.setCell ?_ (by first | assumption | omega) _)))) | ((try dsimp only); (exact MK.out _ (by repeat (first | with_reducible exact Ext.refl _ | with_reducible assumption | with_reducible refine Ext.drew ?_ | with_reducible refine Ext.drewN ?_ _ | with_reducible refine Ext.alloc ?_ _ | (with_reducible refine Ext.setCell ?_ (by first | assumption | omega) _)))))
                clear hK K
                clear hHeld82
                (try simp only [Act.put]); (try simp only [List.setIfInBounds_toArray]); (try simp only [List.set_cons_succ]); (try simp only [List.set_cons_zero])
                refine wpAnyH_take (i := 17) (oi := { dst := (some 101), op := (Op.binOp BinOp.mul 3 (Operand.const (Value.int IntKind.i64 4)) (Operand.tmp 100) 3), type := 3, pos := "schema.go:175", after := #[{ on := 16, ground := Ground.data }], guard := none }) (v := ?v85) rfl (by kernel_rfl) (by kernel_rfl) (by kernel_rfl) (fun _ _ _ h => h) (Or.inl ⟨rfl, ?hy85⟩) hHeld84 ?rest85
                case hy85 => (intro w hSw; (try dsimp only at hSw); go_simp <;> first | with_reducible rfl | rw [if_neg (by omega)] | rw [if_pos (by omega)])
                (try simp only [Act.put]); (try simp only [List.setIfInBounds_toArray]); (try simp only [List.set_cons_succ]); (try simp only [List.set_cons_zero])
                refine wpAnyH_take (i := 18) (oi := { dst := (some 102), op := (Op.call { callee := (Callee.builtin Builtin.max), args := #[(Operand.tmp 89), (Operand.tmp 95), (Operand.tmp 101)], argTypes := #[3, 3, 3] }), type := 3, pos := "schema.go:175", after := #[{ on := 5, ground := Ground.data }, { on := 11, ground := Ground.data }, { on := 17, ground := Ground.data }], guard := none }) (v := ?v86) rfl (by kernel_rfl) (by kernel_rfl) (by kernel_rfl) (fun _ _ _ h => h) (Or.inl ⟨rfl, ?hy86⟩) hHeld84 ?rest86
                case hy86 => (intro w hSw; (try dsimp only at hSw); go_simp <;> first | with_reducible rfl | rw [if_neg (by omega)] | rw [if_pos (by omega)])
                (try simp only [Act.put]); (try simp only [List.setIfInBounds_toArray]); (try simp only [List.set_cons_succ]); (try simp only [List.set_cons_zero])
                refine wpAnyH_take (i := 19) (oi := { dst := (some 103), op := (Op.fieldAddr 23 (Operand.tmp 8) 1), type := 0, pos := "schema.go:175", after := #[{ on := 0, ground := Ground.phase }, { on := 1, ground := Ground.phase }, { on := 2, ground := Ground.phase }, { on := 3, ground := Ground.phase }, { on := 4, ground := Ground.phase }, { on := 5, ground := Ground.phase }, { on := 6, ground := Ground.phase }, { on := 7, ground := Ground.phase }, { on := 8, ground := Ground.phase }, { on := 9, ground := Ground.phase }, { on := 10, ground := Ground.phase }, { on := 11, ground := Ground.phase }, { on := 12, ground := Ground.phase }, { on := 13, ground := Ground.phase }, { on := 14, ground := Ground.phase }, { on := 15, ground := Ground.phase }, { on := 16, ground := Ground.phase }, { on := 17, ground := Ground.phase }, { on := 18, ground := Ground.phase }], guard := none }) (v := ?v87) rfl (by kernel_rfl) (by kernel_rfl) (by kernel_rfl) (fun _ _ _ h => h) (Or.inl ⟨rfl, ?hy87⟩) hHeld84 ?rest87
                case hy87 => (intro w hSw; (try dsimp only at hSw); go_simp <;> first | with_reducible rfl | rw [if_neg (by omega)] | rw [if_pos (by omega)])
                (try simp only [Act.put]); (try simp only [List.setIfInBounds_toArray]); (try simp only [List.set_cons_succ]); (try simp only [List.set_cons_zero])
                refine wpAnyH_ready (rs := [20]) (by kernel_rfl) (by simp) ?_
                refine AllReadyH.cons (o := { dst := none, op := (Op.store 3 (Operand.tmp 103) (Operand.tmp 102)), type := 0, pos := "schema.go:175", after := #[{ on := 19, ground := Ground.data }, { on := 18, ground := Ground.data }, { on := 16, ground := Ground.chain }, { on := 0, ground := Ground.phase }, { on := 1, ground := Ground.phase }, { on := 2, ground := Ground.phase }, { on := 3, ground := Ground.phase }, { on := 4, ground := Ground.phase }, { on := 5, ground := Ground.phase }, { on := 6, ground := Ground.phase }, { on := 7, ground := Ground.phase }, { on := 8, ground := Ground.phase }, { on := 9, ground := Ground.phase }, { on := 10, ground := Ground.phase }, { on := 11, ground := Ground.phase }, { on := 12, ground := Ground.phase }, { on := 13, ground := Ground.phase }, { on := 14, ground := Ground.phase }, { on := 15, ground := Ground.phase }, { on := 16, ground := Ground.phase }, { on := 17, ground := Ground.phase }, { on := 18, ground := Ground.phase }], guard := none }) rfl (fun K hK => ?step88x0) ?more88x0
                case more88x0 => exact AllReadyH.nil
                go_simp
                refine hK.out _ _ ?hS88x0 (fun hHeld88 => ?rest88x0)
                case hS88x0 => first | (exact MK.out _ (by repeat (first | with_reducible exact Ext.refl _ | with_reducible assumption | with_reducible refine Ext.drew ?_ | with_reducible refine Ext.drewN ?_ _ | with_reducible refine Ext.alloc ?_ _ | (with_reducible refine Ext.setCell ?_ (by first | assumption | omega) _)))) | ((try dsimp only); (exact MK.out _ (by repeat (first | with_reducible exact Ext.refl _ | with_reducible assumption | with_reducible refine Ext.drew ?_ | with_reducible refine Ext.drewN ?_ _ | with_reducible refine Ext.alloc ?_ _ | (with_reducible refine Ext.setCell ?_ (by first | assumption | omega) _)))))
                clear hK K
                clear hHeld84
                (try simp only [Act.put]); (try simp only [List.setIfInBounds_toArray]); (try simp only [List.set_cons_succ]); (try simp only [List.set_cons_zero])
                refine wpAnyH_done (by kernel_rfl) ?_ _
                clear hHeld88
                go_upto_region 17 with (fail)
                refine forget_world (fun V => CellsR V g8 0 ⟨(k : Int), 0, a0, a1, emptyB, emptyB⟩ ∧ Ext w1 V) ⟨⟨(by first | (go_simp; done) | (go_simp; rfl)), (by first | (go_simp; done) | (go_simp; rfl)), (by first | (go_simp; done) | (go_simp; rfl)), (by first | (go_simp; done) | (go_simp; rfl)), (by first | (go_simp; done) | (go_simp; rfl)), (by first | (go_simp; done) | (go_simp; rfl))⟩, (by repeat (first | with_reducible exact Ext.refl _ | with_reducible assumption | with_reducible refine Ext.drew ?_ | with_reducible refine Ext.drewN ?_ _ | with_reducible refine Ext.alloc ?_ _ | (with_reducible refine Ext.setCell ?_ (by first | assumption | omega) _)))⟩ ?_
                rintro V ⟨hbV, hxV⟩
                have HGK := Lib.hid (show guessK (k : Int) W = ⟨(k : Int), 0, a0, a1, emptyB, emptyB⟩ by have hc := HCL.out; obtain ⟨e0, e1, e2⟩ := HA.out; subst e0 e1 e2; unfold guessK; rw [if_neg (by omega), if_pos ⟨by omega, H3.out⟩, HV.out])
                obtain ⟨d0, d1, d2, d3, d4, d5⟩ := id hbV
                simp only at d0 d1 d2 d3 d4 d5
                clear r0 r1 r2 r3 r4 r5 fr0 fr1 fr2 fr3 fr4 fr5 u0 u1 u2 q1
                have HTX := Lib.hid (s_Text ⟨(k : Int), 0, a0, a1, emptyB, emptyB⟩ V ((HL.out.ext (hx.trans hxV)).laid))
                go_wp2_with fail
                refine HTX.out.mono ?_
                rintro e w7 ⟨rfl, hE7⟩
                have hxW := hxV.trans hE7
                obtain ⟨d0', d1', d2', d3', d4', d5'⟩ := hbV.ext hE7
                simp only at d0' d1' d2' d3' d4' d5'
                clear d0 d1 d2 d3 d4 d5 HTX
                obtain ⟨z0, f0, z1, f1, z2, f2, z3, f3, z4, f4, z5, f5⟩ := HZ.out w7 hxW
                by_cases ht : textL ⟨(k : Int), 0, a0, a1, emptyB, emptyB⟩ = s.data.toList
                · have HT := Lib.hid ht
                  have hbt : ((asB (textL ⟨(k : Int), 0, a0, a1, emptyB, emptyB⟩)).toList == s.toList) = true := by rw [HTB.out]; exact decide_eq_true ht
                  clear ht
                  go_wp2_with fail
                  exact bodyPost_ret (v := .tuple #[RuleP.val ⟨(k : Int), 0, a0, a1, emptyB, emptyB⟩, .int .i64 0]) (by simp [results, Tryd.results12, RuleP.val, go_sem, z0, z1, z2, z3, z4, z5] <;> rfl) rfl ⟨⟨(k : Int), 0, a0, a1, emptyB, emptyB⟩, 0, rfl, step_hit HOKP.out HT.out, by have hxE := hx.trans hxW; exact (by repeat (first | with_reducible exact Ext.refl _ | with_reducible assumption | with_reducible refine Ext.drew ?_ | with_reducible refine Ext.drewN ?_ _ | with_reducible refine Ext.alloc ?_ _ | (with_reducible refine Ext.setCell ?_ (by first | assumption | omega) _)))⟩
                · have HT := Lib.hid ht
                  have hbt : ((asB (textL ⟨(k : Int), 0, a0, a1, emptyB, emptyB⟩)).toList == s.toList) = false := by rw [HTB.out]; exact decide_eq_false ht
                  clear ht
                  go_wp2_with fail
                  go_roundw
                  case rel => exact ⟨k + 1, by go_num, by omega, by omega, Lib.hid (step_on hK.out (step_miss HWd.out (by rw [HGK.out]; exact HT.out))), hxW⟩
                  case measure => simp [intOf]; omega
            · have hn3 : ((W.length : Int) == 3) = false := by simp; omega
              have H3 := Lib.hid h3
              clear h3
              go_upto_region 17 with (fail)
              refine forget_world (fun V => CellsR V g8 0 ⟨(k : Int), 0, a0, a1, emptyB, emptyB⟩ ∧ Ext w1 V) ⟨⟨(by first | (go_simp; done) | (go_simp; rfl)), (by first | (go_simp; done) | (go_simp; rfl)), (by first | (go_simp; done) | (go_simp; rfl)), (by first | (go_simp; done) | (go_simp; rfl)), (by first | (go_simp; done) | (go_simp; rfl)), (by first | (go_simp; done) | (go_simp; rfl))⟩, (by repeat (first | with_reducible exact Ext.refl _ | with_reducible assumption | with_reducible refine Ext.drew ?_ | with_reducible refine Ext.drewN ?_ _ | with_reducible refine Ext.alloc ?_ _ | (with_reducible refine Ext.setCell ?_ (by first | assumption | omega) _)))⟩ ?_
              rintro V ⟨hbV, hxV⟩
              have HGK := Lib.hid (show guessK (k : Int) W = ⟨(k : Int), 0, a0, a1, emptyB, emptyB⟩ by have hc := HCL.out; obtain ⟨e0, e1, e2⟩ := HA.out; subst e0 e1 e2; unfold guessK; rw [if_neg (by omega), if_neg (fun h => H3.out h.2), if_pos (by unfold keyK; simp; omega)])
              obtain ⟨d0, d1, d2, d3, d4, d5⟩ := id hbV
              simp only at d0 d1 d2 d3 d4 d5
              clear r0 r1 r2 r3 r4 r5 fr0 fr1 fr2 fr3 fr4 fr5 u0 u1 u2 q1
              have HTX := Lib.hid (s_Text ⟨(k : Int), 0, a0, a1, emptyB, emptyB⟩ V ((HL.out.ext (hx.trans hxV)).laid))
              go_wp2_with fail
              refine HTX.out.mono ?_
              rintro e w7 ⟨rfl, hE7⟩
              have hxW := hxV.trans hE7
              obtain ⟨d0', d1', d2', d3', d4', d5'⟩ := hbV.ext hE7
              simp only at d0' d1' d2' d3' d4' d5'
              clear d0 d1 d2 d3 d4 d5 HTX
              obtain ⟨z0, f0, z1, f1, z2, f2, z3, f3, z4, f4, z5, f5⟩ := HZ.out w7 hxW
              by_cases ht : textL ⟨(k : Int), 0, a0, a1, emptyB, emptyB⟩ = s.data.toList
              · have HT := Lib.hid ht
                have hbt : ((asB (textL ⟨(k : Int), 0, a0, a1, emptyB, emptyB⟩)).toList == s.toList) = true := by rw [HTB.out]; exact decide_eq_true ht
                clear ht
                go_wp2_with fail
                exact bodyPost_ret (v := .tuple #[RuleP.val ⟨(k : Int), 0, a0, a1, emptyB, emptyB⟩, .int .i64 0]) (by simp [results, Tryd.results12, RuleP.val, go_sem, z0, z1, z2, z3, z4, z5] <;> rfl) rfl ⟨⟨(k : Int), 0, a0, a1, emptyB, emptyB⟩, 0, rfl, step_hit HOKP.out HT.out, by have hxE := hx.trans hxW; exact (by repeat (first | with_reducible exact Ext.refl _ | with_reducible assumption | with_reducible refine Ext.drew ?_ | with_reducible refine Ext.drewN ?_ _ | with_reducible refine Ext.alloc ?_ _ | (with_reducible refine Ext.setCell ?_ (by first | assumption | omega) _)))⟩
              · have HT := Lib.hid ht
                have hbt : ((asB (textL ⟨(k : Int), 0, a0, a1, emptyB, emptyB⟩)).toList == s.toList) = false := by rw [HTB.out]; exact decide_eq_false ht
                clear ht
                go_wp2_with fail
                go_roundw
                case rel => exact ⟨k + 1, by go_num, by omega, by omega, Lib.hid (step_on hK.out (step_miss HWd.out (by rw [HGK.out]; exact HT.out))), hxW⟩
                case measure => simp [intOf]; omega
          · have hfl : keyK (k : Int) = false ∧ nK (k : Int) = false ∧ eK (k : Int) = true ∧ okK (k : Int) = true := by subst hcl <;> exact ⟨rfl, rfl, rfl, rfl⟩
            have HF := Lib.hid (fun V => (by have h := s_fields (k : Int) V; rw [hfl.1, hfl.2.1, hfl.2.2.1, hfl.2.2.2] at h; exact h : Calls Tryd.prog 26 #[.int .i64 (k : Int)] V fun e w' => e = .returned (.tuple #[.agg #[.bool false, .bool false, .bool true], .bool true]) ∧ Ext V w'))
            have HCL := Lib.hid hcl
            clear hfl hcl
            refine (HF.out _).mono ?_
            rintro e w5 ⟨rfl, hE5⟩
            obtain ⟨g9, w9, hg9, hw9, u0, u1, u2, hx9⟩ := box_uses w5 false false true
            have HW9 := Lib.hid hw9
            have HG9 := Lib.hid hg9
            clear hw9 hg9 HF
            go_upto_region 10 with (fail)
            rw [← HW9.out, ← HG9.out]
            clear HW9 HG9
            have hx49 := hx8.trans (hE5.trans hx9)
            have hxw1 := hE4'.trans hx49
            have hxw := hx.trans hxw1
            obtain ⟨r0, r1, r2, r3, r4, r5, fr0, fr1, fr2, fr3, fr4, fr5⟩ := hb8.ext (hE5.trans hx9)
            simp only [emptyB] at r0 r1 r2 r3 r4 r5
            clear hE5 hx9 hx8 hb8
            have q1 : w9.cell? ⟨gw, 1, none⟩ = some (.string a1) := by rw [HA.out.2.1]; exact HQ.out w9 hx49 1 (by omega)
            have HNP := Lib.hid (fun V (h : Ext w V) => num_Parse a1 V (HL.out.ext h).laid (by rw [HA.out.2.1]; exact Nat.le_trans (HWS.out 1 (by omega)) (by decide)))
            by_cases h3 : W.length = 3
            · have MK := Lib.hid (fun V (e : Ext w4 V) => (⟨by rw [HA.out.2.1]; exact HQ.out V e 1 (by omega), by rw [HA.out.2.2]; exact HQ.out V e 2 (by omega), e⟩ : V.cell? ⟨gw, 1, none⟩ = some (.string a1) ∧ V.cell? ⟨gw, 2, none⟩ = some (.string a2) ∧ Ext w4 V))
              have hn3 : ((W.length : Int) == 3) = true := by simp; omega
              have hq2 : (2 : Int) < (W.length : Int) := by omega
              have H3 := Lib.hid h3
              clear h3
              go_wp2_with fail
              refine wp_region_held_drew (S := (fun V => V.cell? ⟨gw, 1, none⟩ = some (.string a1) ∧ V.cell? ⟨gw, 2, none⟩ = some (.string a2) ∧ Ext w4 V)) (by kernel_rfl) ?hs89 (fun hHeld => ?go89)
              case hs89 => (exact MK.out _ (by repeat (first | with_reducible exact Ext.refl _ | with_reducible assumption | with_reducible refine Ext.drew ?_ | with_reducible refine Ext.drewN ?_ _ | with_reducible refine Ext.alloc ?_ _ | (with_reducible refine Ext.setCell ?_ (by first | assumption | omega) _))))
              refine wpAnyH_take (i := 0) (oi := { dst := (some 58), op := (Op.move (Operand.tmp 7)), type := 51, pos := "schema.go:172", after := #[], guard := none }) (v := ?v90) rfl (by kernel_rfl) (by kernel_rfl) (by kernel_rfl) (fun _ _ _ h => h) (Or.inl ⟨rfl, ?hy90⟩) hHeld ?rest90
              case hy90 => (intro w hSw; (try dsimp only at hSw); go_simp <;> first | with_reducible rfl | rw [if_neg (by omega)] | rw [if_pos (by omega)])
              (try simp only [Act.put]); (try simp only [List.setIfInBounds_toArray]); (try simp only [List.set_cons_succ]); (try simp only [List.set_cons_zero])
              refine wpAnyH_take (i := 1) (oi := { dst := (some 59), op := (Op.indexAddr 51 (Operand.tmp 58) (Operand.const (Value.int IntKind.i64 1))), type := 0, pos := "schema.go:172", after := #[{ on := 0, ground := Ground.data }], guard := none }) (v := ?v91) rfl (by kernel_rfl) (by kernel_rfl) (by kernel_rfl) (fun _ _ _ h => h) (Or.inl ⟨rfl, ?hy91⟩) hHeld ?rest91
              case hy91 => (intro w hSw; (try dsimp only at hSw); go_simp <;> first | with_reducible rfl | rw [if_neg (by omega)] | rw [if_pos (by omega)])
              (try simp only [Act.put]); (try simp only [List.setIfInBounds_toArray]); (try simp only [List.set_cons_succ]); (try simp only [List.set_cons_zero])
              refine wpAnyH_take (i := 2) (oi := { dst := (some 60), op := (Op.load 9 (Operand.tmp 59)), type := 9, pos := "schema.go:172", after := #[{ on := 1, ground := Ground.data }], guard := none }) (v := ?v92) rfl (by kernel_rfl) (by kernel_rfl) (by kernel_rfl) (fun _ _ _ h => h) (Or.inl ⟨rfl, ?hy92⟩) hHeld ?rest92
              case hy92 => (intro w hSw; (try dsimp only at hSw); go_simp <;> first | with_reducible rfl | rw [if_neg (by omega)] | rw [if_pos (by omega)])
              (try simp only [Act.put]); (try simp only [List.setIfInBounds_toArray]); (try simp only [List.set_cons_succ]); (try simp only [List.set_cons_zero])
              refine wpAnyH_take (i := 4) (oi := { dst := (some 62), op := (Op.move (Operand.tmp 7)), type := 51, pos := "schema.go:172", after := #[], guard := none }) (v := ?v93) rfl (by kernel_rfl) (by kernel_rfl) (by kernel_rfl) (fun _ _ _ h => h) (Or.inl ⟨rfl, ?hy93⟩) hHeld ?rest93
              case hy93 => (intro w hSw; (try dsimp only at hSw); go_simp <;> first | with_reducible rfl | rw [if_neg (by omega)] | rw [if_pos (by omega)])
              (try simp only [Act.put]); (try simp only [List.setIfInBounds_toArray]); (try simp only [List.set_cons_succ]); (try simp only [List.set_cons_zero])
              refine wpAnyH_take (i := 5) (oi := { dst := (some 63), op := (Op.indexAddr 51 (Operand.tmp 62) (Operand.const (Value.int IntKind.i64 2))), type := 0, pos := "schema.go:172", after := #[{ on := 4, ground := Ground.data }], guard := none }) (v := ?v94) rfl (by kernel_rfl) (by kernel_rfl) (by kernel_rfl) (fun _ _ _ h => h) (Or.inl ⟨rfl, ?hy94⟩) hHeld ?rest94
              case hy94 => (intro w hSw; (try dsimp only at hSw); go_simp <;> first | with_reducible rfl | rw [if_neg (by omega)] | rw [if_pos (by omega)])
              (try simp only [Act.put]); (try simp only [List.setIfInBounds_toArray]); (try simp only [List.set_cons_succ]); (try simp only [List.set_cons_zero])
              refine wpAnyH_take (i := 6) (oi := { dst := (some 64), op := (Op.load 9 (Operand.tmp 63)), type := 9, pos := "schema.go:172", after := #[{ on := 5, ground := Ground.data }], guard := none }) (v := ?v95) rfl (by kernel_rfl) (by kernel_rfl) (by kernel_rfl) (fun _ _ _ h => h) (Or.inl ⟨rfl, ?hy95⟩) hHeld ?rest95
              case hy95 => (intro w hSw; (try dsimp only at hSw); go_simp <;> first | with_reducible rfl | rw [if_neg (by omega)] | rw [if_pos (by omega)])
              (try simp only [Act.put]); (try simp only [List.setIfInBounds_toArray]); (try simp only [List.set_cons_succ]); (try simp only [List.set_cons_zero])
              refine wpAnyH_ready (rs := [3]) (by kernel_rfl) (by simp) ?_
              refine AllReadyH.cons (o := { dst := (some 61), op := (Op.call { callee := (Callee.value (Operand.func 27)), args := #[(Operand.tmp 60)], argTypes := #[9] }), type := 9, pos := "schema.go:172", after := #[{ on := 2, ground := Ground.data }], guard := none }) rfl (fun K hK => ?step96x0) ?more96x0
              case more96x0 => exact AllReadyH.nil
              go_simp
              (go_at_call 27; refine (s_label a1 _).mono ?_; rintro e w' ⟨rfl, rfl⟩)
              refine hK.out _ _ ?hS96x0 (fun hHeld96 => ?rest96x0)
              case hS96x0 => first | (exact MK.out _ (by repeat (first | with_reducible exact Ext.refl _ | with_reducible assumption | with_reducible refine Ext.drew ?_ | with_reducible refine Ext.drewN ?_ _ | with_reducible refine Ext.alloc ?_ _ | (with_reducible refine Ext.setCell ?_ (by first | assumption | omega) _)))) | ((try dsimp only); (exact MK.out _ (by repeat (first | with_reducible exact Ext.refl _ | with_reducible assumption | with_reducible refine Ext.drew ?_ | with_reducible refine Ext.drewN ?_ _ | with_reducible refine Ext.alloc ?_ _ | (with_reducible refine Ext.setCell ?_ (by first | assumption | omega) _)))))
              clear hK K
              clear hHeld
              (try simp only [Act.put]); (try simp only [List.setIfInBounds_toArray]); (try simp only [List.set_cons_succ]); (try simp only [List.set_cons_zero])
              refine wpAnyH_take (i := 8) (oi := { dst := (some 66), op := (Op.fieldAddr 23 (Operand.tmp 8) 4), type := 0, pos := "schema.go:172", after := #[{ on := 0, ground := Ground.phase }, { on := 1, ground := Ground.phase }, { on := 2, ground := Ground.phase }, { on := 3, ground := Ground.phase }, { on := 4, ground := (Ground.textOnly Departure.lateStores) }, { on := 5, ground := (Ground.textOnly Departure.lateStores) }, { on := 6, ground := (Ground.textOnly Departure.lateStores) }, { on := 7, ground := (Ground.textOnly Departure.lateStoresUnsure) }], guard := none }) (v := ?v97) rfl (by kernel_rfl) (by kernel_rfl) (by kernel_rfl) (fun _ _ _ h => h) (Or.inl ⟨rfl, ?hy97⟩) hHeld96 ?rest97
              case hy97 => (intro w hSw; (try dsimp only at hSw); go_simp <;> first | with_reducible rfl | rw [if_neg (by omega)] | rw [if_pos (by omega)])
              (try simp only [Act.put]); (try simp only [List.setIfInBounds_toArray]); (try simp only [List.set_cons_succ]); (try simp only [List.set_cons_zero])
              refine wpAnyH_ready (rs := [7]) (by kernel_rfl) (by simp) ?_
              refine AllReadyH.cons (o := { dst := (some 65), op := (Op.call { callee := (Callee.value (Operand.func 27)), args := #[(Operand.tmp 64)], argTypes := #[9] }), type := 9, pos := "schema.go:172", after := #[{ on := 6, ground := Ground.data }, { on := 3, ground := Ground.chain }], guard := none }) rfl (fun K hK => ?step98x0) ?more98x0
              case more98x0 => exact AllReadyH.nil
              go_simp
              (go_at_call 27; refine (s_label a2 _).mono ?_; rintro e w' ⟨rfl, rfl⟩)
              refine hK.out _ _ ?hS98x0 (fun hHeld98 => ?rest98x0)
              case hS98x0 => first | (exact MK.out _ (by repeat (first | with_reducible exact Ext.refl _ | with_reducible assumption | with_reducible refine Ext.drew ?_ | with_reducible refine Ext.drewN ?_ _ | with_reducible refine Ext.alloc ?_ _ | (with_reducible refine Ext.setCell ?_ (by first | assumption | omega) _)))) | ((try dsimp only); (exact MK.out _ (by repeat (first | with_reducible exact Ext.refl _ | with_reducible assumption | with_reducible refine Ext.drew ?_ | with_reducible refine Ext.drewN ?_ _ | with_reducible refine Ext.alloc ?_ _ | (with_reducible refine Ext.setCell ?_ (by first | assumption | omega) _)))))
              clear hK K
              clear hHeld96
              (try simp only [Act.put]); (try simp only [List.setIfInBounds_toArray]); (try simp only [List.set_cons_succ]); (try simp only [List.set_cons_zero])
              refine wpAnyH_ready (rs := [9]) (by kernel_rfl) (by simp) ?_
              refine AllReadyH.cons (o := { dst := none, op := (Op.store 9 (Operand.tmp 66) (Operand.tmp 61)), type := 0, pos := "schema.go:172", after := #[{ on := 8, ground := Ground.data }, { on := 3, ground := Ground.data }, { on := 7, ground := Ground.chain }, { on := 0, ground := Ground.phase }, { on := 1, ground := Ground.phase }, { on := 2, ground := Ground.phase }, { on := 3, ground := Ground.phase }, { on := 4, ground := (Ground.textOnly Departure.lateStores) }, { on := 5, ground := (Ground.textOnly Departure.lateStores) }, { on := 6, ground := (Ground.textOnly Departure.lateStores) }, { on := 7, ground := (Ground.textOnly Departure.lateStoresUnsure) }], guard := none }) rfl (fun K hK => ?step99x0) ?more99x0
              case more99x0 => exact AllReadyH.nil
              go_simp
              refine hK.out _ _ ?hS99x0 (fun hHeld99 => ?rest99x0)
              case hS99x0 => first | (exact MK.out _ (by repeat (first | with_reducible exact Ext.refl _ | with_reducible assumption | with_reducible refine Ext.drew ?_ | with_reducible refine Ext.drewN ?_ _ | with_reducible refine Ext.alloc ?_ _ | (with_reducible refine Ext.setCell ?_ (by first | assumption | omega) _)))) | ((try dsimp only); (exact MK.out _ (by repeat (first | with_reducible exact Ext.refl _ | with_reducible assumption | with_reducible refine Ext.drew ?_ | with_reducible refine Ext.drewN ?_ _ | with_reducible refine Ext.alloc ?_ _ | (with_reducible refine Ext.setCell ?_ (by first | assumption | omega) _)))))
              clear hK K
              clear hHeld98
              (try simp only [Act.put]); (try simp only [List.setIfInBounds_toArray]); (try simp only [List.set_cons_succ]); (try simp only [List.set_cons_zero])
              refine wpAnyH_take (i := 10) (oi := { dst := (some 67), op := (Op.fieldAddr 23 (Operand.tmp 8) 5), type := 0, pos := "schema.go:172", after := #[{ on := 0, ground := Ground.phase }, { on := 1, ground := Ground.phase }, { on := 2, ground := Ground.phase }, { on := 3, ground := Ground.phase }, { on := 4, ground := Ground.phase }, { on := 5, ground := Ground.phase }, { on := 6, ground := Ground.phase }, { on := 7, ground := Ground.phase }, { on := 8, ground := Ground.phase }, { on := 9, ground := Ground.phase }], guard := none }) (v := ?v100) rfl (by kernel_rfl) (by kernel_rfl) (by kernel_rfl) (fun _ _ _ h => h) (Or.inl ⟨rfl, ?hy100⟩) hHeld99 ?rest100
              case hy100 => (intro w hSw; (try dsimp only at hSw); go_simp <;> first | with_reducible rfl | rw [if_neg (by omega)] | rw [if_pos (by omega)])
              (try simp only [Act.put]); (try simp only [List.setIfInBounds_toArray]); (try simp only [List.set_cons_succ]); (try simp only [List.set_cons_zero])
              refine wpAnyH_ready (rs := [11]) (by kernel_rfl) (by simp) ?_
              refine AllReadyH.cons (o := { dst := none, op := (Op.store 9 (Operand.tmp 67) (Operand.tmp 65)), type := 0, pos := "schema.go:172", after := #[{ on := 10, ground := Ground.data }, { on := 7, ground := Ground.data }, { on := 9, ground := Ground.chain }, { on := 0, ground := Ground.phase }, { on := 1, ground := Ground.phase }, { on := 2, ground := Ground.phase }, { on := 3, ground := Ground.phase }, { on := 4, ground := Ground.phase }, { on := 5, ground := Ground.phase }, { on := 6, ground := Ground.phase }, { on := 7, ground := Ground.phase }, { on := 8, ground := Ground.phase }, { on := 9, ground := Ground.phase }], guard := none }) rfl (fun K hK => ?step101x0) ?more101x0
              case more101x0 => exact AllReadyH.nil
              go_simp
              refine hK.out _ _ ?hS101x0 (fun hHeld101 => ?rest101x0)
              case hS101x0 => first | (exact MK.out _ (by repeat (first | with_reducible exact Ext.refl _ | with_reducible assumption | with_reducible refine Ext.drew ?_ | with_reducible refine Ext.drewN ?_ _ | with_reducible refine Ext.alloc ?_ _ | (with_reducible refine Ext.setCell ?_ (by first | assumption | omega) _)))) | ((try dsimp only); (exact MK.out _ (by repeat (first | with_reducible exact Ext.refl _ | with_reducible assumption | with_reducible refine Ext.drew ?_ | with_reducible refine Ext.drewN ?_ _ | with_reducible refine Ext.alloc ?_ _ | (with_reducible refine Ext.setCell ?_ (by first | assumption | omega) _)))))
              clear hK K
              clear hHeld99
              (try simp only [Act.put]); (try simp only [List.setIfInBounds_toArray]); (try simp only [List.set_cons_succ]); (try simp only [List.set_cons_zero])
              refine wpAnyH_done (by kernel_rfl) ?_ _
              clear hHeld101
              go_upto_region 17 with (fail)
              refine forget_world (fun V => CellsR V g8 0 ⟨(k : Int), 0, a0, emptyB, someB a1, someB a2⟩ ∧ Ext w1 V) ⟨⟨(by first | (go_simp; done) | (go_simp; rfl)), (by first | (go_simp; done) | (go_simp; rfl)), (by first | (go_simp; done) | (go_simp; rfl)), (by first | (go_simp; done) | (go_simp; rfl)), (by first | (go_simp; done) | (go_simp; rfl)), (by first | (go_simp; done) | (go_simp; rfl))⟩, (by repeat (first | with_reducible exact Ext.refl _ | with_reducible assumption | with_reducible refine Ext.drew ?_ | with_reducible refine Ext.drewN ?_ _ | with_reducible refine Ext.alloc ?_ _ | (with_reducible refine Ext.setCell ?_ (by first | assumption | omega) _)))⟩ ?_
              rintro V ⟨hbV, hxV⟩
              have HGK := Lib.hid (show guessK (k : Int) W = ⟨(k : Int), 0, a0, emptyB, someB a1, someB a2⟩ by have hc := HCL.out; obtain ⟨e0, e1, e2⟩ := HA.out; subst e0 e1 e2; unfold guessK; rw [if_pos ⟨by omega, H3.out⟩, hc]; rfl)
              obtain ⟨d0, d1, d2, d3, d4, d5⟩ := id hbV
              simp only at d0 d1 d2 d3 d4 d5
              clear r0 r1 r2 r3 r4 r5 fr0 fr1 fr2 fr3 fr4 fr5 u0 u1 u2 q1
              have HTX := Lib.hid (s_Text ⟨(k : Int), 0, a0, emptyB, someB a1, someB a2⟩ V ((HL.out.ext (hx.trans hxV)).laid))
              go_wp2_with fail
              refine HTX.out.mono ?_
              rintro e w7 ⟨rfl, hE7⟩
              have hxW := hxV.trans hE7
              obtain ⟨d0', d1', d2', d3', d4', d5'⟩ := hbV.ext hE7
              simp only at d0' d1' d2' d3' d4' d5'
              clear d0 d1 d2 d3 d4 d5 HTX
              obtain ⟨z0, f0, z1, f1, z2, f2, z3, f3, z4, f4, z5, f5⟩ := HZ.out w7 hxW
              by_cases ht : textL ⟨(k : Int), 0, a0, emptyB, someB a1, someB a2⟩ = s.data.toList
              · have HT := Lib.hid ht
                have hbt : ((asB (textL ⟨(k : Int), 0, a0, emptyB, someB a1, someB a2⟩)).toList == s.toList) = true := by rw [HTB.out]; exact decide_eq_true ht
                clear ht
                go_wp2_with fail
                exact bodyPost_ret (v := .tuple #[RuleP.val ⟨(k : Int), 0, a0, emptyB, someB a1, someB a2⟩, .int .i64 0]) (by simp [results, Tryd.results12, RuleP.val, go_sem, z0, z1, z2, z3, z4, z5] <;> rfl) rfl ⟨⟨(k : Int), 0, a0, emptyB, someB a1, someB a2⟩, 0, rfl, step_hit HOKP.out HT.out, by have hxE := hx.trans hxW; exact (by repeat (first | with_reducible exact Ext.refl _ | with_reducible assumption | with_reducible refine Ext.drew ?_ | with_reducible refine Ext.drewN ?_ _ | with_reducible refine Ext.alloc ?_ _ | (with_reducible refine Ext.setCell ?_ (by first | assumption | omega) _)))⟩
              · have HT := Lib.hid ht
                have hbt : ((asB (textL ⟨(k : Int), 0, a0, emptyB, someB a1, someB a2⟩)).toList == s.toList) = false := by rw [HTB.out]; exact decide_eq_false ht
                clear ht
                go_wp2_with fail
                go_roundw
                case rel => exact ⟨k + 1, by go_num, by omega, by omega, Lib.hid (step_on hK.out (step_miss HWd.out (by rw [HGK.out]; exact HT.out))), hxW⟩
                case measure => simp [intOf]; omega
            · have hn3 : ((W.length : Int) == 3) = false := by simp; omega
              have H3 := Lib.hid h3
              clear h3
              go_wp2_with fail
              refine (HNP.out _ hxw).mono ?_
              rintro e w6 ⟨rfl, hE6⟩
              have hE6 : Ext w9 w6 := hE6
              replace hxw := hxw.trans hE6
              replace hxw1 := hxw1.trans hE6
              replace hx49 := hx49.trans hE6
              have s0 := hE6.cell r0
              have s1 := hE6.cell r1
              have s2 := hE6.cell r2
              have s3 := hE6.cell r3
              have s4 := hE6.cell r4
              have s5 := hE6.cell r5
              have sf0 := (Below.frozen hE6 (p := ⟨g8, 0, none⟩) (block_lt_of_cell r0)).trans fr0
              have sf1 := (Below.frozen hE6 (p := ⟨g8, 1, none⟩) (block_lt_of_cell r1)).trans fr1
              have sf2 := (Below.frozen hE6 (p := ⟨g8, 2, none⟩) (block_lt_of_cell r2)).trans fr2
              have sf3 := (Below.frozen hE6 (p := ⟨g8, 3, none⟩) (block_lt_of_cell r3)).trans fr3
              have sf4 := (Below.frozen hE6 (p := ⟨g8, 4, none⟩) (block_lt_of_cell r4)).trans fr4
              have sf5 := (Below.frozen hE6 (p := ⟨g8, 5, none⟩) (block_lt_of_cell r5)).trans fr5
              clear r0 r1 r2 r3 r4 r5 fr0 fr1 fr2 fr3 fr4 fr5 u0 u1 u2 q1
              go_upto_region 17 with (fail)
              refine forget_world (fun V => CellsR V g8 0 ⟨(k : Int), parseV a1.data.toList, a0, emptyB, emptyB, emptyB⟩ ∧ Ext w1 V) ⟨⟨(by first | (go_simp; done) | (go_simp; rfl)), (by first | (go_simp; done) | (go_simp; rfl)), (by first | (go_simp; done) | (go_simp; rfl)), (by first | (go_simp; done) | (go_simp; rfl)), (by first | (go_simp; done) | (go_simp; rfl)), (by first | (go_simp; done) | (go_simp; rfl))⟩, (by repeat (first | with_reducible exact Ext.refl _ | with_reducible assumption | with_reducible refine Ext.drew ?_ | with_reducible refine Ext.drewN ?_ _ | with_reducible refine Ext.alloc ?_ _ | (with_reducible refine Ext.setCell ?_ (by first | assumption | omega) _)))⟩ ?_
              rintro V ⟨hbV, hxV⟩
              have HGK := Lib.hid (show guessK (k : Int) W = ⟨(k : Int), parseV a1.data.toList, a0, emptyB, emptyB, emptyB⟩ by have hc := HCL.out; obtain ⟨e0, e1, e2⟩ := HA.out; subst e0 e1 e2; unfold guessK; rw [if_neg (fun h => H3.out h.2), if_neg (by omega), if_neg (by unfold keyK; simp; omega)])
              obtain ⟨d0, d1, d2, d3, d4, d5⟩ := id hbV
              simp only at d0 d1 d2 d3 d4 d5
              clear s0 s1 s2 s3 s4 s5 sf0 sf1 sf2 sf3 sf4 sf5
              have HTX := Lib.hid (s_Text ⟨(k : Int), parseV a1.data.toList, a0, emptyB, emptyB, emptyB⟩ V ((HL.out.ext (hx.trans hxV)).laid))
              go_wp2_with fail
              refine HTX.out.mono ?_
              rintro e w7 ⟨rfl, hE7⟩
              have hxW := hxV.trans hE7
              obtain ⟨d0', d1', d2', d3', d4', d5'⟩ := hbV.ext hE7
              simp only at d0' d1' d2' d3' d4' d5'
              clear d0 d1 d2 d3 d4 d5 HTX
              obtain ⟨z0, f0, z1, f1, z2, f2, z3, f3, z4, f4, z5, f5⟩ := HZ.out w7 hxW
              by_cases ht : textL ⟨(k : Int), parseV a1.data.toList, a0, emptyB, emptyB, emptyB⟩ = s.data.toList
              · have HT := Lib.hid ht
                have hbt : ((asB (textL ⟨(k : Int), parseV a1.data.toList, a0, emptyB, emptyB, emptyB⟩)).toList == s.toList) = true := by rw [HTB.out]; exact decide_eq_true ht
                clear ht
                go_wp2_with fail
                exact bodyPost_ret (v := .tuple #[RuleP.val ⟨(k : Int), parseV a1.data.toList, a0, emptyB, emptyB, emptyB⟩, .int .i64 0]) (by simp [results, Tryd.results12, RuleP.val, go_sem, z0, z1, z2, z3, z4, z5] <;> rfl) rfl ⟨⟨(k : Int), parseV a1.data.toList, a0, emptyB, emptyB, emptyB⟩, 0, rfl, step_hit HOKP.out HT.out, by have hxE := hx.trans hxW; exact (by repeat (first | with_reducible exact Ext.refl _ | with_reducible assumption | with_reducible refine Ext.drew ?_ | with_reducible refine Ext.drewN ?_ _ | with_reducible refine Ext.alloc ?_ _ | (with_reducible refine Ext.setCell ?_ (by first | assumption | omega) _)))⟩
              · have HT := Lib.hid ht
                have hbt : ((asB (textL ⟨(k : Int), parseV a1.data.toList, a0, emptyB, emptyB, emptyB⟩)).toList == s.toList) = false := by rw [HTB.out]; exact decide_eq_false ht
                clear ht
                go_wp2_with fail
                go_roundw
                case rel => exact ⟨k + 1, by go_num, by omega, by omega, Lib.hid (step_on hK.out (step_miss HWd.out (by rw [HGK.out]; exact HT.out))), hxW⟩
                case measure => simp [intOf]; omega
          · have hfl : keyK (k : Int) = false ∧ nK (k : Int) = true ∧ eK (k : Int) = false ∧ okK (k : Int) = true := by subst hcl <;> exact ⟨rfl, rfl, rfl, rfl⟩
            have HF := Lib.hid (fun V => (by have h := s_fields (k : Int) V; rw [hfl.1, hfl.2.1, hfl.2.2.1, hfl.2.2.2] at h; exact h : Calls Tryd.prog 26 #[.int .i64 (k : Int)] V fun e w' => e = .returned (.tuple #[.agg #[.bool false, .bool true, .bool false], .bool true]) ∧ Ext V w'))
            have HCL := Lib.hid hcl
            clear hfl hcl
            refine (HF.out _).mono ?_
            rintro e w5 ⟨rfl, hE5⟩
            obtain ⟨g9, w9, hg9, hw9, u0, u1, u2, hx9⟩ := box_uses w5 false true false
            have HW9 := Lib.hid hw9
            have HG9 := Lib.hid hg9
            clear hw9 hg9 HF
            go_upto_region 10 with (fail)
            rw [← HW9.out, ← HG9.out]
            clear HW9 HG9
            have hx49 := hx8.trans (hE5.trans hx9)
            have hxw1 := hE4'.trans hx49
            have hxw := hx.trans hxw1
            obtain ⟨r0, r1, r2, r3, r4, r5, fr0, fr1, fr2, fr3, fr4, fr5⟩ := hb8.ext (hE5.trans hx9)
            simp only [emptyB] at r0 r1 r2 r3 r4 r5
            clear hE5 hx9 hx8 hb8
            have q1 : w9.cell? ⟨gw, 1, none⟩ = some (.string a1) := by rw [HA.out.2.1]; exact HQ.out w9 hx49 1 (by omega)
            have HNP := Lib.hid (fun V (h : Ext w V) => num_Parse a1 V (HL.out.ext h).laid (by rw [HA.out.2.1]; exact Nat.le_trans (HWS.out 1 (by omega)) (by decide)))
            go_wp2_with fail
            refine (HNP.out _ hxw).mono ?_
            rintro e w6 ⟨rfl, hE6⟩
            have hE6 : Ext w9 w6 := hE6
            replace hxw := hxw.trans hE6
            replace hxw1 := hxw1.trans hE6
            replace hx49 := hx49.trans hE6
            have s0 := hE6.cell r0
            have s1 := hE6.cell r1
            have s2 := hE6.cell r2
            have s3 := hE6.cell r3
            have s4 := hE6.cell r4
            have s5 := hE6.cell r5
            have sf0 := (Below.frozen hE6 (p := ⟨g8, 0, none⟩) (block_lt_of_cell r0)).trans fr0
            have sf1 := (Below.frozen hE6 (p := ⟨g8, 1, none⟩) (block_lt_of_cell r1)).trans fr1
            have sf2 := (Below.frozen hE6 (p := ⟨g8, 2, none⟩) (block_lt_of_cell r2)).trans fr2
            have sf3 := (Below.frozen hE6 (p := ⟨g8, 3, none⟩) (block_lt_of_cell r3)).trans fr3
            have sf4 := (Below.frozen hE6 (p := ⟨g8, 4, none⟩) (block_lt_of_cell r4)).trans fr4
            have sf5 := (Below.frozen hE6 (p := ⟨g8, 5, none⟩) (block_lt_of_cell r5)).trans fr5
            clear r0 r1 r2 r3 r4 r5 fr0 fr1 fr2 fr3 fr4 fr5 u0 u1 u2 q1
            go_upto_region 17 with (fail)
            refine forget_world (fun V => CellsR V g8 0 ⟨(k : Int), parseV a1.data.toList, a0, emptyB, emptyB, emptyB⟩ ∧ Ext w1 V) ⟨⟨(by first | (go_simp; done) | (go_simp; rfl)), (by first | (go_simp; done) | (go_simp; rfl)), (by first | (go_simp; done) | (go_simp; rfl)), (by first | (go_simp; done) | (go_simp; rfl)), (by first | (go_simp; done) | (go_simp; rfl)), (by first | (go_simp; done) | (go_simp; rfl))⟩, (by repeat (first | with_reducible exact Ext.refl _ | with_reducible assumption | with_reducible refine Ext.drew ?_ | with_reducible refine Ext.drewN ?_ _ | with_reducible refine Ext.alloc ?_ _ | (with_reducible refine Ext.setCell ?_ (by first | assumption | omega) _)))⟩ ?_
            rintro V ⟨hbV, hxV⟩
            have HGK := Lib.hid (show guessK (k : Int) W = ⟨(k : Int), parseV a1.data.toList, a0, emptyB, emptyB, emptyB⟩ by have hc := HCL.out; obtain ⟨e0, e1, e2⟩ := HA.out; subst e0 e1 e2; unfold guessK; rw [if_neg (by omega), if_neg (by omega), if_neg (by unfold keyK; simp; omega)])
            obtain ⟨d0, d1, d2, d3, d4, d5⟩ := id hbV
            simp only at d0 d1 d2 d3 d4 d5
            clear s0 s1 s2 s3 s4 s5 sf0 sf1 sf2 sf3 sf4 sf5
            have HTX := Lib.hid (s_Text ⟨(k : Int), parseV a1.data.toList, a0, emptyB, emptyB, emptyB⟩ V ((HL.out.ext (hx.trans hxV)).laid))
            go_wp2_with fail
            refine HTX.out.mono ?_
            rintro e w7 ⟨rfl, hE7⟩
            have hxW := hxV.trans hE7
            obtain ⟨d0', d1', d2', d3', d4', d5'⟩ := hbV.ext hE7
            simp only at d0' d1' d2' d3' d4' d5'
            clear d0 d1 d2 d3 d4 d5 HTX
            obtain ⟨z0, f0, z1, f1, z2, f2, z3, f3, z4, f4, z5, f5⟩ := HZ.out w7 hxW
            by_cases ht : textL ⟨(k : Int), parseV a1.data.toList, a0, emptyB, emptyB, emptyB⟩ = s.data.toList
            · have HT := Lib.hid ht
              have hbt : ((asB (textL ⟨(k : Int), parseV a1.data.toList, a0, emptyB, emptyB, emptyB⟩)).toList == s.toList) = true := by rw [HTB.out]; exact decide_eq_true ht
              clear ht
              go_wp2_with fail
              exact bodyPost_ret (v := .tuple #[RuleP.val ⟨(k : Int), parseV a1.data.toList, a0, emptyB, emptyB, emptyB⟩, .int .i64 0]) (by simp [results, Tryd.results12, RuleP.val, go_sem, z0, z1, z2, z3, z4, z5] <;> rfl) rfl ⟨⟨(k : Int), parseV a1.data.toList, a0, emptyB, emptyB, emptyB⟩, 0, rfl, step_hit HOKP.out HT.out, by have hxE := hx.trans hxW; exact (by repeat (first | with_reducible exact Ext.refl _ | with_reducible assumption | with_reducible refine Ext.drew ?_ | with_reducible refine Ext.drewN ?_ _ | with_reducible refine Ext.alloc ?_ _ | (with_reducible refine Ext.setCell ?_ (by first | assumption | omega) _)))⟩
            · have HT := Lib.hid ht
              have hbt : ((asB (textL ⟨(k : Int), parseV a1.data.toList, a0, emptyB, emptyB, emptyB⟩)).toList == s.toList) = false := by rw [HTB.out]; exact decide_eq_false ht
              clear ht
              go_wp2_with fail
              go_roundw
              case rel => exact ⟨k + 1, by go_num, by omega, by omega, Lib.hid (step_on hK.out (step_miss HWd.out (by rw [HGK.out]; exact HT.out))), hxW⟩
              case measure => simp [intOf]; omega
        · have HX := Lib.hid (step_short HWd.out (show W.length < 2 by omega))
          have hl2 : (W.length : Int) < 2 := by omega
          clear h2
          go_wp2_with fail
          go_roundw
          case rel => exact ⟨k + 1, by go_num, by omega, by omega, Lib.hid (step_on hK.out HX.out), hE4'⟩
          case measure => simp [intOf]; omega
      · have hp : Lib.hasPrefix s.data.toList (headL (k : Int) ++ [32]) = false := by simpa using hp
        rw [hp]
        have HX := Lib.hid (step_no hp)
        clear hp
        go_wp2_with fail
        go_roundw
        case rel => exact ⟨k + 1, by go_num, by omega, by omega, Lib.hid (step_on hK.out HX.out), hE4'⟩
        case measure => simp [intOf]; omega
    · obtain rfl : k = 8 := by omega
      have HX := Lib.hid (step_end hK.out)
      obtain ⟨z0, f0, z1, f1, z2, f2, z3, f3, z4, f4, z5, f5⟩ := HZ.out wr hE
      go_wp2_with fail
      exact bodyPost_ret (v := .tuple #[RuleP.val zeroR, .int .i64 2]) (by simp [results, Tryd.results12, RuleP.val, zeroR, emptyB, go_sem, z0, z1, z2, z3, z4, z5] <;> rfl) rfl ⟨zeroR, 2, rfl, HX.out, by have hxE := hx.trans hE; exact (by repeat (first | with_reducible exact Ext.refl _ | with_reducible assumption | with_reducible refine Ext.drew ?_ | with_reducible refine Ext.drewN ?_ _ | with_reducible refine Ext.alloc ?_ _ | (with_reducible refine Ext.setCell ?_ (by first | assumption | omega) _)))⟩

end Go.Proofs.YtanclhcoiagcfaaDoor
