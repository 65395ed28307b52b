/- PARTS OF THE WALKS, joined: CoJ, CpF, CpG, CoK, CoL. -/
import Derived.Test.YtnheioehadldmaaGreatS12
import Derived.Test.YtnheioehadldmaaGreatS07
import Derived.Test.YtnheioehadldmaaGreatS11
import Derived.Test.YtnheioehadldmaaGreatShelfG
import Derived.Shelf.SlSortCmp.NoneTotal
/- THE WALK over the reference's Sorted. -/
namespace Go.Proofs.YtnheioehadldmaaGreat
open Go.RowKit
/-- x slides down into S, to place k -/
def slideK (S : List Sh) (x : Sh) (k : Nat) : List Sh := S.take k ++ x :: S.drop k
theorem slide_len {S : List Sh} {x : Sh} {k : Nat} (hk : k ≤ S.length) : (slideK S x k).length = S.length + 1 := by unfold slideK; simp; omega
theorem slide_end (S : List Sh) (x : Sh) : slideK S x S.length = S ++ [x] := by unfold slideK; simp
theorem slide_at {S : List Sh} {x : Sh} {k : Nat} (hk : k ≤ S.length) : (slideK S x k)[k]! = x := bang_of (by unfold slideK; rw [List.getElem?_append_right (by rw [List.length_take]; omega), List.length_take]; simp [Nat.min_eq_left hk])
theorem slide_pre {S : List Sh} {x : Sh} {k j : Nat} (hk : k ≤ S.length) (hj : j < k) : (slideK S x k)[j]! = S[j]! := bang_of (by unfold slideK; rw [List.getElem?_append_left (by simp; omega), List.getElem?_take, if_pos hj]; exact some_bang (by omega))
theorem slide_swap {S : List Sh} {x : Sh} {k j : Nat} (hkj : k = j + 1) (hk : k ≤ S.length) : ((slideK S x k).set k S[j]!).set j x = slideK S x j := by
 subst hkj
 unfold slideK
 have h1 : S.take (j + 1) = S.take j ++ [S[j]!] := by rw [List.take_succ_eq_append_getElem (by omega), getElem!_pos S j (by omega)]
 have h2 : S.drop j = S[j]! :: S.drop (j + 1) := by rw [List.drop_eq_getElem_cons (by omega), getElem!_pos S j (by omega)]
 have hl : (S.take j).length = j := by rw [List.length_take]; omega
 rw [h1, h2, List.append_assoc]
 rw [List.set_append_right _ _ (by omega), hl, List.set_append_right _ _ (by omega), hl]
 simp
theorem slide_perm (S : List Sh) (x : Sh) (k : Nat) : (slideK S x k).Perm (S ++ [x]) := by
 unfold slideK
 refine List.perm_middle.trans ?_
 rw [List.take_append_drop]
 exact (List.perm_append_singleton x S).symm
theorem slide_rise {S : List Sh} {x : Sh} {k : Nat} (hS : S.Pairwise (fun a b => adjOrd a b ≤ 0)) (hk : k ≤ S.length) (hlo : ∀ j, k = j + 1 → ¬ adjOrd x S[j]! < 0) (hhi : ∀ j, k ≤ j → j < S.length → adjOrd x S[j]! < 0) : (slideK S x k).Pairwise (fun a b => adjOrd a b ≤ 0) := by
 unfold slideK
 have hb := List.pairwise_iff_getElem.1 hS
 rw [List.pairwise_append, List.pairwise_cons]
 have hd : ∀ b ∈ S.drop k, adjOrd x b ≤ 0 := fun b h => by
  obtain ⟨j, hj, rfl⟩ := List.getElem_of_mem h
  rw [List.getElem_drop]
  rw [List.length_drop] at hj
  have := hhi (k + j) (by omega) (by omega)
  rw [getElem!_pos S (k + j) (by omega)] at this
  omega
 have ht : ∀ a ∈ S.take k, adjOrd a x ≤ 0 := fun a h => by
  obtain ⟨j, hj, rfl⟩ := List.getElem_of_mem h
  rw [List.getElem_take]
  rw [List.length_take] at hj
  cases k with
  | zero => omega
  | succ m =>
   have h1 := hlo m rfl
   rw [getElem!_pos S m (by omega)] at h1
   have h2 := TotC.adj.anti x S[m]
   rcases Nat.eq_or_lt_of_le (show j ≤ m by omega) with e | e
   ·subst e; omega
   ·exact TotC.adj.trans _ _ _ (hb j m (by omega) (by omega) e) (by omega)
 refine ⟨hS.sublist (List.take_sublist _ _), ⟨hd, hS.sublist (List.drop_sublist _ _)⟩, fun a ha b hb' => ?_⟩
 rcases List.mem_cons.1 hb' with e | e
 ·subst e; exact ht a ha
 ·exact TotC.adj.trans _ _ _ (ht a ha) (hd b e)
theorem slide_sort {l : List Sh} {i k : Nat} (hi : i < l.length) (hk : k ≤ i) (hlo : ∀ j, k = j + 1 → ¬ adjOrd l[i]! (sortO adjOrd (l.take i))[j]! < 0) (hhi : ∀ j, k ≤ j → j < i → adjOrd l[i]! (sortO adjOrd (l.take i))[j]! < 0) : slideK (sortO adjOrd (l.take i)) l[i]! k = sortO adjOrd (l.take (i + 1)) := by
 have hl : (sortO adjOrd (l.take i)).length = i := by rw [sortO_len TotC.adj, List.length_take]; omega
 refine sortO_eq TotC.adj ((slide_perm _ _ _).trans ?_) (slide_rise (sortO_rise TotC.adj _) (by omega) hlo (fun j h1 h2 => hhi j h1 (by omega)))
 rw [List.take_succ_eq_append_getElem hi, getElem!_pos l i hi]
 exact (sortO_perm TotC.adj _).append_right _
theorem OA.form {W : World} {base : Nat} {v : Value} {l : List Sh} (h : OA W base v l) (h0 : l ≠ []) : ∃ g c, v = .slice (some ⟨g, 0, none⟩) l.length c ∧ base ≤ g := by
 obtain ⟨A, c, rfl⟩ := OwnG.form h
 obtain ⟨g, rfl, hb, -⟩ := OwnG.cellAt h (i := 0) (List.length_pos_iff.2 h0)
 exact ⟨g, c, rfl, hb⟩
theorem OA.cells {W : World} {base g n c : Nat} {l : List Sh} (h : OA W base (.slice (some ⟨g, 0, none⟩) n c) l) {i : Nat} (hi : i < l.length) : (W.cell? ⟨g, i * 3, none⟩ = some (.int .i64 l[i]!.id) ∧ W.cell? ⟨g, i * 3 + 1, none⟩ = some (.int .i64 l[i]!.n) ∧ W.cell? ⟨g, i * 3 + 2, none⟩ = some (.int .i64 l[i]!.d)) ∧ W.frozen? ⟨g, i * 3, none⟩ = false ∧ W.frozen? ⟨g, i * 3 + 1, none⟩ = false ∧ W.frozen? ⟨g, i * 3 + 2, none⟩ = false := by
 obtain ⟨g', hg, -, -, -, -, hc⟩ := OwnG.cellAt h hi
 injection hg with hg
 injection hg with hg
 subst hg
 rw [getElem!_pos l i hi]
 exact ⟨⟨(hc 0 (by decide)).1, (hc 1 (by decide)).1, (hc 2 (by decide)).1⟩, (hc 0 (by decide)).2, (hc 1 (by decide)).2, (hc 2 (by decide)).2⟩
theorem OA.put {W : World} {base g n c : Nat} {l : List Sh} (h : OA W base (.slice (some ⟨g, 0, none⟩) n c) l) {i : Nat} (_hi : i < l.length) (y : Sh) : OA (((W.setCell ⟨g, i * 3, none⟩ (.int .i64 y.id)).setCell ⟨g, i * 3 + 1, none⟩ (.int .i64 y.n)).setCell ⟨g, i * 3 + 2, none⟩ (.int .i64 y.d)) base (.slice (some ⟨g, 0, none⟩) n c) (l.set i y) ∧ W.grownBy (((W.setCell ⟨g, i * 3, none⟩ (.int .i64 y.id)).setCell ⟨g, i * 3 + 1, none⟩ (.int .i64 y.n)).setCell ⟨g, i * 3 + 2, none⟩ (.int .i64 y.d)) (some g) := by
 obtain ⟨A, c', hv⟩ := OwnG.form h
 injection hv with h1 h2 h3
 subst h2
 obtain ⟨k0, g0⟩ := World.ownsRow.stored h.own (i * 3) (.int .i64 y.id)
 obtain ⟨k1, g1⟩ := World.ownsRow.stored k0 (i * 3 + 1) (.int .i64 y.n)
 obtain ⟨k2, g2⟩ := World.ownsRow.stored k1 (i * 3 + 2) (.int .i64 y.d)
 refine ⟨⟨?_, fun _ _ => trivial⟩, grown_two g0 (grown_two g1 g2)⟩
 have e : l.flatMap KA.enc = l.flatMap Sh.cells := rfl
 rw [e, flat_set3] at k2
 rw [List.length_set]
 exact k2
set_option maxRecDepth 100000 in
set_option maxHeartbeats 3200000 in
theorem r12_Sorted (l : List Sh) (ok : Nat → Prop) (A : Option Addr) (c : Nat) (w : World) (hv : Shares w ok A l) (hl : l.length ≤ 8000000) :
  Calls Tryz.prog 58 #[.slice A l.length c] w fun e w' => ∃ A' c', e = .returned (.slice A' l.length c') ∧ l.length ≤ c' ∧ Shares w' (fun b => w.heap.size ≤ b) A' (sortO adjOrd l) ∧ Ext w w' := by
 have HV := Lib.hid hv
 have HSL := Lib.hid (fun i (hi : i ≤ l.length) => (by rw [sortO_len TotC.adj, List.length_take]; omega : (sortO adjOrd (l.take i)).length = i))
 have HEN := Lib.hid (by rw [List.take_length] : sortO adjOrd (l.take l.length) = sortO adjOrd l)
 have HDN := Lib.hid (fun i k (hi : i < l.length) => slide_sort (l := l) (i := i) (k := k) hi)
 clear hv
 go_enter Tryz.func58, Tryz.ntmps58
 go_wp2_with fail
 go_loopw [3, 4] (fun v3 u W => ∃ (vO : Value) (i : Nat), vO = v3 ∧ u = .int .i64 i ∧ i ≤ l.length ∧ Hid (OA W w.heap.size vO (sortO adjOrd (l.take i))) ∧ Hid (Ext w W)) (fun _ u _ => l.length - (intOf u).toNat)
 case atStart => exact ⟨_, 0, rfl, rfl, Nat.zero_le _, Lib.hid (OwnG.nil _ _ _ _ _), Lib.hid (Ext.refl _)⟩
 case round =>
  obtain ⟨vO, i, rfl, rfl, hi, HO, hE⟩ := hrel
  by_cases hlt : i < l.length
  ·obtain ⟨b, o, rfl, hc⟩ := HV.out.at_ hlt
   obtain ⟨-, d0, d1, d2⟩ := hc i hlt
   replace d0 := hE.out.cell d0
   replace d1 := hE.out.cell d1
   replace d2 := hE.out.cell d2
   have hsl := HSL.out i hi
   have HD := Lib.hid (fun k => HDN.out i k hlt)
   obtain ⟨N, hN⟩ : ∃ N, N = sortO adjOrd (l.take (i + 1)) := ⟨_, rfl⟩
   rw [← hN] at HD
   have HN := Lib.hid hN
   clear hN hc HSL HDN HEN
   generalize sortO adjOrd (l.take i) = S at *
   generalize hx : l[i]! = x at *
   obtain ⟨x0, x1, x2⟩ := x
   have hm8 : S.length + 1 ≤ 8388608 := by omega
   clear hx
   go_upto_region 6 with (at_builtin; go_loud (refine own_pushG (v := vO) (hs := S) T_ka rfl (.tmp 13) (.tmp 18) rfl wr rfl HO.out hE.out.le (⟨x0, x1, x2⟩ : Sh) trivial rfl _ rfl rfl hm8 (by decide) ?_); intro v6 w6 hO6 hg6 hd6; obtain ⟨g, c6, rfl, hgb⟩ := OA.form hO6 (by simp))
   have HGB := Lib.hid hgb
   have hE6 : Ext w w6 := hE.out.grown hg6 (fun b e => (OwnG.lt HO.out e).1)
   have hml : (S ++ [(⟨x0, x1, x2⟩ : Sh)]).length = i + 1 := by simp [hsl]
   rw [hml] at hO6
   rw [← slide_end, hsl] at hO6
   have HO6 := Lib.hid hO6
   have HE6 := Lib.hid hE6
   clear hO6 hg6 hd6 hE6 HO hgb d0 d1 d2 hml hE
   go_wp2_with fail
   go_loopw [5] (fun u W => ∃ k : Nat, u = .int .i64 k ∧ k ≤ i ∧ Hid (OA W w.heap.size (.slice (some ⟨g, 0, none⟩) (i + 1) c6) (slideK S ⟨x0, x1, x2⟩ k)) ∧ Hid (∀ j, k ≤ j → j < i → adjOrd ⟨x0, x1, x2⟩ S[j]! < 0) ∧ Hid (Ext w W)) (fun u _ => (intOf u).toNat)
   case atStart => exact ⟨i, rfl, Nat.le_refl _, HO6, Lib.hid (fun j h1 h2 => absurd h1 (by omega)), HE6⟩
   case round =>
    clear HO6 HE6
    obtain ⟨k, rfl, hk, HO, HAL', hE⟩ := hrel
    by_cases hk0 : k = 0
    ·have HNX := Lib.hid (by rw [← HN.out, ← HD.out k hk (fun j h => by omega) HAL'.out]; exact HO.out : OA wr w.heap.size (.slice (some ⟨g, 0, none⟩) (i + 1) c6) (sortO adjOrd (l.take (i + 1))))
     have g0 : decide (0 < (k : Int)) = false := decide_eq_false (by omega)
     have g1 : decide (0 < k) = false := decide_eq_false (by omega)
     clear hk0 HD HN HO HAL'
     go_upto_region 7 with (fail)
     refine wp_region_held_drew (S := (fun _ => True)) (by kernel_rfl) ?hs34001 (fun hHeld => ?go34001)
     case hs34001 => (exact trivial)
     refine TK 0 (v := ?v34002) hHeld ?hy34002 ?_
     case hy34002 => (intro w hSw; (try dsimp only at hSw); go_simp <;> first | with_reducible rfl | rw [if_neg (by omega)] | rw [if_pos (by omega)])
     (try simp only [PU])
     refine TK 1 (v := ?v34003) hHeld ?hy34003 ?_
     case hy34003 => (intro w hSw; (try dsimp only at hSw); go_simp <;> first | with_reducible rfl | rw [if_neg (by omega)] | rw [if_pos (by omega)])
     (try simp only [PU])
     refine TK 2 (v := ?v34004) hHeld ?hy34004 ?_
     case hy34004 => (intro w hSw; (try dsimp only at hSw); go_simp <;> first | with_reducible rfl | rw [if_neg (by omega)] | rw [if_pos (by omega)])
     (try simp only [PU])
     refine TN 3 hHeld ?_
     (try simp only [PU])
     refine TN 4 hHeld ?_
     (try simp only [PU])
     refine TN 5 hHeld ?_
     (try simp only [PU])
     refine TN 6 hHeld ?_
     (try simp only [PU])
     refine TN 7 hHeld ?_
     (try simp only [PU])
     refine TN 8 hHeld ?_
     (try simp only [PU])
     refine TN 9 hHeld ?_
     (try simp only [PU])
     refine TN 10 hHeld ?_
     (try simp only [PU])
     refine TN 11 hHeld ?_
     (try simp only [PU])
     refine TN 12 hHeld ?_
     (try simp only [PU])
     refine TK 13 (v := ?v34015) hHeld ?hy34015 ?_
     case hy34015 => (intro w hSw; (try dsimp only at hSw); go_simp <;> first | with_reducible rfl | rw [if_neg (by omega)] | rw [if_pos (by omega)])
     (try simp only [PU])
     refine wpAnyH_done (by kernel_rfl) ?_ _
     clear hHeld
     go_wp2_with fail
     go_roundw
     case rel => exact ⟨_, i + 1, rfl, by go_num, by omega, Lib.hid (OwnG.ext HNX.out (by solve_by_elim [X0, X1, X2, X3])), Lib.hid (hE.out.trans (by solve_by_elim [X0, X1, X2, X3]))⟩
     case measure => simp [intOf]; omega
    ·obtain ⟨j, hj⟩ : ∃ j, k = j + 1 := ⟨k - 1, by omega⟩
     have g0 : decide (0 < (k : Int)) = true := decide_eq_true (by omega)
     have g1 : decide (0 < k) = true := decide_eq_true (by omega)
     have wj : IntKind.i64.wrap ((k : Int) - 1) = (j : Int) := by rw [IntKind.wrap_i64]; omega
     have hjlt : j < k := by omega
     have hjm : j < i + 1 := by omega
     have hkm : k < i + 1 := by omega
     obtain ⟨⟨a0, a1, a2⟩, -⟩ := OA.cells HO.out (i := k) (by rw [slide_len (by omega)]; omega)
     obtain ⟨⟨b0, b1, b2⟩, -⟩ := OA.cells HO.out (i := j) (by rw [slide_len (by omega)]; omega)
     rw [slide_at (by omega)] at a0 a1 a2
     rw [slide_pre (by omega) (by omega)] at b0 b1 b2
     have HSW := Lib.hid (slide_swap (S := S) (x := ⟨x0, x1, x2⟩) hj (by omega))
     have HLO := Lib.hid (fun (h : ¬ adjOrd ⟨x0, x1, x2⟩ S[j]! < 0) => HD.out k hk (fun j' h' => by rw [show j' = j by omega]; omega) HAL'.out)
     have HAL := Lib.hid (fun (h : adjOrd ⟨x0, x1, x2⟩ S[j]! < 0) => Lib.hid (fun j' (h1 : j ≤ j') (h2 : j' < i) => if e : j' = j then (by rw [e]; exact h) else HAL'.out j' (by omega) h2))
     generalize hy : S[j]! = y at *
     obtain ⟨y0, y1, y2⟩ := y
     have HLS := Lib.hid (fun W (_ : Ext wr W) => r12_Less ⟨x0, x1, x2⟩ ⟨y0, y1, y2⟩ W)
     have MK := Lib.hid (fun V (e : Ext wr V) => (⟨⟨e.cell a0, e.cell a1, e.cell a2⟩, e.cell b0, e.cell b1, e.cell b2⟩ : (V.cell? ⟨g, k * 3, none⟩ = some (.int .i64 x0) ∧ V.cell? ⟨g, k * 3 + 1, none⟩ = some (.int .i64 x1) ∧ V.cell? ⟨g, k * 3 + 2, none⟩ = some (.int .i64 x2)) ∧ (V.cell? ⟨g, j * 3, none⟩ = some (.int .i64 y0) ∧ V.cell? ⟨g, j * 3 + 1, none⟩ = some (.int .i64 y1) ∧ V.cell? ⟨g, j * 3 + 2, none⟩ = some (.int .i64 y2))))
     clear hk0 HD hy HAL' hj
     cases hls : decide (adjOrd ⟨x0, x1, x2⟩ ⟨y0, y1, y2⟩ < 0)
     ·rw [hls] at HLS
      have HNX := Lib.hid (by rw [← HN.out, ← HLO.out (of_decide_eq_false hls)]; exact HO.out : OA wr w.heap.size (.slice (some ⟨g, 0, none⟩) (i + 1) c6) (sortO adjOrd (l.take (i + 1))))
      clear hls HN HO HLO HAL HSW
      go_upto_region 7 with (fail)
      refine wp_region_held_drew (S := (fun V => (V.cell? ⟨g, k * 3, none⟩ = some (.int .i64 x0) ∧ V.cell? ⟨g, k * 3 + 1, none⟩ = some (.int .i64 x1) ∧ V.cell? ⟨g, k * 3 + 2, none⟩ = some (.int .i64 x2)) ∧ (V.cell? ⟨g, j * 3, none⟩ = some (.int .i64 y0) ∧ V.cell? ⟨g, j * 3 + 1, none⟩ = some (.int .i64 y1) ∧ V.cell? ⟨g, j * 3 + 2, none⟩ = some (.int .i64 y2)))) (by kernel_rfl) ?hs34016 (fun hHeld => ?go34016)
      case hs34016 => (exact MK.out _ (by solve_by_elim [X0, X1, X2, X3]))
      refine TK 0 (v := ?v34017) hHeld ?hy34017 ?_
      case hy34017 => (intro w hSw; (try dsimp only at hSw); go_simp <;> first | with_reducible rfl | rw [if_neg (by omega)] | rw [if_pos (by omega)])
      (try simp only [PU])
      refine TK 1 (v := ?v34018) hHeld ?hy34018 ?_
      case hy34018 => (intro w hSw; (try dsimp only at hSw); go_simp <;> first | with_reducible rfl | rw [if_neg (by omega)] | rw [if_pos (by omega)])
      (try simp only [PU])
      refine TK 2 (v := ?v34019) hHeld ?hy34019 ?_
      case hy34019 => (intro w hSw; (try dsimp only at hSw); go_simp <;> first | with_reducible rfl | rw [if_neg (by omega)] | rw [if_pos (by omega)])
      (try simp only [PU])
      refine TK 3 (v := ?v34020) hHeld ?hy34020 ?_
      case hy34020 => (intro w hSw; (try dsimp only at hSw); go_simp <;> first | with_reducible rfl | rw [if_neg (by omega)] | rw [if_pos (by omega)])
      (try simp only [PU])
      refine TK 4 (v := ?v34021) hHeld ?hy34021 ?_
      case hy34021 => (intro w hSw; (try dsimp only at hSw); go_simp <;> first | with_reducible rfl | rw [if_neg (by omega)] | rw [if_pos (by omega)])
      (try simp only [PU])
      refine TK 5 (v := ?v34022) hHeld ?hy34022 ?_
      case hy34022 => (intro w hSw; (try dsimp only at hSw); go_simp <;> first | with_reducible rfl | rw [if_neg (by omega)] | rw [if_pos (by omega)])
      (try simp only [PU])
      refine TK 6 (v := ?v34023) hHeld ?hy34023 ?_
      case hy34023 => (intro w hSw; (try dsimp only at hSw); go_simp <;> first | with_reducible rfl | rw [if_neg (by omega)] | rw [if_pos (by omega)])
      (try simp only [PU])
      refine TK 7 (v := ?v34024) hHeld ?hy34024 ?_
      case hy34024 => (intro w hSw; (try dsimp only at hSw); go_simp <;> first | with_reducible rfl | rw [if_neg (by omega)] | rw [if_pos (by omega)])
      (try simp only [PU])
      refine TK 8 (v := ?v34025) hHeld ?hy34025 ?_
      case hy34025 => (intro w hSw; (try dsimp only at hSw); go_simp <;> first | with_reducible rfl | rw [if_neg (by omega)] | rw [if_pos (by omega)])
      (try simp only [PU])
      refine TK 9 (v := ?v34026) hHeld ?hy34026 ?_
      case hy34026 => (intro w hSw; (try dsimp only at hSw); go_simp <;> first | with_reducible rfl | rw [if_neg (by omega)] | rw [if_pos (by omega)])
      (try simp only [PU])
      refine TK 10 (v := ?v34027) hHeld ?hy34027 ?_
      case hy34027 => (intro w hSw; (try dsimp only at hSw); go_simp <;> first | with_reducible rfl | rw [if_neg (by omega)] | rw [if_pos (by omega)])
      (try simp only [PU])
      refine TK 11 (v := ?v34028) hHeld ?hy34028 ?_
      case hy34028 => (intro w hSw; (try dsimp only at hSw); go_simp <;> first | with_reducible rfl | rw [if_neg (by omega)] | rw [if_pos (by omega)])
      (try simp only [PU])
      refine wpAnyH_ready (rs := [12]) (by kernel_rfl) (by simp) ?_
      refine AllReadyH.cons (o := ⟨_, _, _, _, _, _⟩) rfl (fun K hK => ?step34029x0) ?more34029x0
      case more34029x0 => exact AllReadyH.nil
      go_simp
      (with_reducible refine (HLS.out _ (by solve_by_elim [X0, X1, X2, X3])).mono ?_; rintro r v12 ⟨rfl, hy12⟩; replace hy12 : Ext wr v12 := Ext.trans (by solve_by_elim [X0, X1, X2, X3]) hy12)
      refine hK.out _ _ ?hS34029x0 (fun H34029 => ?_)
      case hS34029x0 => first | (exact MK.out _ (by solve_by_elim [X0, X1, X2, X3])) | ((try dsimp only); (exact MK.out _ (by solve_by_elim [X0, X1, X2, X3])))
      clear hK K
      clear hHeld
      (try simp only [PU])
      refine TK 13 (v := ?v34030) H34029 ?hy34030 ?_
      case hy34030 => (intro w hSw; (try dsimp only at hSw); go_simp <;> first | with_reducible rfl | rw [if_neg (by omega)] | rw [if_pos (by omega)])
      (try simp only [PU])
      refine wpAnyH_done (by kernel_rfl) ?_ _
      clear H34029
      go_wp2_with fail
      go_roundw
      case rel => exact ⟨_, i + 1, rfl, by go_num, by omega, Lib.hid (OwnG.ext HNX.out hy12), Lib.hid (hE.out.trans hy12)⟩
      case measure => simp [intOf]; omega
     ·rw [hls] at HLS
      replace HAL := Lib.hid (HAL.out (of_decide_eq_true hls))
      clear hls HN HLO
      go_upto_region 7 with (fail)
      refine wp_region_held_drew (S := (fun V => (V.cell? ⟨g, k * 3, none⟩ = some (.int .i64 x0) ∧ V.cell? ⟨g, k * 3 + 1, none⟩ = some (.int .i64 x1) ∧ V.cell? ⟨g, k * 3 + 2, none⟩ = some (.int .i64 x2)) ∧ (V.cell? ⟨g, j * 3, none⟩ = some (.int .i64 y0) ∧ V.cell? ⟨g, j * 3 + 1, none⟩ = some (.int .i64 y1) ∧ V.cell? ⟨g, j * 3 + 2, none⟩ = some (.int .i64 y2)))) (by kernel_rfl) ?hs34031 (fun hHeld => ?go34031)
      case hs34031 => (exact MK.out _ (by solve_by_elim [X0, X1, X2, X3]))
      refine TK 0 (v := ?v34032) hHeld ?hy34032 ?_
      case hy34032 => (intro w hSw; (try dsimp only at hSw); go_simp <;> first | with_reducible rfl | rw [if_neg (by omega)] | rw [if_pos (by omega)])
      (try simp only [PU])
      refine TK 1 (v := ?v34033) hHeld ?hy34033 ?_
      case hy34033 => (intro w hSw; (try dsimp only at hSw); go_simp <;> first | with_reducible rfl | rw [if_neg (by omega)] | rw [if_pos (by omega)])
      (try simp only [PU])
      refine TK 2 (v := ?v34034) hHeld ?hy34034 ?_
      case hy34034 => (intro w hSw; (try dsimp only at hSw); go_simp <;> first | with_reducible rfl | rw [if_neg (by omega)] | rw [if_pos (by omega)])
      (try simp only [PU])
      refine TK 3 (v := ?v34035) hHeld ?hy34035 ?_
      case hy34035 => (intro w hSw; (try dsimp only at hSw); go_simp <;> first | with_reducible rfl | rw [if_neg (by omega)] | rw [if_pos (by omega)])
      (try simp only [PU])
      refine TK 4 (v := ?v34036) hHeld ?hy34036 ?_
      case hy34036 => (intro w hSw; (try dsimp only at hSw); go_simp <;> first | with_reducible rfl | rw [if_neg (by omega)] | rw [if_pos (by omega)])
      (try simp only [PU])
      refine TK 5 (v := ?v34037) hHeld ?hy34037 ?_
      case hy34037 => (intro w hSw; (try dsimp only at hSw); go_simp <;> first | with_reducible rfl | rw [if_neg (by omega)] | rw [if_pos (by omega)])
      (try simp only [PU])
      refine TK 6 (v := ?v34038) hHeld ?hy34038 ?_
      case hy34038 => (intro w hSw; (try dsimp only at hSw); go_simp <;> first | with_reducible rfl | rw [if_neg (by omega)] | rw [if_pos (by omega)])
      (try simp only [PU])
      refine TK 7 (v := ?v34039) hHeld ?hy34039 ?_
      case hy34039 => (intro w hSw; (try dsimp only at hSw); go_simp <;> first | with_reducible rfl | rw [if_neg (by omega)] | rw [if_pos (by omega)])
      (try simp only [PU])
      refine TK 8 (v := ?v34040) hHeld ?hy34040 ?_
      case hy34040 => (intro w hSw; (try dsimp only at hSw); go_simp <;> first | with_reducible rfl | rw [if_neg (by omega)] | rw [if_pos (by omega)])
      (try simp only [PU])
      refine TK 9 (v := ?v34041) hHeld ?hy34041 ?_
      case hy34041 => (intro w hSw; (try dsimp only at hSw); go_simp <;> first | with_reducible rfl | rw [if_neg (by omega)] | rw [if_pos (by omega)])
      (try simp only [PU])
      refine TK 10 (v := ?v34042) hHeld ?hy34042 ?_
      case hy34042 => (intro w hSw; (try dsimp only at hSw); go_simp <;> first | with_reducible rfl | rw [if_neg (by omega)] | rw [if_pos (by omega)])
      (try simp only [PU])
      refine TK 11 (v := ?v34043) hHeld ?hy34043 ?_
      case hy34043 => (intro w hSw; (try dsimp only at hSw); go_simp <;> first | with_reducible rfl | rw [if_neg (by omega)] | rw [if_pos (by omega)])
      (try simp only [PU])
      refine wpAnyH_ready (rs := [12]) (by kernel_rfl) (by simp) ?_
      refine AllReadyH.cons (o := ⟨_, _, _, _, _, _⟩) rfl (fun K hK => ?step34044x0) ?more34044x0
      case more34044x0 => exact AllReadyH.nil
      go_simp
      (with_reducible refine (HLS.out _ (by solve_by_elim [X0, X1, X2, X3])).mono ?_; rintro r v12 ⟨rfl, hy12⟩; replace hy12 : Ext wr v12 := Ext.trans (by solve_by_elim [X0, X1, X2, X3]) hy12)
      refine hK.out _ _ ?hS34044x0 (fun H34044 => ?_)
      case hS34044x0 => first | (exact MK.out _ (by solve_by_elim [X0, X1, X2, X3])) | ((try dsimp only); (exact MK.out _ (by solve_by_elim [X0, X1, X2, X3])))
      clear hK K
      clear hHeld
      (try simp only [PU])
      refine TK 13 (v := ?v34045) H34044 ?hy34045 ?_
      case hy34045 => (intro w hSw; (try dsimp only at hSw); go_simp <;> first | with_reducible rfl | rw [if_neg (by omega)] | rw [if_pos (by omega)])
      (try simp only [PU])
      refine wpAnyH_done (by kernel_rfl) ?_ _
      clear H34044
      go_upto_region 9 with (fail)
      have HO12 := Lib.hid (OwnG.ext HO.out hy12)
      obtain ⟨⟨a0, a1, a2⟩, b0, b1, b2⟩ := MK.out _ hy12
      obtain ⟨zb, w2, hzb, hw2, ⟨p0, p1, p2⟩, hx2⟩ := box_adj v12 ⟨x0, x1, x2⟩ 41
      have HW2 := Lib.hid hw2
      have HZ := Lib.hid hzb
      have hzg : zb ≠ g := fun e => by have h1 : g < v12.heap.size := block_lt_of_cell a0; omega
      clear hw2 hzb
      go_upto_region 10 with (fail)
      rw [← HW2.out, ← HZ.out]
      clear HW2 HZ
      replace a0 := hx2.cell a0
      replace a1 := hx2.cell a1
      replace a2 := hx2.cell a2
      replace b0 := hx2.cell b0
      replace b1 := hx2.cell b1
      replace b2 := hx2.cell b2
      have HO2 := Lib.hid (OwnG.ext HO12.out hx2)
      obtain ⟨-, f0, f1, f2⟩ := OA.cells HO2.out (i := k) (by rw [slide_len (by omega)]; omega)
      obtain ⟨hO10, hg10⟩ := OA.put HO2.out (i := k) (by rw [slide_len (by omega)]; omega) ⟨y0, y1, y2⟩
      obtain ⟨w10, hw10⟩ : ∃ W, W = ((w2.setCell ⟨g, k * 3, none⟩ (.int .i64 y0)).setCell ⟨g, k * 3 + 1, none⟩ (.int .i64 y1)).setCell ⟨g, k * 3 + 2, none⟩ (.int .i64 y2) := ⟨_, rfl⟩
      rw [← hw10] at hO10 hg10
      have HO10 := Lib.hid hO10
      have HX10 := Lib.hid ((hE.out.trans (hy12.trans hx2)).grown hg10 (fun b e => by have h1 := Option.some.inj e; have h2 := HGB.out; omega))
      replace p0 := hg10.cell p0 (fun e => hzg (Option.some.inj e))
      replace p1 := hg10.cell p1 (fun e => hzg (Option.some.inj e))
      replace p2 := hg10.cell p2 (fun e => hzg (Option.some.inj e))
      clear hO10 hg10 HO2 HO12
      go_upto_region 11 with (fail)
      rw [← hw10]
      clear hw10 a0 a1 a2 b0 b1 b2 f0 f1 f2
      obtain ⟨⟨a0, a1, a2⟩, f0, f1, f2⟩ := OA.cells HO10.out (i := j) (by rw [List.length_set, slide_len (by omega)]; omega)
      obtain ⟨hO11, hg11⟩ := OA.put HO10.out (i := j) (by rw [List.length_set, slide_len (by omega)]; omega) ⟨x0, x1, x2⟩
      obtain ⟨w11, hw11⟩ : ∃ W, W = ((w10.setCell ⟨g, j * 3, none⟩ (.int .i64 x0)).setCell ⟨g, j * 3 + 1, none⟩ (.int .i64 x1)).setCell ⟨g, j * 3 + 2, none⟩ (.int .i64 x2) := ⟨_, rfl⟩
      rw [← hw11, HSW.out] at hO11
      rw [← hw11] at hg11
      have HO11 := Lib.hid hO11
      have HX11 := Lib.hid (HX10.out.grown hg11 (fun b e => by have h1 := Option.some.inj e; have h2 := HGB.out; omega))
      clear hO11 hg11
      go_wp2_with fail
      rw [← hw11]
      go_roundw
      case rel => exact ⟨j, by go_num, by omega, HO11, HAL.out, HX11⟩
      case measure => simp [intOf]; omega
  ·have hke : i = l.length := by omega
   have HO9 := Lib.hid (by rw [hke, HEN.out] at HO; exact HO.out : OA wr w.heap.size vO (sortO adjOrd l))
   obtain ⟨A9, c9, e9, h9, hV9⟩ := OA.shares HO9.out (by rw [sortO_len TotC.adj]; omega)
   rw [sortO_len TotC.adj] at e9 h9
   have HV9 := Lib.hid hV9
   subst e9
   clear HO HO9 HV hke hV9
   go_wp2_with fail
   go_ret
   exact ⟨A9, c9, rfl, h9, HV9.out, hE.out⟩
end Go.Proofs.YtnheioehadldmaaGreat

/- THE WALKS over slices.AppendSeq, slices.Collect over slices.Values of entries; slices.SortFunc at entries; slices.SortedFunc. -/
namespace Go.Proofs.YtnheioehadldmaaGreat
open Go.RowKit Go.Shelf
section
attribute [local go_sem] Oper.semAt_some
theorem cell_three (w : World) (a b c : Value) (t : TypeId) : ∀ j u, [a, b, c][j]? = some u → (w.alloc (.cells #[a, b, c] t)).cell? ((⟨w.heap.size, 0, none⟩ : Addr).add j) = some u := by
 intro j u hu
 rw [Addr.add_mid, Nat.zero_add]
 match j with
 | 0 => cases hu; go_simp
 | 1 => cases hu; go_simp
 | 2 => cases hu; go_simp
 | j + 3 => cases hu
set_option maxRecDepth 100000 in
set_option maxHeartbeats 2000000 in
theorem appendSeq_in (F : Fence) (n : Nat) (h65 : F.fn 86) (h54 : F.fn 70) (hro : F.round = none) (hn : 3 ≤ n) (Bs : Nat) (A : Option Addr) (cap : Nat) (zs : List Sh) (hz : zs.length ≤ 8000000) (w : World) (hBs : Bs < w.heap.size)
  (hc : w.cell? ⟨Bs, 0, none⟩ = some (.slice A zs.length cap)) (hI : Shares w (fun b => b < w.heap.size) A zs) :
  CallsIn F n Tryz.prog 86 #[.slice none 0 0, .func (.func 70) #[] #[.pointer (some ⟨Bs, 0, none⟩)]] w fun e W' => ∃ v, e = .returned v ∧ OA W' w.heap.size v zs ∧ Ext w W' := by
 have h1 : 1 ≤ n := by omega
 obtain ⟨z, hz0, hzc⟩ := (T_ka).hi
 obtain ⟨i0, hi, hi0, hi1, hi2⟩ := info_parts hz0
 have ht := (T_ka).ht
 have HZ := Lib.hid (⟨hi, hi0, hi1, hi2, hzc, ht⟩ : Tryz.prog.info? 41 = some i0 ∧ i0.zero = some z ∧ i0.size = KA.size ∧ i0.bytes = 24 ∧ z.cells.size = KA.size ∧ Tryz.prog.underlying 42 = some (.slice 41))
 clear hi hi0 hi1 hi2 hzc ht hz0
 refine callsIn_of_wp_marks Tryz.func86 rfl h65 ?_ hro
 simp only [Tryz.ntmps86, List.size_toArray, List.length_cons, List.length_nil, Nat.reduceAdd, Nat.reduceSub, Array.replicate_succ, Array.replicate_zero, List.push_toArray, List.append_toArray, List.nil_append, List.cons_append]
 gi_wp2
 have bQ := Boxed.new w 42 (.slice none 0 0)
 have hB0 : Below w.heap.size w (w.alloc (.cells #[.slice none 0 0] 42)) := (Below.refl _ w).alloc (Nat.le_refl _) _
 have hsz : (w.alloc (.cells #[.slice none 0 0] 42)).heap.size = w.heap.size + 1 := by simp
 obtain ⟨W0, hW0⟩ : ∃ W0, w.alloc (.cells #[.slice none 0 0] 42) = W0 := ⟨_, rfl⟩
 rw [hW0] at bQ hB0 hsz ⊢
 clear hW0
 have hI0 : Shares W0 (fun b => b < w.heap.size) A zs := SliceR.mono hI (fun b o x _ hx => ⟨hx.1, (hB0.cell (p := ⟨b, o, none⟩) hx.1).trans hx.2.1, (hB0.cell (p := ⟨b, o + 1, none⟩) hx.1).trans hx.2.2.1, (hB0.cell (p := ⟨b, o + 2, none⟩) hx.1).trans hx.2.2.2⟩)
 refine wpIn_rangeFunc_ownH hro h1 (gf := 70) (lb := #[.pointer (some ⟨Bs, 0, none⟩)]) rfl h54 (enters_of Tryz.func70 (by kernel_rfl) rfl)
  (values_stops F (n - 1) h54 hro (by omega) Bs w.heap.size A cap zs hz W0 (by omega) (by omega) ((hB0.cell (p := ⟨Bs, 0, none⟩) hBs).trans hc) hI0) belowK_t (belowK_b (by omega)) (Below.refl _ _) (fun _ => rfl)
  (fun pre W => (∃ v, Boxed W w.heap.size 42 v ∧ W.ownsRow w.heap.size 41 KA.size v pre.length (pre.flatMap KA.enc) ∧ True) ∧ Below w.heap.size w W)
  (fun _ _ _ => False)
  (OwnFrom.and (Own.from (holdsRow_own w.heap.size w.heap.size 42 41 KA.size (fun pre : List Sh => pre.length) (fun pre : List Sh => pre.flatMap KA.enc) (fun _ _ => True)) _) (ownFrom_below (Nat.le_refl _) (by omega)))
  (fun _ _ _ _ _ hs _ _ => hs)
  ⟨⟨_, bQ, World.ownsRow_nil _ _ _ _, trivial⟩, hB0⟩
  (fun x a' W => ∃ Bx, w.heap.size < Bx ∧ BoxA W Bx x ∧ a' = { tmps := #[.slice none 0 0, .func (.func 70) #[] #[.pointer (some ⟨Bs, 0, none⟩)], .pointer (some ⟨w.heap.size, 0, none⟩), undef, .slice none 0 0, .pointer (some ⟨Bx, 0, none⟩), .func (.func 70) #[] #[.pointer (some ⟨Bs, 0, none⟩)], .agg #[.int .i64 x.id, .int .i64 x.n, .int .i64 x.d], undef, undef, undef, undef, undef], defers := [] })
  (fun x a' _ X Y row hs hg hr => by obtain ⟨Bx, h1, h2, h3⟩ := hs; exact ⟨Bx, h1, boxA_own Bx (fun (_ : Unit) => x) () X Y row h2 hg (fun r e => (hr r e).2), h3⟩)
  ?assign ?body ?done ?stop
 case assign =>
  rintro l pre x W K ⟨⟨v, bV, hrow, -⟩, hB1⟩ hK
  gi_wp2
  exact hK _ _ ((KeepsOthers.alloc _ _).from _) ((Below.refl _ W).alloc hB1.size _) ⟨⟨v, bV.alloc _, hrow.alloc _, trivial⟩, hB1.alloc hB1.size _⟩ ⟨W.heap.size, bV.lt, World.alloc_heap_new W _, rfl⟩
 case body =>
  rintro l pre x a' W hl ⟨r, hr⟩ ⟨⟨v, hv, hrow, -⟩, hB⟩ ⟨Bx, hBx, bX, rfl⟩ hlt
  have hc := hv.cell
  obtain ⟨c0, c1, c2⟩ := bX.cells
  have HX := Lib.hid bX
  have HR := Lib.hid hr
  clear bX hr hc
  have hc := hv.cell
  gi_wp2_with (gi_at_builtin; refine wpListIn_append_own _ rfl _ _ 42 rfl w.heap.size 41 i0 z KA.size 24 HZ.out.2.2.2.2.2 HZ.out.1 HZ.out.2.1 HZ.out.2.2.1 HZ.out.2.2.2.1 HZ.out.2.2.2.2.1 (by decide) _ _ _ rfl (hrow.alloc _) ⟨W.heap.size, 0, none⟩ 1 1 (KA.enc x) rfl rfl (cell_three _ _ _ _ _) (fun u hu => x.cells_one u hu) (by unfold maxLen; omega) (by omega) (by have := hB.size; simp; omega) ?_; intro v' w1 hown' hgrow _; obtain ⟨g', cap', rfl⟩ := ownsRow_succ hown'; obtain ⟨hv1, hv2, hr2, hk2, hb2⟩ := hv.appended (by decide) hrow hB.size (Nat.le_refl _) hown' hgrow; have hc1 := hv1.cell; have hf1 := hv1.frozen)
  exact ⟨hk2.from _, hb2, ⟨_, hv2, by rw [List.length_append, List.flatMap_append]; simpa using hr2, trivial⟩, hB.trans hb2⟩
 case done =>
  rintro D ys W hD rfl ⟨⟨v, hv, hrow, -⟩, hB⟩ hK
  have hc := hv.cell
  gi_wp2
  refine ⟨by simp, .inl ⟨_, _, rfl, run_takeDeferred hK, ?_⟩⟩
  exact ⟨_, results_tmp rfl _ _ _, v, rfl, ⟨ownsRow_putObj hrow _ hK rfl, fun _ _ => trivial⟩, hB.trans (belowK_b (w := w) (Nat.le_refl _) W D _ _ (by omega) hK rfl rfl)⟩
 case stop =>
  rintro D c pre W _ _ h _
  exact h.elim
end
end Go.Proofs.YtnheioehadldmaaGreat

/- THE WALKS over slices.SortFunc at entries, slices.Collect, slices.SortedFunc. -/
namespace Go.Proofs.YtnheioehadldmaaGreat
open Go.RowKit Go.Shelf Go.Sort
theorem swo_adj : SWO (ltOf adjOrd) := by
 refine ⟨fun x => ?_, fun x y z h1 h2 => ?_, fun x y z h1 h2 => ?_⟩
 ·show decide (adjOrd x x < 0) = false
  rw [TotC.adj.refl]; rfl
 ·have h1' : adjOrd x y < 0 := of_decide_eq_true h1
  have h2' : adjOrd y z < 0 := of_decide_eq_true h2
  refine decide_eq_true (show adjOrd x z < 0 from ?_)
  have a1 := TotC.adj.anti x y
  have a2 := TotC.adj.anti y z
  have a3 := TotC.adj.trans x y z (by omega) (by omega)
  rcases TotC.adj.rng x z with h | h | h
  ·omega
  ·have := (TotC.adj.zero _ _).1 h
   rw [this] at h1'
   omega
  ·omega
 ·have h1' : ¬ adjOrd x y < 0 := of_decide_eq_false h1
  have h2' : ¬ adjOrd y z < 0 := of_decide_eq_false h2
  refine decide_eq_false (fun (h3 : adjOrd x z < 0) => ?_)
  have a1 := TotC.adj.anti x y
  have a2 := TotC.adj.anti y z
  have a3 := TotC.adj.anti x z
  have := TotC.adj.trans z y x (by omega) (by omega)
  omega
theorem eg_order (args : Array Value) (w : World) : (callFunc 42 args).run Tryz.prog w = .ok (.enter 42 args) w :=
 run_enter (c := Tryz.f42.body.get!) Tryz.func42 (by kernel_rfl) (by kernel_rfl) args w
theorem sortf_adj (hs : List Sh) (base : Nat) (g cap : Nat) (w : World) (h : OA w base (.slice (some ⟨g, 0, none⟩) hs.length cap) hs) (hl : hs.length ≤ 8000000) :
  Calls Tryz.prog 69 #[.slice (some ⟨g, 0, none⟩) hs.length cap, .func (.func 42) #[] #[]] w fun r w' => r = .returned (.tuple #[]) ∧ OA w' base (.slice (some ⟨g, 0, none⟩) hs.length cap) (sortO adjOrd hs) ∧ w.grownBy w' (some g) := by
 have H := own_sort (P := Tryz.prog) (K := KA) Tryz.laysSortAdj Tryz.isAgg41 Tryz.sizeOf41 ⟨0, 0, 0⟩ (fun _ _ => trivial) adjOrd swo_adj 42 w base (fun _ => False) g cap hs h hl eg_order (fun W x y _ _ _ => co_order x y W)
 refine (show Calls Tryz.prog 69 _ w _ from H).mono ?_
 rintro r w' ⟨rfl, hs', hp, hpw, hO, hG⟩
 have e : hs' = sortO adjOrd hs := sortO_eq TotC.adj hp (hpw.imp (fun {x y} h => by have := TotC.adj.anti x y; omega))
 subst e
 exact ⟨rfl, hO, hG⟩
theorem sortf_adj0 (fv : Value) (w : World) : Calls Tryz.prog 69 #[.slice none 0 0, fv] w fun e w' => e = .returned (.tuple #[]) ∧ Ext w w' := by
 have H := AnyF.slices_SortFunc_none (P := Tryz.prog) Tryz.laysSortAdj none 0 fv w
 exact (show Calls Tryz.prog 69 _ w _ from H).mono (fun e w' ⟨h1, h2⟩ => ⟨h1, by rw [h2]; exact Ext.refl _⟩)
theorem s_Values (a : Option Addr) (len cap : Nat) (w : World) :
  Calls Tryz.prog 41 #[.slice a len cap] w fun e w' => e = .returned (.func (.func 70) #[] #[.pointer (some ⟨w.heap.size, 0, none⟩)]) ∧ w' = w.alloc (.cells #[.slice a len cap] 42) :=
 callsIn_wide.1 (values_in Fence.wide 3 trivial rfl a len cap w)
theorem s_AppendSeq (Bs : Nat) (A : Option Addr) (cap : Nat) (zs : List Sh) (hz : zs.length ≤ 8000000) (w : World) (hBs : Bs < w.heap.size)
  (hc : w.cell? ⟨Bs, 0, none⟩ = some (.slice A zs.length cap)) (hI : Shares w (fun b => b < w.heap.size) A zs) :
  Calls Tryz.prog 86 #[.slice none 0 0, .func (.func 70) #[] #[.pointer (some ⟨Bs, 0, none⟩)]] w fun e W' => ∃ v, e = .returned v ∧ OA W' w.heap.size v zs ∧ Ext w W' :=
 callsIn_wide.1 (appendSeq_in Fence.wide 3 trivial trivial rfl (Nat.le_refl _) Bs A cap zs hz w hBs hc hI)
theorem s_Collect (Bs : Nat) (A : Option Addr) (cap : Nat) (zs : List Sh) (hz : zs.length ≤ 8000000) (w : World) (hBs : Bs < w.heap.size)
  (hc : w.cell? ⟨Bs, 0, none⟩ = some (.slice A zs.length cap)) (hI : Shares w (fun b => b < w.heap.size) A zs) :
  Calls Tryz.prog 68 #[.func (.func 70) #[] #[.pointer (some ⟨Bs, 0, none⟩)]] w fun e W' => ∃ v, e = .returned v ∧ OA W' w.heap.size v zs ∧ Ext w W' := by
 have HC := Lib.hid (s_AppendSeq Bs A cap zs hz w hBs hc hI)
 clear hc hI hBs hz
 go_enter Tryz.func68, Tryz.ntmps68
 go_wp2_with (go_at_call 86; ((with_reducible refine (HC.out).mono ?_); rintro e w2 ⟨v, rfl, hO, hx⟩))
 go_ret
 exact ⟨v, rfl, hO, hx⟩
set_option maxRecDepth 100000 in
theorem s_Sorted (Bs : Nat) (A : Option Addr) (cap : Nat) (zs : List Sh) (hz : zs.length ≤ 8000000) (w : World) (hBs : Bs < w.heap.size)
  (hc : w.cell? ⟨Bs, 0, none⟩ = some (.slice A zs.length cap)) (hI : Shares w (fun b => b < w.heap.size) A zs) :
  Calls Tryz.prog 40 #[.func (.func 70) #[] #[.pointer (some ⟨Bs, 0, none⟩)], .func (.func 42) #[] #[]] w fun e W' => ∃ v, e = .returned v ∧ OA W' w.heap.size v (sortO adjOrd zs) ∧ Ext w W' := by
 have HC := Lib.hid (s_Collect Bs A cap zs hz w hBs hc hI)
 have HZ := Lib.hid hz
 clear hc hI hBs hz
 go_enter Tryz.func40, Tryz.ntmps40
 go_upto_region 2 with (go_at_call 68; ((with_reducible refine (HC.out).mono ?_); rintro e w2 ⟨v, rfl, hO, hx⟩))
 have HO := Lib.hid hO
 rcases hO.own.2 with ⟨rfl, h0⟩ | ⟨g, cp, cur, rfl, hb, -, -⟩
 ·have hz0 : zs = [] := List.eq_nil_of_length_eq_zero (by first | exact h0 | simpa using h0)
  subst hz0
  clear hO h0
  go_wp2_with (go_at_call 69; ((with_reducible refine ((sortf_adj0 _ _)).mono ?_); rintro e w3 ⟨rfl, hx3⟩))
  go_ret
  exact ⟨_, rfl, OwnG.nil _ _ _ _ _, hx.trans hx3⟩
 ·have HS := Lib.hid (sortf_adj zs w.heap.size g cp w2 hO HZ.out)
  have HB := Lib.hid hb
  clear hO hb
  go_wp2_with (go_at_call 69; ((with_reducible refine (HS.out).mono ?_); rintro e w3 ⟨rfl, hO3, hg3⟩))
  go_ret
  exact ⟨_, rfl, hO3, hx.grown hg3 (fun k hk => by cases hk; exact HB.out)⟩
end Go.Proofs.YtnheioehadldmaaGreat

/- THE WALK over the reference's Laid. -/
namespace Go.Proofs.YtnheioehadldmaaGreat
open Go.RowKit
set_option maxRecDepth 100000 in
set_option maxHeartbeats 6400000 in
theorem r12_Laid (l : List Sh) (ok : Nat → Prop) (A : Option Addr) (c : Nat) (w : World) (hv : Shares w ok A l) (hl : l.length ≤ 8000000) :
  Calls Tryz.prog 26 #[.slice A l.length c] w fun e w' => ∃ A B C D k0 k1 k2 k3, e = .returned (agC (packC (sortO adjOrd l)) A B C D k0 k1 k2 k3) ∧ ColAt w' (fun b => w.heap.size ≤ b) A B C D (packC (sortO adjOrd l)) ∧ Ext w w' := by
 obtain ⟨q2, wa, hq2, hwa, r2, z2, hxa⟩ := box_zero w 29
 have HSO := Lib.hid (r12_Sorted l ok A c wa (hv.ext hxa) hl)
 have HWA := Lib.hid hwa
 have HQ2 := Lib.hid hq2
 have hwas : wa.heap.size = w.heap.size + 1 := by rw [hwa]; simp
 obtain ⟨R, hR⟩ : ∃ R, R = packC (sortO adjOrd l) := ⟨_, rfl⟩
 rw [← hR]
 have HR := Lib.hid hR
 have HSL := Lib.hid (sortO_len TotC.adj l)
 have HQ2' := Lib.hid hq2
 clear hR hwa hv hq2
 generalize sortO adjOrd l = s at *
 generalize l.length = n at *
 go_enter Tryz.func26, Tryz.ntmps26
 go_upto_region 1 with (fail)
 rw [← HWA.out, ← HQ2.out]
 clear HWA HQ2
 go_upto_region 2 with (go_at_call 58; ((with_reducible refine (HSO.out).mono ?_); rintro e w2 ⟨A2, c2, rfl, hc2, hV2, hx2⟩))
 obtain ⟨q3, wb, hq3, hwb, r3, z3, hxb⟩ := box_zero w2 29
 go_upto_region 3 with (fail)
 rw [← hwb, ← hq3]
 have hsz : wb.heap.size = w2.heap.size + 1 := by rw [hwb]; simp
 have hle2 := hx2.le
 have hq2 := HQ2'.out
 have HQX := Lib.hid (show Ext w w2 ∧ w.heap.size ≤ q2 from ⟨hxa.trans hx2, by omega⟩)
 have HP0 := Lib.hid (⟨hxb, Nat.le_refl _, Col4.nil _ _, r3, z3, r2.grown ((hx2.trans hxb).gr none) (by simp), z2.grown r2 ((hx2.trans hxb).gr none) (by simp), by omega, by omega, by omega, by omega, by omega⟩ : PkS w2 wb.heap.size q2 q3 wb (.slice none 0 0) (.slice none 0 0) (.slice none 0 0) (.slice none 0 0) (.slice none 0 0) (.slice none 0 0) (.slice none 0 0) (.slice none 0 0) noCol)
 have HV := Lib.hid hV2
 clear hwb hq2 hq3 r2 r3 z2 z3 hxa hxb hV2 hx2 hsz hle2 hwas HSO
 go_wp2_with fail
 go_loopw [5] (fun u W => ∃ (k : Nat) (vN vF vT vE : Value), u = .int .i64 k ∧ k ≤ n ∧ Hid (PkS w2 wb.heap.size q2 q3 W vN vF vT vE vN vF vT vE (packK s k))) (fun u _ => n - (intOf u).toNat)
 case atStart => exact ⟨0, _, _, _, _, rfl, Nat.zero_le _, HP0⟩
 case round =>
  clear HP0
  obtain ⟨k, vN, vF, vT, vE, rfl, hk, HP⟩ := hrel
  by_cases hlt : k < n
  ·have hls : k < s.length := by rw [HSL.out]; exact hlt
   obtain ⟨b, o, rfl, hc⟩ := HV.out.at_ hls
   obtain ⟨-, d0, d1, d2⟩ := hc k hls
   obtain ⟨hl0, hl1, hl2, hl3⟩ := packK_len s k
   replace hl0 : (packK s k).nodes.length + 1 ≤ 8388608 := by omega
   replace hl1 : (packK s k).first.length + 1 ≤ 8388608 := by omega
   replace hl2 : (packK s k).tos.length + 1 ≤ 8388608 := by omega
   replace hl3 : (packK s k).edges.length + 1 ≤ 8388608 := by omega
   have HCJ := Lib.hid (fun j (hj : j < n) => HP.out.ext.cell (hc j (by rw [HSL.out]; exact hj)).2.1)
   have HHZ := Lib.hid (fun (h : k = 0) => (by rw [h]; rfl : headB s k = true))
   have HHJ := Lib.hid (fun j (h : k = j + 1) => (by unfold headB; rw [h]; simp : headB s k = !decide (s[k]!.id = s[j]!.id)))
   have HS := Lib.hid ((by
    cases h : headB s k
    ·rw [packK_no hls h]; rfl
    ·rw [packK_yes hls h]; rfl) : packK s (k + 1) = if headB s k = true then ⟨(packK s k).nodes ++ [s[k]!.id], (packK s k).first ++ [(k : Int)], (packK s k).tos ++ [s[k]!.n], (packK s k).edges ++ [s[k]!.d]⟩ else { packK s k with tos := (packK s k).tos ++ [s[k]!.n], edges := (packK s k).edges ++ [s[k]!.d] })
   have HCS := Lib.hid (fun V (e : Ext w2 V) => (⟨e.cell d0, e.cell d1, e.cell d2⟩ : V.cell? ⟨b, o + k * 3, none⟩ = some (.int .i64 s[k]!.id) ∧ V.cell? ⟨b, o + k * 3 + 1, none⟩ = some (.int .i64 s[k]!.n) ∧ V.cell? ⟨b, o + k * 3 + 2, none⟩ = some (.int .i64 s[k]!.d)))
   obtain ⟨C1, hC1⟩ : ∃ C1, C1 = packK s (k + 1) := ⟨_, rfl⟩
   rw [← hC1] at HS
   have HQC := Lib.hid hC1
   clear hC1
   generalize packK s k = C at *
   generalize headB s k = hd at *
   generalize s[k]!.id = x0 at *
   generalize s[k]!.n = x1 at *
   generalize s[k]!.d = x2 at *
   clear hc HV hls d0 d1 d2
   go_upto_region 6 with (fail)
   go_cut [29] from 8 to 65 (fun s29 wx => s29 = .bool hd ∧ Ext wr wx)
   case first =>
    clear HS hl0 hl1 hl2 hl3
    have HCR := Lib.hid (fun V (e : Ext wr V) => (HCS.out V (HP.out.ext.trans e)).1)
    by_cases hk0 : k = 0
    ·have HH := Lib.hid (HHZ.out hk0)
     have g0 : ((k : Int) == 0) = true := by simp [hk0]
     have g1 : (k == 0) = true := by simp [hk0]
     have g2 : decide (k = 0) = true := by simp [hk0]
     have HM5 := HCR
     clear HHZ HHJ HCJ hk0
     refine wp_region_held_drew (S := (fun V => V.cell? ⟨b, o + k * 3, none⟩ = some (.int .i64 x0))) (by kernel_rfl) ?hs36037 (fun hHeld => ?go36037)
     case hs36037 => (exact HM5.out _ (by solve_by_elim [X0, X1, X2, X3]))
     refine TK 0 (v := ?v36038) hHeld ?hy36038 ?_
     case hy36038 => (intro w hSw; (try dsimp only at hSw); go_simp <;> first | with_reducible rfl | rw [if_neg (by omega)] | rw [if_pos (by omega)])
     (try simp only [PU])
     refine TK 1 (v := ?v36039) hHeld ?hy36039 ?_
     case hy36039 => (intro w hSw; (try dsimp only at hSw); go_simp <;> first | with_reducible rfl | rw [if_neg (by omega)] | rw [if_pos (by omega)])
     (try simp only [PU])
     refine TK 2 (v := ?v36040) hHeld ?hy36040 ?_
     case hy36040 => (intro w hSw; (try dsimp only at hSw); go_simp <;> first | with_reducible rfl | rw [if_neg (by omega)] | rw [if_pos (by omega)])
     (try simp only [PU])
     refine TN 3 hHeld ?_
     (try simp only [PU])
     refine TN 4 hHeld ?_
     (try simp only [PU])
     refine TN 5 hHeld ?_
     (try simp only [PU])
     refine TN 6 hHeld ?_
     (try simp only [PU])
     refine TN 7 hHeld ?_
     (try simp only [PU])
     refine TN 8 hHeld ?_
     (try simp only [PU])
     refine TN 9 hHeld ?_
     (try simp only [PU])
     refine TN 10 hHeld ?_
     (try simp only [PU])
     refine TN 11 hHeld ?_
     (try simp only [PU])
     refine TN 12 hHeld ?_
     (try simp only [PU])
     refine TN 13 hHeld ?_
     (try simp only [PU])
     refine TN 14 hHeld ?_
     (try simp only [PU])
     refine TK 15 (v := ?v36053) hHeld ?hy36053 ?_
     case hy36053 => (intro w hSw; (try dsimp only at hSw); go_simp <;> first | with_reducible rfl | rw [if_neg (by omega)] | rw [if_pos (by omega)])
     (try simp only [PU])
     refine wpAnyH_done (by kernel_rfl) ?_ _
     clear hHeld
     go_wp2_with fail
     go_meet
     case rel => exact ⟨by rw [HH.out], (by solve_by_elim [X0, X1, X2, X3])⟩
    ·obtain ⟨j, hj⟩ : ∃ j, k = j + 1 := ⟨k - 1, by omega⟩
     have e0 := HCJ.out j (by omega)
     have HH := Lib.hid (HHJ.out j hj)
     have g0 : ((k : Int) == 0) = false := by simp; omega
     have g1 : (k == 0) = false := by simp; omega
     have g2 : decide (k = 0) = false := by simp; omega
     have wj : IntKind.i64.wrap ((k : Int) - 1) = (j : Int) := by rw [IntKind.wrap_i64]; omega
     have hjl : j < n := by omega
     generalize s[j]!.id = p0 at *
     have HM5 := Lib.hid (fun V (e : Ext wr V) => (⟨HCR.out V e, e.cell e0⟩ : V.cell? ⟨b, o + k * 3, none⟩ = some (.int .i64 x0) ∧ V.cell? ⟨b, o + j * 3, none⟩ = some (.int .i64 p0)))
     clear HCJ HHJ HHZ hk0 hj e0
     cases hid : decide (x0 = p0)
     ·have gid : (x0 != p0) = true := by simpa using hid
      rw [hid] at HH
      clear hid
      refine wp_region_held_drew (S := (fun V => V.cell? ⟨b, o + k * 3, none⟩ = some (.int .i64 x0) ∧ V.cell? ⟨b, o + j * 3, none⟩ = some (.int .i64 p0))) (by kernel_rfl) ?hs36054 (fun hHeld => ?go36054)
      case hs36054 => (exact HM5.out _ (by solve_by_elim [X0, X1, X2, X3]))
      refine TK 0 (v := ?v36055) hHeld ?hy36055 ?_
      case hy36055 => (intro w hSw; (try dsimp only at hSw); go_simp <;> first | with_reducible rfl | rw [if_neg (by omega)] | rw [if_pos (by omega)])
      (try simp only [PU])
      refine TK 1 (v := ?v36056) hHeld ?hy36056 ?_
      case hy36056 => (intro w hSw; (try dsimp only at hSw); go_simp <;> first | with_reducible rfl | rw [if_neg (by omega)] | rw [if_pos (by omega)])
      (try simp only [PU])
      refine TK 2 (v := ?v36057) hHeld ?hy36057 ?_
      case hy36057 => (intro w hSw; (try dsimp only at hSw); go_simp <;> first | with_reducible rfl | rw [if_neg (by omega)] | rw [if_pos (by omega)])
      (try simp only [PU])
      refine TK 3 (v := ?v36058) hHeld ?hy36058 ?_
      case hy36058 => (intro w hSw; (try dsimp only at hSw); go_simp <;> first | with_reducible rfl | rw [if_neg (by omega)] | rw [if_pos (by omega)])
      (try simp only [PU])
      refine TK 4 (v := ?v36059) hHeld ?hy36059 ?_
      case hy36059 => (intro w hSw; (try dsimp only at hSw); go_simp <;> first | with_reducible rfl | rw [if_neg (by omega)] | rw [if_pos (by omega)])
      (try simp only [PU])
      refine TK 5 (v := ?v36060) hHeld ?hy36060 ?_
      case hy36060 => (intro w hSw; (try dsimp only at hSw); go_simp <;> first | with_reducible rfl | rw [if_neg (by omega)] | rw [if_pos (by omega)])
      (try simp only [PU])
      refine TK 6 (v := ?v36061) hHeld ?hy36061 ?_
      case hy36061 => (intro w hSw; (try dsimp only at hSw); go_simp <;> first | with_reducible rfl | rw [if_neg (by omega)] | rw [if_pos (by omega)])
      (try simp only [PU])
      refine TK 7 (v := ?v36062) hHeld ?hy36062 ?_
      case hy36062 => (intro w hSw; (try dsimp only at hSw); go_simp <;> first | with_reducible rfl | rw [if_neg (by omega)] | rw [if_pos (by omega)])
      (try simp only [PU])
      refine TK 8 (v := ?v36063) hHeld ?hy36063 ?_
      case hy36063 => (intro w hSw; (try dsimp only at hSw); go_simp <;> first | with_reducible rfl | rw [if_neg (by omega)] | rw [if_pos (by omega)])
      (try simp only [PU])
      refine TK 9 (v := ?v36064) hHeld ?hy36064 ?_
      case hy36064 => (intro w hSw; (try dsimp only at hSw); go_simp <;> first | with_reducible rfl | rw [if_neg (by omega)] | rw [if_pos (by omega)])
      (try simp only [PU])
      refine TK 10 (v := ?v36065) hHeld ?hy36065 ?_
      case hy36065 => (intro w hSw; (try dsimp only at hSw); go_simp <;> first | with_reducible rfl | rw [if_neg (by omega)] | rw [if_pos (by omega)])
      (try simp only [PU])
      refine TK 11 (v := ?v36066) hHeld ?hy36066 ?_
      case hy36066 => (intro w hSw; (try dsimp only at hSw); go_simp <;> first | with_reducible rfl | rw [if_neg (by omega)] | rw [if_pos (by omega)])
      (try simp only [PU])
      refine TK 12 (v := ?v36067) hHeld ?hy36067 ?_
      case hy36067 => (intro w hSw; (try dsimp only at hSw); go_simp <;> first | with_reducible rfl | rw [if_neg (by omega)] | rw [if_pos (by omega)])
      (try simp only [PU])
      refine TK 13 (v := ?v36068) hHeld ?hy36068 ?_
      case hy36068 => (intro w hSw; (try dsimp only at hSw); go_simp <;> first | with_reducible rfl | rw [if_neg (by omega)] | rw [if_pos (by omega)])
      (try simp only [PU])
      refine TK 14 (v := ?v36069) hHeld ?hy36069 ?_
      case hy36069 => (intro w hSw; (try dsimp only at hSw); go_simp <;> first | with_reducible rfl | rw [if_neg (by omega)] | rw [if_pos (by omega)])
      (try simp only [PU])
      refine TK 15 (v := ?v36070) hHeld ?hy36070 ?_
      case hy36070 => (intro w hSw; (try dsimp only at hSw); go_simp <;> first | with_reducible rfl | rw [if_neg (by omega)] | rw [if_pos (by omega)])
      (try simp only [PU])
      refine wpAnyH_done (by kernel_rfl) ?_ _
      clear hHeld
      go_wp2_with fail
      go_meet
      case rel => exact ⟨by rw [HH.out]; rfl, (by solve_by_elim [X0, X1, X2, X3])⟩
     ·have gid : (x0 != p0) = false := by simpa using hid
      rw [hid] at HH
      clear hid
      refine wp_region_held_drew (S := (fun V => V.cell? ⟨b, o + k * 3, none⟩ = some (.int .i64 x0) ∧ V.cell? ⟨b, o + j * 3, none⟩ = some (.int .i64 p0))) (by kernel_rfl) ?hs36071 (fun hHeld => ?go36071)
      case hs36071 => (exact HM5.out _ (by solve_by_elim [X0, X1, X2, X3]))
      refine TK 0 (v := ?v36072) hHeld ?hy36072 ?_
      case hy36072 => (intro w hSw; (try dsimp only at hSw); go_simp <;> first | with_reducible rfl | rw [if_neg (by omega)] | rw [if_pos (by omega)])
      (try simp only [PU])
      refine TK 1 (v := ?v36073) hHeld ?hy36073 ?_
      case hy36073 => (intro w hSw; (try dsimp only at hSw); go_simp <;> first | with_reducible rfl | rw [if_neg (by omega)] | rw [if_pos (by omega)])
      (try simp only [PU])
      refine TK 2 (v := ?v36074) hHeld ?hy36074 ?_
      case hy36074 => (intro w hSw; (try dsimp only at hSw); go_simp <;> first | with_reducible rfl | rw [if_neg (by omega)] | rw [if_pos (by omega)])
      (try simp only [PU])
      refine TK 3 (v := ?v36075) hHeld ?hy36075 ?_
      case hy36075 => (intro w hSw; (try dsimp only at hSw); go_simp <;> first | with_reducible rfl | rw [if_neg (by omega)] | rw [if_pos (by omega)])
      (try simp only [PU])
      refine TK 4 (v := ?v36076) hHeld ?hy36076 ?_
      case hy36076 => (intro w hSw; (try dsimp only at hSw); go_simp <;> first | with_reducible rfl | rw [if_neg (by omega)] | rw [if_pos (by omega)])
      (try simp only [PU])
      refine TK 5 (v := ?v36077) hHeld ?hy36077 ?_
      case hy36077 => (intro w hSw; (try dsimp only at hSw); go_simp <;> first | with_reducible rfl | rw [if_neg (by omega)] | rw [if_pos (by omega)])
      (try simp only [PU])
      refine TK 6 (v := ?v36078) hHeld ?hy36078 ?_
      case hy36078 => (intro w hSw; (try dsimp only at hSw); go_simp <;> first | with_reducible rfl | rw [if_neg (by omega)] | rw [if_pos (by omega)])
      (try simp only [PU])
      refine TK 7 (v := ?v36079) hHeld ?hy36079 ?_
      case hy36079 => (intro w hSw; (try dsimp only at hSw); go_simp <;> first | with_reducible rfl | rw [if_neg (by omega)] | rw [if_pos (by omega)])
      (try simp only [PU])
      refine TK 8 (v := ?v36080) hHeld ?hy36080 ?_
      case hy36080 => (intro w hSw; (try dsimp only at hSw); go_simp <;> first | with_reducible rfl | rw [if_neg (by omega)] | rw [if_pos (by omega)])
      (try simp only [PU])
      refine TK 9 (v := ?v36081) hHeld ?hy36081 ?_
      case hy36081 => (intro w hSw; (try dsimp only at hSw); go_simp <;> first | with_reducible rfl | rw [if_neg (by omega)] | rw [if_pos (by omega)])
      (try simp only [PU])
      refine TK 10 (v := ?v36082) hHeld ?hy36082 ?_
      case hy36082 => (intro w hSw; (try dsimp only at hSw); go_simp <;> first | with_reducible rfl | rw [if_neg (by omega)] | rw [if_pos (by omega)])
      (try simp only [PU])
      refine TK 11 (v := ?v36083) hHeld ?hy36083 ?_
      case hy36083 => (intro w hSw; (try dsimp only at hSw); go_simp <;> first | with_reducible rfl | rw [if_neg (by omega)] | rw [if_pos (by omega)])
      (try simp only [PU])
      refine TK 12 (v := ?v36084) hHeld ?hy36084 ?_
      case hy36084 => (intro w hSw; (try dsimp only at hSw); go_simp <;> first | with_reducible rfl | rw [if_neg (by omega)] | rw [if_pos (by omega)])
      (try simp only [PU])
      refine TK 13 (v := ?v36085) hHeld ?hy36085 ?_
      case hy36085 => (intro w hSw; (try dsimp only at hSw); go_simp <;> first | with_reducible rfl | rw [if_neg (by omega)] | rw [if_pos (by omega)])
      (try simp only [PU])
      refine TK 14 (v := ?v36086) hHeld ?hy36086 ?_
      case hy36086 => (intro w hSw; (try dsimp only at hSw); go_simp <;> first | with_reducible rfl | rw [if_neg (by omega)] | rw [if_pos (by omega)])
      (try simp only [PU])
      refine TK 15 (v := ?v36087) hHeld ?hy36087 ?_
      case hy36087 => (intro w hSw; (try dsimp only at hSw); go_simp <;> first | with_reducible rfl | rw [if_neg (by omega)] | rw [if_pos (by omega)])
      (try simp only [PU])
      refine wpAnyH_done (by kernel_rfl) ?_ _
      clear hHeld
      go_wp2_with fail
      go_meet
      case rel => exact ⟨by rw [HH.out]; rfl, (by solve_by_elim [X0, X1, X2, X3])⟩
   case rest =>
    obtain ⟨rfl, hx3⟩ := hcut
    obtain ⟨w3, hw3⟩ : ∃ w3, w3 = wc := ⟨_, rfl⟩
    subst hw3
    have HP3 := Lib.hid (HP.out.exts hx3)
    clear HHZ HHJ HCJ HP hx3
    go_upto_if 29 with (fail)
    go_cut [5] from 8 to 65 (fun s5 wx => s5 = .int .i64 k ∧ ∃ (vN' vF' : Value) (c' : Col), Hid (PkS w2 wb.heap.size q2 q3 wx vN' vF' vT vE vN' vF' vT vE c') ∧ Hid (C1 = { c' with tos := c'.tos ++ [x1], edges := c'.edges ++ [x2] }) ∧ c'.tos.length + 1 ≤ 8388608 ∧ c'.edges.length + 1 ≤ 8388608)
    case first =>
     cases hd
     ·go_wp2_with fail
      go_meet
      case rel => exact ⟨rfl, vN, vF, C, HP3, Lib.hid (HS.out.trans (if_neg Bool.false_ne_true)), hl2, hl3⟩
     ·skip
      have HMt1 := Lib.hid (fun V (e : Ext w3 V) => (⟨e.cell HP3.out.bx.1, (HCS.out V (HP3.out.ext.trans e)).1⟩ : V.cell? ⟨q3, 0, none⟩ = some vN ∧ V.cell? ⟨b, o + k * 3, none⟩ = some (.int .i64 x0)))
      obtain ⟨zz, cc⟩ := HMt1.out w3 (Ext.refl _)
      go_upto_region 7 with (fail)
      refine AnyT.start (S := (fun V => V.cell? ⟨q3, 0, none⟩ = some vN ∧ V.cell? ⟨b, o + k * 3, none⟩ = some (.int .i64 x0))) (T := (fun _ => True)) (E := 10) (by kernel_rfl) ?hs36001 (fun hHeld => ?go36001)
      case hs36001 => exact ⟨by (first | exact HMt1.out _ (by solve_by_elim [X0, X1, X2, X3]) | exact MAt1.out _ (by solve_by_elim [X0, X1, X2, X3])), by exact trivial⟩
      refine TB 0 (v := ?v36002) ⟨fun _ => hHeld.1, hHeld.2⟩ ?hy36002 ?_
      case hy36002 => (intro w hSw; (try dsimp only at hSw); go_simp <;> first | with_reducible rfl | rw [if_neg (by omega)] | rw [if_pos (by omega)])
      (try simp only [PU])
      refine TA 1 (v := ?v36003) hHeld ?hy36003 ?_
      case hy36003 => (intro w hSw; (try dsimp only at hSw); go_simp <;> first | with_reducible rfl | rw [if_neg (by omega)] | rw [if_pos (by omega)])
      (try simp only [PU])
      refine TB 2 (v := ?v36004) ⟨fun _ => hHeld.1, hHeld.2⟩ ?hy36004 ?_
      case hy36004 => (intro w hSw; (try dsimp only at hSw); go_simp <;> first | with_reducible rfl | rw [if_neg (by omega)] | rw [if_pos (by omega)])
      (try simp only [PU])
      refine TB 3 (v := ?v36005) ⟨fun _ => hHeld.1, hHeld.2⟩ ?hy36005 ?_
      case hy36005 => (intro w hSw; (try dsimp only at hSw); go_simp <;> first | with_reducible rfl | rw [if_neg (by omega)] | rw [if_pos (by omega)])
      (try simp only [PU])
      refine TB 4 (v := ?v36006) ⟨fun _ => hHeld.1, hHeld.2⟩ ?hy36006 ?_
      case hy36006 => (intro w hSw; (try dsimp only at hSw); go_simp <;> first | with_reducible rfl | rw [if_neg (by omega)] | rw [if_pos (by omega)])
      (try simp only [PU])
      refine TB 5 (v := ?v36007) ⟨fun _ => hHeld.1, hHeld.2⟩ ?hy36007 ?_
      case hy36007 => (intro w hSw; (try dsimp only at hSw); go_simp <;> first | with_reducible rfl | rw [if_neg (by omega)] | rw [if_pos (by omega)])
      (try simp only [PU])
      refine TA 6 (v := ?v36008) hHeld ?hy36008 ?_
      case hy36008 => (intro w hSw; (try dsimp only at hSw); go_simp <;> first | with_reducible rfl | rw [if_neg (by omega)] | rw [if_pos (by omega)])
      (try simp only [PU])
      refine AnyT.ready (rs := [7]) (by kernel_rfl) (by simp) ?_
      refine AllT.cons (o := ⟨_, _, _, _, _, _⟩) rfl (fun K hK => ?step36009x0) ?more36009x0
      case more36009x0 => exact AllT.nil
      go_simp
      refine hK.out _ _ ?hS36009x0 (fun H36009 => ?_)
      case hS36009x0 => exact ⟨fun _ => by (first | exact HMt1.out _ (by solve_by_elim [X0, X1, X2, X3]) | exact MAt1.out _ (by solve_by_elim [X0, X1, X2, X3])), by exact trivial⟩
      clear hK K
      clear hHeld
      (try simp only [PU])
      refine AnyT.ready (rs := [8]) (by kernel_rfl) (by simp) ?_
      refine AllT.cons (o := ⟨_, _, _, _, _, _⟩) rfl (fun K hK => ?step36010x0) ?more36010x0
      case more36010x0 => exact AllT.nil
      (refine step_pushAt T_ki rfl (.tmp 31) (.tmp 37) rfl rfl (OwnG.ext HP3.out.c4.n (by solve_by_elim [X0, X1, X2, X3])) (Nat.le_trans HP3.out.le (Ext.le (a := w3) (by solve_by_elim [X0, X1, X2, X3]))) x0 trivial ⟨_, 0, none⟩ 1 rfl (int_cell (by go_simp)) hl0 (by decide) ?_; intro va0 wt1a hO hg hd; obtain ⟨At1a, nt1a, ct1a, rfl⟩ := own_fm hO; have hPa := (HP3.out.exts (W' := _) (by solve_by_elim [X0, X1, X2, X3])).pushN hO hg (Nat.le_refl _) hd; have MAt1 := Lib.hid (fun V (e : Ext wt1a V) => (⟨e.cell hPa.bx.1, (HCS.out V (hPa.ext.trans e)).1⟩ : V.cell? ⟨q3, 0, none⟩ = some vN ∧ V.cell? ⟨b, o + k * 3, none⟩ = some (.int .i64 x0))); have zqt1 := hPa.bx.1; have zft1 := hPa.fz.1; have hPc := hPa.put0 (.slice At1a nt1a ct1a); obtain ⟨wt1c, hwt1c⟩ : ∃ W, W = wt1a.setCell ⟨q3, 0, none⟩ (.slice At1a nt1a ct1a) := ⟨_, rfl⟩; rw [← hwt1c] at hPc; have HPct1 := Lib.hid hPc; clear hO hg hd hPa hPc)
      refine hK.out _ _ ?hS36010x0 (fun H36010 => ?_)
      case hS36010x0 => exact ⟨fun _ => by (first | exact HMt1.out _ (by solve_by_elim [X0, X1, X2, X3]) | exact MAt1.out _ (by solve_by_elim [X0, X1, X2, X3])), by exact trivial⟩
      clear hK K
      clear H36009
      (try simp only [PU])
      refine TB 9 (v := ?v36011) H36010 ?hy36011 ?_
      case hy36011 => (intro w hSw; (try dsimp only at hSw); go_simp <;> first | with_reducible rfl | rw [if_neg (by omega)] | rw [if_pos (by omega)])
      (try simp only [PU])
      refine AnyT.ready (rs := [10]) (by kernel_rfl) (by simp) ?_
      refine AllT.cons (o := ⟨_, _, _, _, _, _⟩) rfl (fun K hK => ?step36012x0) ?more36012x0
      case more36012x0 => exact AllT.nil
      go_simp
      (rw [← hwt1c]; clear hwt1c)
      refine hK.out _ _ ?hS36012x0 (fun H36012 => ?_)
      case hS36012x0 => exact ⟨fun h => (by first | exact absurd h (by decide) | simp at h), by exact trivial⟩
      clear hK K
      clear H36010
      refine AnyT.done (by kernel_rfl) ?_ _
      clear H36012
      obtain ⟨z0, z1, z2, z3⟩ := HPct1.out.bx
      go_wp2_with (at_builtin; go_loud (refine own_pushG (v := vF) (hs := C.first) T_ki rfl (.tmp 41) (.tmp 43) rfl wt1c rfl HPct1.out.c4.f HPct1.out.le (k : Int) trivial rfl _ rfl rfl hl1 (by decide) ?_); intro v6 w6 hO6 hg6 hd6; obtain ⟨A6, n6, c6, rfl⟩ := own_fm hO6; have hP6 := HPct1.out.pushF hO6 hg6 (Nat.le_succ _) hd6; have zq := hP6.bx.2.1; have zf := hP6.fz.2.1; have hP7 := hP6.put1 (.slice A6 n6 c6); obtain ⟨w7, hw7⟩ : ∃ W, W = w6.setCell ⟨q3, 1, none⟩ (.slice A6 n6 c6) := ⟨_, rfl⟩; rw [← hw7] at hP7; have HP7 := Lib.hid hP7; clear hP6 hP7 hO6 hg6 hd6)
      rw [← hw7]
      go_meet
      case rel => exact ⟨rfl, (.slice At1a nt1a ct1a), .slice A6 n6 c6, _, HP7, Lib.hid (HS.out.trans (if_pos (by first | rfl | trivial))), hl2, hl3⟩
    case rest =>
     obtain ⟨rfl, vN', vF', c', HP4, HC, hm2, hm3⟩ := hcut
     obtain ⟨w4, hw4⟩ : ∃ w4, w4 = wc := ⟨_, rfl⟩
     subst hw4
     clear HP3 HS hl0 hl1 hl2 hl3
     have HMt2 := Lib.hid (fun V (e : Ext w4 V) => (⟨e.cell HP4.out.bx.2.2.1, (HCS.out V (HP4.out.ext.trans e)).2.1⟩ : V.cell? ⟨q3, 2, none⟩ = some vT ∧ V.cell? ⟨b, o + k * 3 + 1, none⟩ = some (.int .i64 x1)))
     obtain ⟨zz, cc⟩ := HMt2.out w4 (Ext.refl _)
     go_upto_region 9 with (fail)
     refine AnyT.start (S := (fun V => V.cell? ⟨q3, 2, none⟩ = some vT ∧ V.cell? ⟨b, o + k * 3 + 1, none⟩ = some (.int .i64 x1))) (T := (fun _ => True)) (E := 10) (by kernel_rfl) ?hs36025 (fun hHeld => ?go36025)
     case hs36025 => exact ⟨by (first | exact HMt2.out _ (by solve_by_elim [X0, X1, X2, X3]) | exact MAt2.out _ (by solve_by_elim [X0, X1, X2, X3])), by exact trivial⟩
     refine TB 0 (v := ?v36026) ⟨fun _ => hHeld.1, hHeld.2⟩ ?hy36026 ?_
     case hy36026 => (intro w hSw; (try dsimp only at hSw); go_simp <;> first | with_reducible rfl | rw [if_neg (by omega)] | rw [if_pos (by omega)])
     (try simp only [PU])
     refine TA 1 (v := ?v36027) hHeld ?hy36027 ?_
     case hy36027 => (intro w hSw; (try dsimp only at hSw); go_simp <;> first | with_reducible rfl | rw [if_neg (by omega)] | rw [if_pos (by omega)])
     (try simp only [PU])
     refine TB 2 (v := ?v36028) ⟨fun _ => hHeld.1, hHeld.2⟩ ?hy36028 ?_
     case hy36028 => (intro w hSw; (try dsimp only at hSw); go_simp <;> first | with_reducible rfl | rw [if_neg (by omega)] | rw [if_pos (by omega)])
     (try simp only [PU])
     refine TB 3 (v := ?v36029) ⟨fun _ => hHeld.1, hHeld.2⟩ ?hy36029 ?_
     case hy36029 => (intro w hSw; (try dsimp only at hSw); go_simp <;> first | with_reducible rfl | rw [if_neg (by omega)] | rw [if_pos (by omega)])
     (try simp only [PU])
     refine TB 4 (v := ?v36030) ⟨fun _ => hHeld.1, hHeld.2⟩ ?hy36030 ?_
     case hy36030 => (intro w hSw; (try dsimp only at hSw); go_simp <;> first | with_reducible rfl | rw [if_neg (by omega)] | rw [if_pos (by omega)])
     (try simp only [PU])
     refine TB 5 (v := ?v36031) ⟨fun _ => hHeld.1, hHeld.2⟩ ?hy36031 ?_
     case hy36031 => (intro w hSw; (try dsimp only at hSw); go_simp <;> first | with_reducible rfl | rw [if_neg (by omega)] | rw [if_pos (by omega)])
     (try simp only [PU])
     refine TA 6 (v := ?v36032) hHeld ?hy36032 ?_
     case hy36032 => (intro w hSw; (try dsimp only at hSw); go_simp <;> first | with_reducible rfl | rw [if_neg (by omega)] | rw [if_pos (by omega)])
     (try simp only [PU])
     refine AnyT.ready (rs := [7]) (by kernel_rfl) (by simp) ?_
     refine AllT.cons (o := ⟨_, _, _, _, _, _⟩) rfl (fun K hK => ?step36033x0) ?more36033x0
     case more36033x0 => exact AllT.nil
     go_simp
     refine hK.out _ _ ?hS36033x0 (fun H36033 => ?_)
     case hS36033x0 => exact ⟨fun _ => by (first | exact HMt2.out _ (by solve_by_elim [X0, X1, X2, X3]) | exact MAt2.out _ (by solve_by_elim [X0, X1, X2, X3])), by exact trivial⟩
     clear hK K
     clear hHeld
     (try simp only [PU])
     refine AnyT.ready (rs := [8]) (by kernel_rfl) (by simp) ?_
     refine AllT.cons (o := ⟨_, _, _, _, _, _⟩) rfl (fun K hK => ?step36034x0) ?more36034x0
     case more36034x0 => exact AllT.nil
     (refine step_pushAt T_ki rfl (.tmp 47) (.tmp 53) rfl rfl (OwnG.ext HP4.out.c4.t (by solve_by_elim [X0, X1, X2, X3])) (Nat.le_trans HP4.out.le (Ext.le (a := w4) (by solve_by_elim [X0, X1, X2, X3]))) x1 trivial ⟨_, 0, none⟩ 1 rfl (int_cell (by go_simp)) hm2 (by decide) ?_; intro va0 wt2a hO hg hd; obtain ⟨At2a, nt2a, ct2a, rfl⟩ := own_fm hO; have hPa := (HP4.out.exts (W' := _) (by solve_by_elim [X0, X1, X2, X3])).pushT hO hg (Nat.le_refl _) hd; have MAt2 := Lib.hid (fun V (e : Ext wt2a V) => (⟨e.cell hPa.bx.2.2.1, (HCS.out V (hPa.ext.trans e)).2.1⟩ : V.cell? ⟨q3, 2, none⟩ = some vT ∧ V.cell? ⟨b, o + k * 3 + 1, none⟩ = some (.int .i64 x1))); have zqt2 := hPa.bx.2.2.1; have zft2 := hPa.fz.2.2.1; have hPc := hPa.put2 (.slice At2a nt2a ct2a); obtain ⟨wt2c, hwt2c⟩ : ∃ W, W = wt2a.setCell ⟨q3, 2, none⟩ (.slice At2a nt2a ct2a) := ⟨_, rfl⟩; rw [← hwt2c] at hPc; have HPct2 := Lib.hid hPc; clear hO hg hd hPa hPc)
     refine hK.out _ _ ?hS36034x0 (fun H36034 => ?_)
     case hS36034x0 => exact ⟨fun _ => by (first | exact HMt2.out _ (by solve_by_elim [X0, X1, X2, X3]) | exact MAt2.out _ (by solve_by_elim [X0, X1, X2, X3])), by exact trivial⟩
     clear hK K
     clear H36033
     (try simp only [PU])
     refine TB 9 (v := ?v36035) H36034 ?hy36035 ?_
     case hy36035 => (intro w hSw; (try dsimp only at hSw); go_simp <;> first | with_reducible rfl | rw [if_neg (by omega)] | rw [if_pos (by omega)])
     (try simp only [PU])
     refine AnyT.ready (rs := [10]) (by kernel_rfl) (by simp) ?_
     refine AllT.cons (o := ⟨_, _, _, _, _, _⟩) rfl (fun K hK => ?step36036x0) ?more36036x0
     case more36036x0 => exact AllT.nil
     go_simp
     (rw [← hwt2c]; clear hwt2c)
     refine hK.out _ _ ?hS36036x0 (fun H36036 => ?_)
     case hS36036x0 => exact ⟨fun h => (by first | exact absurd h (by decide) | simp at h), by exact trivial⟩
     clear hK K
     clear H36034
     refine AnyT.done (by kernel_rfl) ?_ _
     clear H36036
     have HMt3 := Lib.hid (fun V (e : Ext wt2c V) => (⟨e.cell HPct2.out.bx.2.2.2, (HCS.out V (HPct2.out.ext.trans e)).2.2⟩ : V.cell? ⟨q3, 3, none⟩ = some vE ∧ V.cell? ⟨b, o + k * 3 + 2, none⟩ = some (.int .i64 x2)))
     obtain ⟨zz, cc⟩ := HMt3.out wt2c (Ext.refl _)
     go_upto_region 10 with (fail)
     refine AnyT.start (S := (fun V => V.cell? ⟨q3, 3, none⟩ = some vE ∧ V.cell? ⟨b, o + k * 3 + 2, none⟩ = some (.int .i64 x2))) (T := (fun _ => True)) (E := 10) (by kernel_rfl) ?hs36013 (fun hHeld => ?go36013)
     case hs36013 => exact ⟨by (first | exact HMt3.out _ (by solve_by_elim [X0, X1, X2, X3]) | exact MAt3.out _ (by solve_by_elim [X0, X1, X2, X3])), by exact trivial⟩
     refine TB 0 (v := ?v36014) ⟨fun _ => hHeld.1, hHeld.2⟩ ?hy36014 ?_
     case hy36014 => (intro w hSw; (try dsimp only at hSw); go_simp <;> first | with_reducible rfl | rw [if_neg (by omega)] | rw [if_pos (by omega)])
     (try simp only [PU])
     refine TA 1 (v := ?v36015) hHeld ?hy36015 ?_
     case hy36015 => (intro w hSw; (try dsimp only at hSw); go_simp <;> first | with_reducible rfl | rw [if_neg (by omega)] | rw [if_pos (by omega)])
     (try simp only [PU])
     refine TB 2 (v := ?v36016) ⟨fun _ => hHeld.1, hHeld.2⟩ ?hy36016 ?_
     case hy36016 => (intro w hSw; (try dsimp only at hSw); go_simp <;> first | with_reducible rfl | rw [if_neg (by omega)] | rw [if_pos (by omega)])
     (try simp only [PU])
     refine TB 3 (v := ?v36017) ⟨fun _ => hHeld.1, hHeld.2⟩ ?hy36017 ?_
     case hy36017 => (intro w hSw; (try dsimp only at hSw); go_simp <;> first | with_reducible rfl | rw [if_neg (by omega)] | rw [if_pos (by omega)])
     (try simp only [PU])
     refine TB 4 (v := ?v36018) ⟨fun _ => hHeld.1, hHeld.2⟩ ?hy36018 ?_
     case hy36018 => (intro w hSw; (try dsimp only at hSw); go_simp <;> first | with_reducible rfl | rw [if_neg (by omega)] | rw [if_pos (by omega)])
     (try simp only [PU])
     refine TB 5 (v := ?v36019) ⟨fun _ => hHeld.1, hHeld.2⟩ ?hy36019 ?_
     case hy36019 => (intro w hSw; (try dsimp only at hSw); go_simp <;> first | with_reducible rfl | rw [if_neg (by omega)] | rw [if_pos (by omega)])
     (try simp only [PU])
     refine TA 6 (v := ?v36020) hHeld ?hy36020 ?_
     case hy36020 => (intro w hSw; (try dsimp only at hSw); go_simp <;> first | with_reducible rfl | rw [if_neg (by omega)] | rw [if_pos (by omega)])
     (try simp only [PU])
     refine AnyT.ready (rs := [7]) (by kernel_rfl) (by simp) ?_
     refine AllT.cons (o := ⟨_, _, _, _, _, _⟩) rfl (fun K hK => ?step36021x0) ?more36021x0
     case more36021x0 => exact AllT.nil
     go_simp
     refine hK.out _ _ ?hS36021x0 (fun H36021 => ?_)
     case hS36021x0 => exact ⟨fun _ => by (first | exact HMt3.out _ (by solve_by_elim [X0, X1, X2, X3]) | exact MAt3.out _ (by solve_by_elim [X0, X1, X2, X3])), by exact trivial⟩
     clear hK K
     clear hHeld
     (try simp only [PU])
     refine AnyT.ready (rs := [8]) (by kernel_rfl) (by simp) ?_
     refine AllT.cons (o := ⟨_, _, _, _, _, _⟩) rfl (fun K hK => ?step36022x0) ?more36022x0
     case more36022x0 => exact AllT.nil
     (refine step_pushAt T_ki rfl (.tmp 57) (.tmp 63) rfl rfl (OwnG.ext HPct2.out.c4.e (by solve_by_elim [X0, X1, X2, X3])) (Nat.le_trans HPct2.out.le (Ext.le (a := wt2c) (by solve_by_elim [X0, X1, X2, X3]))) x2 trivial ⟨_, 0, none⟩ 1 rfl (int_cell (by go_simp)) hm3 (by decide) ?_; intro va0 wt3a hO hg hd; obtain ⟨At3a, nt3a, ct3a, rfl⟩ := own_fm hO; have hPa := (HPct2.out.exts (W' := _) (by solve_by_elim [X0, X1, X2, X3])).pushE hO hg (Nat.le_refl _) hd; have MAt3 := Lib.hid (fun V (e : Ext wt3a V) => (⟨e.cell hPa.bx.2.2.2, (HCS.out V (hPa.ext.trans e)).2.2⟩ : V.cell? ⟨q3, 3, none⟩ = some vE ∧ V.cell? ⟨b, o + k * 3 + 2, none⟩ = some (.int .i64 x2))); have zqt3 := hPa.bx.2.2.2; have zft3 := hPa.fz.2.2.2; have hPc := hPa.put3 (.slice At3a nt3a ct3a); obtain ⟨wt3c, hwt3c⟩ : ∃ W, W = wt3a.setCell ⟨q3, 3, none⟩ (.slice At3a nt3a ct3a) := ⟨_, rfl⟩; rw [← hwt3c] at hPc; have HPct3 := Lib.hid hPc; clear hO hg hd hPa hPc)
     refine hK.out _ _ ?hS36022x0 (fun H36022 => ?_)
     case hS36022x0 => exact ⟨fun _ => by (first | exact HMt3.out _ (by solve_by_elim [X0, X1, X2, X3]) | exact MAt3.out _ (by solve_by_elim [X0, X1, X2, X3])), by exact trivial⟩
     clear hK K
     clear H36021
     (try simp only [PU])
     refine TB 9 (v := ?v36023) H36022 ?hy36023 ?_
     case hy36023 => (intro w hSw; (try dsimp only at hSw); go_simp <;> first | with_reducible rfl | rw [if_neg (by omega)] | rw [if_pos (by omega)])
     (try simp only [PU])
     refine AnyT.ready (rs := [10]) (by kernel_rfl) (by simp) ?_
     refine AllT.cons (o := ⟨_, _, _, _, _, _⟩) rfl (fun K hK => ?step36024x0) ?more36024x0
     case more36024x0 => exact AllT.nil
     go_simp
     (rw [← hwt3c]; clear hwt3c)
     refine hK.out _ _ ?hS36024x0 (fun H36024 => ?_)
     case hS36024x0 => exact ⟨fun h => (by first | exact absurd h (by decide) | simp at h), by exact trivial⟩
     clear hK K
     clear H36022
     refine AnyT.done (by kernel_rfl) ?_ _
     clear H36024
     go_wp2_with fail
     go_roundw
     case rel => exact ⟨k + 1, _, _, _, _, by go_num, by omega, Lib.hid (by rw [← HQC.out, HC.out]; exact HPct3.out)⟩
     case measure => simp [intOf]; omega
  ·have hke : k = n := by omega
   obtain ⟨hl0, hl1, hl2, hl3⟩ := packK_len s k
   rw [hke] at HP hl0 hl1 hl2 hl3
   clear HV hke hk
   by_cases h0 : s = []
   ·have hn0 : n = 0 := by rw [← HSL.out, h0]; rfl
    have hlen : decide (0 < n) = false := by rw [hn0]; rfl
    have hlenI : decide (0 < (n : Int)) = false := by rw [hn0]; rfl
    have HPK := Lib.hid (HR.out.trans (by subst h0; rw [hn0]; rfl : packC s = packK s n))
    clear h0 HR hn0 HSL
    generalize packK s n = C at *
    obtain ⟨r0, r1, r2, r3⟩ := HP.out.rx
    obtain ⟨f0, f1, f2, f3⟩ := HP.out.rz
    obtain ⟨z0, z1, z2, z3⟩ := HP.out.bx
    obtain ⟨A0, B0, C0, D0, k0, k1, k2, k3, e0, e1, e2, e3, -⟩ := HP.out.c4.col ⟨(by show C.nodes.length ≤ 8000000; omega), (by show C.first.length ≤ 8000001; first | omega | (simp; omega)), (by show C.tos.length ≤ 8000000; omega), (by show C.edges.length ≤ 8000000; omega)⟩
    try cases e0
    try cases e2
    try cases e3
    cases e1
    have hfin := HP.out.fin HQX.out.1 HQX.out.2 (.slice A0 C.nodes.length k0) (.slice B0 C.first.length k1) (.slice C0 C.tos.length k2) (.slice D0 C.edges.length k3)
    have hd := set4 HP.out.rx (.slice A0 C.nodes.length k0) (.slice B0 C.first.length k1) (.slice C0 C.tos.length k2) (.slice D0 C.edges.length k3)
    obtain ⟨w8, hw8⟩ : ∃ W, W = ((((wr.setCell ⟨q2, 0, none⟩ (.slice A0 C.nodes.length k0)).setCell ⟨q2, 1, none⟩ (.slice B0 C.first.length k1)).setCell ⟨q2, 2, none⟩ (.slice C0 C.tos.length k2)).setCell ⟨q2, 3, none⟩ (.slice D0 C.edges.length k3)) := ⟨_, rfl⟩
    rw [← hw8] at hfin hd
    obtain ⟨d0, d1, d2, d3⟩ := hd
    have HF := Lib.hid hfin
    have HBB := Lib.hid (Nat.le_trans HQX.out.1.le HP.out.hb)
    clear hfin
    go_wp2_with fail
    (try simp only [Exit.inBlock, Exit.then])
    rw [← hw8]
    clear hw8 r0 r1 r2 r3 f0 f1 f2 f3 z0 z1 z2 z3
    refine bodyPost_ret (v := .agg #[.slice A0 C.nodes.length k0, .slice B0 C.first.length k1, .slice C0 C.tos.length k2, .slice D0 C.edges.length k3]) (by simp [results, Tryz.results26, go_sem, *]) rfl ?_
    rw [HPK.out]
    obtain ⟨A1, B1, C1, D1, j0, j1, j2, j3, e0, e1, e2, e3, hcol⟩ := HF.out.2.col ⟨(by show C.nodes.length ≤ 8000000; omega), (by show C.first.length ≤ 8000001; first | omega | (simp; omega)), (by show C.tos.length ≤ 8000000; omega), (by show C.edges.length ≤ 8000000; omega)⟩
    cases e0
    cases e2
    cases e3
    cases e1
    first | exact ⟨A0, B0, C0, D0, k0, k1, k2, k3, rfl, ⟨SliceR.mono hcol.n (fun _ _ _ _ hx => ⟨Nat.le_trans HBB.out hx.1, hx.2⟩), SliceR.mono hcol.f (fun _ _ _ _ hx => ⟨Nat.le_trans HBB.out hx.1, hx.2⟩), SliceR.mono hcol.t (fun _ _ _ _ hx => ⟨Nat.le_trans HBB.out hx.1, hx.2⟩), SliceR.mono hcol.e (fun _ _ _ _ hx => ⟨Nat.le_trans HBB.out hx.1, hx.2⟩)⟩, HF.out.1⟩ | exact ⟨A0, B0, C0, D0, ⟨k0, k1, k2, k3, rfl⟩, ⟨SliceR.mono hcol.n (fun _ _ _ _ hx => ⟨Nat.le_trans HBB.out hx.1, hx.2⟩), SliceR.mono hcol.f (fun _ _ _ _ hx => ⟨Nat.le_trans HBB.out hx.1, hx.2⟩), SliceR.mono hcol.t (fun _ _ _ _ hx => ⟨Nat.le_trans HBB.out hx.1, hx.2⟩), SliceR.mono hcol.e (fun _ _ _ _ hx => ⟨Nat.le_trans HBB.out hx.1, hx.2⟩)⟩, HF.out.1⟩
   ·have hn0 : 0 < n := by rw [← HSL.out]; exact List.length_pos_iff.2 h0
    have hlen : decide (0 < n) = true := decide_eq_true hn0
    have hlenI : decide (0 < (n : Int)) = true := decide_eq_true (by omega)
    have HPK := Lib.hid (HR.out.trans (by unfold packC; rw [if_neg h0, HSL.out] : packC s = { packK s n with first := (packK s n).first ++ [(n : Int)] }))
    clear h0 HR HSL
    generalize packK s n = C at *
    have hm1 : C.first.length + 1 ≤ 8388608 := by omega
    obtain ⟨z0, z1, z2, z3⟩ := HP.out.bx
    obtain ⟨r0, r1, r2, r3⟩ := HP.out.rx
    go_upto_region 13 with (at_builtin; go_loud (refine own_pushG (v := vF) (hs := C.first) T_ki rfl (.tmp 70) (.tmp 73) rfl wr rfl HP.out.c4.f HP.out.le (n : Int) trivial rfl _ rfl rfl hm1 (by decide) ?_); intro v6 w6 hO6 hg6 hd6; obtain ⟨A6, n6, c6, rfl⟩ := own_fm hO6; have hP6 := HP.out.pushF hO6 hg6 (Nat.le_succ _) hd6; have zq := hP6.bx.2.1; have zf := hP6.fz.2.1; have hP7 := hP6.put1 (.slice A6 n6 c6); obtain ⟨w7, hw7⟩ : ∃ W, W = w6.setCell ⟨q3, 1, none⟩ (.slice A6 n6 c6) := ⟨_, rfl⟩; rw [← hw7] at hP7; have HP7 := Lib.hid hP7; clear hP6 hP7 hO6 hg6 hd6)
    rw [← hw7]
    clear hw7 HP z0 z1 z2 z3 r0 r1 r2 r3 zq zf
    obtain ⟨r0, r1, r2, r3⟩ := HP7.out.rx
    obtain ⟨f0, f1, f2, f3⟩ := HP7.out.rz
    obtain ⟨z0, z1, z2, z3⟩ := HP7.out.bx
    obtain ⟨A0, B0, C0, D0, k0, k1, k2, k3, e0, e1, e2, e3, -⟩ := HP7.out.c4.col ⟨(by show C.nodes.length ≤ 8000000; omega), (by show (C.first ++ [(n : Int)]).length ≤ 8000001; first | omega | (simp; omega)), (by show C.tos.length ≤ 8000000; omega), (by show C.edges.length ≤ 8000000; omega)⟩
    try cases e0
    try cases e2
    try cases e3
    have e9 : n6 = C.first.length + 1 := by
     injection e1 with _ h _
     rw [h]
     show (C.first ++ [(n : Int)]).length = _
     simp
    clear e1
    subst e9
    have hfin := HP7.out.fin HQX.out.1 HQX.out.2 (.slice A0 C.nodes.length k0) (.slice A6 (C.first.length + 1) c6) (.slice C0 C.tos.length k2) (.slice D0 C.edges.length k3)
    have hd := set4 HP7.out.rx (.slice A0 C.nodes.length k0) (.slice A6 (C.first.length + 1) c6) (.slice C0 C.tos.length k2) (.slice D0 C.edges.length k3)
    obtain ⟨w8, hw8⟩ : ∃ W, W = ((((w7.setCell ⟨q2, 0, none⟩ (.slice A0 C.nodes.length k0)).setCell ⟨q2, 1, none⟩ (.slice A6 (C.first.length + 1) c6)).setCell ⟨q2, 2, none⟩ (.slice C0 C.tos.length k2)).setCell ⟨q2, 3, none⟩ (.slice D0 C.edges.length k3)) := ⟨_, rfl⟩
    rw [← hw8] at hfin hd
    obtain ⟨d0, d1, d2, d3⟩ := hd
    have HF := Lib.hid hfin
    have HBB := Lib.hid (Nat.le_trans HQX.out.1.le HP7.out.hb)
    clear hfin
    go_wp2_with fail
    (try simp only [Exit.inBlock, Exit.then])
    rw [← hw8]
    clear hw8 r0 r1 r2 r3 f0 f1 f2 f3 z0 z1 z2 z3
    refine bodyPost_ret (v := .agg #[.slice A0 C.nodes.length k0, .slice A6 (C.first.length + 1) c6, .slice C0 C.tos.length k2, .slice D0 C.edges.length k3]) (by simp [results, Tryz.results26, go_sem, *]) rfl ?_
    rw [HPK.out]
    obtain ⟨A1, B1, C1, D1, j0, j1, j2, j3, e0, e1, e2, e3, hcol⟩ := HF.out.2.col ⟨(by show C.nodes.length ≤ 8000000; omega), (by show (C.first ++ [(n : Int)]).length ≤ 8000001; first | omega | (simp; omega)), (by show C.tos.length ≤ 8000000; omega), (by show C.edges.length ≤ 8000000; omega)⟩
    cases e0
    cases e2
    cases e3
    injection e1 with h1 h2 h3
    subst h1 h3
    first | exact ⟨A0, A6, C0, D0, k0, c6, k2, k3, (by simp [agC]), ⟨SliceR.mono hcol.n (fun _ _ _ _ hx => ⟨Nat.le_trans HBB.out hx.1, hx.2⟩), SliceR.mono hcol.f (fun _ _ _ _ hx => ⟨Nat.le_trans HBB.out hx.1, hx.2⟩), SliceR.mono hcol.t (fun _ _ _ _ hx => ⟨Nat.le_trans HBB.out hx.1, hx.2⟩), SliceR.mono hcol.e (fun _ _ _ _ hx => ⟨Nat.le_trans HBB.out hx.1, hx.2⟩)⟩, HF.out.1⟩ | exact ⟨A0, A6, C0, D0, ⟨k0, c6, k2, k3, (by simp [agC])⟩, ⟨SliceR.mono hcol.n (fun _ _ _ _ hx => ⟨Nat.le_trans HBB.out hx.1, hx.2⟩), SliceR.mono hcol.f (fun _ _ _ _ hx => ⟨Nat.le_trans HBB.out hx.1, hx.2⟩), SliceR.mono hcol.t (fun _ _ _ _ hx => ⟨Nat.le_trans HBB.out hx.1, hx.2⟩), SliceR.mono hcol.e (fun _ _ _ _ hx => ⟨Nat.le_trans HBB.out hx.1, hx.2⟩)⟩, HF.out.1⟩
end Go.Proofs.YtnheioehadldmaaGreat

/- THE WALK over the reference's Of. -/
namespace Go.Proofs.YtnheioehadldmaaGreat
open Go.RowKit
theorem ColAt.none (w : World) (ok : Nat → Prop) : ColAt w ok Option.none Option.none Option.none Option.none noCol := ⟨SliceR.nil _ _ _, SliceR.nil _ _ _, SliceR.nil _ _ _, SliceR.nil _ _ _⟩
theorem Nums.put {W : World} {ok : Nat → Prop} {A : Option Addr} {l : List Int} (h : Nums W ok A l) {q : Nat} (hq : ¬ ok q) (j : Nat) (u : Value) : Nums (W.setCell ⟨q, j, none⟩ u) ok A l := SliceR.mono h (fun b _ _ _ hx => ⟨hx.1, (World.cell?_setCell_far _ _ _ _ (fun e => hq (by have : q = b := e; rw [this]; exact hx.1))).trans hx.2⟩)
theorem ColAt.put {W : World} {ok : Nat → Prop} {A B C D : Option Addr} {c : Col} (h : ColAt W ok A B C D c) {q : Nat} (hq : ¬ ok q) (j : Nat) (u : Value) : ColAt (W.setCell ⟨q, j, Option.none⟩ u) ok A B C D c := ⟨h.n.put hq j u, h.f.put hq j u, h.t.put hq j u, h.e.put hq j u⟩
theorem ColAt.to {W : World} {ok ok' : Nat → Prop} {A B C D : Option Addr} {c : Col} (h : ColAt W ok A B C D c) (ho : ∀ b, ok b → ok' b) : ColAt W ok' A B C D c := ⟨SliceR.mono h.n (fun _ _ _ _ hx => ⟨ho _ hx.1, hx.2⟩), SliceR.mono h.f (fun _ _ _ _ hx => ⟨ho _ hx.1, hx.2⟩), SliceR.mono h.t (fun _ _ _ _ hx => ⟨ho _ hx.1, hx.2⟩), SliceR.mono h.e (fun _ _ _ _ hx => ⟨ho _ hx.1, hx.2⟩)⟩
theorem ofR_bad {l : List Sh} {k : Nat} (hk : k < l.length) (h : okS l[k]! = false) : ofR l = (1, noCol) := by
 unfold ofR
 rw [if_neg (fun e => by have := List.all_eq_true.1 e l[k]! (by rw [getElem!_pos l k hk]; exact List.getElem_mem hk); rw [h] at this; cases this)]
end Go.Proofs.YtnheioehadldmaaGreat
