/- PARTS OF THE WALKS, joined: CoJ, CpF, CpG, CoL. -/
import Derived.Test.YtnheioehadldmaaT12
import Derived.Test.YtnheioehadldmaaT07
import Derived.Test.YtnheioehadldmaaT11
import Derived.Test.YtnheioehadldmaaShelfG
import Derived.Shelf.SlSortCmp.NoneTotal
/- THE WALK over the reference's Sorted. -/
namespace Go.Proofs.Ytnheioehadldmaa
open Go.RowKit
/-- x slides down into S, to place k -/
def slideK (S : List Sh) (x : Sh) (k : Nat) : List Sh := S.take k ++ x :: S.drop k
theorem slide_len {S : List Sh} {x : Sh} {k : Nat} (hk : k ≤ S.length) : (slideK S x k).length = S.length + 1 := by unfold slideK; simp; omega
theorem slide_end (S : List Sh) (x : Sh) : slideK S x S.length = S ++ [x] := by unfold slideK; simp
theorem slide_at {S : List Sh} {x : Sh} {k : Nat} (hk : k ≤ S.length) : (slideK S x k)[k]! = x := bang_of (by unfold slideK; rw [List.getElem?_append_right (by rw [List.length_take]; omega), List.length_take]; simp [Nat.min_eq_left hk])
theorem slide_pre {S : List Sh} {x : Sh} {k j : Nat} (hk : k ≤ S.length) (hj : j < k) : (slideK S x k)[j]! = S[j]! := bang_of (by unfold slideK; rw [List.getElem?_append_left (by simp; omega), List.getElem?_take, if_pos hj]; exact some_bang (by omega))
theorem slide_swap {S : List Sh} {x : Sh} {k j : Nat} (hkj : k = j + 1) (hk : k ≤ S.length) : ((slideK S x k).set k S[j]!).set j x = slideK S x j := by
 subst hkj
 unfold slideK
 have h1 : S.take (j + 1) = S.take j ++ [S[j]!] := by rw [List.take_succ_eq_append_getElem (by omega), getElem!_pos S j (by omega)]
 have h2 : S.drop j = S[j]! :: S.drop (j + 1) := by rw [List.drop_eq_getElem_cons (by omega), getElem!_pos S j (by omega)]
 have hl : (S.take j).length = j := by rw [List.length_take]; omega
 rw [h1, h2, List.append_assoc]
 rw [List.set_append_right _ _ (by omega), hl, List.set_append_right _ _ (by omega), hl]
 simp
theorem slide_perm (S : List Sh) (x : Sh) (k : Nat) : (slideK S x k).Perm (S ++ [x]) := by
 unfold slideK
 refine List.perm_middle.trans ?_
 rw [List.take_append_drop]
 exact (List.perm_append_singleton x S).symm
theorem slide_rise {S : List Sh} {x : Sh} {k : Nat} (hS : S.Pairwise (fun a b => adjOrd a b ≤ 0)) (hk : k ≤ S.length) (hlo : ∀ j, k = j + 1 → ¬ adjOrd x S[j]! < 0) (hhi : ∀ j, k ≤ j → j < S.length → adjOrd x S[j]! < 0) : (slideK S x k).Pairwise (fun a b => adjOrd a b ≤ 0) := by
 unfold slideK
 have hb := List.pairwise_iff_getElem.1 hS
 rw [List.pairwise_append, List.pairwise_cons]
 have hd : ∀ b ∈ S.drop k, adjOrd x b ≤ 0 := fun b h => by
  obtain ⟨j, hj, rfl⟩ := List.getElem_of_mem h
  rw [List.getElem_drop]
  rw [List.length_drop] at hj
  have := hhi (k + j) (by omega) (by omega)
  rw [getElem!_pos S (k + j) (by omega)] at this
  omega
 have ht : ∀ a ∈ S.take k, adjOrd a x ≤ 0 := fun a h => by
  obtain ⟨j, hj, rfl⟩ := List.getElem_of_mem h
  rw [List.getElem_take]
  rw [List.length_take] at hj
  cases k with
  | zero => omega
  | succ m =>
   have h1 := hlo m rfl
   rw [getElem!_pos S m (by omega)] at h1
   have h2 := TotC.adj.anti x S[m]
   rcases Nat.eq_or_lt_of_le (show j ≤ m by omega) with e | e
   ·subst e; omega
   ·exact TotC.adj.trans _ _ _ (hb j m (by omega) (by omega) e) (by omega)
 refine ⟨hS.sublist (List.take_sublist _ _), ⟨hd, hS.sublist (List.drop_sublist _ _)⟩, fun a ha b hb' => ?_⟩
 rcases List.mem_cons.1 hb' with e | e
 ·subst e; exact ht a ha
 ·exact TotC.adj.trans _ _ _ (ht a ha) (hd b e)
theorem slide_sort {l : List Sh} {i k : Nat} (hi : i < l.length) (hk : k ≤ i) (hlo : ∀ j, k = j + 1 → ¬ adjOrd l[i]! (sortO adjOrd (l.take i))[j]! < 0) (hhi : ∀ j, k ≤ j → j < i → adjOrd l[i]! (sortO adjOrd (l.take i))[j]! < 0) : slideK (sortO adjOrd (l.take i)) l[i]! k = sortO adjOrd (l.take (i + 1)) := by
 have hl : (sortO adjOrd (l.take i)).length = i := by rw [sortO_len TotC.adj, List.length_take]; omega
 refine sortO_eq TotC.adj ((slide_perm _ _ _).trans ?_) (slide_rise (sortO_rise TotC.adj _) (by omega) hlo (fun j h1 h2 => hhi j h1 (by omega)))
 rw [List.take_succ_eq_append_getElem hi, getElem!_pos l i hi]
 exact (sortO_perm TotC.adj _).append_right _
theorem OA.form {W : World} {base : Nat} {v : Value} {l : List Sh} (h : OA W base v l) (h0 : l ≠ []) : ∃ g c, v = .slice (some ⟨g, 0, none⟩) l.length c ∧ base ≤ g := by
 obtain ⟨A, c, rfl⟩ := OwnG.form h
 obtain ⟨g, rfl, hb, -⟩ := OwnG.cellAt h (i := 0) (List.length_pos_iff.2 h0)
 exact ⟨g, c, rfl, hb⟩
theorem OA.cells {W : World} {base g n c : Nat} {l : List Sh} (h : OA W base (.slice (some ⟨g, 0, none⟩) n c) l) {i : Nat} (hi : i < l.length) : (W.cell? ⟨g, i * 3, none⟩ = some (.int .i64 l[i]!.id) ∧ W.cell? ⟨g, i * 3 + 1, none⟩ = some (.int .i64 l[i]!.n) ∧ W.cell? ⟨g, i * 3 + 2, none⟩ = some (.int .i64 l[i]!.d)) ∧ W.frozen? ⟨g, i * 3, none⟩ = false ∧ W.frozen? ⟨g, i * 3 + 1, none⟩ = false ∧ W.frozen? ⟨g, i * 3 + 2, none⟩ = false := by
 obtain ⟨g', hg, -, -, -, -, hc⟩ := OwnG.cellAt h hi
 injection hg with hg
 injection hg with hg
 subst hg
 rw [getElem!_pos l i hi]
 exact ⟨⟨(hc 0 (by decide)).1, (hc 1 (by decide)).1, (hc 2 (by decide)).1⟩, (hc 0 (by decide)).2, (hc 1 (by decide)).2, (hc 2 (by decide)).2⟩
theorem OA.put {W : World} {base g n c : Nat} {l : List Sh} (h : OA W base (.slice (some ⟨g, 0, none⟩) n c) l) {i : Nat} (_hi : i < l.length) (y : Sh) : OA (((W.setCell ⟨g, i * 3, none⟩ (.int .i64 y.id)).setCell ⟨g, i * 3 + 1, none⟩ (.int .i64 y.n)).setCell ⟨g, i * 3 + 2, none⟩ (.int .i64 y.d)) base (.slice (some ⟨g, 0, none⟩) n c) (l.set i y) ∧ W.grownBy (((W.setCell ⟨g, i * 3, none⟩ (.int .i64 y.id)).setCell ⟨g, i * 3 + 1, none⟩ (.int .i64 y.n)).setCell ⟨g, i * 3 + 2, none⟩ (.int .i64 y.d)) (some g) := by
 obtain ⟨A, c', hv⟩ := OwnG.form h
 injection hv with h1 h2 h3
 subst h2
 obtain ⟨k0, g0⟩ := World.ownsRow.stored h.own (i * 3) (.int .i64 y.id)
 obtain ⟨k1, g1⟩ := World.ownsRow.stored k0 (i * 3 + 1) (.int .i64 y.n)
 obtain ⟨k2, g2⟩ := World.ownsRow.stored k1 (i * 3 + 2) (.int .i64 y.d)
 refine ⟨⟨?_, fun _ _ => trivial⟩, grown_two g0 (grown_two g1 g2)⟩
 have e : l.flatMap KA.enc = l.flatMap Sh.cells := rfl
 rw [e, flat_set3] at k2
 rw [List.length_set]
 exact k2
set_option maxRecDepth 100000 in
set_option maxHeartbeats 3200000 in
theorem r12_Sorted (l : List Sh) (ok : Nat → Prop) (A : Option Addr) (c : Nat) (w : World) (hv : Shares w ok A l) (hl : l.length ≤ 8000000) :
  Calls Try.prog 24 #[.slice A l.length c] w fun e w' => ∃ A' c', e = .returned (.slice A' l.length c') ∧ l.length ≤ c' ∧ Shares w' (fun b => w.heap.size ≤ b) A' (sortO adjOrd l) ∧ Ext w w' := by
 have HV := Lib.hid hv
 have HSL := Lib.hid (fun i (hi : i ≤ l.length) => (by rw [sortO_len TotC.adj, List.length_take]; omega : (sortO adjOrd (l.take i)).length = i))
 have HEN := Lib.hid (by rw [List.take_length] : sortO adjOrd (l.take l.length) = sortO adjOrd l)
 have HDN := Lib.hid (fun i k (hi : i < l.length) => slide_sort (l := l) (i := i) (k := k) hi)
 clear hv
 go_enter Try.func24, Try.ntmps24
 go_wp2_with fail
 go_loopw [3, 4] (fun v3 u W => ∃ (vO : Value) (i : Nat), vO = v3 ∧ u = .int .i64 i ∧ i ≤ l.length ∧ Hid (OA W w.heap.size vO (sortO adjOrd (l.take i))) ∧ Hid (Ext w W)) (fun _ u _ => l.length - (intOf u).toNat)
 case atStart => exact ⟨_, 0, rfl, rfl, Nat.zero_le _, Lib.hid (OwnG.nil _ _ _ _ _), Lib.hid (Ext.refl _)⟩
 case round =>
  obtain ⟨vO, i, rfl, rfl, hi, HO, hE⟩ := hrel
  by_cases hlt : i < l.length
  ·obtain ⟨b, o, rfl, hc⟩ := HV.out.at_ hlt
   obtain ⟨-, d0, d1, d2⟩ := hc i hlt
   replace d0 := hE.out.cell d0
   replace d1 := hE.out.cell d1
   replace d2 := hE.out.cell d2
   have hsl := HSL.out i hi
   have HD := Lib.hid (fun k => HDN.out i k hlt)
   obtain ⟨N, hN⟩ : ∃ N, N = sortO adjOrd (l.take (i + 1)) := ⟨_, rfl⟩
   rw [← hN] at HD
   have HN := Lib.hid hN
   clear hN hc HSL HDN HEN
   generalize sortO adjOrd (l.take i) = S at *
   generalize hx : l[i]! = x at *
   obtain ⟨x0, x1, x2⟩ := x
   have hm8 : S.length + 1 ≤ 8388608 := by omega
   clear hx
   go_upto_region 6 with (at_builtin; go_loud (refine own_pushG (v := vO) (hs := S) T_ka rfl (.tmp 13) (.tmp 18) rfl wr rfl HO.out hE.out.le (⟨x0, x1, x2⟩ : Sh) trivial rfl _ rfl rfl hm8 (by decide) ?_); intro v6 w6 hO6 hg6 hd6; obtain ⟨g, c6, rfl, hgb⟩ := OA.form hO6 (by simp))
   have HGB := Lib.hid hgb
   have hE6 : Ext w w6 := hE.out.grown hg6 (fun b e => (OwnG.lt HO.out e).1)
   have hml : (S ++ [(⟨x0, x1, x2⟩ : Sh)]).length = i + 1 := by simp [hsl]
   rw [hml] at hO6
   rw [← slide_end, hsl] at hO6
   have HO6 := Lib.hid hO6
   have HE6 := Lib.hid hE6
   clear hO6 hg6 hd6 hE6 HO hgb d0 d1 d2 hml hE
   go_wp2_with fail
   go_loopw [5] (fun u W => ∃ k : Nat, u = .int .i64 k ∧ k ≤ i ∧ Hid (OA W w.heap.size (.slice (some ⟨g, 0, none⟩) (i + 1) c6) (slideK S ⟨x0, x1, x2⟩ k)) ∧ Hid (∀ j, k ≤ j → j < i → adjOrd ⟨x0, x1, x2⟩ S[j]! < 0) ∧ Hid (Ext w W)) (fun u _ => (intOf u).toNat)
   case atStart => exact ⟨i, rfl, Nat.le_refl _, HO6, Lib.hid (fun j h1 h2 => absurd h1 (by omega)), HE6⟩
   case round =>
    clear HO6 HE6
    obtain ⟨k, rfl, hk, HO, HAL', hE⟩ := hrel
    by_cases hk0 : k = 0
    ·have HNX := Lib.hid (by rw [← HN.out, ← HD.out k hk (fun j h => by omega) HAL'.out]; exact HO.out : OA wr w.heap.size (.slice (some ⟨g, 0, none⟩) (i + 1) c6) (sortO adjOrd (l.take (i + 1))))
     have g0 : decide (0 < (k : Int)) = false := decide_eq_false (by omega)
     have g1 : decide (0 < k) = false := decide_eq_false (by omega)
     clear hk0 HD HN HO HAL'
     go_upto_region 7 with (fail)
     refine wp_region_held_drew (S := (fun _ => True)) (by kernel_rfl) ?hs34001 (fun hHeld => ?go34001)
     case hs34001 => (exact trivial)
     refine TK 0 (v := ?v34002) hHeld ?hy34002 ?_
     case hy34002 => (intro w hSw; (try dsimp only at hSw); go_simp <;> first | with_reducible rfl | rw [if_neg (by omega)] | rw [if_pos (by omega)])
     (try simp only [PU])
     refine TK 1 (v := ?v34003) hHeld ?hy34003 ?_
     case hy34003 => (intro w hSw; (try dsimp only at hSw); go_simp <;> first | with_reducible rfl | rw [if_neg (by omega)] | rw [if_pos (by omega)])
     (try simp only [PU])
     refine TK 2 (v := ?v34004) hHeld ?hy34004 ?_
     case hy34004 => (intro w hSw; (try dsimp only at hSw); go_simp <;> first | with_reducible rfl | rw [if_neg (by omega)] | rw [if_pos (by omega)])
     (try simp only [PU])
     refine TN 3 hHeld ?_
     (try simp only [PU])
     refine TN 4 hHeld ?_
     (try simp only [PU])
     refine TN 5 hHeld ?_
     (try simp only [PU])
     refine TN 6 hHeld ?_
     (try simp only [PU])
     refine TN 7 hHeld ?_
     (try simp only [PU])
     refine TN 8 hHeld ?_
     (try simp only [PU])
     refine TN 9 hHeld ?_
     (try simp only [PU])
     refine TN 10 hHeld ?_
     (try simp only [PU])
     refine TN 11 hHeld ?_
     (try simp only [PU])
     refine TN 12 hHeld ?_
     (try simp only [PU])
     refine TK 13 (v := ?v34015) hHeld ?hy34015 ?_
     case hy34015 => (intro w hSw; (try dsimp only at hSw); go_simp <;> first | with_reducible rfl | rw [if_neg (by omega)] | rw [if_pos (by omega)])
     (try simp only [PU])
     refine wpAnyH_done (by kernel_rfl) ?_ _
     clear hHeld
     go_wp2_with fail
     go_roundw
     case rel => exact ⟨_, i + 1, rfl, by go_num, by omega, Lib.hid (OwnG.ext HNX.out (by solve_by_elim [X0, X1, X2, X3])), Lib.hid (hE.out.trans (by solve_by_elim [X0, X1, X2, X3]))⟩
     case measure => simp [intOf]; omega
    ·obtain ⟨j, hj⟩ : ∃ j, k = j + 1 := ⟨k - 1, by omega⟩
     have g0 : decide (0 < (k : Int)) = true := decide_eq_true (by omega)
     have g1 : decide (0 < k) = true := decide_eq_true (by omega)
     have wj : IntKind.i64.wrap ((k : Int) - 1) = (j : Int) := by rw [IntKind.wrap_i64]; omega
     have hjlt : j < k := by omega
     have hjm : j < i + 1 := by omega
     have hkm : k < i + 1 := by omega
     obtain ⟨⟨a0, a1, a2⟩, -⟩ := OA.cells HO.out (i := k) (by rw [slide_len (by omega)]; omega)
     obtain ⟨⟨b0, b1, b2⟩, -⟩ := OA.cells HO.out (i := j) (by rw [slide_len (by omega)]; omega)
     rw [slide_at (by omega)] at a0 a1 a2
     rw [slide_pre (by omega) (by omega)] at b0 b1 b2
     have HSW := Lib.hid (slide_swap (S := S) (x := ⟨x0, x1, x2⟩) hj (by omega))
     have HLO := Lib.hid (fun (h : ¬ adjOrd ⟨x0, x1, x2⟩ S[j]! < 0) => HD.out k hk (fun j' h' => by rw [show j' = j by omega]; omega) HAL'.out)
     have HAL := Lib.hid (fun (h : adjOrd ⟨x0, x1, x2⟩ S[j]! < 0) => Lib.hid (fun j' (h1 : j ≤ j') (h2 : j' < i) => if e : j' = j then (by rw [e]; exact h) else HAL'.out j' (by omega) h2))
     generalize hy : S[j]! = y at *
     obtain ⟨y0, y1, y2⟩ := y
     have HLS := Lib.hid (fun W (_ : Ext wr W) => r12_Less ⟨x0, x1, x2⟩ ⟨y0, y1, y2⟩ W)
     have MK := Lib.hid (fun V (e : Ext wr V) => (⟨⟨e.cell a0, e.cell a1, e.cell a2⟩, e.cell b0, e.cell b1, e.cell b2⟩ : (V.cell? ⟨g, k * 3, none⟩ = some (.int .i64 x0) ∧ V.cell? ⟨g, k * 3 + 1, none⟩ = some (.int .i64 x1) ∧ V.cell? ⟨g, k * 3 + 2, none⟩ = some (.int .i64 x2)) ∧ (V.cell? ⟨g, j * 3, none⟩ = some (.int .i64 y0) ∧ V.cell? ⟨g, j * 3 + 1, none⟩ = some (.int .i64 y1) ∧ V.cell? ⟨g, j * 3 + 2, none⟩ = some (.int .i64 y2))))
     clear hk0 HD hy HAL' hj
     cases hls : decide (adjOrd ⟨x0, x1, x2⟩ ⟨y0, y1, y2⟩ < 0)
     ·rw [hls] at HLS
      have HNX := Lib.hid (by rw [← HN.out, ← HLO.out (of_decide_eq_false hls)]; exact HO.out : OA wr w.heap.size (.slice (some ⟨g, 0, none⟩) (i + 1) c6) (sortO adjOrd (l.take (i + 1))))
      clear hls HN HO HLO HAL HSW
      go_upto_region 7 with (fail)
      refine wp_region_held_drew (S := (fun V => (V.cell? ⟨g, k * 3, none⟩ = some (.int .i64 x0) ∧ V.cell? ⟨g, k * 3 + 1, none⟩ = some (.int .i64 x1) ∧ V.cell? ⟨g, k * 3 + 2, none⟩ = some (.int .i64 x2)) ∧ (V.cell? ⟨g, j * 3, none⟩ = some (.int .i64 y0) ∧ V.cell? ⟨g, j * 3 + 1, none⟩ = some (.int .i64 y1) ∧ V.cell? ⟨g, j * 3 + 2, none⟩ = some (.int .i64 y2)))) (by kernel_rfl) ?hs34016 (fun hHeld => ?go34016)
      case hs34016 => (exact MK.out _ (by solve_by_elim [X0, X1, X2, X3]))
      refine TK 0 (v := ?v34017) hHeld ?hy34017 ?_
      case hy34017 => (intro w hSw; (try dsimp only at hSw); go_simp <;> first | with_reducible rfl | rw [if_neg (by omega)] | rw [if_pos (by omega)])
      (try simp only [PU])
      refine TK 1 (v := ?v34018) hHeld ?hy34018 ?_
      case hy34018 => (intro w hSw; (try dsimp only at hSw); go_simp <;> first | with_reducible rfl | rw [if_neg (by omega)] | rw [if_pos (by omega)])
      (try simp only [PU])
      refine TK 2 (v := ?v34019) hHeld ?hy34019 ?_
      case hy34019 => (intro w hSw; (try dsimp only at hSw); go_simp <;> first | with_reducible rfl | rw [if_neg (by omega)] | rw [if_pos (by omega)])
      (try simp only [PU])
      refine TK 3 (v := ?v34020) hHeld ?hy34020 ?_
      case hy34020 => (intro w hSw; (try dsimp only at hSw); go_simp <;> first | with_reducible rfl | rw [if_neg (by omega)] | rw [if_pos (by omega)])
      (try simp only [PU])
      refine TK 4 (v := ?v34021) hHeld ?hy34021 ?_
      case hy34021 => (intro w hSw; (try dsimp only at hSw); go_simp <;> first | with_reducible rfl | rw [if_neg (by omega)] | rw [if_pos (by omega)])
      (try simp only [PU])
      refine TK 5 (v := ?v34022) hHeld ?hy34022 ?_
      case hy34022 => (intro w hSw; (try dsimp only at hSw); go_simp <;> first | with_reducible rfl | rw [if_neg (by omega)] | rw [if_pos (by omega)])
      (try simp only [PU])
      refine TK 6 (v := ?v34023) hHeld ?hy34023 ?_
      case hy34023 => (intro w hSw; (try dsimp only at hSw); go_simp <;> first | with_reducible rfl | rw [if_neg (by omega)] | rw [if_pos (by omega)])
      (try simp only [PU])
      refine TK 7 (v := ?v34024) hHeld ?hy34024 ?_
      case hy34024 => (intro w hSw; (try dsimp only at hSw); go_simp <;> first | with_reducible rfl | rw [if_neg (by omega)] | rw [if_pos (by omega)])
      (try simp only [PU])
      refine TK 8 (v := ?v34025) hHeld ?hy34025 ?_
      case hy34025 => (intro w hSw; (try dsimp only at hSw); go_simp <;> first | with_reducible rfl | rw [if_neg (by omega)] | rw [if_pos (by omega)])
      (try simp only [PU])
      refine TK 9 (v := ?v34026) hHeld ?hy34026 ?_
      case hy34026 => (intro w hSw; (try dsimp only at hSw); go_simp <;> first | with_reducible rfl | rw [if_neg (by omega)] | rw [if_pos (by omega)])
      (try simp only [PU])
      refine TK 10 (v := ?v34027) hHeld ?hy34027 ?_
      case hy34027 => (intro w hSw; (try dsimp only at hSw); go_simp <;> first | with_reducible rfl | rw [if_neg (by omega)] | rw [if_pos (by omega)])
      (try simp only [PU])
      refine TK 11 (v := ?v34028) hHeld ?hy34028 ?_
      case hy34028 => (intro w hSw; (try dsimp only at hSw); go_simp <;> first | with_reducible rfl | rw [if_neg (by omega)] | rw [if_pos (by omega)])
      (try simp only [PU])
      refine wpAnyH_ready (rs := [12]) (by kernel_rfl) (by simp) ?_
      refine AllReadyH.cons (o := ⟨_, _, _, _, _, _⟩) rfl (fun K hK => ?step34029x0) ?more34029x0
      case more34029x0 => exact AllReadyH.nil
      go_simp
      (with_reducible refine (HLS.out _ (by solve_by_elim [X0, X1, X2, X3])).mono ?_; rintro r v12 ⟨rfl, hy12⟩; replace hy12 : Ext wr v12 := Ext.trans (by solve_by_elim [X0, X1, X2, X3]) hy12)
      refine hK.out _ _ ?hS34029x0 (fun H34029 => ?_)
      case hS34029x0 => first | (exact MK.out _ (by solve_by_elim [X0, X1, X2, X3])) | ((try dsimp only); (exact MK.out _ (by solve_by_elim [X0, X1, X2, X3])))
      clear hK K
      clear hHeld
      (try simp only [PU])
      refine TK 13 (v := ?v34030) H34029 ?hy34030 ?_
      case hy34030 => (intro w hSw; (try dsimp only at hSw); go_simp <;> first | with_reducible rfl | rw [if_neg (by omega)] | rw [if_pos (by omega)])
      (try simp only [PU])
      refine wpAnyH_done (by kernel_rfl) ?_ _
      clear H34029
      go_wp2_with fail
      go_roundw
      case rel => exact ⟨_, i + 1, rfl, by go_num, by omega, Lib.hid (OwnG.ext HNX.out hy12), Lib.hid (hE.out.trans hy12)⟩
      case measure => simp [intOf]; omega
     ·rw [hls] at HLS
      replace HAL := Lib.hid (HAL.out (of_decide_eq_true hls))
      clear hls HN HLO
      go_upto_region 7 with (fail)
      refine wp_region_held_drew (S := (fun V => (V.cell? ⟨g, k * 3, none⟩ = some (.int .i64 x0) ∧ V.cell? ⟨g, k * 3 + 1, none⟩ = some (.int .i64 x1) ∧ V.cell? ⟨g, k * 3 + 2, none⟩ = some (.int .i64 x2)) ∧ (V.cell? ⟨g, j * 3, none⟩ = some (.int .i64 y0) ∧ V.cell? ⟨g, j * 3 + 1, none⟩ = some (.int .i64 y1) ∧ V.cell? ⟨g, j * 3 + 2, none⟩ = some (.int .i64 y2)))) (by kernel_rfl) ?hs34031 (fun hHeld => ?go34031)
      case hs34031 => (exact MK.out _ (by solve_by_elim [X0, X1, X2, X3]))
      refine TK 0 (v := ?v34032) hHeld ?hy34032 ?_
      case hy34032 => (intro w hSw; (try dsimp only at hSw); go_simp <;> first | with_reducible rfl | rw [if_neg (by omega)] | rw [if_pos (by omega)])
      (try simp only [PU])
      refine TK 1 (v := ?v34033) hHeld ?hy34033 ?_
      case hy34033 => (intro w hSw; (try dsimp only at hSw); go_simp <;> first | with_reducible rfl | rw [if_neg (by omega)] | rw [if_pos (by omega)])
      (try simp only [PU])
      refine TK 2 (v := ?v34034) hHeld ?hy34034 ?_
      case hy34034 => (intro w hSw; (try dsimp only at hSw); go_simp <;> first | with_reducible rfl | rw [if_neg (by omega)] | rw [if_pos (by omega)])
      (try simp only [PU])
      refine TK 3 (v := ?v34035) hHeld ?hy34035 ?_
      case hy34035 => (intro w hSw; (try dsimp only at hSw); go_simp <;> first | with_reducible rfl | rw [if_neg (by omega)] | rw [if_pos (by omega)])
      (try simp only [PU])
      refine TK 4 (v := ?v34036) hHeld ?hy34036 ?_
      case hy34036 => (intro w hSw; (try dsimp only at hSw); go_simp <;> first | with_reducible rfl | rw [if_neg (by omega)] | rw [if_pos (by omega)])
      (try simp only [PU])
      refine TK 5 (v := ?v34037) hHeld ?hy34037 ?_
      case hy34037 => (intro w hSw; (try dsimp only at hSw); go_simp <;> first | with_reducible rfl | rw [if_neg (by omega)] | rw [if_pos (by omega)])
      (try simp only [PU])
      refine TK 6 (v := ?v34038) hHeld ?hy34038 ?_
      case hy34038 => (intro w hSw; (try dsimp only at hSw); go_simp <;> first | with_reducible rfl | rw [if_neg (by omega)] | rw [if_pos (by omega)])
      (try simp only [PU])
      refine TK 7 (v := ?v34039) hHeld ?hy34039 ?_
      case hy34039 => (intro w hSw; (try dsimp only at hSw); go_simp <;> first | with_reducible rfl | rw [if_neg (by omega)] | rw [if_pos (by omega)])
      (try simp only [PU])
      refine TK 8 (v := ?v34040) hHeld ?hy34040 ?_
      case hy34040 => (intro w hSw; (try dsimp only at hSw); go_simp <;> first | with_reducible rfl | rw [if_neg (by omega)] | rw [if_pos (by omega)])
      (try simp only [PU])
      refine TK 9 (v := ?v34041) hHeld ?hy34041 ?_
      case hy34041 => (intro w hSw; (try dsimp only at hSw); go_simp <;> first | with_reducible rfl | rw [if_neg (by omega)] | rw [if_pos (by omega)])
      (try simp only [PU])
      refine TK 10 (v := ?v34042) hHeld ?hy34042 ?_
      case hy34042 => (intro w hSw; (try dsimp only at hSw); go_simp <;> first | with_reducible rfl | rw [if_neg (by omega)] | rw [if_pos (by omega)])
      (try simp only [PU])
      refine TK 11 (v := ?v34043) hHeld ?hy34043 ?_
      case hy34043 => (intro w hSw; (try dsimp only at hSw); go_simp <;> first | with_reducible rfl | rw [if_neg (by omega)] | rw [if_pos (by omega)])
      (try simp only [PU])
      refine wpAnyH_ready (rs := [12]) (by kernel_rfl) (by simp) ?_
      refine AllReadyH.cons (o := ⟨_, _, _, _, _, _⟩) rfl (fun K hK => ?step34044x0) ?more34044x0
      case more34044x0 => exact AllReadyH.nil
      go_simp
      (with_reducible refine (HLS.out _ (by solve_by_elim [X0, X1, X2, X3])).mono ?_; rintro r v12 ⟨rfl, hy12⟩; replace hy12 : Ext wr v12 := Ext.trans (by solve_by_elim [X0, X1, X2, X3]) hy12)
      refine hK.out _ _ ?hS34044x0 (fun H34044 => ?_)
      case hS34044x0 => first | (exact MK.out _ (by solve_by_elim [X0, X1, X2, X3])) | ((try dsimp only); (exact MK.out _ (by solve_by_elim [X0, X1, X2, X3])))
      clear hK K
      clear hHeld
      (try simp only [PU])
      refine TK 13 (v := ?v34045) H34044 ?hy34045 ?_
      case hy34045 => (intro w hSw; (try dsimp only at hSw); go_simp <;> first | with_reducible rfl | rw [if_neg (by omega)] | rw [if_pos (by omega)])
      (try simp only [PU])
      refine wpAnyH_done (by kernel_rfl) ?_ _
      clear H34044
      go_upto_region 9 with (fail)
      have HO12 := Lib.hid (OwnG.ext HO.out hy12)
      obtain ⟨⟨a0, a1, a2⟩, b0, b1, b2⟩ := MK.out _ hy12
      obtain ⟨zb, w2, hzb, hw2, ⟨p0, p1, p2⟩, hx2⟩ := box_adj v12 ⟨x0, x1, x2⟩ 54
      have HW2 := Lib.hid hw2
      have HZ := Lib.hid hzb
      have hzg : zb ≠ g := fun e => by have h1 : g < v12.heap.size := block_lt_of_cell a0; omega
      clear hw2 hzb
      go_upto_region 10 with (fail)
      rw [← HW2.out, ← HZ.out]
      clear HW2 HZ
      replace a0 := hx2.cell a0
      replace a1 := hx2.cell a1
      replace a2 := hx2.cell a2
      replace b0 := hx2.cell b0
      replace b1 := hx2.cell b1
      replace b2 := hx2.cell b2
      have HO2 := Lib.hid (OwnG.ext HO12.out hx2)
      obtain ⟨-, f0, f1, f2⟩ := OA.cells HO2.out (i := k) (by rw [slide_len (by omega)]; omega)
      obtain ⟨hO10, hg10⟩ := OA.put HO2.out (i := k) (by rw [slide_len (by omega)]; omega) ⟨y0, y1, y2⟩
      obtain ⟨w10, hw10⟩ : ∃ W, W = ((w2.setCell ⟨g, k * 3, none⟩ (.int .i64 y0)).setCell ⟨g, k * 3 + 1, none⟩ (.int .i64 y1)).setCell ⟨g, k * 3 + 2, none⟩ (.int .i64 y2) := ⟨_, rfl⟩
      rw [← hw10] at hO10 hg10
      have HO10 := Lib.hid hO10
      have HX10 := Lib.hid ((hE.out.trans (hy12.trans hx2)).grown hg10 (fun b e => by have h1 := Option.some.inj e; have h2 := HGB.out; omega))
      replace p0 := hg10.cell p0 (fun e => hzg (Option.some.inj e))
      replace p1 := hg10.cell p1 (fun e => hzg (Option.some.inj e))
      replace p2 := hg10.cell p2 (fun e => hzg (Option.some.inj e))
      clear hO10 hg10 HO2 HO12
      go_upto_region 11 with (fail)
      rw [← hw10]
      clear hw10 a0 a1 a2 b0 b1 b2 f0 f1 f2
      obtain ⟨⟨a0, a1, a2⟩, f0, f1, f2⟩ := OA.cells HO10.out (i := j) (by rw [List.length_set, slide_len (by omega)]; omega)
      obtain ⟨hO11, hg11⟩ := OA.put HO10.out (i := j) (by rw [List.length_set, slide_len (by omega)]; omega) ⟨x0, x1, x2⟩
      obtain ⟨w11, hw11⟩ : ∃ W, W = ((w10.setCell ⟨g, j * 3, none⟩ (.int .i64 x0)).setCell ⟨g, j * 3 + 1, none⟩ (.int .i64 x1)).setCell ⟨g, j * 3 + 2, none⟩ (.int .i64 x2) := ⟨_, rfl⟩
      rw [← hw11, HSW.out] at hO11
      rw [← hw11] at hg11
      have HO11 := Lib.hid hO11
      have HX11 := Lib.hid (HX10.out.grown hg11 (fun b e => by have h1 := Option.some.inj e; have h2 := HGB.out; omega))
      clear hO11 hg11
      go_wp2_with fail
      rw [← hw11]
      go_roundw
      case rel => exact ⟨j, by go_num, by omega, HO11, HAL.out, HX11⟩
      case measure => simp [intOf]; omega
  ·have hke : i = l.length := by omega
   have HO9 := Lib.hid (by rw [hke, HEN.out] at HO; exact HO.out : OA wr w.heap.size vO (sortO adjOrd l))
   obtain ⟨A9, c9, e9, h9, hV9⟩ := OA.shares HO9.out (by rw [sortO_len TotC.adj]; omega)
   rw [sortO_len TotC.adj] at e9 h9
   have HV9 := Lib.hid hV9
   subst e9
   clear HO HO9 HV hke hV9
   go_wp2_with fail
   go_ret
   exact ⟨A9, c9, rfl, h9, HV9.out, hE.out⟩
end Go.Proofs.Ytnheioehadldmaa

/- THE WALKS over slices.AppendSeq, slices.Collect over slices.Values of entries; slices.SortFunc at entries; slices.SortedFunc. -/
namespace Go.Proofs.Ytnheioehadldmaa
open Go.RowKit Go.Shelf
section
attribute [local go_sem] Oper.semAt_some
theorem cell_three (w : World) (a b c : Value) (t : TypeId) : ∀ j u, [a, b, c][j]? = some u → (w.alloc (.cells #[a, b, c] t)).cell? ((⟨w.heap.size, 0, none⟩ : Addr).add j) = some u := by
 intro j u hu
 rw [Addr.add_mid, Nat.zero_add]
 match j with
 | 0 => cases hu; go_simp
 | 1 => cases hu; go_simp
 | 2 => cases hu; go_simp
 | j + 3 => cases hu
set_option maxRecDepth 100000 in
set_option maxHeartbeats 2000000 in
theorem appendSeq_in (F : Fence) (n : Nat) (h65 : F.fn 65) (h54 : F.fn 54) (hro : F.round = none) (hn : 3 ≤ n) (Bs : Nat) (A : Option Addr) (cap : Nat) (zs : List Sh) (hz : zs.length ≤ 8000000) (w : World) (hBs : Bs < w.heap.size)
  (hc : w.cell? ⟨Bs, 0, none⟩ = some (.slice A zs.length cap)) (hI : Shares w (fun b => b < w.heap.size) A zs) :
  CallsIn F n Try.prog 65 #[.slice none 0 0, .func (.func 54) #[] #[.pointer (some ⟨Bs, 0, none⟩)]] w fun e W' => ∃ v, e = .returned v ∧ OA W' w.heap.size v zs ∧ Ext w W' := by
 have h1 : 1 ≤ n := by omega
 obtain ⟨z, hz0, hzc⟩ := (T_ka).hi
 obtain ⟨i0, hi, hi0, hi1, hi2⟩ := info_parts hz0
 have ht := (T_ka).ht
 have HZ := Lib.hid (⟨hi, hi0, hi1, hi2, hzc, ht⟩ : Try.prog.info? 54 = some i0 ∧ i0.zero = some z ∧ i0.size = KA.size ∧ i0.bytes = 24 ∧ z.cells.size = KA.size ∧ Try.prog.underlying 22 = some (.slice 54))
 clear hi hi0 hi1 hi2 hzc ht hz0
 refine callsIn_of_wp_marks Try.func65 rfl h65 ?_ hro
 simp only [Try.ntmps65, List.size_toArray, List.length_cons, List.length_nil, Nat.reduceAdd, Nat.reduceSub, Array.replicate_succ, Array.replicate_zero, List.push_toArray, List.append_toArray, List.nil_append, List.cons_append]
 gi_wp2
 have bQ := Boxed.new w 22 (.slice none 0 0)
 have hB0 : Below w.heap.size w (w.alloc (.cells #[.slice none 0 0] 22)) := (Below.refl _ w).alloc (Nat.le_refl _) _
 have hsz : (w.alloc (.cells #[.slice none 0 0] 22)).heap.size = w.heap.size + 1 := by simp
 obtain ⟨W0, hW0⟩ : ∃ W0, w.alloc (.cells #[.slice none 0 0] 22) = W0 := ⟨_, rfl⟩
 rw [hW0] at bQ hB0 hsz ⊢
 clear hW0
 have hI0 : Shares W0 (fun b => b < w.heap.size) A zs := SliceR.mono hI (fun b o x _ hx => ⟨hx.1, (hB0.cell (p := ⟨b, o, none⟩) hx.1).trans hx.2.1, (hB0.cell (p := ⟨b, o + 1, none⟩) hx.1).trans hx.2.2.1, (hB0.cell (p := ⟨b, o + 2, none⟩) hx.1).trans hx.2.2.2⟩)
 refine wpIn_rangeFunc_ownH hro h1 (gf := 54) (lb := #[.pointer (some ⟨Bs, 0, none⟩)]) rfl h54 (enters_of Try.func54 (by kernel_rfl) rfl)
  (values_stops F (n - 1) h54 hro (by omega) Bs w.heap.size A cap zs hz W0 (by omega) (by omega) ((hB0.cell (p := ⟨Bs, 0, none⟩) hBs).trans hc) hI0) belowK_t (belowK_b (by omega)) (Below.refl _ _) (fun _ => rfl)
  (fun pre W => (∃ v, Boxed W w.heap.size 22 v ∧ W.ownsRow w.heap.size 54 KA.size v pre.length (pre.flatMap KA.enc) ∧ True) ∧ Below w.heap.size w W)
  (fun _ _ _ => False)
  (OwnFrom.and (Own.from (holdsRow_own w.heap.size w.heap.size 22 54 KA.size (fun pre : List Sh => pre.length) (fun pre : List Sh => pre.flatMap KA.enc) (fun _ _ => True)) _) (ownFrom_below (Nat.le_refl _) (by omega)))
  (fun _ _ _ _ _ hs _ _ => hs)
  ⟨⟨_, bQ, World.ownsRow_nil _ _ _ _, trivial⟩, hB0⟩
  (fun x a' W => ∃ Bx, w.heap.size < Bx ∧ BoxA W Bx x ∧ a' = { tmps := #[.slice none 0 0, .func (.func 54) #[] #[.pointer (some ⟨Bs, 0, none⟩)], .pointer (some ⟨w.heap.size, 0, none⟩), undef, .slice none 0 0, .pointer (some ⟨Bx, 0, none⟩), .func (.func 54) #[] #[.pointer (some ⟨Bs, 0, none⟩)], .agg #[.int .i64 x.id, .int .i64 x.n, .int .i64 x.d], undef, undef, undef, undef, undef], defers := [] })
  (fun x a' _ X Y row hs hg hr => by obtain ⟨Bx, h1, h2, h3⟩ := hs; exact ⟨Bx, h1, boxA_own Bx (fun (_ : Unit) => x) () X Y row h2 hg (fun r e => (hr r e).2), h3⟩)
  ?assign ?body ?done ?stop
 case assign =>
  rintro l pre x W K ⟨⟨v, bV, hrow, -⟩, hB1⟩ hK
  gi_wp2
  exact hK _ _ ((KeepsOthers.alloc _ _).from _) ((Below.refl _ W).alloc hB1.size _) ⟨⟨v, bV.alloc _, hrow.alloc _, trivial⟩, hB1.alloc hB1.size _⟩ ⟨W.heap.size, bV.lt, World.alloc_heap_new W _, rfl⟩
 case body =>
  rintro l pre x a' W hl ⟨r, hr⟩ ⟨⟨v, hv, hrow, -⟩, hB⟩ ⟨Bx, hBx, bX, rfl⟩ hlt
  have hc := hv.cell
  obtain ⟨c0, c1, c2⟩ := bX.cells
  have HX := Lib.hid bX
  have HR := Lib.hid hr
  clear bX hr hc
  have hc := hv.cell
  gi_wp2_with (gi_at_builtin; refine wpListIn_append_own _ rfl _ _ 22 rfl w.heap.size 54 i0 z KA.size 24 HZ.out.2.2.2.2.2 HZ.out.1 HZ.out.2.1 HZ.out.2.2.1 HZ.out.2.2.2.1 HZ.out.2.2.2.2.1 (by decide) _ _ _ rfl (hrow.alloc _) ⟨W.heap.size, 0, none⟩ 1 1 (KA.enc x) rfl rfl (cell_three _ _ _ _ _) (fun u hu => x.cells_one u hu) (by unfold maxLen; omega) (by omega) (by have := hB.size; simp; omega) ?_; intro v' w1 hown' hgrow _; obtain ⟨g', cap', rfl⟩ := ownsRow_succ hown'; obtain ⟨hv1, hv2, hr2, hk2, hb2⟩ := hv.appended (by decide) hrow hB.size (Nat.le_refl _) hown' hgrow; have hc1 := hv1.cell; have hf1 := hv1.frozen)
  exact ⟨hk2.from _, hb2, ⟨_, hv2, by rw [List.length_append, List.flatMap_append]; simpa using hr2, trivial⟩, hB.trans hb2⟩
 case done =>
  rintro D ys W hD rfl ⟨⟨v, hv, hrow, -⟩, hB⟩ hK
  have hc := hv.cell
  gi_wp2
  refine ⟨by simp, .inl ⟨_, _, rfl, run_takeDeferred hK, ?_⟩⟩
  exact ⟨_, results_tmp rfl _ _ _, v, rfl, ⟨ownsRow_putObj hrow _ hK rfl, fun _ _ => trivial⟩, hB.trans (belowK_b (w := w) (Nat.le_refl _) W D _ _ (by omega) hK rfl rfl)⟩
 case stop =>
  rintro D c pre W _ _ h _
  exact h.elim
end
end Go.Proofs.Ytnheioehadldmaa

/- THE WALKS over slices.SortFunc at entries, slices.Collect, slices.SortedFunc. -/
namespace Go.Proofs.Ytnheioehadldmaa
open Go.RowKit Go.Shelf Go.Sort
theorem swo_adj : SWO (ltOf adjOrd) := by
 refine ⟨fun x => ?_, fun x y z h1 h2 => ?_, fun x y z h1 h2 => ?_⟩
 ·show decide (adjOrd x x < 0) = false
  rw [TotC.adj.refl]; rfl
 ·have h1' : adjOrd x y < 0 := of_decide_eq_true h1
  have h2' : adjOrd y z < 0 := of_decide_eq_true h2
  refine decide_eq_true (show adjOrd x z < 0 from ?_)
  have a1 := TotC.adj.anti x y
  have a2 := TotC.adj.anti y z
  have a3 := TotC.adj.trans x y z (by omega) (by omega)
  rcases TotC.adj.rng x z with h | h | h
  ·omega
  ·have := (TotC.adj.zero _ _).1 h
   rw [this] at h1'
   omega
  ·omega
 ·have h1' : ¬ adjOrd x y < 0 := of_decide_eq_false h1
  have h2' : ¬ adjOrd y z < 0 := of_decide_eq_false h2
  refine decide_eq_false (fun (h3 : adjOrd x z < 0) => ?_)
  have a1 := TotC.adj.anti x y
  have a2 := TotC.adj.anti y z
  have a3 := TotC.adj.anti x z
  have := TotC.adj.trans z y x (by omega) (by omega)
  omega
theorem eg_order (args : Array Value) (w : World) : (callFunc 29 args).run Try.prog w = .ok (.enter 29 args) w :=
 run_enter (c := Try.f29.body.get!) Try.func29 (by kernel_rfl) (by kernel_rfl) args w
theorem sortf_adj (hs : List Sh) (base : Nat) (g cap : Nat) (w : World) (h : OA w base (.slice (some ⟨g, 0, none⟩) hs.length cap) hs) (hl : hs.length ≤ 8000000) :
  Calls Try.prog 53 #[.slice (some ⟨g, 0, none⟩) hs.length cap, .func (.func 29) #[] #[]] w fun r w' => r = .returned (.tuple #[]) ∧ OA w' base (.slice (some ⟨g, 0, none⟩) hs.length cap) (sortO adjOrd hs) ∧ w.grownBy w' (some g) := by
 have H := own_sort (P := Try.prog) (K := KA) Try.laysSortAdj Try.isAgg54 Try.sizeOf54 ⟨0, 0, 0⟩ (fun _ _ => trivial) adjOrd swo_adj 29 w base (fun _ => False) g cap hs h hl eg_order (fun W x y _ _ _ => co_order x y W)
 refine (show Calls Try.prog 53 _ w _ from H).mono ?_
 rintro r w' ⟨rfl, hs', hp, hpw, hO, hG⟩
 have e : hs' = sortO adjOrd hs := sortO_eq TotC.adj hp (hpw.imp (fun {x y} h => by have := TotC.adj.anti x y; omega))
 subst e
 exact ⟨rfl, hO, hG⟩
theorem sortf_adj0 (fv : Value) (w : World) : Calls Try.prog 53 #[.slice none 0 0, fv] w fun e w' => e = .returned (.tuple #[]) ∧ Ext w w' := by
 have H := AnyF.slices_SortFunc_none (P := Try.prog) Try.laysSortAdj none 0 fv w
 exact (show Calls Try.prog 53 _ w _ from H).mono (fun e w' ⟨h1, h2⟩ => ⟨h1, by rw [h2]; exact Ext.refl _⟩)
theorem s_Values (a : Option Addr) (len cap : Nat) (w : World) :
  Calls Try.prog 28 #[.slice a len cap] w fun e w' => e = .returned (.func (.func 54) #[] #[.pointer (some ⟨w.heap.size, 0, none⟩)]) ∧ w' = w.alloc (.cells #[.slice a len cap] 22) :=
 callsIn_wide.1 (values_in Fence.wide 3 trivial rfl a len cap w)
theorem s_AppendSeq (Bs : Nat) (A : Option Addr) (cap : Nat) (zs : List Sh) (hz : zs.length ≤ 8000000) (w : World) (hBs : Bs < w.heap.size)
  (hc : w.cell? ⟨Bs, 0, none⟩ = some (.slice A zs.length cap)) (hI : Shares w (fun b => b < w.heap.size) A zs) :
  Calls Try.prog 65 #[.slice none 0 0, .func (.func 54) #[] #[.pointer (some ⟨Bs, 0, none⟩)]] w fun e W' => ∃ v, e = .returned v ∧ OA W' w.heap.size v zs ∧ Ext w W' :=
 callsIn_wide.1 (appendSeq_in Fence.wide 3 trivial trivial rfl (Nat.le_refl _) Bs A cap zs hz w hBs hc hI)
theorem s_Collect (Bs : Nat) (A : Option Addr) (cap : Nat) (zs : List Sh) (hz : zs.length ≤ 8000000) (w : World) (hBs : Bs < w.heap.size)
  (hc : w.cell? ⟨Bs, 0, none⟩ = some (.slice A zs.length cap)) (hI : Shares w (fun b => b < w.heap.size) A zs) :
  Calls Try.prog 52 #[.func (.func 54) #[] #[.pointer (some ⟨Bs, 0, none⟩)]] w fun e W' => ∃ v, e = .returned v ∧ OA W' w.heap.size v zs ∧ Ext w W' := by
 have HC := Lib.hid (s_AppendSeq Bs A cap zs hz w hBs hc hI)
 clear hc hI hBs hz
 go_enter Try.func52, Try.ntmps52
 go_wp2_with (go_at_call 65; ((with_reducible refine (HC.out).mono ?_); rintro e w2 ⟨v, rfl, hO, hx⟩))
 go_ret
 exact ⟨v, rfl, hO, hx⟩
set_option maxRecDepth 100000 in
theorem s_Sorted (Bs : Nat) (A : Option Addr) (cap : Nat) (zs : List Sh) (hz : zs.length ≤ 8000000) (w : World) (hBs : Bs < w.heap.size)
  (hc : w.cell? ⟨Bs, 0, none⟩ = some (.slice A zs.length cap)) (hI : Shares w (fun b => b < w.heap.size) A zs) :
  Calls Try.prog 27 #[.func (.func 54) #[] #[.pointer (some ⟨Bs, 0, none⟩)], .func (.func 29) #[] #[]] w fun e W' => ∃ v, e = .returned v ∧ OA W' w.heap.size v (sortO adjOrd zs) ∧ Ext w W' := by
 have HC := Lib.hid (s_Collect Bs A cap zs hz w hBs hc hI)
 have HZ := Lib.hid hz
 clear hc hI hBs hz
 go_enter Try.func27, Try.ntmps27
 go_upto_region 2 with (go_at_call 52; ((with_reducible refine (HC.out).mono ?_); rintro e w2 ⟨v, rfl, hO, hx⟩))
 have HO := Lib.hid hO
 rcases hO.own.2 with ⟨rfl, h0⟩ | ⟨g, cp, cur, rfl, hb, -, -⟩
 ·have hz0 : zs = [] := List.eq_nil_of_length_eq_zero (by first | exact h0 | simpa using h0)
  subst hz0
  clear hO h0
  go_wp2_with (go_at_call 53; ((with_reducible refine ((sortf_adj0 _ _)).mono ?_); rintro e w3 ⟨rfl, hx3⟩))
  go_ret
  exact ⟨_, rfl, OwnG.nil _ _ _ _ _, hx.trans hx3⟩
 ·have HS := Lib.hid (sortf_adj zs w.heap.size g cp w2 hO HZ.out)
  have HB := Lib.hid hb
  clear hO hb
  go_wp2_with (go_at_call 53; ((with_reducible refine (HS.out).mono ?_); rintro e w3 ⟨rfl, hO3, hg3⟩))
  go_ret
  exact ⟨_, rfl, hO3, hx.grown hg3 (fun k hk => by cases hk; exact HB.out)⟩
end Go.Proofs.Ytnheioehadldmaa

/- THE WALK over the reference's Of. -/
namespace Go.Proofs.Ytnheioehadldmaa
open Go.RowKit
theorem ColAt.none (w : World) (ok : Nat → Prop) : ColAt w ok Option.none Option.none Option.none Option.none noCol := ⟨SliceR.nil _ _ _, SliceR.nil _ _ _, SliceR.nil _ _ _, SliceR.nil _ _ _⟩
theorem Nums.put {W : World} {ok : Nat → Prop} {A : Option Addr} {l : List Int} (h : Nums W ok A l) {q : Nat} (hq : ¬ ok q) (j : Nat) (u : Value) : Nums (W.setCell ⟨q, j, none⟩ u) ok A l := SliceR.mono h (fun b _ _ _ hx => ⟨hx.1, (World.cell?_setCell_far _ _ _ _ (fun e => hq (by have : q = b := e; rw [this]; exact hx.1))).trans hx.2⟩)
theorem ColAt.put {W : World} {ok : Nat → Prop} {A B C D : Option Addr} {c : Col} (h : ColAt W ok A B C D c) {q : Nat} (hq : ¬ ok q) (j : Nat) (u : Value) : ColAt (W.setCell ⟨q, j, Option.none⟩ u) ok A B C D c := ⟨h.n.put hq j u, h.f.put hq j u, h.t.put hq j u, h.e.put hq j u⟩
theorem ColAt.to {W : World} {ok ok' : Nat → Prop} {A B C D : Option Addr} {c : Col} (h : ColAt W ok A B C D c) (ho : ∀ b, ok b → ok' b) : ColAt W ok' A B C D c := ⟨SliceR.mono h.n (fun _ _ _ _ hx => ⟨ho _ hx.1, hx.2⟩), SliceR.mono h.f (fun _ _ _ _ hx => ⟨ho _ hx.1, hx.2⟩), SliceR.mono h.t (fun _ _ _ _ hx => ⟨ho _ hx.1, hx.2⟩), SliceR.mono h.e (fun _ _ _ _ hx => ⟨ho _ hx.1, hx.2⟩)⟩
theorem ofR_bad {l : List Sh} {k : Nat} (hk : k < l.length) (h : okS l[k]! = false) : ofR l = (1, noCol) := by
 unfold ofR
 rw [if_neg (fun e => by have := List.all_eq_true.1 e l[k]! (by rw [getElem!_pos l k hk]; exact List.getElem_mem hk); rw [h] at this; cases this)]
end Go.Proofs.Ytnheioehadldmaa
