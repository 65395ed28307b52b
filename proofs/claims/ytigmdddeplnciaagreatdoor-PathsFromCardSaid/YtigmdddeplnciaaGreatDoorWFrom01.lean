/- PARTS OF THE WALKS, joined: PtV. -/
import Derived.Test.YtigmdddeplnciaaGreatDoorWFrom00
/- THE LAW PathsFrom. -/
namespace Go.Proofs.YtigmdddeplnciaaGreatDoor
open Go.RowKit
theorem els_sz (s : Int) (h : List Hop) : ∀ x ∈ elsP s h, x.l = [] ∧ x.s.size = 0 := by
 intro x hx
 unfold elsP tailP at hx
 rcases List.mem_cons.1 hx with e | e
 ·rw [e]; exact ⟨rfl, rfl⟩
 ·obtain ⟨a, -, ha⟩ := List.mem_flatMap.1 e
  rcases List.mem_cons.1 ha with e | e
  ·rw [e]; exact ⟨rfl, rfl⟩
  ·rw [List.mem_singleton.1 e]; exact ⟨rfl, rfl⟩
theorem sz_from (g : GraphG) (s : Int) (types : List ByteArray) (dir mode mn mx : Int) : szL (fromP g s types dir mode mn mx) := szL_all (fun v hv => by
 obtain ⟨-, h, rfl, -⟩ := mem_from hv
 exact sz_path (els_sz s h))
theorem sz_betw (g : GraphG) (s tn : Int) (types : List ByteArray) (dir mode mn mx : Int) : szL (betwP g s tn types dir mode mn mx) := szL_all (fun v hv => by
 obtain ⟨-, h, rfl, -⟩ := mem_from (List.mem_filter.1 hv).1
 exact sz_path (els_sz s h))
theorem few_cnt {g : GraphG} {mx : Int} (h : fewB g mx = true) : 0 ≤ mx → mx ≤ 6 → (g.edges.length + 1) ^ mx.toNat ≤ 4000 := by
 intro h0 h6
 have h1 := (few_iff.1 h).2.2
 rwa [show min mx 6 = mx by omega] at h1
theorem box_ask (w : World) (g : GraphG) (types : List ByteArray) (fr tn dir mode mn mx : Int) (A B T : Option Addr) (c d e : Nat) : ∃ (q : Nat) (w1 : World), q = w.heap.size ∧ w1 = w.alloc (.cells #[.slice A g.nodes.length c, .slice B g.edges.length d, .int .i64 g.nn, .int .i64 g.ne, .int .i64 fr, .int .i64 tn, .int .i64 dir, .int .i64 mode, .int .i64 mn, .int .i64 mx, .slice T types.length e] 28) ∧ (w1.cell? ⟨q, 0, none⟩ = some (.slice A g.nodes.length c) ∧ w1.cell? ⟨q, 1, none⟩ = some (.slice B g.edges.length d) ∧ w1.cell? ⟨q, 2, none⟩ = some (.int .i64 g.nn) ∧ w1.cell? ⟨q, 3, none⟩ = some (.int .i64 g.ne) ∧ w1.cell? ⟨q, 4, none⟩ = some (.int .i64 fr) ∧ w1.cell? ⟨q, 5, none⟩ = some (.int .i64 tn) ∧ w1.cell? ⟨q, 6, none⟩ = some (.int .i64 dir) ∧ w1.cell? ⟨q, 7, none⟩ = some (.int .i64 mode) ∧ w1.cell? ⟨q, 8, none⟩ = some (.int .i64 mn) ∧ w1.cell? ⟨q, 9, none⟩ = some (.int .i64 mx) ∧ w1.cell? ⟨q, 10, none⟩ = some (.slice T types.length e)) ∧ Ext w w1 :=
 ⟨_, _, rfl, rfl, ⟨by go_simp, by go_simp, by go_simp, by go_simp, by go_simp, by go_simp, by go_simp, by go_simp, by go_simp, by go_simp, by go_simp⟩, (Ext.refl _).alloc _⟩
set_option maxRecDepth 100000 in
set_option maxHeartbeats 6400000 in
theorem l_PathsFrom (g : GraphG) (types : List ByteArray) (fr tn dir mode mn mx : Int) (ok ok' : Nat → Prop) (A B T : Option Addr) (c d e : Nat) (w : World) (hz : ZeroAt w) (hg : GraphAt w ok A B g) (hcap : ∀ x ∈ g.nodes, capN x) (hsz : SzG g) (ht : Strs w ok' T types) :
  Calls Tryz.prog 3 #[.agg #[.slice A g.nodes.length c, .slice B g.edges.length d, .int .i64 g.nn, .int .i64 g.ne, .int .i64 fr, .int .i64 tn, .int .i64 dir, .int .i64 mode, .int .i64 mn, .int .i64 mx, .slice T types.length e]] w fun r w' => r = .returned (.bool true) ∧ Ext w w' := by
 obtain ⟨q, w1, hq, hw1, hac, hx⟩ := box_ask w g types fr tn dir mode mn mx A B T c d e
 have HW1 := Lib.hid hw1
 have HQ := Lib.hid hq
 have HX := Lib.hid hx
 have HAC := Lib.hid hac
 have HFW := Lib.hid (fun W (_ : Ext w1 W) => r24_Few g mx A B c d W hg.nodes.len hg.edges.len)
 have HLV := Lib.hid (fun W (e' : Ext w1 W) => l_lives W (hz.ext (hx.trans e')))
 have HPF := Lib.hid (fun (hf : fewB g mx = true) W (e' : Ext w1 W) => p_From g types fr dir mode mn mx ok ok' A B T c d e W (hz.ext (hx.trans e')) (hg.ext (hx.trans e')) hcap (ht.ext (hx.trans e')) (few_cnt hf))
 have HRF := Lib.hid (fun (hf : fewB g mx = true) W (e' : Ext w1 W) => r24_From g types fr dir mode mn mx ok ok' A B T c d e W (hg.ext (hx.trans e')) hsz (ht.ext (hx.trans e')) (few_cnt hf))
 have HPB := Lib.hid (fun (hf : fewB g mx = true) W (e' : Ext w1 W) => p_Between g types fr tn dir mode mn mx ok ok' A B T c d e W (hz.ext (hx.trans e')) (hg.ext (hx.trans e')) hcap (ht.ext (hx.trans e')) (few_cnt hf))
 have HRB := Lib.hid (fun (hf : fewB g mx = true) W (e' : Ext w1 W) => r24_Between g types fr tn dir mode mn mx ok ok' A B T c d e W (hg.ext (hx.trans e')) hsz (ht.ext (hx.trans e')) (few_cnt hf))
 have HS1 := Lib.hid (fun ok1 ok2 A1 B1 c1 d1 W h1 h2 => r24_Same (fromP g fr types dir mode mn mx) ok1 ok2 A1 B1 c1 d1 W h1 h2 (sz_from g fr types dir mode mn mx))
 have HS2 := Lib.hid (fun ok1 ok2 A1 B1 c1 d1 W h1 h2 => r24_Same (betwP g fr tn types dir mode mn mx) ok1 ok2 A1 B1 c1 d1 W h1 h2 (sz_betw g fr tn types dir mode mn mx))
 obtain ⟨a0, a1, a2, a3, a4, a5, a6, a7, a8, a9, a10⟩ := hac
 clear hw1 hq hz hg hcap hsz ht hx
 go_enter Tryz.func3, Tryz.ntmps3
 go_upto_region 1 with (fail)
 rw [← HW1.out, ← HQ.out]
 clear HW1 HQ
 cases hf : fewB g mx
 ·rw [hf] at HFW
  clear hf HPF HRF HPB HRB HS1 HS2
  go_wp2_with (first | (go_at_call 8; ((with_reducible refine (HFW.out _ (Ext.refl _)).mono ?_); rintro r w2 ⟨rfl, hx2⟩)) | (go_at_call 9; ((with_reducible refine (HLV.out _ hx2).mono ?_); rintro r w3 ⟨rfl, hx3⟩)))
  go_ret
  exact ⟨rfl, HX.out.trans (hx2.trans hx3)⟩
 ·rw [hf] at HFW
  replace HPF := Lib.hid (HPF.out hf)
  replace HRF := Lib.hid (HRF.out hf)
  replace HPB := Lib.hid (HPB.out hf)
  replace HRB := Lib.hid (HRB.out hf)
  clear hf
  generalize fromP g fr types dir mode mn mx = FP at *
  generalize betwP g fr tn types dir mode mn mx = BP at *
  have MK := Lib.hid (fun V (e' : Ext w1 V) => (⟨e'.cell a0, e'.cell a1, e'.cell a2, e'.cell a3, e'.cell a4, e'.cell a5, e'.cell a6, e'.cell a7, e'.cell a8, e'.cell a9, e'.cell a10⟩ : (V.cell? ⟨q, 0, none⟩ = some (.slice A g.nodes.length c) ∧ V.cell? ⟨q, 1, none⟩ = some (.slice B g.edges.length d) ∧ V.cell? ⟨q, 2, none⟩ = some (.int .i64 g.nn) ∧ V.cell? ⟨q, 3, none⟩ = some (.int .i64 g.ne) ∧ V.cell? ⟨q, 4, none⟩ = some (.int .i64 fr) ∧ V.cell? ⟨q, 5, none⟩ = some (.int .i64 tn) ∧ V.cell? ⟨q, 6, none⟩ = some (.int .i64 dir) ∧ V.cell? ⟨q, 7, none⟩ = some (.int .i64 mode) ∧ V.cell? ⟨q, 8, none⟩ = some (.int .i64 mn) ∧ V.cell? ⟨q, 9, none⟩ = some (.int .i64 mx) ∧ V.cell? ⟨q, 10, none⟩ = some (.slice T types.length e))))
  go_upto_region 3 with (go_at_call 8; ((with_reducible refine (HFW.out _ (Ext.refl _)).mono ?_); rintro r w2 ⟨rfl, hx2⟩))
  clear a0 a1 a2 a3 a4 a5 a6 a7 a8 a9 a10
  refine wp_region_held_drew (S := (fun V => (V.cell? ⟨q, 0, none⟩ = some (.slice A g.nodes.length c) ∧ V.cell? ⟨q, 1, none⟩ = some (.slice B g.edges.length d) ∧ V.cell? ⟨q, 2, none⟩ = some (.int .i64 g.nn) ∧ V.cell? ⟨q, 3, none⟩ = some (.int .i64 g.ne) ∧ V.cell? ⟨q, 4, none⟩ = some (.int .i64 fr) ∧ V.cell? ⟨q, 5, none⟩ = some (.int .i64 tn) ∧ V.cell? ⟨q, 6, none⟩ = some (.int .i64 dir) ∧ V.cell? ⟨q, 7, none⟩ = some (.int .i64 mode) ∧ V.cell? ⟨q, 8, none⟩ = some (.int .i64 mn) ∧ V.cell? ⟨q, 9, none⟩ = some (.int .i64 mx) ∧ V.cell? ⟨q, 10, none⟩ = some (.slice T types.length e)))) (by kernel_rfl) ?hs17001 (fun hHeld => ?go17001)
  case hs17001 => (exact MK.out _ (by solve_by_elim [X0, X1, X2, X3]))
  refine TK 0 (v := ?v17002) hHeld ?hy17002 ?_
  case hy17002 => (intro w _; go_simp <;> rfl)
  (try simp only [PU])
  refine TK 1 (v := ?v17003) hHeld ?hy17003 ?_
  case hy17003 => (intro w hSw; (try dsimp only at hSw); go_simp <;> first | with_reducible rfl | rw [if_neg (by omega)] | rw [if_pos (by omega)])
  (try simp only [PU])
  refine TK 2 (v := ?v17004) hHeld ?hy17004 ?_
  case hy17004 => (intro w _; go_simp <;> rfl)
  (try simp only [PU])
  refine TK 3 (v := ?v17005) hHeld ?hy17005 ?_
  case hy17005 => (intro w hSw; (try dsimp only at hSw); go_simp <;> first | with_reducible rfl | rw [if_neg (by omega)] | rw [if_pos (by omega)])
  (try simp only [PU])
  refine TK 4 (v := ?v17006) hHeld ?hy17006 ?_
  case hy17006 => (intro w _; go_simp <;> rfl)
  (try simp only [PU])
  refine TK 5 (v := ?v17007) hHeld ?hy17007 ?_
  case hy17007 => (intro w hSw; (try dsimp only at hSw); go_simp <;> first | with_reducible rfl | rw [if_neg (by omega)] | rw [if_pos (by omega)])
  (try simp only [PU])
  refine TK 6 (v := ?v17008) hHeld ?hy17008 ?_
  case hy17008 => (intro w _; go_simp <;> rfl)
  (try simp only [PU])
  refine TK 7 (v := ?v17009) hHeld ?hy17009 ?_
  case hy17009 => (intro w hSw; (try dsimp only at hSw); go_simp <;> first | with_reducible rfl | rw [if_neg (by omega)] | rw [if_pos (by omega)])
  (try simp only [PU])
  refine TK 8 (v := ?v17010) hHeld ?hy17010 ?_
  case hy17010 => (intro w _; go_simp <;> rfl)
  (try simp only [PU])
  refine TK 9 (v := ?v17011) hHeld ?hy17011 ?_
  case hy17011 => (intro w hSw; (try dsimp only at hSw); go_simp <;> first | with_reducible rfl | rw [if_neg (by omega)] | rw [if_pos (by omega)])
  (try simp only [PU])
  refine TK 10 (v := ?v17012) hHeld ?hy17012 ?_
  case hy17012 => (intro w _; go_simp <;> rfl)
  (try simp only [PU])
  refine TK 11 (v := ?v17013) hHeld ?hy17013 ?_
  case hy17013 => (intro w hSw; (try dsimp only at hSw); go_simp <;> first | with_reducible rfl | rw [if_neg (by omega)] | rw [if_pos (by omega)])
  (try simp only [PU])
  refine TK 12 (v := ?v17014) hHeld ?hy17014 ?_
  case hy17014 => (intro w _; go_simp <;> rfl)
  (try simp only [PU])
  refine TK 13 (v := ?v17015) hHeld ?hy17015 ?_
  case hy17015 => (intro w hSw; (try dsimp only at hSw); go_simp <;> first | with_reducible rfl | rw [if_neg (by omega)] | rw [if_pos (by omega)])
  (try simp only [PU])
  refine TK 15 (v := ?v17016) hHeld ?hy17016 ?_
  case hy17016 => (intro w _; go_simp <;> rfl)
  (try simp only [PU])
  refine TK 16 (v := ?v17017) hHeld ?hy17017 ?_
  case hy17017 => (intro w hSw; (try dsimp only at hSw); go_simp <;> first | with_reducible rfl | rw [if_neg (by omega)] | rw [if_pos (by omega)])
  (try simp only [PU])
  refine TK 17 (v := ?v17018) hHeld ?hy17018 ?_
  case hy17018 => (intro w _; go_simp <;> rfl)
  (try simp only [PU])
  refine TK 18 (v := ?v17019) hHeld ?hy17019 ?_
  case hy17019 => (intro w hSw; (try dsimp only at hSw); go_simp <;> first | with_reducible rfl | rw [if_neg (by omega)] | rw [if_pos (by omega)])
  (try simp only [PU])
  refine TK 19 (v := ?v17020) hHeld ?hy17020 ?_
  case hy17020 => (intro w _; go_simp <;> rfl)
  (try simp only [PU])
  refine TK 20 (v := ?v17021) hHeld ?hy17021 ?_
  case hy17021 => (intro w hSw; (try dsimp only at hSw); go_simp <;> first | with_reducible rfl | rw [if_neg (by omega)] | rw [if_pos (by omega)])
  (try simp only [PU])
  refine TK 21 (v := ?v17022) hHeld ?hy17022 ?_
  case hy17022 => (intro w _; go_simp <;> rfl)
  (try simp only [PU])
  refine TK 22 (v := ?v17023) hHeld ?hy17023 ?_
  case hy17023 => (intro w hSw; (try dsimp only at hSw); go_simp <;> first | with_reducible rfl | rw [if_neg (by omega)] | rw [if_pos (by omega)])
  (try simp only [PU])
  refine TK 23 (v := ?v17024) hHeld ?hy17024 ?_
  case hy17024 => (intro w _; go_simp <;> rfl)
  (try simp only [PU])
  refine TK 24 (v := ?v17025) hHeld ?hy17025 ?_
  case hy17025 => (intro w hSw; (try dsimp only at hSw); go_simp <;> first | with_reducible rfl | rw [if_neg (by omega)] | rw [if_pos (by omega)])
  (try simp only [PU])
  refine TK 25 (v := ?v17026) hHeld ?hy17026 ?_
  case hy17026 => (intro w _; go_simp <;> rfl)
  (try simp only [PU])
  refine TK 26 (v := ?v17027) hHeld ?hy17027 ?_
  case hy17027 => (intro w hSw; (try dsimp only at hSw); go_simp <;> first | with_reducible rfl | rw [if_neg (by omega)] | rw [if_pos (by omega)])
  (try simp only [PU])
  refine TK 27 (v := ?v17028) hHeld ?hy17028 ?_
  case hy17028 => (intro w _; go_simp <;> rfl)
  (try simp only [PU])
  refine TK 28 (v := ?v17029) hHeld ?hy17029 ?_
  case hy17029 => (intro w hSw; (try dsimp only at hSw); go_simp <;> first | with_reducible rfl | rw [if_neg (by omega)] | rw [if_pos (by omega)])
  (try simp only [PU])
  refine wpAnyH_ready (rs := [14]) (by kernel_rfl) (by simp) ?_
  refine AllReadyH.cons (o := ⟨_, _, _, _, _, _⟩) rfl (fun K hK => ?step17030x0) ?more17030x0
  case more17030x0 => exact AllReadyH.nil
  go_simp
  (with_reducible refine (HPF.out _ (by solve_by_elim [X0, X1, X2, X3])).mono ?_; rintro r v14 ⟨A14, c14, rfl, hc14, hV14, hy14⟩; replace hy14 : Ext w1 v14 := Ext.trans (by solve_by_elim [X0, X1, X2, X3]) hy14)
  refine hK.out _ _ ?hS17030x0 (fun H17030 => ?_)
  case hS17030x0 => first | (exact MK.out _ (by solve_by_elim [X0, X1, X2, X3])) | ((try dsimp only); (exact MK.out _ (by solve_by_elim [X0, X1, X2, X3])))
  clear hK K
  clear hHeld
  (try simp only [PU])
  refine wpAnyH_ready (rs := [29]) (by kernel_rfl) (by simp) ?_
  refine AllReadyH.cons (o := ⟨_, _, _, _, _, _⟩) rfl (fun K hK => ?step17031x0) ?more17031x0
  case more17031x0 => exact AllReadyH.nil
  go_simp
  (with_reducible refine (HRF.out _ (by solve_by_elim [X0, X1, X2, X3])).mono ?_; rintro r v29 ⟨A29, c29, rfl, hc29, hV29, hy29⟩; replace hV14 := hV14.ext (Ext.trans (by solve_by_elim [X0, X1, X2, X3]) hy29); replace hy29 : Ext w1 v29 := Ext.trans (by solve_by_elim [X0, X1, X2, X3]) hy29)
  refine hK.out _ _ ?hS17031x0 (fun H17031 => ?_)
  case hS17031x0 => first | (exact MK.out _ (by solve_by_elim [X0, X1, X2, X3])) | ((try dsimp only); (exact MK.out _ (by solve_by_elim [X0, X1, X2, X3])))
  clear hK K
  clear H17030
  (try simp only [PU])
  refine wpAnyH_ready (rs := [30]) (by kernel_rfl) (by simp) ?_
  refine AllReadyH.cons (o := ⟨_, _, _, _, _, _⟩) rfl (fun K hK => ?step17032x0) ?more17032x0
  case more17032x0 => exact AllReadyH.nil
  go_simp
  (with_reducible refine (HS1.out _ _ _ _ _ _ _ (hV14.ext (by solve_by_elim [X0, X1, X2, X3])) (hV29.ext (by solve_by_elim [X0, X1, X2, X3]))).mono ?_; rintro r v30 ⟨rfl, hy30⟩; replace hy30 : Ext w1 v30 := Ext.trans (by solve_by_elim [X0, X1, X2, X3]) hy30)
  refine hK.out _ _ ?hS17032x0 (fun H17032 => ?_)
  case hS17032x0 => first | (exact MK.out _ (by solve_by_elim [X0, X1, X2, X3])) | ((try dsimp only); (exact MK.out _ (by solve_by_elim [X0, X1, X2, X3])))
  clear hK K
  clear H17031
  (try simp only [PU])
  refine TK 31 (v := ?v17033) H17032 ?hy17033 ?_
  case hy17033 => (intro w _; go_simp <;> rfl)
  (try simp only [PU])
  refine TK 32 (v := ?v17034) H17032 ?hy17034 ?_
  case hy17034 => (intro w _; go_simp <;> rfl)
  (try simp only [PU])
  refine TK 33 (v := ?v17035) H17032 ?hy17035 ?_
  case hy17035 => (intro w hSw; (try dsimp only at hSw); go_simp <;> first | with_reducible rfl | rw [if_neg (by omega)] | rw [if_pos (by omega)])
  (try simp only [PU])
  refine TK 34 (v := ?v17036) H17032 ?hy17036 ?_
  case hy17036 => (intro w _; go_simp <;> rfl)
  (try simp only [PU])
  refine TK 35 (v := ?v17037) H17032 ?hy17037 ?_
  case hy17037 => (intro w hSw; (try dsimp only at hSw); go_simp <;> first | with_reducible rfl | rw [if_neg (by omega)] | rw [if_pos (by omega)])
  (try simp only [PU])
  refine TK 36 (v := ?v17038) H17032 ?hy17038 ?_
  case hy17038 => (intro w _; go_simp <;> rfl)
  (try simp only [PU])
  refine TK 37 (v := ?v17039) H17032 ?hy17039 ?_
  case hy17039 => (intro w hSw; (try dsimp only at hSw); go_simp <;> first | with_reducible rfl | rw [if_neg (by omega)] | rw [if_pos (by omega)])
  (try simp only [PU])
  refine TK 38 (v := ?v17040) H17032 ?hy17040 ?_
  case hy17040 => (intro w _; go_simp <;> rfl)
  (try simp only [PU])
  refine TK 39 (v := ?v17041) H17032 ?hy17041 ?_
  case hy17041 => (intro w hSw; (try dsimp only at hSw); go_simp <;> first | with_reducible rfl | rw [if_neg (by omega)] | rw [if_pos (by omega)])
  (try simp only [PU])
  refine TK 40 (v := ?v17042) H17032 ?hy17042 ?_
  case hy17042 => (intro w _; go_simp <;> rfl)
  (try simp only [PU])
  refine TK 41 (v := ?v17043) H17032 ?hy17043 ?_
  case hy17043 => (intro w hSw; (try dsimp only at hSw); go_simp <;> first | with_reducible rfl | rw [if_neg (by omega)] | rw [if_pos (by omega)])
  (try simp only [PU])
  refine TK 42 (v := ?v17044) H17032 ?hy17044 ?_
  case hy17044 => (intro w _; go_simp <;> rfl)
  (try simp only [PU])
  refine TK 43 (v := ?v17045) H17032 ?hy17045 ?_
  case hy17045 => (intro w hSw; (try dsimp only at hSw); go_simp <;> first | with_reducible rfl | rw [if_neg (by omega)] | rw [if_pos (by omega)])
  (try simp only [PU])
  refine TK 44 (v := ?v17046) H17032 ?hy17046 ?_
  case hy17046 => (intro w _; go_simp <;> rfl)
  (try simp only [PU])
  refine TK 45 (v := ?v17047) H17032 ?hy17047 ?_
  case hy17047 => (intro w hSw; (try dsimp only at hSw); go_simp <;> first | with_reducible rfl | rw [if_neg (by omega)] | rw [if_pos (by omega)])
  (try simp only [PU])
  refine TK 46 (v := ?v17048) H17032 ?hy17048 ?_
  case hy17048 => (intro w _; go_simp <;> rfl)
  (try simp only [PU])
  refine TK 47 (v := ?v17049) H17032 ?hy17049 ?_
  case hy17049 => (intro w hSw; (try dsimp only at hSw); go_simp <;> first | with_reducible rfl | rw [if_neg (by omega)] | rw [if_pos (by omega)])
  (try simp only [PU])
  refine TK 49 (v := ?v17050) H17032 ?hy17050 ?_
  case hy17050 => (intro w _; go_simp <;> rfl)
  (try simp only [PU])
  refine TK 50 (v := ?v17051) H17032 ?hy17051 ?_
  case hy17051 => (intro w hSw; (try dsimp only at hSw); go_simp <;> first | with_reducible rfl | rw [if_neg (by omega)] | rw [if_pos (by omega)])
  (try simp only [PU])
  refine TK 51 (v := ?v17052) H17032 ?hy17052 ?_
  case hy17052 => (intro w _; go_simp <;> rfl)
  (try simp only [PU])
  refine TK 52 (v := ?v17053) H17032 ?hy17053 ?_
  case hy17053 => (intro w hSw; (try dsimp only at hSw); go_simp <;> first | with_reducible rfl | rw [if_neg (by omega)] | rw [if_pos (by omega)])
  (try simp only [PU])
  refine TK 53 (v := ?v17054) H17032 ?hy17054 ?_
  case hy17054 => (intro w _; go_simp <;> rfl)
  (try simp only [PU])
  refine TK 54 (v := ?v17055) H17032 ?hy17055 ?_
  case hy17055 => (intro w hSw; (try dsimp only at hSw); go_simp <;> first | with_reducible rfl | rw [if_neg (by omega)] | rw [if_pos (by omega)])
  (try simp only [PU])
  refine TK 55 (v := ?v17056) H17032 ?hy17056 ?_
  case hy17056 => (intro w _; go_simp <;> rfl)
  (try simp only [PU])
  refine TK 56 (v := ?v17057) H17032 ?hy17057 ?_
  case hy17057 => (intro w hSw; (try dsimp only at hSw); go_simp <;> first | with_reducible rfl | rw [if_neg (by omega)] | rw [if_pos (by omega)])
  (try simp only [PU])
  refine TK 57 (v := ?v17058) H17032 ?hy17058 ?_
  case hy17058 => (intro w _; go_simp <;> rfl)
  (try simp only [PU])
  refine TK 58 (v := ?v17059) H17032 ?hy17059 ?_
  case hy17059 => (intro w hSw; (try dsimp only at hSw); go_simp <;> first | with_reducible rfl | rw [if_neg (by omega)] | rw [if_pos (by omega)])
  (try simp only [PU])
  refine TK 59 (v := ?v17060) H17032 ?hy17060 ?_
  case hy17060 => (intro w _; go_simp <;> rfl)
  (try simp only [PU])
  refine TK 60 (v := ?v17061) H17032 ?hy17061 ?_
  case hy17061 => (intro w hSw; (try dsimp only at hSw); go_simp <;> first | with_reducible rfl | rw [if_neg (by omega)] | rw [if_pos (by omega)])
  (try simp only [PU])
  refine TK 61 (v := ?v17062) H17032 ?hy17062 ?_
  case hy17062 => (intro w _; go_simp <;> rfl)
  (try simp only [PU])
  refine TK 62 (v := ?v17063) H17032 ?hy17063 ?_
  case hy17063 => (intro w hSw; (try dsimp only at hSw); go_simp <;> first | with_reducible rfl | rw [if_neg (by omega)] | rw [if_pos (by omega)])
  (try simp only [PU])
  refine TK 63 (v := ?v17064) H17032 ?hy17064 ?_
  case hy17064 => (intro w _; go_simp <;> rfl)
  (try simp only [PU])
  refine TK 64 (v := ?v17065) H17032 ?hy17065 ?_
  case hy17065 => (intro w hSw; (try dsimp only at hSw); go_simp <;> first | with_reducible rfl | rw [if_neg (by omega)] | rw [if_pos (by omega)])
  (try simp only [PU])
  refine wpAnyH_ready (rs := [48]) (by kernel_rfl) (by simp) ?_
  refine AllReadyH.cons (o := ⟨_, _, _, _, _, _⟩) rfl (fun K hK => ?step17066x0) ?more17066x0
  case more17066x0 => exact AllReadyH.nil
  go_simp
  (with_reducible refine (HPB.out _ (by solve_by_elim [X0, X1, X2, X3])).mono ?_; rintro r v48 ⟨A48, c48, rfl, hc48, hV48, hy48⟩; replace hy48 : Ext w1 v48 := Ext.trans (by solve_by_elim [X0, X1, X2, X3]) hy48)
  refine hK.out _ _ ?hS17066x0 (fun H17066 => ?_)
  case hS17066x0 => first | (exact MK.out _ (by solve_by_elim [X0, X1, X2, X3])) | ((try dsimp only); (exact MK.out _ (by solve_by_elim [X0, X1, X2, X3])))
  clear hK K
  clear H17032
  (try simp only [PU])
  refine wpAnyH_ready (rs := [65]) (by kernel_rfl) (by simp) ?_
  refine AllReadyH.cons (o := ⟨_, _, _, _, _, _⟩) rfl (fun K hK => ?step17067x0) ?more17067x0
  case more17067x0 => exact AllReadyH.nil
  go_simp
  (with_reducible refine (HRB.out _ (by solve_by_elim [X0, X1, X2, X3])).mono ?_; rintro r v65 ⟨A65, c65, rfl, hc65, hV65, hy65⟩; replace hV48 := hV48.ext (Ext.trans (by solve_by_elim [X0, X1, X2, X3]) hy65); replace hy65 : Ext w1 v65 := Ext.trans (by solve_by_elim [X0, X1, X2, X3]) hy65)
  refine hK.out _ _ ?hS17067x0 (fun H17067 => ?_)
  case hS17067x0 => first | (exact MK.out _ (by solve_by_elim [X0, X1, X2, X3])) | ((try dsimp only); (exact MK.out _ (by solve_by_elim [X0, X1, X2, X3])))
  clear hK K
  clear H17066
  (try simp only [PU])
  refine wpAnyH_ready (rs := [66]) (by kernel_rfl) (by simp) ?_
  refine AllReadyH.cons (o := ⟨_, _, _, _, _, _⟩) rfl (fun K hK => ?step17068x0) ?more17068x0
  case more17068x0 => exact AllReadyH.nil
  go_simp
  (with_reducible refine (HS2.out _ _ _ _ _ _ _ (hV48.ext (by solve_by_elim [X0, X1, X2, X3])) (hV65.ext (by solve_by_elim [X0, X1, X2, X3]))).mono ?_; rintro r v66 ⟨rfl, hy66⟩; replace hy66 : Ext w1 v66 := Ext.trans (by solve_by_elim [X0, X1, X2, X3]) hy66)
  refine hK.out _ _ ?hS17068x0 (fun H17068 => ?_)
  case hS17068x0 => first | (exact MK.out _ (by solve_by_elim [X0, X1, X2, X3])) | ((try dsimp only); (exact MK.out _ (by solve_by_elim [X0, X1, X2, X3])))
  clear hK K
  clear H17067
  (try simp only [PU])
  refine TK 67 (v := ?v17069) H17068 ?hy17069 ?_
  case hy17069 => (intro w _; go_simp <;> rfl)
  (try simp only [PU])
  refine TK 68 (v := ?v17070) H17068 ?hy17070 ?_
  case hy17070 => (intro w _; go_simp <;> rfl)
  (try simp only [PU])
  refine wpAnyH_ready (rs := [69]) (by kernel_rfl) (by simp) ?_
  refine AllReadyH.cons (o := ⟨_, _, _, _, _, _⟩) rfl (fun K hK => ?step17071x0) ?more17071x0
  case more17071x0 => exact AllReadyH.nil
  go_simp
  (with_reducible refine (HLV.out _ (by solve_by_elim [X0, X1, X2, X3])).mono ?_; rintro r v69 ⟨rfl, hy69⟩; replace hy69 : Ext w1 v69 := Ext.trans (by solve_by_elim [X0, X1, X2, X3]) hy69)
  refine hK.out _ _ ?hS17071x0 (fun H17071 => ?_)
  case hS17071x0 => first | (exact MK.out _ (by solve_by_elim [X0, X1, X2, X3])) | ((try dsimp only); (exact MK.out _ (by solve_by_elim [X0, X1, X2, X3])))
  clear hK K
  clear H17068
  (try simp only [PU])
  refine TK 70 (v := ?v17072) H17071 ?hy17072 ?_
  case hy17072 => (intro w _; go_simp <;> rfl)
  (try simp only [PU])
  refine TK 71 (v := ?v17073) H17071 ?hy17073 ?_
  case hy17073 => (intro w _; go_simp <;> first | with_reducible rfl | rw [if_neg (by omega)] | rw [if_pos (by omega)])
  (try simp only [PU])
  refine wpAnyH_done (by kernel_rfl) ?_ _
  clear H17071
  go_wp2_with fail
  go_ret
  exact ⟨rfl, HX.out.trans (by solve_by_elim [X0, X1, X2, X3])⟩
end Go.Proofs.YtigmdddeplnciaaGreatDoor
