/- PARTS OF THE WALKS, joined: PtJ, PtK. -/
import Derived.Test.YtigmdddeplnciaaGreatDoorV13
import Derived.Test.YtigmdddeplnciaaGreatDoorV09
import Derived.Test.YtigmdddeplnciaaGreatDoorV15
import Derived.Test.YtigmdddeplnciaaGreatDoorShelfG
import Derived.Shelf.SlSortCmp.NoneTotal
import Derived.Test.YtigmdddeplnciaaGreatDoorV04
import Derived.WalkKit
/- THE WALK over paths.From. -/
namespace Go.Proofs.YtigmdddeplnciaaGreatDoor
open Go.RowKit Go.Sort
theorem p_visit {w0 : World} {s : Nat} {A : Option Addr} {c : Nat} {B : Option Addr} {d : Nat} {T : Option Addr} {e : Nat} {g : GraphG} {types : List ByteArray} {dir mode mn : Int} {mx : Nat} {s0 : Int} {ok ok' : Nat → Prop} (hgd : GoodG g) (hE : Edges w0 ok B g.edges) (hT : Strs w0 ok' T types) (h6 : mx ≤ 6) : ∀ f : Nat, VisitAt w0 s A c B d T e g types dir mode mn mx s0 f
  | 0 => p_visitStep w0 s A c B d T e g types dir mode mn mx s0 ok ok' hgd hE hT h6 0 (fun f' h => absurd h (by omega))
  | f + 1 => p_visitStep w0 s A c B d T e g types dir mode mn mx s0 ok ok' hgd hE hT h6 (f + 1) (fun f' h => by
    have : f' = f := by omega
    subst this
    exact p_visit hgd hE hT h6 f')
theorem dfs_len {g : GraphG} {types : List ByteArray} {dir mode s mn : Int} : ∀ (f : Nat) (h : List Hop), (dfsP mode s (stepsL g types dir) mn f h).length ≤ (g.edges.length + 1) ^ f
  | 0, h => by rw [dfsP]; repeat' split
               all_goals simp
  | f + 1, h => by
    rw [dfsP]
    split
    · rw [List.length_append]
      have h1 : (if mn ≤ (h.length : Int) then [h] else []).length ≤ 1 := by split <;> simp
      have h2 : ((stepsL g types dir (lastP s h)).flatMap (fun a => dfsP mode s (stepsL g types dir) mn f (h ++ [a]))).length ≤ (stepsL g types dir (lastP s h)).length * (g.edges.length + 1) ^ f := by
        generalize stepsL g types dir (lastP s h) = S
        induction S with
        | nil => simp
        | cons a S ih =>
          rw [List.flatMap_cons, List.length_append, List.length_cons, Nat.add_mul]
          have := dfs_len (g := g) (types := types) (dir := dir) (mode := mode) (s := s) (mn := mn) f (h ++ [a])
          omega
      have h3 := stepsL_len g types dir (lastP s h)
      have h4 : (stepsL g types dir (lastP s h)).length * (g.edges.length + 1) ^ f ≤ g.edges.length * (g.edges.length + 1) ^ f := Nat.mul_le_mul_right _ h3
      have h5 : 1 ≤ (g.edges.length + 1) ^ f := Nat.one_le_pow _ _ (by omega)
      rw [Nat.pow_succ, Nat.mul_comm, Nat.add_mul]
      omega
    · simp
theorem swo_path : SWO (ltOf (fun x y : HV => ordP x.v y.v)) := by
  refine ⟨fun x => ?_, fun x y z h1 h2 => ?_, fun x y z h1 h2 => ?_⟩
  · show decide (ordP x.v x.v < 0) = false
    rw [TotC.path.refl]; rfl
  · have h1' : ordP x.v y.v < 0 := of_decide_eq_true h1
    have h2' : ordP y.v z.v < 0 := of_decide_eq_true h2
    refine decide_eq_true (show ordP x.v z.v < 0 from ?_)
    have a1 := TotC.path.anti x.v y.v
    have a2 := TotC.path.anti y.v z.v
    have a3 := TotC.path.trans x.v y.v z.v (by omega) (by omega)
    rcases TotC.path.rng x.v z.v with h | h | h
    · omega
    · have := (TotC.path.zero _ _).1 h
      rw [this] at h1'
      omega
    · omega
  · have h1' : ¬ ordP x.v y.v < 0 := of_decide_eq_false h1
    have h2' : ¬ ordP y.v z.v < 0 := of_decide_eq_false h2
    refine decide_eq_false (fun (h3 : ordP x.v z.v < 0) => ?_)
    have a1 := TotC.path.anti x.v y.v
    have a2 := TotC.path.anti y.v z.v
    have a3 := TotC.path.anti x.v z.v
    have := TotC.path.trans z.v y.v x.v (by omega) (by omega)
    omega
theorem eg_pOrder (args : Array Value) (w : World) : (callFunc 19 args).run Tryz.prog w = .ok (.enter 19 args) w :=
  run_enter (c := Tryz.f19.body.get!) Tryz.func19 (by kernel_rfl) (by kernel_rfl) args w
theorem ZeroAt.grownV {w w' : World} {g : Nat} (h : ZeroAt w) (hg : w.grownBy w' (some g)) (hne : 0 ≠ g) : ZeroAt w' :=
  ⟨hg.cell h.1 (fun e => hne (Option.some.inj e)), hg.cell h.2.1 (fun e => hne (Option.some.inj e)), Nat.lt_of_lt_of_le h.2.2 hg.size⟩
theorem sort_vals (hs : List HV) (base : Nat) (ok0 : Nat → Prop) (g cap : Nat) (w : World) (h : OwnV w base ok0 (.slice (some ⟨g, 0, none⟩) hs.length cap) hs) (hl : hs.length ≤ 8000000) (hz : ZeroAt w) (hzg : 0 ≠ g) :
    Calls Tryz.prog 27 #[.slice (some ⟨g, 0, none⟩) hs.length cap, .func (.func 19) #[] #[]] w fun r w' => r = .returned (.tuple #[]) ∧ ∃ hs' : List HV, hs'.Perm hs ∧ hs'.Pairwise (fun x y => ordP x.v y.v ≤ 0) ∧ OwnV w' base ok0 (.slice (some ⟨g, 0, none⟩) hs.length cap) hs' ∧ w.grownBy w' (some g) := by
  have H := own_sort (P := Tryz.prog) (K := KHV) Tryz.laysSortVal Tryz.isAgg37 Tryz.sizeOf37 zHV (fun _ _ => ⟨Nat.le_refl _, SliceR.nil _ _ _⟩) (fun x y => ordP x.v y.v) swo_path 19 w base ok0 g cap hs h hl eg_pOrder (fun W x y hg hx hy => p_Order x.v y.v _ _ x.A y.A x.c y.c W (hz.grownV hg hzg) hx.2 hy.2)
  refine (show Calls Tryz.prog 27 _ w _ from H).mono ?_
  rintro r w' ⟨rfl, hs', hp, hpw, hO, hG⟩
  exact ⟨rfl, hs', hp, hpw.imp (fun {x y} h => by have := TotC.path.anti x.v y.v; omega), hO, hG⟩
theorem sort_vals0 (fv : Value) (w : World) : Calls Tryz.prog 27 #[.slice none 0 0, fv] w fun e w' => e = .returned (.tuple #[]) ∧ Ext w w' := by
  have H := AnyF.slices_SortFunc_none (P := Tryz.prog) Tryz.laysSortVal none 0 fv w
  exact (show Calls Tryz.prog 27 _ w _ from H).mono (fun e w' ⟨h1, h2⟩ => ⟨h1, by rw [h2]; exact Ext.refl _⟩)
/-- the search's struct, new -/
theorem box_src (w : World) (A : Option Addr) (c : Nat) (B : Option Addr) (d : Nat) (T : Option Addr) (e : Nat) (g : GraphG) (tl : Nat) (dir mode mn mx : Int) : ∃ (s : Nat) (w1 : World), s = w.heap.size ∧ w1 = w.alloc (.cells #[.slice A g.nodes.length c, .slice B g.edges.length d, .int .i64 g.nn, .int .i64 g.ne, .slice T tl e, .int .i64 dir, .int .i64 mode, .int .i64 mn, .int .i64 mx, .slice none 0 0] 54) ∧ SrcC w1 s A c B d T e g tl dir mode mn mx (.slice none 0 0) ∧ Ext w w1 :=
  ⟨_, _, rfl, rfl, ⟨by go_simp, by go_simp, by go_simp, by go_simp, by go_simp, by go_simp, by go_simp, by go_simp, by go_simp, by go_simp, by go_simp⟩, (Ext.refl _).alloc _⟩
theorem from_no {g : GraphG} {s : Int} {types : List ByteArray} {dir mode mn mx : Int} (h : ¬ fromOk g s mode mn mx) : fromP g s types dir mode mn mx = [] := by unfold fromP; rw [if_neg h]
theorem dfs_bad {g : GraphG} {s : Int} {types : List ByteArray} {dir mode mn : Int} (f : Nat) (h : ¬ (1 ≤ mode ∧ mode ≤ 3)) : dfsP mode s (stepsL g types dir) mn f [] = [] := by
  refine dfs_no mode s _ mn f [] ?_
  cases ha : allowH s [] mode
  · rfl
  · exact absurd (allow_mode ha) h
/-- what is sorted is what From returns -/
theorem from_sorted {g : GraphG} {s : Int} {types : List ByteArray} {dir mode mn mx : Int} (hc : chkG g = 0) (hn : hasN g.nodes s = true) (h0 : 0 ≤ mn) (h1 : mn ≤ mx) (h2 : mx ≤ 6) {hs hs' : List HV} (hm : hs.map HV.v = (dfsP mode s (stepsL g types dir) mn mx.toNat []).map (fun h => pathV (elsP s h))) (hp : hs'.Perm hs) (hr : hs'.Pairwise (fun x y => ordP x.v y.v ≤ 0)) : hs'.map HV.v = fromP g s types dir mode mn mx := by
  have hp' := hp.map HV.v
  rw [hm] at hp'
  by_cases hmo : 1 ≤ mode ∧ mode ≤ 3
  · unfold fromP
    rw [if_pos ⟨hc, hn, hmo.1, hmo.2, h0, h1, h2⟩]
    exact dfs_all (good_of hc) (id_node (good_of hc) hn) hmo (stepsL_perm g types dir) mn mx.toNat (by omega) hp' (List.pairwise_map.2 hr)
  · rw [from_no (fun h => hmo ⟨h.2.2.1, h.2.2.2.1⟩)]
    rw [dfs_bad _ hmo] at hp'
    exact List.perm_nil.1 hp'
/-- the first call of visit -/
theorem from_visit {w w4 w5 : World} {sb : Nat} {A : Option Addr} {c : Nat} {B : Option Addr} {d : Nat} {T : Option Addr} {e : Nat} {g : GraphG} {types : List ByteArray} {dir mode mn : Int} {m : Nat} {s : Int} {ok ok' : Nat → Prop} (hgd : GoodG g) (hE : Edges w ok B g.edges) (hT : Strs w ok' T types) (h6 : m ≤ 6) (hid : idOk s) (hx4 : Ext w w4) (hSC : SrcC w4 sb A c B d T e g types.length dir mode mn (m : Int) (.slice none 0 0)) (hsb : w.heap.size ≤ sb) (hx5 : Ext w4 w5) (hcnt : (dfsP mode s (stepsL g types dir) mn m []).length ≤ 8000000) :
    Calls Tryz.prog 25 #[.pointer (some ⟨sb, 0, none⟩), .slice (some ⟨w5.heap.size, 0, none⟩) 1 1] (w5.alloc (.cells #[.int .i64 (nodeV s).kind, .int .i64 (nodeV s).n, .int .i64 (nodeV s).d, .string (nodeV s).s, .slice none (nodeV s).l.length 0] 37)) fun r W' => r = .returned (.tuple #[]) ∧ ∃ v' hs', SrcSt w sb A c B d T e g types.length dir mode mn (m : Int) W' v' hs' ∧ hs'.map HV.v = (dfsP mode s (stepsL g types dir) mn m []).map (fun h => pathV (elsP s h)) := by
  have hs4 : sb < w4.heap.size := block_lt_of_cell hSC.c0
  have hle5 := hx5.le
  obtain ⟨w6, hw6⟩ : ∃ w6, w6 = w5.alloc (.cells #[.int .i64 (nodeV s).kind, .int .i64 (nodeV s).n, .int .i64 (nodeV s).d, .string (nodeV s).s, .slice none (nodeV s).l.length 0] 37) := ⟨_, rfl⟩
  have hx6 : Ext w5 w6 := by rw [hw6]; exact (Ext.refl _).alloc _
  have hv : Vals w6 (fun b => okS sb b ∧ some b ≠ (Value.slice none 0 0).ownBlock) (some ⟨w5.heap.size, 0, none⟩) [nodeV s] := ⟨by simp, fun _ => ⟨_, _, rfl, fun k hk => by
    have : k = 0 := by simp at hk; exact hk
    subst this
    refine VCells.iff.2 ⟨⟨by unfold okS; omega, by simp [Value.ownBlock]⟩, none, 0, ⟨by rw [hw6]; go_simp, by rw [hw6]; go_simp, by rw [hw6]; go_simp, by rw [hw6]; go_simp, by rw [hw6]; go_simp⟩, Nat.le_refl _, SliceR.nil _ _ _⟩⟩⟩
  rw [← hw6]
  refine (p_visit hgd hE hT h6 m [] w6 (.slice none 0 0) [] (some ⟨w5.heap.size, 0, none⟩) 1 0 rfl (by simp) ⟨hid, fun x hx => absurd hx (by simp)⟩ ⟨hx4.trans (hx5.trans hx6), hsb, hSC.ext (hx5.trans hx6), OwnG.nil _ _ _ _ _⟩ (Nat.le_refl _) hv (by simpa using hcnt)).mono ?_
  rintro r W' ⟨rfl, v', hs', h1, h2, -⟩
  exact ⟨rfl, v', hs', by simpa using h1, h2⟩
/-- what From answers: nil, or a row that it owns -/
def FromPost (w w' : World) (e : Ending) (R : List Val) : Prop := (e = .returned (.slice none 0 0) ∧ R = [] ∧ Ext w w') ∨ ∃ g cap n hs base ok0, e = .returned (.slice (some ⟨g, 0, none⟩) n cap) ∧ n = hs.length ∧ hs.map HV.v = R ∧ OwnV w' base ok0 (.slice (some ⟨g, 0, none⟩) n cap) hs ∧ n ≤ cap ∧ w.heap.size ≤ g ∧ (∀ b, (base ≤ b ∨ ok0 b) → w.heap.size ≤ b) ∧ n ≤ 4000 ∧ Ext w w'
set_option maxRecDepth 100000 in
set_option maxHeartbeats 6400000 in
theorem p_FromO (g : GraphG) (types : List ByteArray) (s dir mode mn mx : Int) (ok ok' : Nat → Prop) (A B T : Option Addr) (c d e : Nat) (w : World) (hz : ZeroAt w) (hg : GraphAt w ok A B g) (hcap : ∀ x ∈ g.nodes, capN x) (ht : Strs w ok' T types) (hcnt : 0 ≤ mx → mx ≤ 6 → (g.edges.length + 1) ^ mx.toNat ≤ 4000) :
    Calls Tryz.prog 11 #[.agg #[.slice A g.nodes.length c, .slice B g.edges.length d, .int .i64 g.nn, .int .i64 g.ne], .int .i64 s, .slice T types.length e, .int .i64 dir, .int .i64 mode, .int .i64 mn, .int .i64 mx] w fun e w' => FromPost w w' e (fromP g s types dir mode mn mx) := by
  obtain ⟨q, w1, hq, hw1, g0, g1, g2, g3, hx1⟩ := box_graph w A B c d g 25
  have HW1 := Lib.hid hw1
  have HQ := Lib.hid hq
  have HND := Lib.hid (fun W (e : Ext w W) => gr_Node g ok A B c d s W (hg.nodes.ext e) hcap)
  have HCH := Lib.hid (fun W (e : Ext w W) => gr_Check g ok A B c d W (hg.ext e))
  have HNO := Lib.hid (from_no (g := g) (s := s) (types := types) (dir := dir) (mode := mode) (mn := mn) (mx := mx))
  have HOK := Lib.hid (fun (h : fromOk g s mode mn mx) => h)
  have HG := Lib.hid hg
  have HT := Lib.hid ht
  have HZ := Lib.hid hz
  have HCN := Lib.hid hcnt
  have HX1 := Lib.hid hx1
  obtain ⟨R, hR⟩ : ∃ R, R = fromP g s types dir mode mn mx := ⟨_, rfl⟩
  rw [← hR] at HNO ⊢
  have HR := Lib.hid hR
  clear hw1 hq hg hcap ht hz hcnt hR
  go_enter Tryz.func11, Tryz.ntmps11
  go_upto_region 1 with (fail)
  rw [← HW1.out, ← HQ.out]
  clear HW1
  cases hn : hasN g.nodes s
  · rw [hn] at HND
    have hR0 : R = [] := HNO.out (fun h => by have := h.2.1; rw [hn] at this; cases this)
    subst hR0
    clear hn HNO HOK HR
    go_wp2_with (go_at_call 23; ((with_reducible refine (HND.out _ hx1).mono ?_); rintro r w2 ⟨⟨id', L', nl, cl, P', np, cp, rfl⟩, hx2⟩))
    go_ret
    exact Or.inl ⟨rfl, rfl, (hx1.trans hx2).alloc _⟩
  · rw [hn] at HND
    have HHN := Lib.hid hn
    clear hn
    by_cases hc : chkG g = 0
    · rw [hc] at HCH
      have HHC := Lib.hid hc
      clear hc
      by_cases h0 : mn < 0
      · have hR0 : R = [] := HNO.out (fun h => by have := h.2.2.2.2.1; omega)
        subst hR0
        clear HNO HOK HR
        go_wp2_with (first | (go_at_call 23; ((with_reducible refine (HND.out _ hx1).mono ?_); rintro r w2 ⟨⟨id', L', nl, cl, P', np, cp, rfl⟩, hx2⟩; replace g0 := hx2.cell g0; replace g1 := hx2.cell g1; replace g2 := hx2.cell g2; replace g3 := hx2.cell g3; have hq2 : q < w2.heap.size := block_lt_of_cell g0; have e0 := ((Ext.refl w2).alloc (.cells #[.int .i64 id', .slice L' nl cl, .slice P' np cp] 45)).cell g0; have e1 := ((Ext.refl w2).alloc (.cells #[.int .i64 id', .slice L' nl cl, .slice P' np cp] 45)).cell g1; have e2 := ((Ext.refl w2).alloc (.cells #[.int .i64 id', .slice L' nl cl, .slice P' np cp] 45)).cell g2; have e3 := ((Ext.refl w2).alloc (.cells #[.int .i64 id', .slice L' nl cl, .slice P' np cp] 45)).cell g3)) | (go_at_call 24; ((with_reducible refine (HCH.out _ ((hx1.trans hx2).alloc _)).mono ?_); rintro r w3 ⟨rfl, hx3⟩)))
        go_ret
        exact Or.inl ⟨rfl, rfl, ((hx1.trans hx2).alloc _).trans hx3⟩
      by_cases h1 : mx < mn
      · have hR0 : R = [] := HNO.out (fun h => by have := h.2.2.2.2.2.1; omega)
        subst hR0
        clear HNO HOK HR
        go_wp2_with (first | (go_at_call 23; ((with_reducible refine (HND.out _ hx1).mono ?_); rintro r w2 ⟨⟨id', L', nl, cl, P', np, cp, rfl⟩, hx2⟩; replace g0 := hx2.cell g0; replace g1 := hx2.cell g1; replace g2 := hx2.cell g2; replace g3 := hx2.cell g3; have hq2 : q < w2.heap.size := block_lt_of_cell g0; have e0 := ((Ext.refl w2).alloc (.cells #[.int .i64 id', .slice L' nl cl, .slice P' np cp] 45)).cell g0; have e1 := ((Ext.refl w2).alloc (.cells #[.int .i64 id', .slice L' nl cl, .slice P' np cp] 45)).cell g1; have e2 := ((Ext.refl w2).alloc (.cells #[.int .i64 id', .slice L' nl cl, .slice P' np cp] 45)).cell g2; have e3 := ((Ext.refl w2).alloc (.cells #[.int .i64 id', .slice L' nl cl, .slice P' np cp] 45)).cell g3)) | (go_at_call 24; ((with_reducible refine (HCH.out _ ((hx1.trans hx2).alloc _)).mono ?_); rintro r w3 ⟨rfl, hx3⟩)))
        go_ret
        exact Or.inl ⟨rfl, rfl, ((hx1.trans hx2).alloc _).trans hx3⟩
      by_cases h2 : 6 < mx
      · have hR0 : R = [] := HNO.out (fun h => by have := h.2.2.2.2.2.2; omega)
        subst hR0
        clear HNO HOK HR
        go_wp2_with (first | (go_at_call 23; ((with_reducible refine (HND.out _ hx1).mono ?_); rintro r w2 ⟨⟨id', L', nl, cl, P', np, cp, rfl⟩, hx2⟩; replace g0 := hx2.cell g0; replace g1 := hx2.cell g1; replace g2 := hx2.cell g2; replace g3 := hx2.cell g3; have hq2 : q < w2.heap.size := block_lt_of_cell g0; have e0 := ((Ext.refl w2).alloc (.cells #[.int .i64 id', .slice L' nl cl, .slice P' np cp] 45)).cell g0; have e1 := ((Ext.refl w2).alloc (.cells #[.int .i64 id', .slice L' nl cl, .slice P' np cp] 45)).cell g1; have e2 := ((Ext.refl w2).alloc (.cells #[.int .i64 id', .slice L' nl cl, .slice P' np cp] 45)).cell g2; have e3 := ((Ext.refl w2).alloc (.cells #[.int .i64 id', .slice L' nl cl, .slice P' np cp] 45)).cell g3)) | (go_at_call 24; ((with_reducible refine (HCH.out _ ((hx1.trans hx2).alloc _)).mono ?_); rintro r w3 ⟨rfl, hx3⟩)))
        go_ret
        exact Or.inl ⟨rfl, rfl, ((hx1.trans hx2).alloc _).trans hx3⟩
      · obtain ⟨m, hm⟩ : ∃ m : Nat, mx = (m : Int) := ⟨mx.toNat, by omega⟩
        subst hm
        have H0 := Lib.hid (show 0 ≤ mn by omega)
        have H1 := Lib.hid (show mn ≤ (m : Int) by omega)
        have H2 := Lib.hid (show (m : Int) ≤ 6 by omega)
        go_upto_region 4 with (first | (go_at_call 23; ((with_reducible refine (HND.out _ hx1).mono ?_); rintro r w2 ⟨⟨id', L', nl, cl, P', np, cp, rfl⟩, hx2⟩; replace g0 := hx2.cell g0; replace g1 := hx2.cell g1; replace g2 := hx2.cell g2; replace g3 := hx2.cell g3; have hq2 : q < w2.heap.size := block_lt_of_cell g0; have e0 := ((Ext.refl w2).alloc (.cells #[.int .i64 id', .slice L' nl cl, .slice P' np cp] 45)).cell g0; have e1 := ((Ext.refl w2).alloc (.cells #[.int .i64 id', .slice L' nl cl, .slice P' np cp] 45)).cell g1; have e2 := ((Ext.refl w2).alloc (.cells #[.int .i64 id', .slice L' nl cl, .slice P' np cp] 45)).cell g2; have e3 := ((Ext.refl w2).alloc (.cells #[.int .i64 id', .slice L' nl cl, .slice P' np cp] 45)).cell g3)) | (go_at_call 24; ((with_reducible refine (HCH.out _ ((hx1.trans hx2).alloc _)).mono ?_); rintro r w3 ⟨rfl, hx3⟩; replace g0 := hx3.cell e0; replace g1 := hx3.cell e1; replace g2 := hx3.cell e2; replace g3 := hx3.cell e3)))
        have HX3 := Lib.hid (show Ext w w3 from ((hx1.trans hx2).alloc _).trans hx3)
        obtain ⟨sb, w4, hsb, hw4, hSC, hx4⟩ := box_src w3 A c B d T e g types.length dir mode mn (m : Int)
        have HW4 := Lib.hid hw4
        have HSB := Lib.hid hsb
        have HSC := Lib.hid hSC
        have HX4 := Lib.hid hx4
        clear hx1 hx2 hx3 hw4 hsb hSC h0 h1 h2 HND HCH HNO
        go_upto_region 5 with (fail)
        rw [← HW4.out, ← HSB.out]
        clear HW4 g0 g1 g2 g3
        have HVIS := Lib.hid (fun (w5 : World) (hx5 : Ext w4 w5) => from_visit (good_of HHC.out) HG.out.edges HT.out (by have := H2.out; omega) (id_node (good_of HHC.out) HHN.out) (HX3.out.trans HX4.out) HSC.out (by have h1 := HSB.out; have h2 := HX3.out.le; omega) hx5 (Nat.le_trans (dfs_len m []) (Nat.le_trans (by have := HCN.out (by omega) H2.out; simpa using this) (by decide : 4000 ≤ 8000000))))
        have HSL := Lib.hid (show w.heap.size ≤ sb by have h1 := HSB.out; have h2 := HX3.out.le; omega)
        clear HSC
        go_upto_region 6 with (first | (go_at_call 26; ((with_reducible refine (v_Node _ _).mono ?_); rintro r w5 ⟨rfl, hx5⟩)) | (go_at_call 25; ((with_reducible refine (HVIS.out w5 hx5).mono ?_); rintro r w7 ⟨rfl, v7, hs7, hS7, hm7⟩)))
        have HS7 := Lib.hid hS7
        have HM7 := Lib.hid hm7
        have HL7 := Lib.hid (show hs7.length ≤ 4000 by
          have h1 := congrArg List.length hm7
          rw [List.length_map, List.length_map] at h1
          rw [h1]
          exact Nat.le_trans (dfs_len m []) (by have := HCN.out (by omega) H2.out; simpa using this))
        have k9 := hS7.at_.c9
        clear HVIS hS7 hm7 hx5
        have HZ7 := Lib.hid (HZ.out.ext HS7.out.ext)
        rcases HS7.out.own.own.2 with ⟨rfl, h0⟩ | ⟨g7, cap, cur, rfl, hb, hh, hcp, -⟩
        · have hn0 : hs7 = [] := List.eq_nil_of_length_eq_zero h0
          have hR0 : R = [] := by rw [HR.out]; exact (from_sorted HHC.out HHN.out H0.out H1.out H2.out (hs' := []) HM7.out (by rw [hn0]) List.Pairwise.nil).symm
          subst hR0
          have HE7 := Lib.hid HS7.out.ext
          clear HR HS7 HM7 HL7 h0 hn0 HOK
          go_wp2_with (go_at_call 27; ((with_reducible refine (sort_vals0 _ _).mono ?_); rintro r w8 ⟨rfl, hx8⟩; replace k9 := hx8.cell k9))
          go_ret
          exact Or.inl ⟨rfl, rfl, HE7.out.trans hx8⟩
        · have HGB := Lib.hid (show sb + 1 ≤ g7 from hb)
          have HZG := Lib.hid (show 0 ≠ g7 by
            have h1 : 0 < w.heap.size := block_lt_of_cell HZ.out.1
            have h2 := HGB.out
            have h3 := HSL.out
            omega)
          have HSO := Lib.hid (sort_vals hs7 (sb + 1) (okS sb) g7 cap w7 HS7.out.own (by have := HL7.out; omega) HZ7.out HZG.out)
          have HE7 := Lib.hid HS7.out.ext
          have HCP := Lib.hid hcp
          clear hb hh hcp HS7 HZ7
          go_wp2_with (go_at_call 27; ((with_reducible refine (HSO.out).mono ?_); rintro r w8 ⟨rfl, hs8, hp8, hr8, hO8, hG8⟩; replace k9 := hG8.cell k9 (fun e => by have h1 : sb = g7 := Option.some.inj e; have := HGB.out; omega)))
          have hv8 := from_sorted (types := types) (dir := dir) (mode := mode) HHC.out HHN.out H0.out H1.out H2.out HM7.out hp8 hr8
          rw [← HR.out] at hv8
          have hl8 : hs8.length = hs7.length := hp8.length_eq
          rw [← hl8] at hO8
          go_ret
          exact Or.inr ⟨g7, cap, hs8.length, hs8, _, _, by rw [hl8]; rfl, rfl, hv8, hO8, by rw [hl8]; exact HCP.out, by have h2 := HGB.out; have h3 := HSL.out; omega, fun b hb => hb.elim (fun h => by have h3 := HSL.out; omega) (fun h => by have h3 := HSL.out; unfold okS at h; omega), by rw [hl8]; exact HL7.out, HE7.out.grown hG8 (fun b hb => by have h1 : g7 = b := Option.some.inj hb; have h2 := HGB.out; have h3 := HSL.out; omega)⟩
    · have hR0 : R = [] := HNO.out (fun h => hc h.1)
      subst hR0
      have hcb : (chkG g != 0) = true := by simpa using hc
      clear HNO HOK HR
      go_wp2_with (first | (go_at_call 23; ((with_reducible refine (HND.out _ hx1).mono ?_); rintro r w2 ⟨⟨id', L', nl, cl, P', np, cp, rfl⟩, hx2⟩; have g0 := hx2.cell g0; have g1 := hx2.cell g1; have g2 := hx2.cell g2; have g3 := hx2.cell g3; have e0 := ((Ext.refl w2).alloc (.cells #[.int .i64 id', .slice L' nl cl, .slice P' np cp] 45)).cell g0; have e1 := ((Ext.refl w2).alloc (.cells #[.int .i64 id', .slice L' nl cl, .slice P' np cp] 45)).cell g1; have e2 := ((Ext.refl w2).alloc (.cells #[.int .i64 id', .slice L' nl cl, .slice P' np cp] 45)).cell g2; have e3 := ((Ext.refl w2).alloc (.cells #[.int .i64 id', .slice L' nl cl, .slice P' np cp] 45)).cell g3)) | (go_at_call 24; ((with_reducible refine (HCH.out _ ((hx1.trans hx2).alloc _)).mono ?_); rintro r w3 ⟨rfl, hx3⟩)))
      go_ret
      exact Or.inl ⟨rfl, rfl, ((hx1.trans hx2).alloc _).trans hx3⟩
theorem p_From (g : GraphG) (types : List ByteArray) (s dir mode mn mx : Int) (ok ok' : Nat → Prop) (A B T : Option Addr) (c d e : Nat) (w : World) (hz : ZeroAt w) (hg : GraphAt w ok A B g) (hcap : ∀ x ∈ g.nodes, capN x) (ht : Strs w ok' T types) (hcnt : 0 ≤ mx → mx ≤ 6 → (g.edges.length + 1) ^ mx.toNat ≤ 4000) :
    Calls Tryz.prog 11 #[.agg #[.slice A g.nodes.length c, .slice B g.edges.length d, .int .i64 g.nn, .int .i64 g.ne], .int .i64 s, .slice T types.length e, .int .i64 dir, .int .i64 mode, .int .i64 mn, .int .i64 mx] w fun e w' => ∃ A' c', e = .returned (.slice A' (fromP g s types dir mode mn mx).length c') ∧ (fromP g s types dir mode mn mx).length ≤ c' ∧ Vals w' (fun b => w.heap.size ≤ b) A' (fromP g s types dir mode mn mx) ∧ Ext w w' := by
  refine (p_FromO g types s dir mode mn mx ok ok' A B T c d e w hz hg hcap ht hcnt).mono ?_
  rintro e w' (⟨rfl, hR, hx⟩ | ⟨g7, cap, n, hs, base, ok0, rfl, rfl, hv, hO, hc, -, hb, hl, hx⟩)
  · rw [hR]
    exact ⟨none, 0, rfl, Nat.le_refl _, SliceR.nil _ _ _, hx⟩
  · obtain ⟨A9, c9, e9, h9, hV9⟩ := OwnV.vals hO (by omega)
    injection e9 with e1 e2 e3
    subst e1 e3
    rw [hv] at hV9
    rw [← hv, List.length_map]
    rw [← hv] at hV9
    exact ⟨_, _, rfl, hc, hV9.to (fun b h => hb b h.symm), hx⟩
end Go.Proofs.YtigmdddeplnciaaGreatDoor

/- THE WALKS over slices.IndexFunc and DeleteFunc at values, any predicate; paths.Between. -/
namespace Go.Proofs.YtigmdddeplnciaaGreatDoor
open Go.RowKit Go.Sort
def agH (x : HV) : Value := .agg #[.int .i64 x.v.kind, .int .i64 x.v.n, .int .i64 x.v.d, .string x.v.s, .slice x.A x.v.l.length x.c]
/-- what is asked of a predicate with what it caught (cb), at elements of which Q is known -/
def PredV (f : Nat) (p : Val → Bool) (cb : Array Value) (Q : Val → Prop) (ok0 : Nat → Prop) (g : Nat) (w : World) : Prop := ∀ (W : World) (x : HV), w.grownBy W (some g) → KHV.lies W (fun b => ok0 b ∧ some b ≠ some g) x → Q x.v → Calls Tryz.prog f (#[agH x] ++ cb) W fun e w' => e = .returned (.bool (p x.v)) ∧ Ext W w'
set_option maxRecDepth 100000 in
set_option maxHeartbeats 1600000 in
theorem v_IndexF (p : Val → Bool) (f : Nat) (eg : ∀ args w, (callFunc f args).run Tryz.prog w = .ok (.enter f args) w) (cb : Array Value) (Q : Val → Prop) (hs : List HV) (base : Nat) (ok0 : Nat → Prop) (g n c : Nat) (w : World) (hp : PredV f p cb Q ok0 g w) (hq : ∀ x ∈ hs, Q x.v) (h : OwnV w base ok0 (.slice (some ⟨g, 0, none⟩) n c) hs) (hn : n = hs.length) (hl : hs.length ≤ 8000000) :
    Calls Tryz.prog 66 #[.slice (some ⟨g, 0, none⟩) n c, .func (.func f) #[] cb] w fun e w' => e = .returned (.int .i64 (idxF (fun x => p x.v) hs)) ∧ Ext w w' := by
  have HO := Lib.hid h
  have HP := Lib.hid hp
  have HQ := Lib.hid hq
  have HY := Lib.hid (fun h => idxF_none (p := fun x : HV => p x.v) (l := hs) h)
  have HB := Lib.hid (fun i (hi : i < hs.length) h1 h2 => idxF_at (p := fun x : HV => p x.v) i hi h1 h2)
  obtain ⟨R, hR⟩ : ∃ R, R = idxF (fun x : HV => p x.v) hs := ⟨_, rfl⟩
  rw [← hR] at HY HB ⊢
  have HN := Lib.hid hn
  have hnl : n ≤ 8000000 := by omega
  clear h hR hp hn hq
  go_enter Tryz.func66, Tryz.ntmps66
  go_wp2_with fail
  go_loopw [8] (fun u W => ∃ k : Nat, u = .int .i64 k ∧ k ≤ n ∧ Hid (∀ i (hi : i < hs.length), i < k → p hs[i].v = false) ∧ Ext w W) (fun u _ => n - (intOf u).toNat)
  case atStart => exact ⟨0, rfl, Nat.zero_le _, Lib.hid (fun i _ hi => absurd hi (Nat.not_lt_zero _)), Ext.refl _⟩
  case round =>
    obtain ⟨k, rfl, hk, hgd, hE⟩ := hrel
    by_cases hlt : k < n
    · have hkl : k < hs.length := by have := HN.out; omega
      obtain ⟨⟨c0, c1, c2, c3, c4⟩, -⟩ := own_cells5 (HO.out.ext hE) hkl
      have hlie := (HO.out.ext hE).lies hs[k] (List.getElem_mem hkl)
      have HS := Lib.hid (fun (h : p hs[k].v = false) i hi (hj : i < k + 1) => (if e : i = k then (by subst e; exact h) else hgd.out i hi (by omega) : p hs[i].v = false))
      have HB' := Lib.hid (HB.out k hkl hgd.out)
      have HC := Lib.hid (fun W (e : Ext wr W) => HP.out W hs[k] ((hE.trans e).gr _) (KHV.keep _ _ _ _ _ (fun _ _ _ hb hc => ⟨e.cell hc, hb⟩) hlie) (HQ.out _ (List.getElem_mem hkl)))
      unfold agH at HC
      clear hlie
      clear HB hgd
      generalize hs[k] = x at *
      generalize p x.v = q at *
      cases q
      · have HT := Lib.hid (HS.out rfl)
        go_wp2_with (go_at_fn f; ((with_reducible refine (HC.out _ (by solve_by_elim [X0, X1, X2, X3])).mono ?_); rintro e w7 ⟨rfl, hx7⟩))
        go_roundw
        case rel => exact ⟨k + 1, by go_num, by omega, HT, hE.trans hx7⟩
        case measure => simp [intOf]; omega
      · have HT := Lib.hid (HB'.out rfl)
        go_wp2_with (go_at_fn f; ((with_reducible refine (HC.out _ (by solve_by_elim [X0, X1, X2, X3])).mono ?_); rintro e w7 ⟨rfl, hx7⟩))
        go_ret
        exact ⟨ret_int HT.out.symm, hE.trans hx7⟩
    · have HT := Lib.hid (HY.out (fun i hi => hgd.out i hi (by have := HN.out; omega)))
      go_wp2_with fail
      go_ret
      exact ⟨ret_int HT.out.symm, hE⟩
set_option maxRecDepth 100000 in
theorem v_IndexF0 (A : Option Addr) (c : Nat) (fv : Value) (w : World) : Calls Tryz.prog 66 #[.slice A 0 c, fv] w fun e w' => e = .returned (.int .i64 (-1)) ∧ Ext w w' := by
  go_enter Tryz.func66, Tryz.ntmps66
  go_wp2_with fail
  go_loopw [8] (fun u W => u = .int .i64 0 ∧ Ext w W) (fun _ _ => 0)
  case atStart => exact ⟨rfl, Ext.refl _⟩
  case round =>
    obtain ⟨rfl, hE⟩ := hrel
    go_wp2_with fail
    go_ret
    exact ⟨rfl, hE⟩
/-- a list struck in place: i elements kept of the first j -/
structure KpL {α : Type} (q : α → Bool) (hs L : List α) (i j : Nat) : Prop where
  lt : i < j
  le : j ≤ hs.length
  len : L.length = hs.length
  lo : L.take i = (hs.take j).filter q
  hi : ∀ t, j ≤ t → L[t]? = hs[t]?
section
variable {α : Type} {q : α → Bool} {hs L : List α} {i j : Nat}
theorem fil1_t {x : α} (h : q x = true) : [x].filter q = [x] := by simp [h]
theorem fil1_f {x : α} (h : q x = false) : [x].filter q = [] := by simp [h]
theorem take_next {l : List α} {j : Nat} (h : j < l.length) : l.take (j + 1) = l.take j ++ [l[j]] := by
  rw [List.take_add_one, List.getElem?_eq_getElem h]; rfl
theorem KpL.start (hi : i < hs.length) (h1 : ∀ t (ht : t < hs.length), t < i → q hs[t] = true) (h2 : q hs[i] = false) : KpL q hs hs i (i + 1) := by
  refine ⟨by omega, hi, rfl, ?_, fun _ _ => rfl⟩
  rw [take_next hi, List.filter_append, fil1_f h2, List.append_nil]
  refine (List.filter_eq_self.2 (fun a ha => ?_)).symm
  obtain ⟨t, ht, rfl⟩ := List.getElem_of_mem ha
  rw [List.length_take] at ht
  rw [List.getElem_take]
  exact h1 t (by omega) (by omega)
theorem KpL.skip (h : KpL q hs L i j) (hj : j < hs.length) (hq : q hs[j] = false) : KpL q hs L i (j + 1) := by
  refine ⟨by have := h.lt; omega, hj, h.len, ?_, fun t ht => h.hi t (by omega)⟩
  rw [take_next hj, List.filter_append, fil1_f hq, List.append_nil, h.lo]
theorem KpL.keep (h : KpL q hs L i j) (hj : j < hs.length) (hq : q hs[j] = true) : KpL q hs (L.set i hs[j]) (i + 1) (j + 1) := by
  have h1 := h.lt
  have h2 := h.len
  refine ⟨by omega, hj, by rw [List.length_set]; exact h2, ?_, fun t ht => ?_⟩
  · rw [take_next hj, List.filter_append, fil1_t hq, ← h.lo, take_next (l := L.set i hs[j]) (j := i) (by rw [List.length_set]; omega), List.take_set_of_le (Nat.le_refl _)]
    simp
  · rw [List.getElem?_set_ne (by omega)]; exact h.hi t (by omega)
theorem KpL.done (h : KpL q hs L i hs.length) : L.take i = hs.filter q := by rw [h.lo, List.take_length]
theorem KpL.at_ (h : KpL q hs L i j) (hj : j < hs.length) : ∃ hl : j < L.length, L[j] = hs[j] := by
  have h1 := h.len
  have h2 := h.hi j (Nat.le_refl _)
  rw [List.getElem?_eq_getElem (by omega), List.getElem?_eq_getElem hj] at h2
  exact ⟨by omega, Option.some.inj h2⟩
end
def zVl : Value := .agg #[.int .i64 0, .int .i64 0, .int .i64 0, .string ⟨#[]⟩, .slice none 0 0]
theorem zero_vl (w : World) : (zeroValue 37).run Tryz.prog w = .ok zVl w := Tryz.zeroValue37 w
set_option maxRecDepth 100000 in
set_option maxHeartbeats 3200000 in
theorem v_DeleteF (p : Val → Bool) (f : Nat) (eg : ∀ args w, (callFunc f args).run Tryz.prog w = .ok (.enter f args) w) (cb : Array Value) (Q : Val → Prop) (hs : List HV) (base : Nat) (ok0 : Nat → Prop) (g n c : Nat) (w : World) (hp : PredV f p cb Q ok0 g w) (hq : ∀ x ∈ hs, Q x.v) (h : OwnV w base ok0 (.slice (some ⟨g, 0, none⟩) n c) hs) (hn : n = hs.length) (hl : hs.length ≤ 8000000) :
    Calls Tryz.prog 34 #[.slice (some ⟨g, 0, none⟩) n c, .func (.func f) #[] cb] w fun e w' => ∃ m, e = .returned (.slice (some ⟨g, 0, none⟩) m c) ∧ OwnV w' base ok0 (.slice (some ⟨g, 0, none⟩) m c) (hs.filter (fun x => !p x.v)) ∧ w.grownBy w' (some g) := by
  have HI := Lib.hid (v_IndexF p f eg cb Q hs base ok0 g n c w hp hq h hn hl)
  have HO := Lib.hid h
  have HP := Lib.hid hp
  have HQ := Lib.hid hq
  have hnl : n ≤ 8000000 := by omega
  have hnc : n ≤ c := by
    rcases h.own.2 with ⟨hv, -⟩ | ⟨g', cap', cur, hv, -, -, hcp, -⟩
    · simp at hv
    · simp only [Value.slice.injEq] at hv; omega
  cases hf : hs.findIdx? (fun x => p x.v) with
  | none =>
    have e1 : idxF (fun x : HV => p x.v) hs = -1 := by unfold idxF; rw [hf]
    have HF := Lib.hid (show hs.filter (fun x => !p x.v) = hs from List.filter_eq_self.2 (fun a ha => by rw [List.findIdx?_eq_none_iff.1 hf a ha]; rfl))
    rw [e1] at HI
    clear h hp hq hf e1 hn hl
    go_enter Tryz.func34, Tryz.ntmps34
    go_wp2_with (go_at_call 66; ((with_reducible refine (HI.out).mono ?_); rintro e w1 ⟨rfl, hx1⟩))
    go_ret
    exact ⟨_, rfl, by rw [HF.out]; exact HO.out.ext hx1, hx1.gr _⟩
  | some i0 =>
    have e1 : idxF (fun x : HV => p x.v) hs = (i0 : Int) := by unfold idxF; rw [hf]
    obtain ⟨hi0, hp0, hlo0⟩ := List.findIdx?_eq_some_iff_getElem.1 hf
    have HK0 := Lib.hid (KpL.start (q := fun x : HV => !p x.v) hi0 (fun t ht hti => by
      have := hlo0 t hti
      cases hpt : p hs[t].v
      · rfl
      · rw [hpt] at this; exact absurd rfl this) (by rw [hp0]; rfl))
    rw [e1] at HI
    have HN := Lib.hid hn
    have hi0n : i0 < n := by omega
    have hne : ((i0 : Int) == -1) = false := beq_eq_false_iff_ne.2 (by omega)
    clear h hp hq hf e1 hn hl hi0 hp0 hlo0
    go_enter Tryz.func34, Tryz.ntmps34
    go_wp2_with (go_at_call 66; ((with_reducible refine (HI.out).mono ?_); rintro e w1 ⟨rfl, hx1⟩))
    clear hne
    go_loopw [5, 6] (fun u v W => ∃ (i j : Nat) (L : List HV), u = .int .i64 i ∧ v = .int .i64 j ∧ i < j ∧ j ≤ n ∧ Hid (OwnV W base ok0 (.slice (some ⟨g, 0, none⟩) n c) L) ∧ Hid (KpL (fun x : HV => !p x.v) hs L i j) ∧ Hid (∀ x ∈ L, Q x.v) ∧ Hid (w.grownBy W (some g))) (fun _ v _ => n - (intOf v).toNat)
    case atStart => exact ⟨i0, i0 + 1, hs, rfl, by go_num, by omega, by omega, Lib.hid (HO.out.ext hx1), HK0, HQ, Lib.hid (hx1.gr _)⟩
    case round =>
      clear HI HK0 hx1
      obtain ⟨i, j, L, rfl, rfl, hij, hj, hown, hkp, hQL, hgr⟩ := hrel
      by_cases hlt : j < n
      · have hjh : j < hs.length := by have := HN.out; omega
        obtain ⟨hjL, hjx⟩ := hkp.out.at_ hjh
        have hiL : i < L.length := by omega
        obtain ⟨⟨c0, c1, c2, c3, c4⟩, -⟩ := own_cells5 hown.out hjL
        obtain ⟨g1, w2, hg1, hw2, ⟨p0, p1, p2, p3, p4⟩, hx2, -⟩ := box_val wr L[j].v L[j].A L[j].c 37
        have HC := Lib.hid (fun W (e : Ext wr W) => HP.out W L[j] (grown_two hgr.out (e.gr _)) (KHV.keep _ _ _ _ _ (fun _ _ _ hb hc => ⟨e.cell hc, hb⟩) (hown.out.lies L[j] (List.getElem_mem hjL))) (hQL.out _ (List.getElem_mem hjL)))
        have HQX := Lib.hid (hQL.out _ (List.getElem_mem hjL))
        rw [Nat.zero_add] at p1 p2 p3 p4
        have HLX := Lib.hid (hown.out.lies L[j] (List.getElem_mem hjL))
        have HKS := Lib.hid (fun (h : p L[j].v = true) => hkp.out.skip hjh (by rw [← hjx, h]; rfl))
        have HKK := Lib.hid (fun (h : p L[j].v = false) => (by have := hkp.out.keep hjh (by rw [← hjx, h]; rfl); rwa [← hjx] at this : KpL (fun x : HV => !p x.v) hs (L.set i L[j]) (i + 1) (j + 1)))
        have HW2 := Lib.hid hw2
        have HG1 := Lib.hid hg1
        have hgb : g < wr.heap.size := (hown.out.lt rfl).2
        have hgg : g1 ≠ g := by omega
        unfold agH at HC
        clear hw2 hg1 hkp hjx
        generalize L[j] = x at *
        cases hq : p x.v
        · rw [hq] at HC
          have HKK' := Lib.hid (HKK.out hq)
          clear HKS HKK hq
          go_upto_region 8 with (fail)
          rw [← HW2.out, ← HG1.out]
          clear HW2 HG1 c0 c1 c2 c3 c4
          go_upto_region 9 with (go_at_fn f; ((with_reducible refine (HC.out _ hx2).mono ?_); rintro e w7 ⟨rfl, hx7⟩; replace p0 := hx7.cell p0; replace p1 := hx7.cell p1; replace p2 := hx7.cell p2; replace p3 := hx7.cell p3; replace p4 := hx7.cell p4))
          have hO7 := hown.out.ext (hx2.trans hx7)
          obtain ⟨⟨q0, q1, q2, q3, q4⟩, f0, f1, f2, f3, f4⟩ := own_cells5 hO7 hiL
          obtain ⟨hO8, hG8⟩ := OwnG.put5 (K := KHV) rfl hO7 hiL x (a0 := .int .i64 x.v.kind) (a1 := .int .i64 x.v.n) (a2 := .int .i64 x.v.d) (a3 := .string x.v.s) (a4 := .slice x.A x.v.l.length x.c) rfl (KHV.keep _ _ _ _ _ (fun b o y hb hc => ⟨(hx2.trans hx7).cell hc, hb⟩) HLX.out)
          obtain ⟨W8, hW8⟩ : ∃ W8, W8 = ((((w7.setCell ⟨g, i * 5, none⟩ (.int .i64 x.v.kind)).setCell ⟨g, i * 5 + 1, none⟩ (.int .i64 x.v.n)).setCell ⟨g, i * 5 + 2, none⟩ (.int .i64 x.v.d)).setCell ⟨g, i * 5 + 3, none⟩ (.string x.v.s)).setCell ⟨g, i * 5 + 4, none⟩ (.slice x.A x.v.l.length x.c) := ⟨_, rfl⟩
          rw [← hW8] at hO8 hG8
          have HO8 := Lib.hid hO8
          have HG8 := Lib.hid (grown_two (grown_two hgr.out ((hx2.trans hx7).gr _)) hG8)
          have HW8 := Lib.hid hW8
          clear hO8 hG8 hW8 hO7 hown hgr HC hx7
          go_upto_region 10 with (fail)
          rw [← HW8.out]
          clear HW8
          go_wp2_with fail
          go_roundw
          case rel => exact ⟨i + 1, j + 1, _, by go_num, by go_num, by omega, by omega, HO8, HKK', Lib.hid (fun y hy => (List.mem_or_eq_of_mem_set hy).elim (fun h => hQL.out y h) (fun h => h ▸ HQX.out)), HG8⟩
          case measure => simp [intOf]; omega
        · rw [hq] at HC
          have HKS' := Lib.hid (HKS.out hq)
          clear HKS HKK hq
          go_upto_region 8 with (fail)
          rw [← HW2.out, ← HG1.out]
          clear HW2 HG1 c0 c1 c2 c3 c4
          go_wp2_with (go_at_fn f; ((with_reducible refine (HC.out _ hx2).mono ?_); rintro e w7 ⟨rfl, hx7⟩))
          go_roundw
          case rel => exact ⟨i, j + 1, L, rfl, by go_num, by omega, by omega, Lib.hid (hown.out.ext (hx2.trans hx7)), HKS', hQL, Lib.hid (grown_two hgr.out ((hx2.trans hx7).gr _))⟩
          case measure => simp [intOf]; omega
      · have hjn : j = n := by omega
        subst hjn
        obtain ⟨W9, hcl, hO9, hG9⟩ := OwnG.cleared (P := Tryz.prog) (t := 32) (z := zVl) Tryz.underlying32 zero_vl rfl (by decide) (by decide) hown.out (by have := HN.out; have := hkp.out.len; omega) hij
        have HF := Lib.hid (show L.take i = hs.filter (fun x => !p x.v) by have h1 := hkp.out; have h2 := HN.out; subst h2; exact h1.done)
        have HO9 := Lib.hid hO9
        have HG9 := Lib.hid (grown_two hgr.out hG9)
        have hin : (i : Int) ≤ (j : Int) := by omega
        have hic : (i : Int) ≤ (c : Int) := by omega
        have hin2 : i ≤ j := by omega
        have hic2 : i ≤ c := by omega
        replace hcl : ∀ ty c', (Builtin.clear_ #[32] ty #[.slice (some ⟨g, i * 5, none⟩) (j - i) c']).run Tryz.prog wr = .ok (.tuple #[]) W9 := hcl
        clear hO9 hG9 hown hkp hgr
        go_wp2_with fail
        go_ret
        exact ⟨_, rfl, by rw [← HF.out]; exact HO9.out, HG9.out⟩
set_option maxRecDepth 100000 in
theorem v_DeleteF0 (A : Option Addr) (c : Nat) (fv : Value) (w : World) : Calls Tryz.prog 34 #[.slice A 0 c, fv] w fun e w' => e = .returned (.slice A 0 c) ∧ Ext w w' := by
  go_enter Tryz.func34, Tryz.ntmps34
  go_wp2_with (go_at_call 66; ((with_reducible refine (v_IndexF0 _ _ _ _).mono ?_); rintro e w1 ⟨rfl, hx1⟩))
  go_ret
  exact ⟨rfl, hx1⟩
theorem ends_at {v : Val} {m : Nat} (hm : v.l.length = m + 1) (tn : Int) : endsP tn v = decide (v.l[m]!.n = tn) := by unfold endsP; rw [hm, Nat.add_sub_cancel]
set_option maxRecDepth 100000 in
theorem p_Between1 (x : HV) (tn : Int) (y0 : Nat) (ok : Nat → Prop) (w : World) (hl : KHV.lies w ok x) (hne : x.v.l ≠ []) (hs : x.v.l.length ≤ 8000000) (hy : w.cell? ⟨y0, 0, none⟩ = some (.int .i64 tn)) :
    Calls Tryz.prog 35 (#[agH x] ++ #[.pointer (some ⟨y0, 0, none⟩)]) w fun e w' => e = .returned (.bool (!endsP tn x.v)) ∧ Ext w w' := by
  obtain ⟨m, hm⟩ : ∃ m, x.v.l.length = m + 1 := ⟨x.v.l.length - 1, by have := List.length_pos_iff.2 hne; omega⟩
  obtain ⟨b, o, hA, hc⟩ := hl.2.atB (i := 0) (by omega)
  obtain ⟨-, A', c', ⟨-, hn, -⟩, -⟩ := hc m (by omega)
  obtain ⟨q, w1, hq, hw1, ⟨c0, c1, c2, c3, c4⟩, hx, -⟩ := box_val w x.v x.A x.c 37
  have HR := Lib.hid (ends_at hm tn)
  have hle := hl.1
  unfold agH
  rw [hA, hm] at c4 hw1 ⊢
  rw [hm] at hle hs
  rw [Nat.zero_add] at c4
  generalize x.v.l[m]!.n = y at *
  generalize x.v.kind = k at *
  generalize x.v.n = xn at *
  generalize x.v.d = xd at *
  generalize x.v.s = xs at *
  generalize endsP tn x.v = R at *
  generalize x.c = cl at *
  have HRR := Lib.hid (show (!R) = (y != tn) by rw [HR.out]; by_cases h : y = tn <;> simp [h])
  have HW1 := Lib.hid hw1
  have HQ := Lib.hid hq
  have MKB := Lib.hid (fun V (e : Ext w1 V) => (⟨e.cell c4, e.cell (hx.cell hn), e.cell (hx.cell hy)⟩ : V.cell? ⟨q, 4, none⟩ = some (.slice (some ⟨b, o, none⟩) (m + 1) cl) ∧ V.cell? ⟨b, o + m * 5 + 1, none⟩ = some (.int .i64 y) ∧ V.cell? ⟨y0, 0, none⟩ = some (.int .i64 tn)))
  have wm : IntKind.i64.wrap (m : Int) = (m : Int) := by rw [IntKind.wrap_i64]; omega
  clear hc hw1 hq hm hA hl hne HR
  show Calls Tryz.prog 35 #[.agg #[.int .i64 k, .int .i64 xn, .int .i64 xd, .string xs, .slice (some ⟨b, o, none⟩) (m + 1) cl], .pointer (some ⟨y0, 0, none⟩)] w _
  go_enter Tryz.func35, Tryz.ntmps35
  go_upto_region 1 with (fail)
  rw [← HW1.out, ← HQ.out]
  clear HW1 HQ c0 c1 c2 c3 c4
  refine wp_region_held_drew (S := (fun V => V.cell? ⟨q, 4, none⟩ = some (.slice (some ⟨b, o, none⟩) (m + 1) cl) ∧ V.cell? ⟨b, o + m * 5 + 1, none⟩ = some (.int .i64 y) ∧ V.cell? ⟨y0, 0, none⟩ = some (.int .i64 tn))) (by kernel_rfl) ?hs9001 (fun hHeld => ?go9001)
  case hs9001 => (exact MKB.out _ (by solve_by_elim [X0, X1, X2, X3]))
  refine TK 0 (v := ?v9002) hHeld ?hy9002 ?_
  case hy9002 => (intro w _; go_simp <;> rfl)
  (try simp only [PU])
  refine TK 1 (v := ?v9003) hHeld ?hy9003 ?_
  case hy9003 => (intro w hSw; (try dsimp only at hSw); go_simp <;> first | with_reducible rfl | rw [if_neg (by omega)] | rw [if_pos (by omega)])
  (try simp only [PU])
  refine TK 2 (v := ?v9004) hHeld ?hy9004 ?_
  case hy9004 => (intro w _; go_simp <;> rfl)
  (try simp only [PU])
  refine TK 3 (v := ?v9005) hHeld ?hy9005 ?_
  case hy9005 => (intro w hSw; (try dsimp only at hSw); go_simp <;> first | with_reducible rfl | rw [if_neg (by omega)] | rw [if_pos (by omega)])
  (try simp only [PU])
  refine TK 4 (v := ?v9006) hHeld ?hy9006 ?_
  case hy9006 => (intro w _; go_simp <;> first | with_reducible rfl | rw [if_neg (by omega)] | rw [if_pos (by omega)])
  (try simp only [PU])
  refine TK 5 (v := ?v9007) hHeld ?hy9007 ?_
  case hy9007 => (intro w _; go_simp <;> first | with_reducible rfl | rw [if_neg (by omega)] | rw [if_pos (by omega)])
  (try simp only [PU])
  refine TK 6 (v := ?v9008) hHeld ?hy9008 ?_
  case hy9008 => (intro w _; go_simp <;> first | with_reducible rfl | rw [if_neg (by omega)] | rw [if_pos (by omega)])
  (try simp only [PU])
  refine TK 7 (v := ?v9009) hHeld ?hy9009 ?_
  case hy9009 => (intro w _; go_simp <;> rfl)
  (try simp only [PU])
  refine TK 8 (v := ?v9010) hHeld ?hy9010 ?_
  case hy9010 => (intro w hSw; (try dsimp only at hSw); go_simp <;> first | with_reducible rfl | rw [if_neg (by omega)] | rw [if_pos (by omega)])
  (try simp only [PU])
  refine TK 9 (v := ?v9011) hHeld ?hy9011 ?_
  case hy9011 => (intro w hSw; (try dsimp only at hSw); go_simp <;> first | with_reducible rfl | rw [if_neg (by omega)] | rw [if_pos (by omega)])
  (try simp only [PU])
  refine TK 10 (v := ?v9012) hHeld ?hy9012 ?_
  case hy9012 => (intro w _; go_simp <;> first | with_reducible rfl | rw [if_neg (by omega)] | rw [if_pos (by omega)])
  (try simp only [PU])
  refine TK 11 (v := ?v9013) hHeld ?hy9013 ?_
  case hy9013 => (intro w _; go_simp <;> first | with_reducible rfl | rw [if_neg (by omega)] | rw [if_pos (by omega)])
  (try simp only [PU])
  refine wpAnyH_done (by kernel_rfl) ?_ _
  clear hHeld
  go_wp2_with fail
  go_ret
  exact ⟨ret_bool (by rw [HRR.out]), hx.trans (by solve_by_elim [X0, X1, X2, X3])⟩
theorem eg_B1 (args : Array Value) (w : World) : (callFunc 35 args).run Tryz.prog w = .ok (.enter 35 args) w :=
  run_enter (c := Tryz.f35.body.get!) Tryz.func35 (by kernel_rfl) (by kernel_rfl) args w
theorem from_len {g : GraphG} {types : List ByteArray} {dir mode s mn mx : Int} (hcnt : 0 ≤ mx → mx ≤ 6 → (g.edges.length + 1) ^ mx.toNat ≤ 4000) : (fromP g s types dir mode mn mx).length ≤ 4000 := by
  unfold fromP
  split
  · rename_i h
    rw [List.length_map]
    have hp := dfs_perm g types dir mode s (st := stepsL g types dir) (stepsL_perm g types dir) mn mx.toNat [] (allow_nil s ⟨h.2.2.1, h.2.2.2.1⟩)
    have h2 : (allP g types dir mode s mn mx.toNat).length = (dfsP mode s (stepsL g types dir) mn mx.toNat []).length := by
      rw [hp.length_eq]
      unfold allP
      congr 2
      funext k
      rw [← levP_levH]
      show (if _ then _ else _) = (if mn ≤ ((0 + k : Nat) : Int) then _ else _)
      rw [Nat.zero_add]
    rw [h2]
    have q1 := h.2.2.2.2.1
    have q2 := h.2.2.2.2.2.1
    have q3 := h.2.2.2.2.2.2
    exact Nat.le_trans (dfs_len _ _) (hcnt (by omega) q3)
  · simp
theorem from_Q {g : GraphG} {s : Int} {types : List ByteArray} {dir mode mn mx : Int} {v : Val} (h : v ∈ fromP g s types dir mode mn mx) : v.l ≠ [] ∧ v.l.length ≤ 8000000 := by
  obtain ⟨hok, t, rfl, ho, h1, h2⟩ := mem_from h
  have q3 := hok.2.2.2.2.2.2
  have : (pathV (elsP s t)).l.length = 2 * t.length + 1 := by show (elsP s t).length = _; rw [elsP_len]
  refine ⟨fun e => ?_, by omega⟩
  rw [e] at this
  simp at this
theorem FromPost.empty {w w' : World} {e : Ending} (h : FromPost w w' e []) : ∃ A c, e = .returned (.slice A 0 c) ∧ Ext w w' := by
  rcases h with ⟨rfl, -, hx⟩ | ⟨g7, cap, n, hs, base, ok0, rfl, rfl, hv, -, -, -, -, -, hx⟩
  · exact ⟨_, _, rfl, hx⟩
  · have : hs = [] := by simpa using hv
    subst this
    exact ⟨_, _, rfl, hx⟩
theorem FromPost.full {w w' : World} {e : Ending} {R : List Val} (h : FromPost w w' e R) (h0 : R ≠ []) : ∃ g cap n hs base ok0, e = .returned (.slice (some ⟨g, 0, none⟩) n cap) ∧ n = hs.length ∧ hs.map HV.v = R ∧ OwnV w' base ok0 (.slice (some ⟨g, 0, none⟩) n cap) hs ∧ n ≤ cap ∧ w.heap.size ≤ g ∧ (∀ b, (base ≤ b ∨ ok0 b) → w.heap.size ≤ b) ∧ n ≤ 4000 ∧ Ext w w' := h.elim (fun h => absurd h.2.1 h0) id
theorem filt_ends (tn : Int) (hs : List HV) : (hs.filter (fun x : HV => !(!endsP tn x.v))).map HV.v = (hs.map HV.v).filter (endsP tn) := by
  induction hs with
  | nil => rfl
  | cons x xs ih => cases h : endsP tn x.v <;> simp [h] at ih ⊢ <;> exact ih
theorem predB {tn : Int} {y0 g7 : Nat} {ok0 : Nat → Prop} {w2 w3 : World} (_h : w2.cell? ⟨y0, 0, none⟩ = some (.int .i64 tn)) (h : w3.cell? ⟨y0, 0, none⟩ = some (.int .i64 tn)) (hne : y0 ≠ g7) : PredV 35 (fun v => !endsP tn v) #[.pointer (some ⟨y0, 0, none⟩)] (fun v => v.l ≠ [] ∧ v.l.length ≤ 8000000) ok0 g7 w3 := by
  intro W x hgr hl hq
  exact p_Between1 x tn y0 _ W hl hq.1 hq.2 (hgr.cell h (by intro e; exact hne (Option.some.inj e)))
set_option maxRecDepth 100000 in
set_option maxHeartbeats 3200000 in
theorem p_Between (g : GraphG) (types : List ByteArray) (s tn dir mode mn mx : Int) (ok ok' : Nat → Prop) (A B T : Option Addr) (c d e : Nat) (w : World) (hz : ZeroAt w) (hg : GraphAt w ok A B g) (hcap : ∀ x ∈ g.nodes, capN x) (ht : Strs w ok' T types) (hcnt : 0 ≤ mx → mx ≤ 6 → (g.edges.length + 1) ^ mx.toNat ≤ 4000) :
    Calls Tryz.prog 13 #[.agg #[.slice A g.nodes.length c, .slice B g.edges.length d, .int .i64 g.nn, .int .i64 g.ne], .int .i64 s, .int .i64 tn, .slice T types.length e, .int .i64 dir, .int .i64 mode, .int .i64 mn, .int .i64 mx] w fun e w' => ∃ A' c', e = .returned (.slice A' (betwP g s tn types dir mode mn mx).length c') ∧ (betwP g s tn types dir mode mn mx).length ≤ c' ∧ Vals w' (fun b => w.heap.size ≤ b) A' (betwP g s tn types dir mode mn mx) ∧ Ext w w' := by
  obtain ⟨q, w1, hq, hw1, g0, g1, g2, g3, hx1⟩ := box_graph w A B c d g 25
  obtain ⟨y0, w2, hy0, hw2, y00, hx2⟩ : ∃ y0 w2, y0 = w1.heap.size ∧ w2 = w1.alloc (.cells #[.int .i64 tn] 3) ∧ w2.cell? ⟨y0, 0, none⟩ = some (.int .i64 tn) ∧ Ext w1 w2 := ⟨_, _, rfl, rfl, by go_simp, (Ext.refl _).alloc _⟩
  replace hx2 := hx1.trans hx2
  have HFR := Lib.hid (p_FromO g types s dir mode mn mx ok ok' A B T c d e w2 (hz.ext hx2) (hg.ext hx2) hcap (ht.ext hx2) hcnt)
  have HQL := Lib.hid (fun v (hv : v ∈ fromP g s types dir mode mn mx) => from_Q hv)
  have HX2 := Lib.hid hx2
  have k0 := (show Ext w1 w2 by rw [hw2]; exact (Ext.refl _).alloc _).cell g0
  have k1 := (show Ext w1 w2 by rw [hw2]; exact (Ext.refl _).alloc _).cell g1
  have k2 := (show Ext w1 w2 by rw [hw2]; exact (Ext.refl _).alloc _).cell g2
  have k3 := (show Ext w1 w2 by rw [hw2]; exact (Ext.refl _).alloc _).cell g3
  have HW1 := Lib.hid hw1
  have HQ := Lib.hid hq
  have HW2 := Lib.hid hw2
  have HY := Lib.hid (show y0 = q + 1 by rw [hy0, hw1, hq]; simp)
  have HYS := Lib.hid (show y0 < w2.heap.size from block_lt_of_cell y00)
  have HY0 := Lib.hid y00
  have HYW := Lib.hid (show w.heap.size ≤ y0 by rw [hy0]; exact hx1.le)
  unfold betwP
  generalize fromP g s types dir mode mn mx = R at *
  clear hw1 hq hw2 hy0 hg hcap ht hz hcnt g0 g1 g2 g3 hx1 hx2
  go_enter Tryz.func13, Tryz.ntmps13
  go_upto_region 1 with (fail)
  rw [← HW1.out, ← HQ.out, ← HW2.out, ← HY.out]
  clear HW1 HW2 HQ HY y00
  by_cases hR0 : R = []
  · subst hR0
    go_wp2_with (first | (go_at_call 11; ((with_reducible refine (HFR.out).mono ?_); rintro r w3 h3; obtain ⟨A3, c3, rfl, hx3⟩ := h3.empty)) | (go_at_call 34; ((with_reducible refine (v_DeleteF0 _ _ _ _).mono ?_); rintro r w8 ⟨rfl, hx8⟩)))
    go_ret
    exact ⟨_, _, rfl, Nat.zero_le _, ⟨Nat.zero_le _, fun h => absurd h (by simp)⟩, (HX2.out.trans hx3).trans hx8⟩
  · have HR0 := Lib.hid hR0
    clear hR0
    go_wp2_with (first | (go_at_call 11; ((with_reducible refine (HFR.out).mono ?_); rintro r w3 h3; obtain ⟨g7, cap, n, hs, base, ok0, rfl, rfl, hv, hO, hc, hg7, hb, hl, hx3⟩ := h3.full HR0.out)) | (go_at_call 34; ((with_reducible refine (v_DeleteF (fun v => !endsP tn v) 35 eg_B1 #[.pointer (some ⟨y0, 0, none⟩)] (fun v => v.l ≠ [] ∧ v.l.length ≤ 8000000) hs base ok0 g7 hs.length cap _ (predB HY0.out (hx3.cell HY0.out) (by have := HYS.out; omega)) (fun x hx => HQL.out _ (hv ▸ List.mem_map_of_mem hx)) hO rfl (by omega)).mono ?_); rintro r w8 ⟨m, rfl, hO8, hG8⟩)))
    go_ret
    have hlf := List.length_filter_le (fun x : HV => !(!endsP tn x.v)) hs
    obtain ⟨A9, c9, e9, h9, hV9⟩ := OwnV.vals hO8 (by omega)
    injection e9 with e1 e2 e3
    subst e1 e2 e3
    have hm : (hs.filter (fun x : HV => !(!endsP tn x.v))).map HV.v = R.filter (endsP tn) := by
      rw [← hv]; exact filt_ends tn hs
    rw [hm] at hV9
    rw [← hm, List.length_map]
    rw [← hm] at hV9
    exact ⟨_, _, rfl, by omega, hV9.to (fun b h => by have h1 := HYW.out; have h2 := HYS.out; have h3 := hb b h.symm; omega), (HX2.out.trans hx3).grown hG8 (fun b hb => by have h1 : g7 = b := Option.some.inj hb; have h1 := HYW.out; have h2 := HYS.out; omega)⟩
end Go.Proofs.YtigmdddeplnciaaGreatDoor
