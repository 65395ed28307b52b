/- PARTS OF THE WALKS, joined: Ge, LaidG, Gf. -/
import Derived.Test.YtlkpmbkmmfoakaaDoorU06
import Derived.Test.YtlkpmbkmmfoakaaDoorU05
/- THE WALKS over the reference's node, edge, Check of a graph. -/
namespace Go.Proofs.YtlkpmbkmmfoakaaDoor
open Go.RowKit
/-- no string of a graph's values is longer than the platform's room -/
structure SzG (g : GraphG) : Prop where
  nodes : ∀ n ∈ g.nodes, ∀ p ∈ n.props, szV p.v
  edges : ∀ e ∈ g.edges, ∀ p ∈ e.props, szV p.v
theorem mem_bang {α : Type} [Inhabited α] {l : List α} {i : Nat} (h : i < l.length) : l[i]! ∈ l := by rw [getElem!_pos l i h]; exact List.getElem_mem h
theorem Nodes.at_ {w : World} {ok : Nat → Prop} {A : Option Addr} {l : List NodeG} (h : Nodes w ok A l) {i : Nat} (hi : i < l.length) : ∃ b o, A = some ⟨b, o, none⟩ ∧ ∀ k, k < l.length → NodeC w ok b (o + k * 3) l[k]! := by
  obtain ⟨b, o, hA, hc⟩ := h.2 (by omega)
  exact ⟨b, o, hA, fun k hk => by rw [getElem!_pos l k hk]; exact hc k hk⟩
theorem Edges.at_ {w : World} {ok : Nat → Prop} {A : Option Addr} {l : List EdgeG} (h : Edges w ok A l) {i : Nat} (hi : i < l.length) : ∃ b o, A = some ⟨b, o, none⟩ ∧ ∀ k, k < l.length → EdgeC w ok b (o + k * 5) l[k]! := by
  obtain ⟨b, o, hA, hc⟩ := h.2 (by omega)
  exact ⟨b, o, hA, fun k hk => by rw [getElem!_pos l k hk]; exact hc k hk⟩
theorem box_node (w : World) (n : Int) (A B : Option Addr) (na c nb d : Nat) (t : TypeId) : ∃ (q : Nat) (w1 : World), q = w.heap.size ∧ w1 = w.alloc (.cells #[.int .i64 n, .slice A na c, .slice B nb d] t) ∧ w1.cell? ⟨q, 0, none⟩ = some (.int .i64 n) ∧ w1.cell? ⟨q, 1, none⟩ = some (.slice A na c) ∧ w1.cell? ⟨q, 2, none⟩ = some (.slice B nb d) ∧ Ext w w1 :=
  ⟨_, _, rfl, rfl, by go_simp, by go_simp, by go_simp, (Ext.refl _).alloc _⟩
theorem box_edge (w : World) (e : EdgeG) (B : Option Addr) (d : Nat) (t : TypeId) : ∃ (q : Nat) (w1 : World), q = w.heap.size ∧ w1 = w.alloc (.cells #[.int .i64 e.id, .int .i64 e.frm, .int .i64 e.to_, .string e.typ, .slice B e.props.length d] t) ∧ w1.cell? ⟨q, 0, none⟩ = some (.int .i64 e.id) ∧ w1.cell? ⟨q, 1, none⟩ = some (.int .i64 e.frm) ∧ w1.cell? ⟨q, 2, none⟩ = some (.int .i64 e.to_) ∧ w1.cell? ⟨q, 3, none⟩ = some (.string e.typ) ∧ w1.cell? ⟨q, 4, none⟩ = some (.slice B e.props.length d) ∧ Ext w w1 :=
  ⟨_, _, rfl, rfl, by go_simp, by go_simp, by go_simp, by go_simp, by go_simp, (Ext.refl _).alloc _⟩
/-- what is wrong with a node, piece by piece -/
theorem nodeE_26 {g : GraphG} {i : Nat} (h : 0 < i) (h2 : g.nodes[i]!.id ≤ g.nodes[i - 1]!.id) : nodeE g i = 26 := by unfold nodeE; rw [if_pos ⟨h, h2⟩]
theorem nodeE_1 {g : GraphG} {i : Nat} (h : 0 < i → g.nodes[i - 1]!.id < g.nodes[i]!.id) (h2 : g.nodes[i]!.id < 1 ∨ g.nn ≤ g.nodes[i]!.id) : nodeE g i = 1 := by
  unfold nodeE; rw [if_neg (fun hh => by have := h hh.1; omega), if_pos h2]
theorem nodeE_p {g : GraphG} {i : Nat} (h : 0 < i → g.nodes[i - 1]!.id < g.nodes[i]!.id) (h2 : 1 ≤ g.nodes[i]!.id) (h3 : g.nodes[i]!.id < g.nn) : nodeE g i = partsE g.nodes[i]!.labels g.nodes[i]!.props := by
  unfold nodeE; rw [if_neg (fun hh => by have := h hh.1; omega), if_neg (by omega)]
theorem edgeE_26 {g : GraphG} {i : Nat} (h : 0 < i) (h2 : g.edges[i]!.id ≤ g.edges[i - 1]!.id) : edgeE g i = 26 := by unfold edgeE; rw [if_pos ⟨h, h2⟩]
theorem edgeE_1 {g : GraphG} {i : Nat} (h : 0 < i → g.edges[i - 1]!.id < g.edges[i]!.id) (h2 : g.edges[i]!.id < 1 ∨ g.ne ≤ g.edges[i]!.id) : edgeE g i = 1 := by
  unfold edgeE; rw [if_neg (fun hh => by have := h hh.1; omega), if_pos h2]
theorem edgeE_p {g : GraphG} {i : Nat} (h : 0 < i → g.edges[i - 1]!.id < g.edges[i]!.id) (h2 : 1 ≤ g.edges[i]!.id) (h3 : g.edges[i]!.id < g.ne) : edgeE g i = if hasN g.nodes g.edges[i]!.frm && hasN g.nodes g.edges[i]!.to_ then (if nameB g.edges[i]!.typ then partsE [] g.edges[i]!.props else 6) else 10 := by
  unfold edgeE; rw [if_neg (fun hh => by have := h hh.1; omega), if_neg (by omega)]
set_option maxRecDepth 100000 in
set_option maxHeartbeats 1600000 in
theorem r7_node (g : GraphG) (ok : Nat → Prop) (A B : Option Addr) (c d : Nat) (i : Nat) (w : World) (hg : GraphAt w ok A B g) (hs : SzG g) (hi : i < g.nodes.length) :
    Calls Tryd.prog 41 #[.agg #[.slice A g.nodes.length c, .slice B g.edges.length d, .int .i64 g.nn, .int .i64 g.ne], .int .i64 i] w fun e w' => e = .returned (.int .i64 (nodeE g i)) ∧ Ext w w' := by
  have hm := hg.nodes.len
  obtain ⟨b, o, rfl, hc⟩ := hg.nodes.at_ hi
  obtain ⟨-, d0, A', c', B', d', d1, -, hS, d2, -, hP⟩ := hc i hi
  obtain ⟨q, w1, hq, hw1, g0, g1, g2, g3, hx1⟩ := box_graph w (some ⟨b, o, none⟩) B c d g 34
  have hq1 : w1.heap.size = q + 1 := by rw [hw1, hq]; simp
  obtain ⟨q2, w2, hq2, hw2, n0, n1, n2, hx2⟩ := box_node w1 g.nodes[i]!.id A' B' g.nodes[i]!.labels.length c' g.nodes[i]!.props.length d' 45
  rw [hq1] at hq2
  subst hq2
  have HP := Lib.hid (fun W (e : Ext w2 W) => r7_parts g.nodes[i]!.labels g.nodes[i]!.props ok ok A' B' c' d' W (hS.ext ((hx1.trans hx2).trans e)) (hP.ext ((hx1.trans hx2).trans e)) (hs.nodes _ (mem_bang hi)))
  have hd0 := hx1.cell d0
  have hd1 := hx1.cell d1
  have hd2 := hx1.cell d2
  have G0 := hx2.cell g0
  have G1 := hx2.cell g1
  have G2 := hx2.cell g2
  have G3 := hx2.cell g3
  have hpv : 0 < i → w2.cell? ⟨b, o + (i - 1) * 3, none⟩ = some (.int .i64 g.nodes[i - 1]!.id) := fun h => by
    obtain ⟨-, e0, -⟩ := hc (i - 1) (by omega)
    exact hx2.cell (hx1.cell e0)
  obtain ⟨E, hE⟩ : ∃ E, E = nodeE g i := ⟨_, rfl⟩
  rw [← hE]
  have HW1 := Lib.hid hw1
  have HW2 := Lib.hid hw2
  have HG := Lib.hid hq
  have HQ1 := Lib.hid hq1
  have hEx := hx1.trans hx2
  clear hc d0 d1 d2 hg hs hS hP hw1 hw2 hq hx1 hx2 hq1
  rcases Nat.eq_zero_or_pos i with hz | hz
  · subst hz
    clear hpv
    have HE1 := Lib.hid (fun h => nodeE_1 (g := g) (i := 0) (fun h => absurd h (Nat.lt_irrefl _)) h)
    have HEP := Lib.hid (fun h1 h2 => nodeE_p (g := g) (i := 0) (fun h => absurd h (Nat.lt_irrefl _)) h1 h2)
    rw [← hE] at HE1 HEP
    clear hE
    rw [Nat.zero_mul, Nat.add_zero] at hd0 hd1 hd2
    generalize g.nodes[0]! = x at *
    generalize partsE x.labels x.props = z at *
    generalize g.nn = nn at *
    go_enter Tryd.func41, Tryd.ntmps41
    go_upto_region 1 with (fail)
    rw [← HW1.out, ← HG.out]
    clear HW1 HG
    go_upto_region 2 with (fail)
    rw [← HW2.out, HQ1.out]
    clear HW2 HQ1 g0 g1 g2 g3
    have MKR1 := Lib.hid (fun V (e : Ext w2 V) => (e : Ext w2 V))
    refine wp_region_held_drew (S := (fun V => Ext w2 V)) (by kernel_rfl) ?hs1 (fun hHeld => ?go1)
    case hs1 => (exact MKR1.out _ (by with_reducible repeat (first | exact Ext.refl _ | assumption | refine Ext.drew ?_ | refine Ext.drewN ?_ _ | refine Ext.alloc ?_ _)))
    refine wpAnyH_take (i := 0) (oi := ⟨(some 11), (.move (.tmp 1)), 3, "ref.go:80", #[], none⟩) (v := ?v2) rfl (by kernel_rfl) (by kernel_rfl) (by kernel_rfl) (fun _ _ _ h => h) (Or.inl ⟨rfl, ?hy2⟩) hHeld ?rest2
    case hy2 => (intro w _; go_simp <;> rfl)
    (try simp only [PU])
    refine wpAnyH_take (i := 1) (oi := ⟨(some 12), (.binOp .gtr 3 (.tmp 11) (.const (.int .i64 0)) 3), 4, "ref.go:80", #[⟨0, .data⟩], none⟩) (v := ?v3) rfl (by kernel_rfl) (by kernel_rfl) (by kernel_rfl) (fun _ _ _ h => h) (Or.inl ⟨rfl, ?hy3⟩) hHeld ?rest3
    case hy3 => (intro w _; go_simp <;> first | with_reducible rfl | rw [if_neg (by omega)] | rw [if_pos (by omega)])
    (try simp only [PU])
    refine wpAnyH_take (i := 2) (oi := ⟨(some 13), (.move (.tmp 12)), 4, "ref.go:80", #[⟨1, .data⟩], none⟩) (v := ?v4) rfl (by kernel_rfl) (by kernel_rfl) (by kernel_rfl) (fun _ _ _ h => h) (Or.inl ⟨rfl, ?hy4⟩) hHeld ?rest4
    case hy4 => (intro w _; go_simp <;> rfl)
    (try simp only [PU])
    refine wpAnyH_take (i := 3) (oi := ⟨(some 14), (.fieldAddr 45 (.tmp 5) 0), 0, "ref.go:80", #[⟨2, .guard⟩], (some (2, true))⟩) (v := undef) rfl (by kernel_rfl) (by kernel_rfl) (by kernel_rfl) (fun _ _ _ h => h) (Or.inr ⟨rfl, rfl⟩) hHeld ?rest5
    (try simp only [PU])
    refine wpAnyH_take (i := 4) (oi := ⟨(some 15), (.load 3 (.tmp 14)), 3, "ref.go:80", #[⟨3, .data⟩, ⟨2, .guard⟩], (some (2, true))⟩) (v := undef) rfl (by kernel_rfl) (by kernel_rfl) (by kernel_rfl) (fun _ _ _ h => h) (Or.inr ⟨rfl, rfl⟩) hHeld ?rest6
    (try simp only [PU])
    refine wpAnyH_take (i := 5) (oi := ⟨(some 16), (.fieldAddr 34 (.tmp 2) 0), 0, "ref.go:80", #[⟨2, .guard⟩], (some (2, true))⟩) (v := undef) rfl (by kernel_rfl) (by kernel_rfl) (by kernel_rfl) (fun _ _ _ h => h) (Or.inr ⟨rfl, rfl⟩) hHeld ?rest7
    (try simp only [PU])
    refine wpAnyH_take (i := 6) (oi := ⟨(some 17), (.load 31 (.tmp 16)), 31, "ref.go:80", #[⟨5, .data⟩, ⟨2, .guard⟩], (some (2, true))⟩) (v := undef) rfl (by kernel_rfl) (by kernel_rfl) (by kernel_rfl) (fun _ _ _ h => h) (Or.inr ⟨rfl, rfl⟩) hHeld ?rest8
    (try simp only [PU])
    refine wpAnyH_take (i := 7) (oi := ⟨(some 18), (.move (.tmp 1)), 3, "ref.go:80", #[⟨2, .guard⟩], (some (2, true))⟩) (v := undef) rfl (by kernel_rfl) (by kernel_rfl) (by kernel_rfl) (fun _ _ _ h => h) (Or.inr ⟨rfl, rfl⟩) hHeld ?rest9
    (try simp only [PU])
    refine wpAnyH_take (i := 8) (oi := ⟨(some 19), (.binOp .sub 3 (.tmp 18) (.const (.int .i64 1)) 3), 3, "ref.go:80", #[⟨7, .data⟩, ⟨2, .guard⟩], (some (2, true))⟩) (v := undef) rfl (by kernel_rfl) (by kernel_rfl) (by kernel_rfl) (fun _ _ _ h => h) (Or.inr ⟨rfl, rfl⟩) hHeld ?rest10
    (try simp only [PU])
    refine wpAnyH_take (i := 9) (oi := ⟨(some 20), (.indexAddr 31 (.tmp 17) (.tmp 19)), 0, "ref.go:80", #[⟨6, .data⟩, ⟨8, .data⟩, ⟨2, .guard⟩], (some (2, true))⟩) (v := undef) rfl (by kernel_rfl) (by kernel_rfl) (by kernel_rfl) (fun _ _ _ h => h) (Or.inr ⟨rfl, rfl⟩) hHeld ?rest11
    (try simp only [PU])
    refine wpAnyH_take (i := 10) (oi := ⟨(some 21), (.fieldAddr 45 (.tmp 20) 0), 0, "ref.go:80", #[⟨9, .data⟩, ⟨2, .guard⟩], (some (2, true))⟩) (v := undef) rfl (by kernel_rfl) (by kernel_rfl) (by kernel_rfl) (fun _ _ _ h => h) (Or.inr ⟨rfl, rfl⟩) hHeld ?rest12
    (try simp only [PU])
    refine wpAnyH_take (i := 11) (oi := ⟨(some 22), (.load 3 (.tmp 21)), 3, "ref.go:80", #[⟨10, .data⟩, ⟨2, .guard⟩], (some (2, true))⟩) (v := undef) rfl (by kernel_rfl) (by kernel_rfl) (by kernel_rfl) (fun _ _ _ h => h) (Or.inr ⟨rfl, rfl⟩) hHeld ?rest13
    (try simp only [PU])
    refine wpAnyH_take (i := 12) (oi := ⟨(some 23), (.binOp .leq 3 (.tmp 15) (.tmp 22) 3), 4, "ref.go:80", #[⟨4, .data⟩, ⟨11, .data⟩, ⟨2, .guard⟩], (some (2, true))⟩) (v := undef) rfl (by kernel_rfl) (by kernel_rfl) (by kernel_rfl) (fun _ _ _ h => h) (Or.inr ⟨rfl, rfl⟩) hHeld ?rest14
    (try simp only [PU])
    refine wpAnyH_take (i := 13) (oi := ⟨(some 24), (.pick (.tmp 13) (.tmp 23) (.const (.bool false))), 4, "ref.go:80", #[⟨2, .data⟩, ⟨12, .data⟩], none⟩) (v := ?v15) rfl (by kernel_rfl) (by kernel_rfl) (by kernel_rfl) (fun _ _ _ h => h) (Or.inl ⟨rfl, ?hy15⟩) hHeld ?rest15
    case hy15 => (intro w _; go_simp <;> rfl)
    (try simp only [PU])
    refine wpAnyH_done (by kernel_rfl) ?_ _
    clear hHeld
    clear MKR1
    have gE : Ext w2 w2.drew := (Ext.refl _).drew
    have m0 := gE.cell n0
    have m1 := gE.cell n1
    have m2 := gE.cell n2
    have k2 := gE.cell G2
    by_cases h1 : x.id < 1
    · go_wp2_with fail
      go_ret
      exact ⟨ret_int (HE1.out (.inl h1)).symm, hEx.trans (by with_reducible repeat (first | exact Ext.refl _ | assumption | refine Ext.drew ?_ | refine Ext.drewN ?_ _ | refine Ext.alloc ?_ _))⟩
    · by_cases h2 : nn ≤ x.id
      · go_wp2_with fail
        go_ret
        exact ⟨ret_int (HE1.out (.inr h2)).symm, hEx.trans (by with_reducible repeat (first | exact Ext.refl _ | assumption | refine Ext.drew ?_ | refine Ext.drewN ?_ _ | refine Ext.alloc ?_ _))⟩
      · have HZ := Lib.hid (HEP.out (by omega) (by omega))
        go_wp2_with (go_at_call 64; ((with_reducible refine (HP.out _ (by with_reducible repeat (first | exact Ext.refl _ | assumption | refine Ext.drew ?_ | refine Ext.drewN ?_ _ | refine Ext.alloc ?_ _))).mono ?_); rintro e w8 ⟨rfl, hx8⟩))
        go_ret
        exact ⟨ret_int HZ.out.symm, hEx.trans (Ext.trans (by with_reducible repeat (first | exact Ext.refl _ | assumption | refine Ext.drew ?_ | refine Ext.drewN ?_ _ | refine Ext.alloc ?_ _)) hx8)⟩
  · replace hpv := hpv hz
    by_cases hlt : g.nodes[i - 1]!.id < g.nodes[i]!.id
    · have HE1 := Lib.hid (fun h => nodeE_1 (g := g) (i := i) (fun _ => hlt) h)
      have HEP := Lib.hid (fun h1 h2 => nodeE_p (g := g) (i := i) (fun _ => hlt) h1 h2)
      rw [← hE] at HE1 HEP
      clear hE
      generalize g.nodes[i]! = x at *
      generalize g.nodes[i - 1]! = y at *
      generalize partsE x.labels x.props = z at *
      generalize g.nn = nn at *
      have ho : ¬ x.id ≤ y.id := by omega
      clear hlt
      go_enter Tryd.func41, Tryd.ntmps41
      go_upto_region 1 with (fail)
      rw [← HW1.out, ← HG.out]
      clear HW1 HG
      go_upto_region 2 with (fail)
      rw [← HW2.out, HQ1.out]
      clear HW2 HQ1 g0 g1 g2 g3
      have p0 : 0 < i := by omega
      have p1 : (1 : Int) ≤ (i : Int) := by omega
      have p2 : ((i : Int) - 1).toNat = i - 1 := by omega
      have p5 : IntKind.i64.wrap ((i : Int) - 1) = (i : Int) - 1 := IntWalk.i64_in _ (by omega)
      have p6 : ((i : Int) - 1) < (g.nodes.length : Int) := by omega
      have MKR2 := Lib.hid (fun V (e : Ext w2 V) => (⟨e.cell G0, e.cell n0, e.cell hpv, e⟩ : V.cell? ⟨q, 0, none⟩ = some (.slice (some ⟨b, o, none⟩) g.nodes.length c) ∧ V.cell? ⟨q + 1, 0, none⟩ = some (.int .i64 x.id) ∧ V.cell? ⟨b, o + (i - 1) * 3, none⟩ = some (.int .i64 y.id) ∧ Ext w2 V))
      refine wp_region_held_drew (S := (fun V => V.cell? ⟨q, 0, none⟩ = some (.slice (some ⟨b, o, none⟩) g.nodes.length c) ∧ V.cell? ⟨q + 1, 0, none⟩ = some (.int .i64 x.id) ∧ V.cell? ⟨b, o + (i - 1) * 3, none⟩ = some (.int .i64 y.id) ∧ Ext w2 V)) (by kernel_rfl) ?hs16 (fun hHeld => ?go16)
      case hs16 => (exact MKR2.out _ (by with_reducible repeat (first | exact Ext.refl _ | assumption | refine Ext.drew ?_ | refine Ext.drewN ?_ _ | refine Ext.alloc ?_ _)))
      refine wpAnyH_take (i := 0) (oi := ⟨(some 11), (.move (.tmp 1)), 3, "ref.go:80", #[], none⟩) (v := ?v17) rfl (by kernel_rfl) (by kernel_rfl) (by kernel_rfl) (fun _ _ _ h => h) (Or.inl ⟨rfl, ?hy17⟩) hHeld ?rest17
      case hy17 => (intro w _; go_simp <;> rfl)
      (try simp only [PU])
      refine wpAnyH_take (i := 1) (oi := ⟨(some 12), (.binOp .gtr 3 (.tmp 11) (.const (.int .i64 0)) 3), 4, "ref.go:80", #[⟨0, .data⟩], none⟩) (v := ?v18) rfl (by kernel_rfl) (by kernel_rfl) (by kernel_rfl) (fun _ _ _ h => h) (Or.inl ⟨rfl, ?hy18⟩) hHeld ?rest18
      case hy18 => (intro w _; go_simp <;> first | with_reducible rfl | rw [if_neg (by omega)] | rw [if_pos (by omega)])
      (try simp only [PU])
      refine wpAnyH_take (i := 2) (oi := ⟨(some 13), (.move (.tmp 12)), 4, "ref.go:80", #[⟨1, .data⟩], none⟩) (v := ?v19) rfl (by kernel_rfl) (by kernel_rfl) (by kernel_rfl) (fun _ _ _ h => h) (Or.inl ⟨rfl, ?hy19⟩) hHeld ?rest19
      case hy19 => (intro w _; go_simp <;> rfl)
      (try simp only [PU])
      refine wpAnyH_take (i := 3) (oi := ⟨(some 14), (.fieldAddr 45 (.tmp 5) 0), 0, "ref.go:80", #[⟨2, .guard⟩], (some (2, true))⟩) (v := ?v20) rfl (by kernel_rfl) (by kernel_rfl) (by kernel_rfl) (fun _ _ _ h => h) (Or.inl ⟨rfl, ?hy20⟩) hHeld ?rest20
      case hy20 => (intro w _; go_simp <;> rfl)
      (try simp only [PU])
      refine wpAnyH_take (i := 4) (oi := ⟨(some 15), (.load 3 (.tmp 14)), 3, "ref.go:80", #[⟨3, .data⟩, ⟨2, .guard⟩], (some (2, true))⟩) (v := ?v21) rfl (by kernel_rfl) (by kernel_rfl) (by kernel_rfl) (fun _ _ _ h => h) (Or.inl ⟨rfl, ?hy21⟩) hHeld ?rest21
      case hy21 => (intro w hSw; (try dsimp only at hSw); go_simp <;> first | with_reducible rfl | rw [if_neg (by omega)] | rw [if_pos (by omega)])
      (try simp only [PU])
      refine wpAnyH_take (i := 5) (oi := ⟨(some 16), (.fieldAddr 34 (.tmp 2) 0), 0, "ref.go:80", #[⟨2, .guard⟩], (some (2, true))⟩) (v := ?v22) rfl (by kernel_rfl) (by kernel_rfl) (by kernel_rfl) (fun _ _ _ h => h) (Or.inl ⟨rfl, ?hy22⟩) hHeld ?rest22
      case hy22 => (intro w _; go_simp <;> rfl)
      (try simp only [PU])
      refine wpAnyH_take (i := 6) (oi := ⟨(some 17), (.load 31 (.tmp 16)), 31, "ref.go:80", #[⟨5, .data⟩, ⟨2, .guard⟩], (some (2, true))⟩) (v := ?v23) rfl (by kernel_rfl) (by kernel_rfl) (by kernel_rfl) (fun _ _ _ h => h) (Or.inl ⟨rfl, ?hy23⟩) hHeld ?rest23
      case hy23 => (intro w hSw; (try dsimp only at hSw); go_simp <;> first | with_reducible rfl | rw [if_neg (by omega)] | rw [if_pos (by omega)])
      (try simp only [PU])
      refine wpAnyH_take (i := 7) (oi := ⟨(some 18), (.move (.tmp 1)), 3, "ref.go:80", #[⟨2, .guard⟩], (some (2, true))⟩) (v := ?v24) rfl (by kernel_rfl) (by kernel_rfl) (by kernel_rfl) (fun _ _ _ h => h) (Or.inl ⟨rfl, ?hy24⟩) hHeld ?rest24
      case hy24 => (intro w _; go_simp <;> rfl)
      (try simp only [PU])
      refine wpAnyH_take (i := 8) (oi := ⟨(some 19), (.binOp .sub 3 (.tmp 18) (.const (.int .i64 1)) 3), 3, "ref.go:80", #[⟨7, .data⟩, ⟨2, .guard⟩], (some (2, true))⟩) (v := ?v25) rfl (by kernel_rfl) (by kernel_rfl) (by kernel_rfl) (fun _ _ _ h => h) (Or.inl ⟨rfl, ?hy25⟩) hHeld ?rest25
      case hy25 => (intro w _; go_simp <;> first | with_reducible rfl | rw [if_neg (by omega)] | rw [if_pos (by omega)])
      (try simp only [PU])
      refine wpAnyH_take (i := 9) (oi := ⟨(some 20), (.indexAddr 31 (.tmp 17) (.tmp 19)), 0, "ref.go:80", #[⟨6, .data⟩, ⟨8, .data⟩, ⟨2, .guard⟩], (some (2, true))⟩) (v := ?v26) rfl (by kernel_rfl) (by kernel_rfl) (by kernel_rfl) (fun _ _ _ h => h) (Or.inl ⟨rfl, ?hy26⟩) hHeld ?rest26
      case hy26 => (intro w _; go_simp <;> first | with_reducible rfl | rw [if_neg (by omega)] | rw [if_pos (by omega)])
      (try simp only [PU])
      refine wpAnyH_take (i := 10) (oi := ⟨(some 21), (.fieldAddr 45 (.tmp 20) 0), 0, "ref.go:80", #[⟨9, .data⟩, ⟨2, .guard⟩], (some (2, true))⟩) (v := ?v27) rfl (by kernel_rfl) (by kernel_rfl) (by kernel_rfl) (fun _ _ _ h => h) (Or.inl ⟨rfl, ?hy27⟩) hHeld ?rest27
      case hy27 => (intro w _; go_simp <;> rfl)
      (try simp only [PU])
      refine wpAnyH_take (i := 11) (oi := ⟨(some 22), (.load 3 (.tmp 21)), 3, "ref.go:80", #[⟨10, .data⟩, ⟨2, .guard⟩], (some (2, true))⟩) (v := ?v28) rfl (by kernel_rfl) (by kernel_rfl) (by kernel_rfl) (fun _ _ _ h => h) (Or.inl ⟨rfl, ?hy28⟩) hHeld ?rest28
      case hy28 => (intro w hSw; (try dsimp only at hSw); go_simp <;> first | with_reducible rfl | rw [if_neg (by omega)] | rw [if_pos (by omega)])
      (try simp only [PU])
      refine wpAnyH_take (i := 12) (oi := ⟨(some 23), (.binOp .leq 3 (.tmp 15) (.tmp 22) 3), 4, "ref.go:80", #[⟨4, .data⟩, ⟨11, .data⟩, ⟨2, .guard⟩], (some (2, true))⟩) (v := ?v29) rfl (by kernel_rfl) (by kernel_rfl) (by kernel_rfl) (fun _ _ _ h => h) (Or.inl ⟨rfl, ?hy29⟩) hHeld ?rest29
      case hy29 => (intro w _; go_simp <;> first | with_reducible rfl | rw [if_neg (by omega)] | rw [if_pos (by omega)])
      (try simp only [PU])
      refine wpAnyH_take (i := 13) (oi := ⟨(some 24), (.pick (.tmp 13) (.tmp 23) (.const (.bool false))), 4, "ref.go:80", #[⟨2, .data⟩, ⟨12, .data⟩], none⟩) (v := ?v30) rfl (by kernel_rfl) (by kernel_rfl) (by kernel_rfl) (fun _ _ _ h => h) (Or.inl ⟨rfl, ?hy30⟩) hHeld ?rest30
      case hy30 => (intro w _; go_simp <;> rfl)
      (try simp only [PU])
      refine wpAnyH_done (by kernel_rfl) ?_ _
      clear hHeld
      clear MKR2
      clear p0 p1 p2 p5 p6 ho hpv
      have gE : Ext w2 w2.drew := (Ext.refl _).drew
      have m0 := gE.cell n0
      have m1 := gE.cell n1
      have m2 := gE.cell n2
      have k2 := gE.cell G2
      by_cases h1 : x.id < 1
      · go_wp2_with fail
        go_ret
        exact ⟨ret_int (HE1.out (.inl h1)).symm, hEx.trans (by with_reducible repeat (first | exact Ext.refl _ | assumption | refine Ext.drew ?_ | refine Ext.drewN ?_ _ | refine Ext.alloc ?_ _))⟩
      · by_cases h2 : nn ≤ x.id
        · go_wp2_with fail
          go_ret
          exact ⟨ret_int (HE1.out (.inr h2)).symm, hEx.trans (by with_reducible repeat (first | exact Ext.refl _ | assumption | refine Ext.drew ?_ | refine Ext.drewN ?_ _ | refine Ext.alloc ?_ _))⟩
        · have HZ := Lib.hid (HEP.out (by omega) (by omega))
          go_wp2_with (go_at_call 64; ((with_reducible refine (HP.out _ (by with_reducible repeat (first | exact Ext.refl _ | assumption | refine Ext.drew ?_ | refine Ext.drewN ?_ _ | refine Ext.alloc ?_ _))).mono ?_); rintro e w8 ⟨rfl, hx8⟩))
          go_ret
          exact ⟨ret_int HZ.out.symm, hEx.trans (Ext.trans (by with_reducible repeat (first | exact Ext.refl _ | assumption | refine Ext.drew ?_ | refine Ext.drewN ?_ _ | refine Ext.alloc ?_ _)) hx8)⟩
    · have HR := Lib.hid (hE.trans (nodeE_26 hz (by omega)))
      clear hE HP
      generalize g.nodes[i]! = x at *
      generalize g.nodes[i - 1]! = y at *
      have ho : x.id ≤ y.id := by omega
      clear hlt
      go_enter Tryd.func41, Tryd.ntmps41
      go_upto_region 1 with (fail)
      rw [← HW1.out, ← HG.out]
      clear HW1 HG
      go_upto_region 2 with (fail)
      rw [← HW2.out, HQ1.out]
      clear HW2 HQ1 g0 g1 g2 g3
      have p0 : 0 < i := by omega
      have p1 : (1 : Int) ≤ (i : Int) := by omega
      have p2 : ((i : Int) - 1).toNat = i - 1 := by omega
      have p5 : IntKind.i64.wrap ((i : Int) - 1) = (i : Int) - 1 := IntWalk.i64_in _ (by omega)
      have p6 : ((i : Int) - 1) < (g.nodes.length : Int) := by omega
      have MKR3 := Lib.hid (fun V (e : Ext w2 V) => (⟨e.cell G0, e.cell n0, e.cell hpv, e⟩ : V.cell? ⟨q, 0, none⟩ = some (.slice (some ⟨b, o, none⟩) g.nodes.length c) ∧ V.cell? ⟨q + 1, 0, none⟩ = some (.int .i64 x.id) ∧ V.cell? ⟨b, o + (i - 1) * 3, none⟩ = some (.int .i64 y.id) ∧ Ext w2 V))
      refine wp_region_held_drew (S := (fun V => V.cell? ⟨q, 0, none⟩ = some (.slice (some ⟨b, o, none⟩) g.nodes.length c) ∧ V.cell? ⟨q + 1, 0, none⟩ = some (.int .i64 x.id) ∧ V.cell? ⟨b, o + (i - 1) * 3, none⟩ = some (.int .i64 y.id) ∧ Ext w2 V)) (by kernel_rfl) ?hs31 (fun hHeld => ?go31)
      case hs31 => (exact MKR3.out _ (by with_reducible repeat (first | exact Ext.refl _ | assumption | refine Ext.drew ?_ | refine Ext.drewN ?_ _ | refine Ext.alloc ?_ _)))
      refine wpAnyH_take (i := 0) (oi := ⟨(some 11), (.move (.tmp 1)), 3, "ref.go:80", #[], none⟩) (v := ?v32) rfl (by kernel_rfl) (by kernel_rfl) (by kernel_rfl) (fun _ _ _ h => h) (Or.inl ⟨rfl, ?hy32⟩) hHeld ?rest32
      case hy32 => (intro w _; go_simp <;> rfl)
      (try simp only [PU])
      refine wpAnyH_take (i := 1) (oi := ⟨(some 12), (.binOp .gtr 3 (.tmp 11) (.const (.int .i64 0)) 3), 4, "ref.go:80", #[⟨0, .data⟩], none⟩) (v := ?v33) rfl (by kernel_rfl) (by kernel_rfl) (by kernel_rfl) (fun _ _ _ h => h) (Or.inl ⟨rfl, ?hy33⟩) hHeld ?rest33
      case hy33 => (intro w _; go_simp <;> first | with_reducible rfl | rw [if_neg (by omega)] | rw [if_pos (by omega)])
      (try simp only [PU])
      refine wpAnyH_take (i := 2) (oi := ⟨(some 13), (.move (.tmp 12)), 4, "ref.go:80", #[⟨1, .data⟩], none⟩) (v := ?v34) rfl (by kernel_rfl) (by kernel_rfl) (by kernel_rfl) (fun _ _ _ h => h) (Or.inl ⟨rfl, ?hy34⟩) hHeld ?rest34
      case hy34 => (intro w _; go_simp <;> rfl)
      (try simp only [PU])
      refine wpAnyH_take (i := 3) (oi := ⟨(some 14), (.fieldAddr 45 (.tmp 5) 0), 0, "ref.go:80", #[⟨2, .guard⟩], (some (2, true))⟩) (v := ?v35) rfl (by kernel_rfl) (by kernel_rfl) (by kernel_rfl) (fun _ _ _ h => h) (Or.inl ⟨rfl, ?hy35⟩) hHeld ?rest35
      case hy35 => (intro w _; go_simp <;> rfl)
      (try simp only [PU])
      refine wpAnyH_take (i := 4) (oi := ⟨(some 15), (.load 3 (.tmp 14)), 3, "ref.go:80", #[⟨3, .data⟩, ⟨2, .guard⟩], (some (2, true))⟩) (v := ?v36) rfl (by kernel_rfl) (by kernel_rfl) (by kernel_rfl) (fun _ _ _ h => h) (Or.inl ⟨rfl, ?hy36⟩) hHeld ?rest36
      case hy36 => (intro w hSw; (try dsimp only at hSw); go_simp <;> first | with_reducible rfl | rw [if_neg (by omega)] | rw [if_pos (by omega)])
      (try simp only [PU])
      refine wpAnyH_take (i := 5) (oi := ⟨(some 16), (.fieldAddr 34 (.tmp 2) 0), 0, "ref.go:80", #[⟨2, .guard⟩], (some (2, true))⟩) (v := ?v37) rfl (by kernel_rfl) (by kernel_rfl) (by kernel_rfl) (fun _ _ _ h => h) (Or.inl ⟨rfl, ?hy37⟩) hHeld ?rest37
      case hy37 => (intro w _; go_simp <;> rfl)
      (try simp only [PU])
      refine wpAnyH_take (i := 6) (oi := ⟨(some 17), (.load 31 (.tmp 16)), 31, "ref.go:80", #[⟨5, .data⟩, ⟨2, .guard⟩], (some (2, true))⟩) (v := ?v38) rfl (by kernel_rfl) (by kernel_rfl) (by kernel_rfl) (fun _ _ _ h => h) (Or.inl ⟨rfl, ?hy38⟩) hHeld ?rest38
      case hy38 => (intro w hSw; (try dsimp only at hSw); go_simp <;> first | with_reducible rfl | rw [if_neg (by omega)] | rw [if_pos (by omega)])
      (try simp only [PU])
      refine wpAnyH_take (i := 7) (oi := ⟨(some 18), (.move (.tmp 1)), 3, "ref.go:80", #[⟨2, .guard⟩], (some (2, true))⟩) (v := ?v39) rfl (by kernel_rfl) (by kernel_rfl) (by kernel_rfl) (fun _ _ _ h => h) (Or.inl ⟨rfl, ?hy39⟩) hHeld ?rest39
      case hy39 => (intro w _; go_simp <;> rfl)
      (try simp only [PU])
      refine wpAnyH_take (i := 8) (oi := ⟨(some 19), (.binOp .sub 3 (.tmp 18) (.const (.int .i64 1)) 3), 3, "ref.go:80", #[⟨7, .data⟩, ⟨2, .guard⟩], (some (2, true))⟩) (v := ?v40) rfl (by kernel_rfl) (by kernel_rfl) (by kernel_rfl) (fun _ _ _ h => h) (Or.inl ⟨rfl, ?hy40⟩) hHeld ?rest40
      case hy40 => (intro w _; go_simp <;> first | with_reducible rfl | rw [if_neg (by omega)] | rw [if_pos (by omega)])
      (try simp only [PU])
      refine wpAnyH_take (i := 9) (oi := ⟨(some 20), (.indexAddr 31 (.tmp 17) (.tmp 19)), 0, "ref.go:80", #[⟨6, .data⟩, ⟨8, .data⟩, ⟨2, .guard⟩], (some (2, true))⟩) (v := ?v41) rfl (by kernel_rfl) (by kernel_rfl) (by kernel_rfl) (fun _ _ _ h => h) (Or.inl ⟨rfl, ?hy41⟩) hHeld ?rest41
      case hy41 => (intro w _; go_simp <;> first | with_reducible rfl | rw [if_neg (by omega)] | rw [if_pos (by omega)])
      (try simp only [PU])
      refine wpAnyH_take (i := 10) (oi := ⟨(some 21), (.fieldAddr 45 (.tmp 20) 0), 0, "ref.go:80", #[⟨9, .data⟩, ⟨2, .guard⟩], (some (2, true))⟩) (v := ?v42) rfl (by kernel_rfl) (by kernel_rfl) (by kernel_rfl) (fun _ _ _ h => h) (Or.inl ⟨rfl, ?hy42⟩) hHeld ?rest42
      case hy42 => (intro w _; go_simp <;> rfl)
      (try simp only [PU])
      refine wpAnyH_take (i := 11) (oi := ⟨(some 22), (.load 3 (.tmp 21)), 3, "ref.go:80", #[⟨10, .data⟩, ⟨2, .guard⟩], (some (2, true))⟩) (v := ?v43) rfl (by kernel_rfl) (by kernel_rfl) (by kernel_rfl) (fun _ _ _ h => h) (Or.inl ⟨rfl, ?hy43⟩) hHeld ?rest43
      case hy43 => (intro w hSw; (try dsimp only at hSw); go_simp <;> first | with_reducible rfl | rw [if_neg (by omega)] | rw [if_pos (by omega)])
      (try simp only [PU])
      refine wpAnyH_take (i := 12) (oi := ⟨(some 23), (.binOp .leq 3 (.tmp 15) (.tmp 22) 3), 4, "ref.go:80", #[⟨4, .data⟩, ⟨11, .data⟩, ⟨2, .guard⟩], (some (2, true))⟩) (v := ?v44) rfl (by kernel_rfl) (by kernel_rfl) (by kernel_rfl) (fun _ _ _ h => h) (Or.inl ⟨rfl, ?hy44⟩) hHeld ?rest44
      case hy44 => (intro w _; go_simp <;> first | with_reducible rfl | rw [if_neg (by omega)] | rw [if_pos (by omega)])
      (try simp only [PU])
      refine wpAnyH_take (i := 13) (oi := ⟨(some 24), (.pick (.tmp 13) (.tmp 23) (.const (.bool false))), 4, "ref.go:80", #[⟨2, .data⟩, ⟨12, .data⟩], none⟩) (v := ?v45) rfl (by kernel_rfl) (by kernel_rfl) (by kernel_rfl) (fun _ _ _ h => h) (Or.inl ⟨rfl, ?hy45⟩) hHeld ?rest45
      case hy45 => (intro w _; go_simp <;> rfl)
      (try simp only [PU])
      refine wpAnyH_done (by kernel_rfl) ?_ _
      clear hHeld
      clear MKR3
      go_wp2_with fail
      go_ret
      exact ⟨ret_int HR.out.symm, hEx.trans (by with_reducible repeat (first | exact Ext.refl _ | assumption | refine Ext.drew ?_ | refine Ext.drewN ?_ _ | refine Ext.alloc ?_ _))⟩
end Go.Proofs.YtlkpmbkmmfoakaaDoor

/- GRAPHS THAT COME IN. -/
namespace Go.Proofs.YtlkpmbkmmfoakaaDoor
open Go.ChangeShapes Go.WideShapes Go.ChangeAt Go.RowKit
open Go.ChangeMaps (open_string shut_string)
theorem twoL {α : Type} {l : List α} (h : l.length = 2) : ∃ a b, l = [a, b] := by
  match l, h with
  | [a, b], _ => exact ⟨a, b, rfl⟩
theorem three_L {α : Type} {l : List α} (h : l.length = 3) : ∃ a b c, l = [a, b, c] := by
  match l, h with
  | [a, b, c], _ => exact ⟨a, b, c, rfl⟩
theorem four_L {α : Type} {l : List α} (h : l.length = 4) : ∃ a b c d, l = [a, b, c, d] := by
  match l, h with
  | [a, b, c, d], _ => exact ⟨a, b, c, d, rfl⟩
theorem fiveL {α : Type} {l : List α} (h : l.length = 5) : ∃ a b c d e, l = [a, b, c, d, e] := by
  match l, h with
  | [a, b, c, d, e], _ => exact ⟨a, b, c, d, e, rfl⟩
theorem six_L {α : Type} {l : List α} (h : l.length = 6) : ∃ a b c d e f, l = [a, b, c, d, e, f] := by
  match l, h with
  | [a, b, c, d, e, f], _ => exact ⟨a, b, c, d, e, f, rfl⟩
theorem cellsProp : Tryd.prog.cellsOf 114 = 6 := by kernel_rfl
theorem cellsNode : Tryd.prog.cellsOf 45 = 3 := by kernel_rfl
theorem cellsEdge : Tryd.prog.cellsOf 55 = 5 := by kernel_rfl
theorem cellsGraph : Tryd.prog.cellsOf 34 = 4 := by kernel_rfl
theorem cellsProps : Tryd.prog.cellsOf 43 = 1 := by kernel_rfl
theorem cellsNodes : Tryd.prog.cellsOf 31 = 1 := by kernel_rfl
theorem cellsEdges : Tryd.prog.cellsOf 32 = 1 := by kernel_rfl
theorem bytesProp : 0 < Tryd.prog.bytesOf 114 := of_decide_eq_true (by kernel_rfl)
theorem bytesNode : 0 < Tryd.prog.bytesOf 45 := of_decide_eq_true (by kernel_rfl)
theorem bytesEdge : 0 < Tryd.prog.bytesOf 55 := of_decide_eq_true (by kernel_rfl)
section
variable {H : Type} {enc : TypeId × Value → H} {w : World} {base : Nat} {spare : Nat → Bool} {held : Bool}
set_option maxRecDepth 100000 in
theorem open_prop {fuel : Nat} {cs : List Value} {x : DataW H × List MemPlace} (hwt : ∀ k ∈ x.1.weights Tryd.prog 114, k ≤ reachBytes) (h : DataW.trod enc Tryd.prog w base spare held fuel 114 cs = some x) : ∃ v : PropG, (szV v.v) ∧ ∀ b o, (∀ j u, cs[j]? = some u → w.cell? ⟨b, o + j, none⟩ = some u) → PropC w (fun _ => True) b o v := by
  obtain ⟨xs, m, hm, hxx, hl, hlen, hg⟩ := DataW.trod_struct Tryd.underlying114 h
  rw [cellsProp] at hl
  obtain ⟨c0, c1, c2, c3, c4, c5, rfl⟩ := six_L hl
  obtain ⟨y0, y1, rfl⟩ := twoL (show xs.length = 2 from hlen)
  have g0 : DataW.trod enc Tryd.prog w base spare held m 9 (([c0, c1, c2, c3, c4, c5].drop 0).take (Tryd.prog.cellsOf 9)) = some y0 := hg 0 _ rfl
  rw [cellsStr] at g0
  have g1 : DataW.trod enc Tryd.prog w base spare held m 112 (([c0, c1, c2, c3, c4, c5].drop 1).take (Tryd.prog.cellsOf 112)) = some y1 := hg 1 _ rfl
  rw [cellsVal] at g1
  have hwe : ∀ k ∈ DataW.weightsEach Tryd.prog [9, 112] [y0.1, y1.1], k ≤ reachBytes := fun k hk => hwt k (by
    rw [show x.1 = .agg [y0.1, y1.1] from congrArg Prod.fst hxx]
    simp only [DataW.weights, Tryd.underlying114]
    exact hk)
  obtain ⟨s0, e0, x0, -⟩ := DataW.trod_string Tryd.underlying9 g0
  have z0 := str_small x0 (fun k hk => hwe k (DataW.weights_mem_each (j := 0) rfl rfl k hk))
  obtain ⟨v1, z1, d1⟩ := (open_both m).1 _ _ (fun k hk => hwe k (DataW.weights_mem_each (j := 1) rfl rfl k hk)) g1
  cases e0
  refine ⟨⟨s0, v1⟩, z1, fun b o hc => ⟨hc 0 _ rfl, d1 b (o + 1) (fun j u hu => ?_)⟩⟩
  have h6 := hc (j + 1) u (by simpa using hu)
  rwa [show o + (j + 1) = o + 1 + j by omega] at h6
theorem open_props {fuel : Nat} {cs : List Value} {x : DataW H × List MemPlace} (hwt : ∀ k ∈ x.1.weights Tryd.prog 43, k ≤ reachBytes) (h : DataW.trod enc Tryd.prog w base spare held fuel 43 cs = some x) :
    ∃ (l : List PropG) (A : Option Addr) (c : Nat), cs = [.slice A l.length c] ∧ l.length ≤ c ∧ SliceR (PropC w (fun _ => True)) 6 A l ∧ ∀ v ∈ l, szV v.v :=
  slice_gen (α := PropG) Tryd.underlying43 cellsProp bytesProp (by decide) (PropC w (fun _ => True)) (fun v => szV v.v) (fun _ _ _ _ hk hy => open_prop hk hy) hwt h
set_option maxRecDepth 100000 in
theorem open_node {fuel : Nat} {cs : List Value} {x : DataW H × List MemPlace} (hwt : ∀ k ∈ x.1.weights Tryd.prog 45, k ≤ reachBytes) (h : DataW.trod enc Tryd.prog w base spare held fuel 45 cs = some x) : ∃ v : NodeG, (∀ p ∈ v.props, szV p.v) ∧ ∀ b o, (∀ j u, cs[j]? = some u → w.cell? ⟨b, o + j, none⟩ = some u) → NodeC w (fun _ => True) b o v := by
  obtain ⟨xs, m, hm, hxx, hl, hlen, hg⟩ := DataW.trod_struct Tryd.underlying45 h
  rw [cellsNode] at hl
  obtain ⟨c0, c1, c2, rfl⟩ := three_L hl
  obtain ⟨y0, y1, y2, rfl⟩ := three_L (show xs.length = 3 from hlen)
  have g0 : DataW.trod enc Tryd.prog w base spare held m 3 (([c0, c1, c2].drop 0).take (Tryd.prog.cellsOf 3)) = some y0 := hg 0 _ rfl
  rw [cellsInt] at g0
  have g1 : DataW.trod enc Tryd.prog w base spare held m 35 (([c0, c1, c2].drop 1).take (Tryd.prog.cellsOf 35)) = some y1 := hg 1 _ rfl
  rw [cellsStrs] at g1
  have g2 : DataW.trod enc Tryd.prog w base spare held m 43 (([c0, c1, c2].drop 2).take (Tryd.prog.cellsOf 43)) = some y2 := hg 2 _ rfl
  rw [cellsProps] at g2
  have hwe : ∀ k ∈ DataW.weightsEach Tryd.prog [3, 35, 43] [y0.1, y1.1, y2.1], k ≤ reachBytes := fun k hk => hwt k (by
    rw [show x.1 = .agg [y0.1, y1.1, y2.1] from congrArg Prod.fst hxx]
    simp only [DataW.weights, Tryd.underlying45]
    exact hk)
  obtain ⟨k0, e0, -, -⟩ := DataW.trod_int (k := .i64) Tryd.underlying3 g0
  obtain ⟨l1, A1, c1', e1, n1, v1, z1⟩ := open_strs Tryd.underlying35 (fun k hk => hwe k (DataW.weights_mem_each (j := 1) rfl rfl k hk)) g1
  obtain ⟨l2, A2, c2', e2, n2, v2, z2⟩ := open_props (fun k hk => hwe k (DataW.weights_mem_each (j := 2) rfl rfl k hk)) g2
  cases e0; cases e1; cases e2
  exact ⟨⟨k0, l1, l2⟩, z2, fun b o hc => ⟨trivial, hc 0 _ rfl, A1, c1', A2, c2', hc 1 _ rfl, n1, v1, hc 2 _ rfl, n2, v2⟩⟩
theorem open_nodes {fuel : Nat} {cs : List Value} {x : DataW H × List MemPlace} (hwt : ∀ k ∈ x.1.weights Tryd.prog 31, k ≤ reachBytes) (h : DataW.trod enc Tryd.prog w base spare held fuel 31 cs = some x) :
    ∃ (l : List NodeG) (A : Option Addr) (c : Nat), cs = [.slice A l.length c] ∧ l.length ≤ c ∧ SliceR (NodeC w (fun _ => True)) 3 A l ∧ ∀ v ∈ l, ∀ p ∈ v.props, szV p.v :=
  slice_gen (α := NodeG) Tryd.underlying31 cellsNode bytesNode (by decide) (NodeC w (fun _ => True)) (fun v => ∀ p ∈ v.props, szV p.v) (fun _ _ _ _ hk hy => open_node hk hy) hwt h
set_option maxRecDepth 100000 in
theorem open_edge {fuel : Nat} {cs : List Value} {x : DataW H × List MemPlace} (hwt : ∀ k ∈ x.1.weights Tryd.prog 55, k ≤ reachBytes) (h : DataW.trod enc Tryd.prog w base spare held fuel 55 cs = some x) : ∃ v : EdgeG, (∀ p ∈ v.props, szV p.v) ∧ ∀ b o, (∀ j u, cs[j]? = some u → w.cell? ⟨b, o + j, none⟩ = some u) → EdgeC w (fun _ => True) b o v := by
  obtain ⟨xs, m, hm, hxx, hl, hlen, hg⟩ := DataW.trod_struct Tryd.underlying55 h
  rw [cellsEdge] at hl
  obtain ⟨c0, c1, c2, c3, c4, rfl⟩ := fiveL hl
  obtain ⟨y0, y1, y2, y3, y4, rfl⟩ := fiveL (show xs.length = 5 from hlen)
  have g0 : DataW.trod enc Tryd.prog w base spare held m 3 (([c0, c1, c2, c3, c4].drop 0).take (Tryd.prog.cellsOf 3)) = some y0 := hg 0 _ rfl
  rw [cellsInt] at g0
  have g1 : DataW.trod enc Tryd.prog w base spare held m 3 (([c0, c1, c2, c3, c4].drop 1).take (Tryd.prog.cellsOf 3)) = some y1 := hg 1 _ rfl
  rw [cellsInt] at g1
  have g2 : DataW.trod enc Tryd.prog w base spare held m 3 (([c0, c1, c2, c3, c4].drop 2).take (Tryd.prog.cellsOf 3)) = some y2 := hg 2 _ rfl
  rw [cellsInt] at g2
  have g3 : DataW.trod enc Tryd.prog w base spare held m 9 (([c0, c1, c2, c3, c4].drop 3).take (Tryd.prog.cellsOf 9)) = some y3 := hg 3 _ rfl
  rw [cellsStr] at g3
  have g4 : DataW.trod enc Tryd.prog w base spare held m 43 (([c0, c1, c2, c3, c4].drop 4).take (Tryd.prog.cellsOf 43)) = some y4 := hg 4 _ rfl
  rw [cellsProps] at g4
  have hwe : ∀ k ∈ DataW.weightsEach Tryd.prog [3, 3, 3, 9, 43] [y0.1, y1.1, y2.1, y3.1, y4.1], k ≤ reachBytes := fun k hk => hwt k (by
    rw [show x.1 = .agg [y0.1, y1.1, y2.1, y3.1, y4.1] from congrArg Prod.fst hxx]
    simp only [DataW.weights, Tryd.underlying55]
    exact hk)
  obtain ⟨k0, e0, -, -⟩ := DataW.trod_int (k := .i64) Tryd.underlying3 g0
  obtain ⟨k1, e1, -, -⟩ := DataW.trod_int (k := .i64) Tryd.underlying3 g1
  obtain ⟨k2, e2, -, -⟩ := DataW.trod_int (k := .i64) Tryd.underlying3 g2
  obtain ⟨s3, e3, x3, -⟩ := DataW.trod_string Tryd.underlying9 g3
  have z3 := str_small x3 (fun k hk => hwe k (DataW.weights_mem_each (j := 3) rfl rfl k hk))
  obtain ⟨l4, A4, c4', e4, n4, v4, z4⟩ := open_props (fun k hk => hwe k (DataW.weights_mem_each (j := 4) rfl rfl k hk)) g4
  cases e0; cases e1; cases e2; cases e3; cases e4
  exact ⟨⟨k0, k1, k2, s3, l4⟩, z4, fun b o hc => ⟨trivial, hc 0 _ rfl, hc 1 _ rfl, hc 2 _ rfl, hc 3 _ rfl, A4, c4', hc 4 _ rfl, n4, v4⟩⟩
theorem open_edges {fuel : Nat} {cs : List Value} {x : DataW H × List MemPlace} (hwt : ∀ k ∈ x.1.weights Tryd.prog 32, k ≤ reachBytes) (h : DataW.trod enc Tryd.prog w base spare held fuel 32 cs = some x) :
    ∃ (l : List EdgeG) (A : Option Addr) (c : Nat), cs = [.slice A l.length c] ∧ l.length ≤ c ∧ SliceR (EdgeC w (fun _ => True)) 5 A l ∧ ∀ v ∈ l, ∀ p ∈ v.props, szV p.v :=
  slice_gen (α := EdgeG) Tryd.underlying32 cellsEdge bytesEdge (by decide) (EdgeC w (fun _ => True)) (fun v => ∀ p ∈ v.props, szV p.v) (fun _ _ _ _ hk hy => open_edge hk hy) hwt h
set_option maxRecDepth 100000 in
/-- a graph that reads -/
theorem open_graph {r : Reach} {b0 : Nat} {v : Value} {dd : DataW H} {p : List MemPlace} (hv : Value.okWide Tryd.prog w r b0 34 v) (hwt0 : ∀ k ∈ dd.weights Tryd.prog 34, k ≤ reachBytes) (h0 : DataW.Trod enc Tryd.prog w base spare held 34 v dd p) :
    ∃ (g : GraphG) (A B : Option Addr) (c d : Nat), v = .agg #[.slice A g.nodes.length c, .slice B g.edges.length d, .int .i64 g.nn, .int .i64 g.ne] ∧ g.nodes.length ≤ c ∧ g.edges.length ≤ d ∧ GraphAt w (fun _ => True) A B g ∧ SzG g := by
  obtain ⟨csa, rfl, -⟩ := okWide_struct Tryd.underlying34 hv
  obtain ⟨fuel, hf⟩ := h0
  obtain ⟨cs, rfl⟩ : ∃ cs : List Value, csa = cs.toArray := ⟨csa.toList, by simp⟩
  obtain ⟨x, hx⟩ : ∃ x : DataW H × List MemPlace, x = (dd, p) := ⟨_, rfl⟩
  rw [← hx] at hf
  have hwt : ∀ k ∈ x.1.weights Tryd.prog 34, k ≤ reachBytes := by rw [hx]; exact hwt0
  have h : DataW.trod enc Tryd.prog w base spare held fuel 34 cs = some x := by simpa [Value.cells] using hf
  obtain ⟨xs, m, hm, hxx, hl, hlen, hg⟩ := DataW.trod_struct Tryd.underlying34 h
  rw [cellsGraph] at hl
  obtain ⟨c0, c1, c2, c3, rfl⟩ := four_L hl
  obtain ⟨y0, y1, y2, y3, rfl⟩ := four_L (show xs.length = 4 from hlen)
  have g0 : DataW.trod enc Tryd.prog w base spare held m 31 (([c0, c1, c2, c3].drop 0).take (Tryd.prog.cellsOf 31)) = some y0 := hg 0 _ rfl
  rw [cellsNodes] at g0
  have g1 : DataW.trod enc Tryd.prog w base spare held m 32 (([c0, c1, c2, c3].drop 1).take (Tryd.prog.cellsOf 32)) = some y1 := hg 1 _ rfl
  rw [cellsEdges] at g1
  have g2 : DataW.trod enc Tryd.prog w base spare held m 3 (([c0, c1, c2, c3].drop 2).take (Tryd.prog.cellsOf 3)) = some y2 := hg 2 _ rfl
  rw [cellsInt] at g2
  have g3 : DataW.trod enc Tryd.prog w base spare held m 3 (([c0, c1, c2, c3].drop 3).take (Tryd.prog.cellsOf 3)) = some y3 := hg 3 _ rfl
  rw [cellsInt] at g3
  have hwe : ∀ k ∈ DataW.weightsEach Tryd.prog [31, 32, 3, 3] [y0.1, y1.1, y2.1, y3.1], k ≤ reachBytes := fun k hk => hwt k (by
    rw [show x.1 = .agg [y0.1, y1.1, y2.1, y3.1] from congrArg Prod.fst hxx]
    simp only [DataW.weights, Tryd.underlying34]
    exact hk)
  obtain ⟨l0, A0, c0', e0, n0, v0, z0⟩ := open_nodes (fun k hk => hwe k (DataW.weights_mem_each (j := 0) rfl rfl k hk)) g0
  obtain ⟨l1, A1, c1', e1, n1, v1, z1⟩ := open_edges (fun k hk => hwe k (DataW.weights_mem_each (j := 1) rfl rfl k hk)) g1
  obtain ⟨k2, e2, -, -⟩ := DataW.trod_int (k := .i64) Tryd.underlying3 g2
  obtain ⟨k3, e3, -, -⟩ := DataW.trod_int (k := .i64) Tryd.underlying3 g3
  cases e0; cases e1; cases e2; cases e3
  exact ⟨⟨l0, l1, k2, k3⟩, A0, A1, c0', c1', rfl, n0, n1, ⟨v0, v1⟩, ⟨z0, z1⟩⟩
end
end Go.Proofs.YtlkpmbkmmfoakaaDoor

/- THE WALKS over the reference's edge and Check of a graph. -/
namespace Go.Proofs.YtlkpmbkmmfoakaaDoor
open Go.RowKit
theorem r7_parts0 (P : List PropG) (ok : Nat → Prop) (B : Option Addr) (d : Nat) (w : World) (hp : Props w ok B P) (hs : ∀ p ∈ P, szV p.v) :
    Calls Tryd.prog 64 #[.slice none 0 0, .slice B P.length d] w fun e w' => e = .returned (.int .i64 (partsE [] P)) ∧ Ext w w' :=
  r7_parts [] P ok ok none B 0 d w (SliceR.nil _ _ _) hp hs
set_option maxRecDepth 100000 in
set_option maxHeartbeats 3200000 in
theorem r7_edge (g : GraphG) (ok : Nat → Prop) (A B : Option Addr) (c d : Nat) (i : Nat) (w : World) (hg : GraphAt w ok A B g) (hs : SzG g) (hi : i < g.edges.length) :
    Calls Tryd.prog 42 #[.agg #[.slice A g.nodes.length c, .slice B g.edges.length d, .int .i64 g.nn, .int .i64 g.ne], .int .i64 i] w fun e w' => e = .returned (.int .i64 (edgeE g i)) ∧ Ext w w' := by
  have hm := hg.edges.len
  obtain ⟨b, o, rfl, hc⟩ := hg.edges.at_ hi
  obtain ⟨-, d0, d1, d2, d3, B', d', d4, -, hP⟩ := hc i hi
  obtain ⟨q, w1, hq, hw1, g0, g1, g2, g3, hx1⟩ := box_graph w A (some ⟨b, o, none⟩) c d g 34
  have hq1 : w1.heap.size = q + 1 := by rw [hw1, hq]; simp
  obtain ⟨q2, w2, hq2, hw2, n0, n1, n2, n3, n4, hx2⟩ := box_edge w1 g.edges[i]! B' d' 55
  rw [hq1] at hq2
  subst hq2
  have hgn := hg.nodes
  have HP := Lib.hid (fun W (e : Ext w2 W) => r7_parts0 g.edges[i]!.props ok B' d' W (hP.ext ((hx1.trans hx2).trans e)) (hs.edges _ (mem_bang hi)))
  have HN1 := Lib.hid (fun (_ : Unit) => r7_Node g ok A (some ⟨b, o, none⟩) c d g.edges[i]!.frm w2.drew (hgn.ext ((hx1.trans hx2).drew)))
  have HN2 := Lib.hid (fun W (e : Ext w2 W) => r7_Node g ok A (some ⟨b, o, none⟩) c d g.edges[i]!.to_ W (hgn.ext ((hx1.trans hx2).trans e)))
  have HNM := Lib.hid (fun W => r7_Name g.edges[i]!.typ W)
  have hd0 := hx1.cell d0
  have hd1 := hx1.cell d1
  have hd2 := hx1.cell d2
  have hd3 := hx1.cell d3
  have hd4 := hx1.cell d4
  have G0 := hx2.cell g0
  have G1 := hx2.cell g1
  have G2 := hx2.cell g2
  have G3 := hx2.cell g3
  have hpv : 0 < i → w2.cell? ⟨b, o + (i - 1) * 5, none⟩ = some (.int .i64 g.edges[i - 1]!.id) := fun h => by
    obtain ⟨-, e0, -⟩ := hc (i - 1) (by omega)
    exact hx2.cell (hx1.cell e0)
  obtain ⟨E, hE⟩ : ∃ E, E = edgeE g i := ⟨_, rfl⟩
  rw [← hE]
  have HW1 := Lib.hid hw1
  have HW2 := Lib.hid hw2
  have HG := Lib.hid hq
  have HQ1 := Lib.hid hq1
  have hEx := hx1.trans hx2
  clear hc d0 d1 d2 d3 d4 hg hgn hs hP hw1 hw2 hq hx1 hx2 hq1
  rcases Nat.eq_zero_or_pos i with hz | hz
  · subst hz
    clear hpv
    have HE1 := Lib.hid (fun h => edgeE_1 (g := g) (i := 0) (fun h => absurd h (Nat.lt_irrefl _)) h)
    have HEP := Lib.hid (fun h1 h2 => edgeE_p (g := g) (i := 0) (fun h => absurd h (Nat.lt_irrefl _)) h1 h2)
    rw [← hE] at HE1 HEP
    clear hE
    rw [Nat.zero_mul, Nat.add_zero] at hd0 hd1 hd2 hd3 hd4
    generalize g.edges[0]! = x at *
    generalize partsE [] x.props = z at *
    generalize g.ne = ne at *
    generalize g.nn = nn at *
    generalize hasN g.nodes x.frm = b1 at *
    generalize hasN g.nodes x.to_ = b2 at *
    generalize nameB x.typ = b3 at *
    generalize g.nodes.length = nl at *
    go_enter Tryd.func42, Tryd.ntmps42
    go_upto_region 1 with (fail)
    rw [← HW1.out, ← HG.out]
    clear HW1 HG
    go_upto_region 2 with (fail)
    rw [← HW2.out, HQ1.out]
    clear HW2 HQ1 g0 g1 g2 g3
    have MKR1 := Lib.hid (fun V (e : Ext w2 V) => (e : Ext w2 V))
    refine wp_region_held_drew (S := (fun V => Ext w2 V)) (by kernel_rfl) ?hs1 (fun hHeld => ?go1)
    case hs1 => (exact MKR1.out _ (by with_reducible repeat (first | exact Ext.refl _ | assumption | refine Ext.drew ?_ | refine Ext.drewN ?_ _ | refine Ext.alloc ?_ _)))
    refine wpAnyH_take (i := 0) (oi := ⟨(some 15), (.move (.tmp 1)), 3, "ref.go:92", #[], none⟩) (v := ?v2) rfl (by kernel_rfl) (by kernel_rfl) (by kernel_rfl) (fun _ _ _ h => h) (Or.inl ⟨rfl, ?hy2⟩) hHeld ?rest2
    case hy2 => (intro w _; go_simp <;> rfl)
    (try simp only [PU])
    refine wpAnyH_take (i := 1) (oi := ⟨(some 16), (.binOp .gtr 3 (.tmp 15) (.const (.int .i64 0)) 3), 4, "ref.go:92", #[⟨0, .data⟩], none⟩) (v := ?v3) rfl (by kernel_rfl) (by kernel_rfl) (by kernel_rfl) (fun _ _ _ h => h) (Or.inl ⟨rfl, ?hy3⟩) hHeld ?rest3
    case hy3 => (intro w _; go_simp <;> first | with_reducible rfl | rw [if_neg (by omega)] | rw [if_pos (by omega)])
    (try simp only [PU])
    refine wpAnyH_take (i := 2) (oi := ⟨(some 17), (.move (.tmp 16)), 4, "ref.go:92", #[⟨1, .data⟩], none⟩) (v := ?v4) rfl (by kernel_rfl) (by kernel_rfl) (by kernel_rfl) (fun _ _ _ h => h) (Or.inl ⟨rfl, ?hy4⟩) hHeld ?rest4
    case hy4 => (intro w _; go_simp <;> rfl)
    (try simp only [PU])
    refine wpAnyH_take (i := 3) (oi := ⟨(some 18), (.fieldAddr 55 (.tmp 5) 0), 0, "ref.go:92", #[⟨2, .guard⟩], (some (2, true))⟩) (v := undef) rfl (by kernel_rfl) (by kernel_rfl) (by kernel_rfl) (fun _ _ _ h => h) (Or.inr ⟨rfl, rfl⟩) hHeld ?rest5
    (try simp only [PU])
    refine wpAnyH_take (i := 4) (oi := ⟨(some 19), (.load 3 (.tmp 18)), 3, "ref.go:92", #[⟨3, .data⟩, ⟨2, .guard⟩], (some (2, true))⟩) (v := undef) rfl (by kernel_rfl) (by kernel_rfl) (by kernel_rfl) (fun _ _ _ h => h) (Or.inr ⟨rfl, rfl⟩) hHeld ?rest6
    (try simp only [PU])
    refine wpAnyH_take (i := 5) (oi := ⟨(some 20), (.fieldAddr 34 (.tmp 2) 1), 0, "ref.go:92", #[⟨2, .guard⟩], (some (2, true))⟩) (v := undef) rfl (by kernel_rfl) (by kernel_rfl) (by kernel_rfl) (fun _ _ _ h => h) (Or.inr ⟨rfl, rfl⟩) hHeld ?rest7
    (try simp only [PU])
    refine wpAnyH_take (i := 6) (oi := ⟨(some 21), (.load 32 (.tmp 20)), 32, "ref.go:92", #[⟨5, .data⟩, ⟨2, .guard⟩], (some (2, true))⟩) (v := undef) rfl (by kernel_rfl) (by kernel_rfl) (by kernel_rfl) (fun _ _ _ h => h) (Or.inr ⟨rfl, rfl⟩) hHeld ?rest8
    (try simp only [PU])
    refine wpAnyH_take (i := 7) (oi := ⟨(some 22), (.move (.tmp 1)), 3, "ref.go:92", #[⟨2, .guard⟩], (some (2, true))⟩) (v := undef) rfl (by kernel_rfl) (by kernel_rfl) (by kernel_rfl) (fun _ _ _ h => h) (Or.inr ⟨rfl, rfl⟩) hHeld ?rest9
    (try simp only [PU])
    refine wpAnyH_take (i := 8) (oi := ⟨(some 23), (.binOp .sub 3 (.tmp 22) (.const (.int .i64 1)) 3), 3, "ref.go:92", #[⟨7, .data⟩, ⟨2, .guard⟩], (some (2, true))⟩) (v := undef) rfl (by kernel_rfl) (by kernel_rfl) (by kernel_rfl) (fun _ _ _ h => h) (Or.inr ⟨rfl, rfl⟩) hHeld ?rest10
    (try simp only [PU])
    refine wpAnyH_take (i := 9) (oi := ⟨(some 24), (.indexAddr 32 (.tmp 21) (.tmp 23)), 0, "ref.go:92", #[⟨6, .data⟩, ⟨8, .data⟩, ⟨2, .guard⟩], (some (2, true))⟩) (v := undef) rfl (by kernel_rfl) (by kernel_rfl) (by kernel_rfl) (fun _ _ _ h => h) (Or.inr ⟨rfl, rfl⟩) hHeld ?rest11
    (try simp only [PU])
    refine wpAnyH_take (i := 10) (oi := ⟨(some 25), (.fieldAddr 55 (.tmp 24) 0), 0, "ref.go:92", #[⟨9, .data⟩, ⟨2, .guard⟩], (some (2, true))⟩) (v := undef) rfl (by kernel_rfl) (by kernel_rfl) (by kernel_rfl) (fun _ _ _ h => h) (Or.inr ⟨rfl, rfl⟩) hHeld ?rest12
    (try simp only [PU])
    refine wpAnyH_take (i := 11) (oi := ⟨(some 26), (.load 3 (.tmp 25)), 3, "ref.go:92", #[⟨10, .data⟩, ⟨2, .guard⟩], (some (2, true))⟩) (v := undef) rfl (by kernel_rfl) (by kernel_rfl) (by kernel_rfl) (fun _ _ _ h => h) (Or.inr ⟨rfl, rfl⟩) hHeld ?rest13
    (try simp only [PU])
    refine wpAnyH_take (i := 12) (oi := ⟨(some 27), (.binOp .leq 3 (.tmp 19) (.tmp 26) 3), 4, "ref.go:92", #[⟨4, .data⟩, ⟨11, .data⟩, ⟨2, .guard⟩], (some (2, true))⟩) (v := undef) rfl (by kernel_rfl) (by kernel_rfl) (by kernel_rfl) (fun _ _ _ h => h) (Or.inr ⟨rfl, rfl⟩) hHeld ?rest14
    (try simp only [PU])
    refine wpAnyH_take (i := 13) (oi := ⟨(some 28), (.pick (.tmp 17) (.tmp 27) (.const (.bool false))), 4, "ref.go:92", #[⟨2, .data⟩, ⟨12, .data⟩], none⟩) (v := ?v15) rfl (by kernel_rfl) (by kernel_rfl) (by kernel_rfl) (fun _ _ _ h => h) (Or.inl ⟨rfl, ?hy15⟩) hHeld ?rest15
    case hy15 => (intro w _; go_simp <;> rfl)
    (try simp only [PU])
    refine wpAnyH_done (by kernel_rfl) ?_ _
    clear hHeld
    clear MKR1
    have gE : Ext w2 w2.drew := (Ext.refl _).drew
    have j0 := gE.cell n0
    have j1 := gE.cell n1
    have j2 := gE.cell n2
    have j3 := gE.cell n3
    have j4 := gE.cell n4
    have k0 := gE.cell G0
    have k1 := gE.cell G1
    have k2 := gE.cell G2
    have k3 := gE.cell G3
    by_cases h1 : x.id < 1
    · go_wp2_with fail
      go_ret
      exact ⟨ret_int (HE1.out (.inl h1)).symm, hEx.trans (by with_reducible repeat (first | exact Ext.refl _ | assumption | refine Ext.drew ?_ | refine Ext.drewN ?_ _ | refine Ext.alloc ?_ _))⟩
    · by_cases h2 : ne ≤ x.id
      · go_wp2_with fail
        go_ret
        exact ⟨ret_int (HE1.out (.inr h2)).symm, hEx.trans (by with_reducible repeat (first | exact Ext.refl _ | assumption | refine Ext.drew ?_ | refine Ext.drewN ?_ _ | refine Ext.alloc ?_ _))⟩
      · have HZ := Lib.hid (HEP.out (by omega) (by omega))
        have hEw : Ext w2 w2.drew := (Ext.refl _).drew
        clear HE1 HEP
        cases b1
        · go_wp2_with (first | (go_at_call 65; ((with_reducible refine (HN1.out ()).mono ?_); rintro e v1 ⟨⟨i1, L1, nl1, cl1, P1, np1, cp1, rfl⟩, gx1⟩; replace gx1 : Ext w2 v1 := hEw.trans gx1; have m0 := gx1.cell G0; have m1 := gx1.cell G1; have m2 := gx1.cell G2; have m3 := gx1.cell G3; have r0 := gx1.cell n0; have r1 := gx1.cell n1; have r2 := gx1.cell n2; have r3 := gx1.cell n3; have r4 := gx1.cell n4; have e1 := block_lt_of_cell m0; have e2 := block_lt_of_cell r0)) | (go_at_call 65; ((with_reducible refine (HN2.out _ (by with_reducible repeat (first | exact Ext.refl _ | assumption | refine Ext.drew ?_ | refine Ext.drewN ?_ _ | refine Ext.alloc ?_ _))).mono ?_); rintro e v2 ⟨⟨i2, L2, nl2, cl2, P2, np2, cp2, rfl⟩, gx2⟩; replace gx2 : Ext v1 v2 := Ext.trans (by with_reducible repeat (first | exact Ext.refl _ | assumption | refine Ext.drew ?_ | refine Ext.drewN ?_ _ | refine Ext.alloc ?_ _)) gx2; have l0 := gx2.cell r0; have l1 := gx2.cell r1; have l2 := gx2.cell r2; have l3 := gx2.cell r3; have l4 := gx2.cell r4; have e3 := block_lt_of_cell l0)))
          go_ret
          exact ⟨ret_int (by rw [HZ.out]; rfl), hEx.trans (Ext.trans gx1 (Ext.trans gx2 (by with_reducible repeat (first | exact Ext.refl _ | assumption | refine Ext.drew ?_ | refine Ext.drewN ?_ _ | refine Ext.alloc ?_ _))))⟩
        · cases b2
          · go_wp2_with (first | (go_at_call 65; ((with_reducible refine (HN1.out ()).mono ?_); rintro e v1 ⟨⟨i1, L1, nl1, cl1, P1, np1, cp1, rfl⟩, gx1⟩; replace gx1 : Ext w2 v1 := hEw.trans gx1; have m0 := gx1.cell G0; have m1 := gx1.cell G1; have m2 := gx1.cell G2; have m3 := gx1.cell G3; have r0 := gx1.cell n0; have r1 := gx1.cell n1; have r2 := gx1.cell n2; have r3 := gx1.cell n3; have r4 := gx1.cell n4; have e1 := block_lt_of_cell m0; have e2 := block_lt_of_cell r0)) | (go_at_call 65; ((with_reducible refine (HN2.out _ (by with_reducible repeat (first | exact Ext.refl _ | assumption | refine Ext.drew ?_ | refine Ext.drewN ?_ _ | refine Ext.alloc ?_ _))).mono ?_); rintro e v2 ⟨⟨i2, L2, nl2, cl2, P2, np2, cp2, rfl⟩, gx2⟩; replace gx2 : Ext v1 v2 := Ext.trans (by with_reducible repeat (first | exact Ext.refl _ | assumption | refine Ext.drew ?_ | refine Ext.drewN ?_ _ | refine Ext.alloc ?_ _)) gx2; have l0 := gx2.cell r0; have l1 := gx2.cell r1; have l2 := gx2.cell r2; have l3 := gx2.cell r3; have l4 := gx2.cell r4; have e3 := block_lt_of_cell l0)))
            go_ret
            exact ⟨ret_int (by rw [HZ.out]; rfl), hEx.trans (Ext.trans gx1 (Ext.trans gx2 (by with_reducible repeat (first | exact Ext.refl _ | assumption | refine Ext.drew ?_ | refine Ext.drewN ?_ _ | refine Ext.alloc ?_ _))))⟩
          · cases b3
            · go_wp2_with (first | (go_at_call 65; ((with_reducible refine (HN1.out ()).mono ?_); rintro e v1 ⟨⟨i1, L1, nl1, cl1, P1, np1, cp1, rfl⟩, gx1⟩; replace gx1 : Ext w2 v1 := hEw.trans gx1; have m0 := gx1.cell G0; have m1 := gx1.cell G1; have m2 := gx1.cell G2; have m3 := gx1.cell G3; have r0 := gx1.cell n0; have r1 := gx1.cell n1; have r2 := gx1.cell n2; have r3 := gx1.cell n3; have r4 := gx1.cell n4; have e1 := block_lt_of_cell m0; have e2 := block_lt_of_cell r0)) | (go_at_call 65; ((with_reducible refine (HN2.out _ (by with_reducible repeat (first | exact Ext.refl _ | assumption | refine Ext.drew ?_ | refine Ext.drewN ?_ _ | refine Ext.alloc ?_ _))).mono ?_); rintro e v2 ⟨⟨i2, L2, nl2, cl2, P2, np2, cp2, rfl⟩, gx2⟩; replace gx2 : Ext v1 v2 := Ext.trans (by with_reducible repeat (first | exact Ext.refl _ | assumption | refine Ext.drew ?_ | refine Ext.drewN ?_ _ | refine Ext.alloc ?_ _)) gx2; have l0 := gx2.cell r0; have l1 := gx2.cell r1; have l2 := gx2.cell r2; have l3 := gx2.cell r3; have l4 := gx2.cell r4; have e3 := block_lt_of_cell l0)) | (go_at_call 66; ((with_reducible refine (HNM.out _).mono ?_); rintro e v3 ⟨rfl, rfl⟩)))
              go_ret
              exact ⟨ret_int (by rw [HZ.out]; rfl), hEx.trans (Ext.trans gx1 (Ext.trans gx2 (by with_reducible repeat (first | exact Ext.refl _ | assumption | refine Ext.drew ?_ | refine Ext.drewN ?_ _ | refine Ext.alloc ?_ _))))⟩
            · go_wp2_with (first | (go_at_call 65; ((with_reducible refine (HN1.out ()).mono ?_); rintro e v1 ⟨⟨i1, L1, nl1, cl1, P1, np1, cp1, rfl⟩, gx1⟩; replace gx1 : Ext w2 v1 := hEw.trans gx1; have m0 := gx1.cell G0; have m1 := gx1.cell G1; have m2 := gx1.cell G2; have m3 := gx1.cell G3; have r0 := gx1.cell n0; have r1 := gx1.cell n1; have r2 := gx1.cell n2; have r3 := gx1.cell n3; have r4 := gx1.cell n4; have e1 := block_lt_of_cell m0; have e2 := block_lt_of_cell r0)) | (go_at_call 65; ((with_reducible refine (HN2.out _ (by with_reducible repeat (first | exact Ext.refl _ | assumption | refine Ext.drew ?_ | refine Ext.drewN ?_ _ | refine Ext.alloc ?_ _))).mono ?_); rintro e v2 ⟨⟨i2, L2, nl2, cl2, P2, np2, cp2, rfl⟩, gx2⟩; replace gx2 : Ext v1 v2 := Ext.trans (by with_reducible repeat (first | exact Ext.refl _ | assumption | refine Ext.drew ?_ | refine Ext.drewN ?_ _ | refine Ext.alloc ?_ _)) gx2; have l0 := gx2.cell r0; have l1 := gx2.cell r1; have l2 := gx2.cell r2; have l3 := gx2.cell r3; have l4 := gx2.cell r4; have e3 := block_lt_of_cell l0)) | (go_at_call 66; ((with_reducible refine (HNM.out _).mono ?_); rintro e v3 ⟨rfl, rfl⟩)) | (go_at_call 64; ((with_reducible refine (HP.out _ (Ext.trans gx1 (Ext.trans gx2 (by with_reducible repeat (first | exact Ext.refl _ | assumption | refine Ext.drew ?_ | refine Ext.drewN ?_ _ | refine Ext.alloc ?_ _))))).mono ?_); rintro e w8 ⟨rfl, hx8⟩)))
              go_ret
              exact ⟨ret_int (by rw [HZ.out]; rfl), hEx.trans (Ext.trans gx1 (Ext.trans gx2 (Ext.trans (by with_reducible repeat (first | exact Ext.refl _ | assumption | refine Ext.drew ?_ | refine Ext.drewN ?_ _ | refine Ext.alloc ?_ _)) hx8)))⟩
  · replace hpv := hpv hz
    by_cases hlt : g.edges[i - 1]!.id < g.edges[i]!.id
    · have HE1 := Lib.hid (fun h => edgeE_1 (g := g) (i := i) (fun _ => hlt) h)
      have HEP := Lib.hid (fun h1 h2 => edgeE_p (g := g) (i := i) (fun _ => hlt) h1 h2)
      rw [← hE] at HE1 HEP
      clear hE
      generalize g.edges[i]! = x at *
      generalize g.edges[i - 1]! = y at *
      generalize partsE [] x.props = z at *
      generalize g.ne = ne at *
      generalize g.nn = nn at *
      generalize hasN g.nodes x.frm = b1 at *
      generalize hasN g.nodes x.to_ = b2 at *
      generalize nameB x.typ = b3 at *
      generalize g.nodes.length = nl at *
      have ho : ¬ x.id ≤ y.id := by omega
      clear hlt
      go_enter Tryd.func42, Tryd.ntmps42
      go_upto_region 1 with (fail)
      rw [← HW1.out, ← HG.out]
      clear HW1 HG
      go_upto_region 2 with (fail)
      rw [← HW2.out, HQ1.out]
      clear HW2 HQ1 g0 g1 g2 g3
      have p0 : 0 < i := by omega
      have p1 : (1 : Int) ≤ (i : Int) := by omega
      have p2 : ((i : Int) - 1).toNat = i - 1 := by omega
      have p5 : IntKind.i64.wrap ((i : Int) - 1) = (i : Int) - 1 := IntWalk.i64_in _ (by omega)
      have p6 : ((i : Int) - 1) < (g.edges.length : Int) := by omega
      have MKR2 := Lib.hid (fun V (e : Ext w2 V) => (⟨e.cell G1, e.cell n0, e.cell hpv, e⟩ : V.cell? ⟨q, 1, none⟩ = some (.slice (some ⟨b, o, none⟩) g.edges.length d) ∧ V.cell? ⟨q + 1, 0, none⟩ = some (.int .i64 x.id) ∧ V.cell? ⟨b, o + (i - 1) * 5, none⟩ = some (.int .i64 y.id) ∧ Ext w2 V))
      refine wp_region_held_drew (S := (fun V => V.cell? ⟨q, 1, none⟩ = some (.slice (some ⟨b, o, none⟩) g.edges.length d) ∧ V.cell? ⟨q + 1, 0, none⟩ = some (.int .i64 x.id) ∧ V.cell? ⟨b, o + (i - 1) * 5, none⟩ = some (.int .i64 y.id) ∧ Ext w2 V)) (by kernel_rfl) ?hs16 (fun hHeld => ?go16)
      case hs16 => (exact MKR2.out _ (by with_reducible repeat (first | exact Ext.refl _ | assumption | refine Ext.drew ?_ | refine Ext.drewN ?_ _ | refine Ext.alloc ?_ _)))
      refine wpAnyH_take (i := 0) (oi := ⟨(some 15), (.move (.tmp 1)), 3, "ref.go:92", #[], none⟩) (v := ?v17) rfl (by kernel_rfl) (by kernel_rfl) (by kernel_rfl) (fun _ _ _ h => h) (Or.inl ⟨rfl, ?hy17⟩) hHeld ?rest17
      case hy17 => (intro w _; go_simp <;> rfl)
      (try simp only [PU])
      refine wpAnyH_take (i := 1) (oi := ⟨(some 16), (.binOp .gtr 3 (.tmp 15) (.const (.int .i64 0)) 3), 4, "ref.go:92", #[⟨0, .data⟩], none⟩) (v := ?v18) rfl (by kernel_rfl) (by kernel_rfl) (by kernel_rfl) (fun _ _ _ h => h) (Or.inl ⟨rfl, ?hy18⟩) hHeld ?rest18
      case hy18 => (intro w _; go_simp <;> first | with_reducible rfl | rw [if_neg (by omega)] | rw [if_pos (by omega)])
      (try simp only [PU])
      refine wpAnyH_take (i := 2) (oi := ⟨(some 17), (.move (.tmp 16)), 4, "ref.go:92", #[⟨1, .data⟩], none⟩) (v := ?v19) rfl (by kernel_rfl) (by kernel_rfl) (by kernel_rfl) (fun _ _ _ h => h) (Or.inl ⟨rfl, ?hy19⟩) hHeld ?rest19
      case hy19 => (intro w _; go_simp <;> rfl)
      (try simp only [PU])
      refine wpAnyH_take (i := 3) (oi := ⟨(some 18), (.fieldAddr 55 (.tmp 5) 0), 0, "ref.go:92", #[⟨2, .guard⟩], (some (2, true))⟩) (v := ?v20) rfl (by kernel_rfl) (by kernel_rfl) (by kernel_rfl) (fun _ _ _ h => h) (Or.inl ⟨rfl, ?hy20⟩) hHeld ?rest20
      case hy20 => (intro w _; go_simp <;> rfl)
      (try simp only [PU])
      refine wpAnyH_take (i := 4) (oi := ⟨(some 19), (.load 3 (.tmp 18)), 3, "ref.go:92", #[⟨3, .data⟩, ⟨2, .guard⟩], (some (2, true))⟩) (v := ?v21) rfl (by kernel_rfl) (by kernel_rfl) (by kernel_rfl) (fun _ _ _ h => h) (Or.inl ⟨rfl, ?hy21⟩) hHeld ?rest21
      case hy21 => (intro w hSw; (try dsimp only at hSw); go_simp <;> first | with_reducible rfl | rw [if_neg (by omega)] | rw [if_pos (by omega)])
      (try simp only [PU])
      refine wpAnyH_take (i := 5) (oi := ⟨(some 20), (.fieldAddr 34 (.tmp 2) 1), 0, "ref.go:92", #[⟨2, .guard⟩], (some (2, true))⟩) (v := ?v22) rfl (by kernel_rfl) (by kernel_rfl) (by kernel_rfl) (fun _ _ _ h => h) (Or.inl ⟨rfl, ?hy22⟩) hHeld ?rest22
      case hy22 => (intro w _; go_simp <;> rfl)
      (try simp only [PU])
      refine wpAnyH_take (i := 6) (oi := ⟨(some 21), (.load 32 (.tmp 20)), 32, "ref.go:92", #[⟨5, .data⟩, ⟨2, .guard⟩], (some (2, true))⟩) (v := ?v23) rfl (by kernel_rfl) (by kernel_rfl) (by kernel_rfl) (fun _ _ _ h => h) (Or.inl ⟨rfl, ?hy23⟩) hHeld ?rest23
      case hy23 => (intro w hSw; (try dsimp only at hSw); go_simp <;> first | with_reducible rfl | rw [if_neg (by omega)] | rw [if_pos (by omega)])
      (try simp only [PU])
      refine wpAnyH_take (i := 7) (oi := ⟨(some 22), (.move (.tmp 1)), 3, "ref.go:92", #[⟨2, .guard⟩], (some (2, true))⟩) (v := ?v24) rfl (by kernel_rfl) (by kernel_rfl) (by kernel_rfl) (fun _ _ _ h => h) (Or.inl ⟨rfl, ?hy24⟩) hHeld ?rest24
      case hy24 => (intro w _; go_simp <;> rfl)
      (try simp only [PU])
      refine wpAnyH_take (i := 8) (oi := ⟨(some 23), (.binOp .sub 3 (.tmp 22) (.const (.int .i64 1)) 3), 3, "ref.go:92", #[⟨7, .data⟩, ⟨2, .guard⟩], (some (2, true))⟩) (v := ?v25) rfl (by kernel_rfl) (by kernel_rfl) (by kernel_rfl) (fun _ _ _ h => h) (Or.inl ⟨rfl, ?hy25⟩) hHeld ?rest25
      case hy25 => (intro w _; go_simp <;> first | with_reducible rfl | rw [if_neg (by omega)] | rw [if_pos (by omega)])
      (try simp only [PU])
      refine wpAnyH_take (i := 9) (oi := ⟨(some 24), (.indexAddr 32 (.tmp 21) (.tmp 23)), 0, "ref.go:92", #[⟨6, .data⟩, ⟨8, .data⟩, ⟨2, .guard⟩], (some (2, true))⟩) (v := ?v26) rfl (by kernel_rfl) (by kernel_rfl) (by kernel_rfl) (fun _ _ _ h => h) (Or.inl ⟨rfl, ?hy26⟩) hHeld ?rest26
      case hy26 => (intro w _; go_simp <;> first | with_reducible rfl | rw [if_neg (by omega)] | rw [if_pos (by omega)])
      (try simp only [PU])
      refine wpAnyH_take (i := 10) (oi := ⟨(some 25), (.fieldAddr 55 (.tmp 24) 0), 0, "ref.go:92", #[⟨9, .data⟩, ⟨2, .guard⟩], (some (2, true))⟩) (v := ?v27) rfl (by kernel_rfl) (by kernel_rfl) (by kernel_rfl) (fun _ _ _ h => h) (Or.inl ⟨rfl, ?hy27⟩) hHeld ?rest27
      case hy27 => (intro w _; go_simp <;> rfl)
      (try simp only [PU])
      refine wpAnyH_take (i := 11) (oi := ⟨(some 26), (.load 3 (.tmp 25)), 3, "ref.go:92", #[⟨10, .data⟩, ⟨2, .guard⟩], (some (2, true))⟩) (v := ?v28) rfl (by kernel_rfl) (by kernel_rfl) (by kernel_rfl) (fun _ _ _ h => h) (Or.inl ⟨rfl, ?hy28⟩) hHeld ?rest28
      case hy28 => (intro w hSw; (try dsimp only at hSw); go_simp <;> first | with_reducible rfl | rw [if_neg (by omega)] | rw [if_pos (by omega)])
      (try simp only [PU])
      refine wpAnyH_take (i := 12) (oi := ⟨(some 27), (.binOp .leq 3 (.tmp 19) (.tmp 26) 3), 4, "ref.go:92", #[⟨4, .data⟩, ⟨11, .data⟩, ⟨2, .guard⟩], (some (2, true))⟩) (v := ?v29) rfl (by kernel_rfl) (by kernel_rfl) (by kernel_rfl) (fun _ _ _ h => h) (Or.inl ⟨rfl, ?hy29⟩) hHeld ?rest29
      case hy29 => (intro w _; go_simp <;> first | with_reducible rfl | rw [if_neg (by omega)] | rw [if_pos (by omega)])
      (try simp only [PU])
      refine wpAnyH_take (i := 13) (oi := ⟨(some 28), (.pick (.tmp 17) (.tmp 27) (.const (.bool false))), 4, "ref.go:92", #[⟨2, .data⟩, ⟨12, .data⟩], none⟩) (v := ?v30) rfl (by kernel_rfl) (by kernel_rfl) (by kernel_rfl) (fun _ _ _ h => h) (Or.inl ⟨rfl, ?hy30⟩) hHeld ?rest30
      case hy30 => (intro w _; go_simp <;> rfl)
      (try simp only [PU])
      refine wpAnyH_done (by kernel_rfl) ?_ _
      clear hHeld
      clear MKR2
      clear p0 p1 p2 p5 p6 ho hpv
      have gE : Ext w2 w2.drew := (Ext.refl _).drew
      have j0 := gE.cell n0
      have j1 := gE.cell n1
      have j2 := gE.cell n2
      have j3 := gE.cell n3
      have j4 := gE.cell n4
      have k0 := gE.cell G0
      have k1 := gE.cell G1
      have k2 := gE.cell G2
      have k3 := gE.cell G3
      by_cases h1 : x.id < 1
      · go_wp2_with fail
        go_ret
        exact ⟨ret_int (HE1.out (.inl h1)).symm, hEx.trans (by with_reducible repeat (first | exact Ext.refl _ | assumption | refine Ext.drew ?_ | refine Ext.drewN ?_ _ | refine Ext.alloc ?_ _))⟩
      · by_cases h2 : ne ≤ x.id
        · go_wp2_with fail
          go_ret
          exact ⟨ret_int (HE1.out (.inr h2)).symm, hEx.trans (by with_reducible repeat (first | exact Ext.refl _ | assumption | refine Ext.drew ?_ | refine Ext.drewN ?_ _ | refine Ext.alloc ?_ _))⟩
        · have HZ := Lib.hid (HEP.out (by omega) (by omega))
          have hEw : Ext w2 w2.drew := (Ext.refl _).drew
          clear HE1 HEP
          cases b1
          · go_wp2_with (first | (go_at_call 65; ((with_reducible refine (HN1.out ()).mono ?_); rintro e v1 ⟨⟨i1, L1, nl1, cl1, P1, np1, cp1, rfl⟩, gx1⟩; replace gx1 : Ext w2 v1 := hEw.trans gx1; have m0 := gx1.cell G0; have m1 := gx1.cell G1; have m2 := gx1.cell G2; have m3 := gx1.cell G3; have r0 := gx1.cell n0; have r1 := gx1.cell n1; have r2 := gx1.cell n2; have r3 := gx1.cell n3; have r4 := gx1.cell n4; have e1 := block_lt_of_cell m0; have e2 := block_lt_of_cell r0)) | (go_at_call 65; ((with_reducible refine (HN2.out _ (by with_reducible repeat (first | exact Ext.refl _ | assumption | refine Ext.drew ?_ | refine Ext.drewN ?_ _ | refine Ext.alloc ?_ _))).mono ?_); rintro e v2 ⟨⟨i2, L2, nl2, cl2, P2, np2, cp2, rfl⟩, gx2⟩; replace gx2 : Ext v1 v2 := Ext.trans (by with_reducible repeat (first | exact Ext.refl _ | assumption | refine Ext.drew ?_ | refine Ext.drewN ?_ _ | refine Ext.alloc ?_ _)) gx2; have l0 := gx2.cell r0; have l1 := gx2.cell r1; have l2 := gx2.cell r2; have l3 := gx2.cell r3; have l4 := gx2.cell r4; have e3 := block_lt_of_cell l0)))
            go_ret
            exact ⟨ret_int (by rw [HZ.out]; rfl), hEx.trans (Ext.trans gx1 (Ext.trans gx2 (by with_reducible repeat (first | exact Ext.refl _ | assumption | refine Ext.drew ?_ | refine Ext.drewN ?_ _ | refine Ext.alloc ?_ _))))⟩
          · cases b2
            · go_wp2_with (first | (go_at_call 65; ((with_reducible refine (HN1.out ()).mono ?_); rintro e v1 ⟨⟨i1, L1, nl1, cl1, P1, np1, cp1, rfl⟩, gx1⟩; replace gx1 : Ext w2 v1 := hEw.trans gx1; have m0 := gx1.cell G0; have m1 := gx1.cell G1; have m2 := gx1.cell G2; have m3 := gx1.cell G3; have r0 := gx1.cell n0; have r1 := gx1.cell n1; have r2 := gx1.cell n2; have r3 := gx1.cell n3; have r4 := gx1.cell n4; have e1 := block_lt_of_cell m0; have e2 := block_lt_of_cell r0)) | (go_at_call 65; ((with_reducible refine (HN2.out _ (by with_reducible repeat (first | exact Ext.refl _ | assumption | refine Ext.drew ?_ | refine Ext.drewN ?_ _ | refine Ext.alloc ?_ _))).mono ?_); rintro e v2 ⟨⟨i2, L2, nl2, cl2, P2, np2, cp2, rfl⟩, gx2⟩; replace gx2 : Ext v1 v2 := Ext.trans (by with_reducible repeat (first | exact Ext.refl _ | assumption | refine Ext.drew ?_ | refine Ext.drewN ?_ _ | refine Ext.alloc ?_ _)) gx2; have l0 := gx2.cell r0; have l1 := gx2.cell r1; have l2 := gx2.cell r2; have l3 := gx2.cell r3; have l4 := gx2.cell r4; have e3 := block_lt_of_cell l0)))
              go_ret
              exact ⟨ret_int (by rw [HZ.out]; rfl), hEx.trans (Ext.trans gx1 (Ext.trans gx2 (by with_reducible repeat (first | exact Ext.refl _ | assumption | refine Ext.drew ?_ | refine Ext.drewN ?_ _ | refine Ext.alloc ?_ _))))⟩
            · cases b3
              · go_wp2_with (first | (go_at_call 65; ((with_reducible refine (HN1.out ()).mono ?_); rintro e v1 ⟨⟨i1, L1, nl1, cl1, P1, np1, cp1, rfl⟩, gx1⟩; replace gx1 : Ext w2 v1 := hEw.trans gx1; have m0 := gx1.cell G0; have m1 := gx1.cell G1; have m2 := gx1.cell G2; have m3 := gx1.cell G3; have r0 := gx1.cell n0; have r1 := gx1.cell n1; have r2 := gx1.cell n2; have r3 := gx1.cell n3; have r4 := gx1.cell n4; have e1 := block_lt_of_cell m0; have e2 := block_lt_of_cell r0)) | (go_at_call 65; ((with_reducible refine (HN2.out _ (by with_reducible repeat (first | exact Ext.refl _ | assumption | refine Ext.drew ?_ | refine Ext.drewN ?_ _ | refine Ext.alloc ?_ _))).mono ?_); rintro e v2 ⟨⟨i2, L2, nl2, cl2, P2, np2, cp2, rfl⟩, gx2⟩; replace gx2 : Ext v1 v2 := Ext.trans (by with_reducible repeat (first | exact Ext.refl _ | assumption | refine Ext.drew ?_ | refine Ext.drewN ?_ _ | refine Ext.alloc ?_ _)) gx2; have l0 := gx2.cell r0; have l1 := gx2.cell r1; have l2 := gx2.cell r2; have l3 := gx2.cell r3; have l4 := gx2.cell r4; have e3 := block_lt_of_cell l0)) | (go_at_call 66; ((with_reducible refine (HNM.out _).mono ?_); rintro e v3 ⟨rfl, rfl⟩)))
                go_ret
                exact ⟨ret_int (by rw [HZ.out]; rfl), hEx.trans (Ext.trans gx1 (Ext.trans gx2 (by with_reducible repeat (first | exact Ext.refl _ | assumption | refine Ext.drew ?_ | refine Ext.drewN ?_ _ | refine Ext.alloc ?_ _))))⟩
              · go_wp2_with (first | (go_at_call 65; ((with_reducible refine (HN1.out ()).mono ?_); rintro e v1 ⟨⟨i1, L1, nl1, cl1, P1, np1, cp1, rfl⟩, gx1⟩; replace gx1 : Ext w2 v1 := hEw.trans gx1; have m0 := gx1.cell G0; have m1 := gx1.cell G1; have m2 := gx1.cell G2; have m3 := gx1.cell G3; have r0 := gx1.cell n0; have r1 := gx1.cell n1; have r2 := gx1.cell n2; have r3 := gx1.cell n3; have r4 := gx1.cell n4; have e1 := block_lt_of_cell m0; have e2 := block_lt_of_cell r0)) | (go_at_call 65; ((with_reducible refine (HN2.out _ (by with_reducible repeat (first | exact Ext.refl _ | assumption | refine Ext.drew ?_ | refine Ext.drewN ?_ _ | refine Ext.alloc ?_ _))).mono ?_); rintro e v2 ⟨⟨i2, L2, nl2, cl2, P2, np2, cp2, rfl⟩, gx2⟩; replace gx2 : Ext v1 v2 := Ext.trans (by with_reducible repeat (first | exact Ext.refl _ | assumption | refine Ext.drew ?_ | refine Ext.drewN ?_ _ | refine Ext.alloc ?_ _)) gx2; have l0 := gx2.cell r0; have l1 := gx2.cell r1; have l2 := gx2.cell r2; have l3 := gx2.cell r3; have l4 := gx2.cell r4; have e3 := block_lt_of_cell l0)) | (go_at_call 66; ((with_reducible refine (HNM.out _).mono ?_); rintro e v3 ⟨rfl, rfl⟩)) | (go_at_call 64; ((with_reducible refine (HP.out _ (Ext.trans gx1 (Ext.trans gx2 (by with_reducible repeat (first | exact Ext.refl _ | assumption | refine Ext.drew ?_ | refine Ext.drewN ?_ _ | refine Ext.alloc ?_ _))))).mono ?_); rintro e w8 ⟨rfl, hx8⟩)))
                go_ret
                exact ⟨ret_int (by rw [HZ.out]; rfl), hEx.trans (Ext.trans gx1 (Ext.trans gx2 (Ext.trans (by with_reducible repeat (first | exact Ext.refl _ | assumption | refine Ext.drew ?_ | refine Ext.drewN ?_ _ | refine Ext.alloc ?_ _)) hx8)))⟩
    · have HR := Lib.hid (hE.trans (edgeE_26 hz (by omega)))
      clear hE HP HN1 HN2
      generalize g.edges[i]! = x at *
      generalize g.edges[i - 1]! = y at *
      have ho : x.id ≤ y.id := by omega
      clear hlt
      go_enter Tryd.func42, Tryd.ntmps42
      go_upto_region 1 with (fail)
      rw [← HW1.out, ← HG.out]
      clear HW1 HG
      go_upto_region 2 with (fail)
      rw [← HW2.out, HQ1.out]
      clear HW2 HQ1 g0 g1 g2 g3
      have p0 : 0 < i := by omega
      have p1 : (1 : Int) ≤ (i : Int) := by omega
      have p2 : ((i : Int) - 1).toNat = i - 1 := by omega
      have p5 : IntKind.i64.wrap ((i : Int) - 1) = (i : Int) - 1 := IntWalk.i64_in _ (by omega)
      have p6 : ((i : Int) - 1) < (g.edges.length : Int) := by omega
      have MKR3 := Lib.hid (fun V (e : Ext w2 V) => (⟨e.cell G1, e.cell n0, e.cell hpv, e⟩ : V.cell? ⟨q, 1, none⟩ = some (.slice (some ⟨b, o, none⟩) g.edges.length d) ∧ V.cell? ⟨q + 1, 0, none⟩ = some (.int .i64 x.id) ∧ V.cell? ⟨b, o + (i - 1) * 5, none⟩ = some (.int .i64 y.id) ∧ Ext w2 V))
      refine wp_region_held_drew (S := (fun V => V.cell? ⟨q, 1, none⟩ = some (.slice (some ⟨b, o, none⟩) g.edges.length d) ∧ V.cell? ⟨q + 1, 0, none⟩ = some (.int .i64 x.id) ∧ V.cell? ⟨b, o + (i - 1) * 5, none⟩ = some (.int .i64 y.id) ∧ Ext w2 V)) (by kernel_rfl) ?hs31 (fun hHeld => ?go31)
      case hs31 => (exact MKR3.out _ (by with_reducible repeat (first | exact Ext.refl _ | assumption | refine Ext.drew ?_ | refine Ext.drewN ?_ _ | refine Ext.alloc ?_ _)))
      refine wpAnyH_take (i := 0) (oi := ⟨(some 15), (.move (.tmp 1)), 3, "ref.go:92", #[], none⟩) (v := ?v32) rfl (by kernel_rfl) (by kernel_rfl) (by kernel_rfl) (fun _ _ _ h => h) (Or.inl ⟨rfl, ?hy32⟩) hHeld ?rest32
      case hy32 => (intro w _; go_simp <;> rfl)
      (try simp only [PU])
      refine wpAnyH_take (i := 1) (oi := ⟨(some 16), (.binOp .gtr 3 (.tmp 15) (.const (.int .i64 0)) 3), 4, "ref.go:92", #[⟨0, .data⟩], none⟩) (v := ?v33) rfl (by kernel_rfl) (by kernel_rfl) (by kernel_rfl) (fun _ _ _ h => h) (Or.inl ⟨rfl, ?hy33⟩) hHeld ?rest33
      case hy33 => (intro w _; go_simp <;> first | with_reducible rfl | rw [if_neg (by omega)] | rw [if_pos (by omega)])
      (try simp only [PU])
      refine wpAnyH_take (i := 2) (oi := ⟨(some 17), (.move (.tmp 16)), 4, "ref.go:92", #[⟨1, .data⟩], none⟩) (v := ?v34) rfl (by kernel_rfl) (by kernel_rfl) (by kernel_rfl) (fun _ _ _ h => h) (Or.inl ⟨rfl, ?hy34⟩) hHeld ?rest34
      case hy34 => (intro w _; go_simp <;> rfl)
      (try simp only [PU])
      refine wpAnyH_take (i := 3) (oi := ⟨(some 18), (.fieldAddr 55 (.tmp 5) 0), 0, "ref.go:92", #[⟨2, .guard⟩], (some (2, true))⟩) (v := ?v35) rfl (by kernel_rfl) (by kernel_rfl) (by kernel_rfl) (fun _ _ _ h => h) (Or.inl ⟨rfl, ?hy35⟩) hHeld ?rest35
      case hy35 => (intro w _; go_simp <;> rfl)
      (try simp only [PU])
      refine wpAnyH_take (i := 4) (oi := ⟨(some 19), (.load 3 (.tmp 18)), 3, "ref.go:92", #[⟨3, .data⟩, ⟨2, .guard⟩], (some (2, true))⟩) (v := ?v36) rfl (by kernel_rfl) (by kernel_rfl) (by kernel_rfl) (fun _ _ _ h => h) (Or.inl ⟨rfl, ?hy36⟩) hHeld ?rest36
      case hy36 => (intro w hSw; (try dsimp only at hSw); go_simp <;> first | with_reducible rfl | rw [if_neg (by omega)] | rw [if_pos (by omega)])
      (try simp only [PU])
      refine wpAnyH_take (i := 5) (oi := ⟨(some 20), (.fieldAddr 34 (.tmp 2) 1), 0, "ref.go:92", #[⟨2, .guard⟩], (some (2, true))⟩) (v := ?v37) rfl (by kernel_rfl) (by kernel_rfl) (by kernel_rfl) (fun _ _ _ h => h) (Or.inl ⟨rfl, ?hy37⟩) hHeld ?rest37
      case hy37 => (intro w _; go_simp <;> rfl)
      (try simp only [PU])
      refine wpAnyH_take (i := 6) (oi := ⟨(some 21), (.load 32 (.tmp 20)), 32, "ref.go:92", #[⟨5, .data⟩, ⟨2, .guard⟩], (some (2, true))⟩) (v := ?v38) rfl (by kernel_rfl) (by kernel_rfl) (by kernel_rfl) (fun _ _ _ h => h) (Or.inl ⟨rfl, ?hy38⟩) hHeld ?rest38
      case hy38 => (intro w hSw; (try dsimp only at hSw); go_simp <;> first | with_reducible rfl | rw [if_neg (by omega)] | rw [if_pos (by omega)])
      (try simp only [PU])
      refine wpAnyH_take (i := 7) (oi := ⟨(some 22), (.move (.tmp 1)), 3, "ref.go:92", #[⟨2, .guard⟩], (some (2, true))⟩) (v := ?v39) rfl (by kernel_rfl) (by kernel_rfl) (by kernel_rfl) (fun _ _ _ h => h) (Or.inl ⟨rfl, ?hy39⟩) hHeld ?rest39
      case hy39 => (intro w _; go_simp <;> rfl)
      (try simp only [PU])
      refine wpAnyH_take (i := 8) (oi := ⟨(some 23), (.binOp .sub 3 (.tmp 22) (.const (.int .i64 1)) 3), 3, "ref.go:92", #[⟨7, .data⟩, ⟨2, .guard⟩], (some (2, true))⟩) (v := ?v40) rfl (by kernel_rfl) (by kernel_rfl) (by kernel_rfl) (fun _ _ _ h => h) (Or.inl ⟨rfl, ?hy40⟩) hHeld ?rest40
      case hy40 => (intro w _; go_simp <;> first | with_reducible rfl | rw [if_neg (by omega)] | rw [if_pos (by omega)])
      (try simp only [PU])
      refine wpAnyH_take (i := 9) (oi := ⟨(some 24), (.indexAddr 32 (.tmp 21) (.tmp 23)), 0, "ref.go:92", #[⟨6, .data⟩, ⟨8, .data⟩, ⟨2, .guard⟩], (some (2, true))⟩) (v := ?v41) rfl (by kernel_rfl) (by kernel_rfl) (by kernel_rfl) (fun _ _ _ h => h) (Or.inl ⟨rfl, ?hy41⟩) hHeld ?rest41
      case hy41 => (intro w _; go_simp <;> first | with_reducible rfl | rw [if_neg (by omega)] | rw [if_pos (by omega)])
      (try simp only [PU])
      refine wpAnyH_take (i := 10) (oi := ⟨(some 25), (.fieldAddr 55 (.tmp 24) 0), 0, "ref.go:92", #[⟨9, .data⟩, ⟨2, .guard⟩], (some (2, true))⟩) (v := ?v42) rfl (by kernel_rfl) (by kernel_rfl) (by kernel_rfl) (fun _ _ _ h => h) (Or.inl ⟨rfl, ?hy42⟩) hHeld ?rest42
      case hy42 => (intro w _; go_simp <;> rfl)
      (try simp only [PU])
      refine wpAnyH_take (i := 11) (oi := ⟨(some 26), (.load 3 (.tmp 25)), 3, "ref.go:92", #[⟨10, .data⟩, ⟨2, .guard⟩], (some (2, true))⟩) (v := ?v43) rfl (by kernel_rfl) (by kernel_rfl) (by kernel_rfl) (fun _ _ _ h => h) (Or.inl ⟨rfl, ?hy43⟩) hHeld ?rest43
      case hy43 => (intro w hSw; (try dsimp only at hSw); go_simp <;> first | with_reducible rfl | rw [if_neg (by omega)] | rw [if_pos (by omega)])
      (try simp only [PU])
      refine wpAnyH_take (i := 12) (oi := ⟨(some 27), (.binOp .leq 3 (.tmp 19) (.tmp 26) 3), 4, "ref.go:92", #[⟨4, .data⟩, ⟨11, .data⟩, ⟨2, .guard⟩], (some (2, true))⟩) (v := ?v44) rfl (by kernel_rfl) (by kernel_rfl) (by kernel_rfl) (fun _ _ _ h => h) (Or.inl ⟨rfl, ?hy44⟩) hHeld ?rest44
      case hy44 => (intro w _; go_simp <;> first | with_reducible rfl | rw [if_neg (by omega)] | rw [if_pos (by omega)])
      (try simp only [PU])
      refine wpAnyH_take (i := 13) (oi := ⟨(some 28), (.pick (.tmp 17) (.tmp 27) (.const (.bool false))), 4, "ref.go:92", #[⟨2, .data⟩, ⟨12, .data⟩], none⟩) (v := ?v45) rfl (by kernel_rfl) (by kernel_rfl) (by kernel_rfl) (fun _ _ _ h => h) (Or.inl ⟨rfl, ?hy45⟩) hHeld ?rest45
      case hy45 => (intro w _; go_simp <;> rfl)
      (try simp only [PU])
      refine wpAnyH_done (by kernel_rfl) ?_ _
      clear hHeld
      clear MKR3
      go_wp2_with fail
      go_ret
      exact ⟨ret_int HR.out.symm, hEx.trans (by with_reducible repeat (first | exact Ext.refl _ | assumption | refine Ext.drew ?_ | refine Ext.drewN ?_ _ | refine Ext.alloc ?_ _))⟩
theorem chkG_head {g : GraphG} (h : headE g ≠ 0) : chkG g = headE g := by unfold chkG; rw [if_neg h]
theorem chkG_nodes {g : GraphG} (h : headE g = 0) {z : Int} (hz : nodesE g = z) (h2 : z ≠ 0) : chkG g = z := by unfold chkG; rw [if_pos h, if_neg (by rw [hz]; exact h2), hz]
theorem chkG_edges {g : GraphG} (h : headE g = 0) (h2 : nodesE g = 0) {z : Int} (hz : edgesE g = z) : chkG g = z := by unfold chkG; rw [if_pos h, if_pos h2, hz]
set_option maxRecDepth 100000 in
set_option maxHeartbeats 3200000 in
theorem r7_Check (g : GraphG) (ok : Nat → Prop) (A B : Option Addr) (c d : Nat) (w : World) (hg : GraphAt w ok A B g) (hs : SzG g) :
    Calls Tryd.prog 17 #[.agg #[.slice A g.nodes.length c, .slice B g.edges.length d, .int .i64 g.nn, .int .i64 g.ne]] w fun e w' => e = .returned (.int .i64 (chkG g)) ∧ Ext w w' := by
  have hm := hg.nodes.len
  have hm2 := hg.edges.len
  obtain ⟨q, w1, hq, hw1, g0, g1, g2, g3, hx1⟩ := box_graph w A B c d g 34
  have HW1 := Lib.hid hw1
  have HG := Lib.hid hq
  have HGA := Lib.hid (hg.ext hx1)
  have HSZ := Lib.hid hs
  clear hw1 hq hg hs
  by_cases h1 : 2000 < g.nodes.length ∨ 4000 < g.edges.length
  · have HR := Lib.hid (show chkG g = 4 by have : headE g = 4 := by unfold headE; rw [if_pos h1]
                                           rw [chkG_head (by omega), this])
    rcases h1 with h1 | h1
    all_goals
      go_enter Tryd.func17, Tryd.ntmps17
      go_upto_region 1 with (fail)
      rw [← HW1.out, ← HG.out]
      clear HW1 HG
      go_wp2_with fail
      all_goals
        go_ret
        exact ⟨ret_int HR.out.symm, hx1.trans (by with_reducible repeat (first | exact Ext.refl _ | assumption | refine Ext.drew ?_ | refine Ext.drewN ?_ _ | refine Ext.alloc ?_ _))⟩
  · have a1 : g.nodes.length ≤ 2000 := by omega
    have a2 : g.edges.length ≤ 4000 := by omega
    by_cases h2 : g.nn < 1 ∨ 1000001 < g.nn ∨ g.ne < 1 ∨ 1000001 < g.ne
    · have HR := Lib.hid (show chkG g = 1 by have : headE g = 1 := by unfold headE; rw [if_neg h1, if_pos h2]
                                             rw [chkG_head (by omega), this])
      clear h1
      rcases h2 with h2 | h2 | h2 | h2
      all_goals
        go_enter Tryd.func17, Tryd.ntmps17
        go_upto_region 1 with (fail)
        rw [← HW1.out, ← HG.out]
        clear HW1 HG
        go_wp2_with fail
        all_goals
          go_ret
          exact ⟨ret_int HR.out.symm, hx1.trans (by with_reducible repeat (first | exact Ext.refl _ | assumption | refine Ext.drew ?_ | refine Ext.drewN ?_ _ | refine Ext.alloc ?_ _))⟩
    · have HH := Lib.hid (show headE g = 0 by unfold headE; rw [if_neg h1, if_neg h2])
      have b1 : 1 ≤ g.nn := by omega
      have b2 : g.nn ≤ 1000001 := by omega
      have b3 : 1 ≤ g.ne := by omega
      have b4 : g.ne ≤ 1000001 := by omega
      have HR := Lib.hid (fun (z : Int) (hz : nodesE g = z) (h2 : z ≠ 0) => chkG_nodes HH.out hz h2)
      have HRE := Lib.hid (fun (h2 : nodesE g = 0) (z : Int) (hz : edgesE g = z) => chkG_edges HH.out h2 hz)
      have HRA := Lib.hid (fun (h2 : nodesE g = 0) (h3 : edgesE g = 0) => chkG_edges HH.out h2 h3)
      clear h1 h2 HH
      go_enter Tryd.func17, Tryd.ntmps17
      go_upto_region 1 with (fail)
      rw [← HW1.out, ← HG.out]
      clear HW1 HG
      go_wp2_with fail
      go_loopw [3] (fun u W => ∃ k : Nat, u = .int .i64 k ∧ k ≤ g.nodes.length ∧ Hid (∀ t, t < k → nodeE g t = 0) ∧ Ext w1 W) (fun u _ => g.nodes.length - (intOf u).toNat)
      case atStart => exact ⟨0, rfl, Nat.zero_le _, Lib.hid (fun t ht => absurd ht (by omega)), (by with_reducible repeat (first | exact Ext.refl _ | assumption | refine Ext.drew ?_ | refine Ext.drewN ?_ _ | refine Ext.alloc ?_ _))⟩
      case round =>
        obtain ⟨k, rfl, hk, hgd, hEr⟩ := hrel
        have m0 := hEr.cell g0
        have m1 := hEr.cell g1
        have m2 := hEr.cell g2
        have m3 := hEr.cell g3
        by_cases hlt : k < g.nodes.length
        · have HC := Lib.hid (fun W (e : Ext wr W) => r7_node g ok A B c d k W (HGA.out.ext (hEr.trans e)) HSZ.out hlt)
          have HS := Lib.hid (fun (h : nodeE g k = 0) t (ht : t < k + 1) => (if e : t = k then (by rw [e]; exact h) else hgd.out t (by omega) : nodeE g t = 0))
          have HX := Lib.hid (fun (h : nodeE g k ≠ 0) => firstE_at hgd.out h hlt)
          generalize nodeE g k = z at *
          by_cases he : z = 0
          · have HT := Lib.hid (HS.out he)
            subst he
            clear HS HX
            go_wp2_with (go_at_call 41; ((with_reducible refine (HC.out _ (by with_reducible repeat (first | exact Ext.refl _ | assumption | refine Ext.drew ?_ | refine Ext.drewN ?_ _ | refine Ext.alloc ?_ _))).mono ?_); rintro e w8 ⟨rfl, hx8⟩))
            go_roundw
            case rel => exact ⟨k + 1, by go_num, by omega, HT, hEr.trans (Ext.trans (by with_reducible repeat (first | exact Ext.refl _ | assumption | refine Ext.drew ?_ | refine Ext.drewN ?_ _ | refine Ext.alloc ?_ _)) hx8)⟩
            case measure => simp [intOf]; omega
          · have HT := Lib.hid (HX.out he)
            have he2 : (z != 0) = true := bne_iff_ne.2 he
            clear HS HX; have he3 := Lib.hid he; clear he
            go_wp2_with (go_at_call 41; ((with_reducible refine (HC.out _ (by with_reducible repeat (first | exact Ext.refl _ | assumption | refine Ext.drew ?_ | refine Ext.drewN ?_ _ | refine Ext.alloc ?_ _))).mono ?_); rintro e w8 ⟨rfl, hx8⟩))
            go_ret
            exact ⟨ret_int (HR.out _ HT.out he3.out).symm, (hx1.trans hEr).trans (Ext.trans (by with_reducible repeat (first | exact Ext.refl _ | assumption | refine Ext.drew ?_ | refine Ext.drewN ?_ _ | refine Ext.alloc ?_ _)) hx8)⟩
        · have HNZ := Lib.hid (show nodesE g = 0 from firstE_zero (fun t ht => hgd.out t (by omega)))
          clear HR hgd
          have hE0 := hEr
          clear hEr
          go_wp2_with fail
          clear m0 m1 m2 m3
          go_loopw [5] (fun u W => ∃ k : Nat, u = .int .i64 k ∧ k ≤ g.edges.length ∧ Hid (∀ t, t < k → edgeE g t = 0) ∧ Ext w1 W) (fun u _ => g.edges.length - (intOf u).toNat)
          case atStart => exact ⟨0, rfl, Nat.zero_le _, Lib.hid (fun t ht => absurd ht (by omega)), hE0⟩
          case round =>
            obtain ⟨k, rfl, hk, hgd, hEr⟩ := hrel
            have m0 := hEr.cell g0
            have m1 := hEr.cell g1
            have m2 := hEr.cell g2
            have m3 := hEr.cell g3
            by_cases hlt : k < g.edges.length
            · have HC := Lib.hid (fun W (e : Ext wr W) => r7_edge g ok A B c d k W (HGA.out.ext (hEr.trans e)) HSZ.out hlt)
              have HS := Lib.hid (fun (h : edgeE g k = 0) t (ht : t < k + 1) => (if e : t = k then (by rw [e]; exact h) else hgd.out t (by omega) : edgeE g t = 0))
              have HX := Lib.hid (fun (h : edgeE g k ≠ 0) => firstE_at hgd.out h hlt)
              generalize edgeE g k = z at *
              by_cases he : z = 0
              · have HT := Lib.hid (HS.out he)
                subst he
                clear HS HX
                go_wp2_with (go_at_call 42; ((with_reducible refine (HC.out _ (by with_reducible repeat (first | exact Ext.refl _ | assumption | refine Ext.drew ?_ | refine Ext.drewN ?_ _ | refine Ext.alloc ?_ _))).mono ?_); rintro e w8 ⟨rfl, hx8⟩))
                go_roundw
                case rel => exact ⟨k + 1, by go_num, by omega, HT, hEr.trans (Ext.trans (by with_reducible repeat (first | exact Ext.refl _ | assumption | refine Ext.drew ?_ | refine Ext.drewN ?_ _ | refine Ext.alloc ?_ _)) hx8)⟩
                case measure => simp [intOf]; omega
              · have HT := Lib.hid (HX.out he)
                have he2 : (z != 0) = true := bne_iff_ne.2 he
                clear he HS HX
                go_wp2_with (go_at_call 42; ((with_reducible refine (HC.out _ (by with_reducible repeat (first | exact Ext.refl _ | assumption | refine Ext.drew ?_ | refine Ext.drewN ?_ _ | refine Ext.alloc ?_ _))).mono ?_); rintro e w8 ⟨rfl, hx8⟩))
                go_ret
                exact ⟨ret_int (HRE.out HNZ.out _ HT.out).symm, (hx1.trans hEr).trans (Ext.trans (by with_reducible repeat (first | exact Ext.refl _ | assumption | refine Ext.drew ?_ | refine Ext.drewN ?_ _ | refine Ext.alloc ?_ _)) hx8)⟩
            · have HT := Lib.hid (HRA.out HNZ.out (firstE_zero (fun t ht => hgd.out t (by omega))))
              go_wp2_with fail
              go_ret
              exact ⟨ret_int HT.out.symm, hx1.trans hEr⟩
end Go.Proofs.YtlkpmbkmmfoakaaDoor
