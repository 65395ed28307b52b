/- PARTS OF THE WALKS, joined: Gd, Ge, LaidG, OwnG, OwnC, PlainW. -/
import Derived.Test.YtigmdddeplnciaaGreatDoorV05
import Derived.Laws.BitsAllLaws
import Derived.Test.YtigmdddeplnciaaGreatDoorV04
import Derived.Test.YtigmdddeplnciaaGreatDoorV00
/- THE WALKS over the search for a node by its id: graph.has, the reference's Node; over the types of edges. -/
namespace Go.Proofs.YtigmdddeplnciaaGreatDoor
open Go.RowKit
theorem gr_has1 (n : Int) (A B : Option Addr) (na c nb d : Nat) (m : Int) (w : World) :
    Calls Tryz.prog 94 #[.agg #[.int .i64 n, .slice A na c, .slice B nb d], .int .i64 m] w fun e w' => e = .returned (.int .i64 (Lib.compareInt n m)) ∧ Ext w w' := by
  go_enter Tryz.func94, Tryz.ntmps94
  go_wp2_with (go_at_call 43; ((with_reducible refine (c_cmp_int _ _ _).mono ?_); rintro e w' ⟨rfl, rfl⟩))
  go_ret
  exact ⟨rfl, (Ext.refl _).alloc _⟩
theorem hasN_at {l : List NodeG} {n : Int} (i : Nat) (hi : i < l.length) (h : l[i]!.id = n) : hasN l n = true := by
  unfold hasN
  rw [List.any_eq_true]
  exact ⟨l[i], List.getElem_mem hi, by rw [getElem!_pos l i hi] at h; exact decide_eq_true h⟩
theorem hasN_no {l : List NodeG} {n : Int} (h : ∀ i, i < l.length → l[i]!.id ≠ n) : hasN l n = false := by
  unfold hasN
  rw [List.any_eq_false]
  intro x hx
  obtain ⟨i, hi, rfl⟩ := List.getElem_of_mem hx
  have := h i hi
  rw [getElem!_pos l i hi] at this
  rw [decide_eq_false this]; exact Bool.false_ne_true
theorem cmpI_lt {a b : Int} (h : a < b) : Lib.compareInt a b = -1 := by unfold Lib.compareInt; rw [if_pos h]
theorem cmpI_ge {a b : Int} (h : ¬ a < b) : ¬ Lib.compareInt a b < 0 := by unfold Lib.compareInt; rw [if_neg h]; split <;> omega
theorem cmpI_eq (a : Int) : Lib.compareInt a a = 0 := by unfold Lib.compareInt; rw [if_neg (by omega), if_neg (by omega)]
theorem cmpI_ne {a b : Int} (h : a ≠ b) : Lib.compareInt a b ≠ 0 := by unfold Lib.compareInt; split <;> (try split) <;> omega
set_option maxRecDepth 100000 in
set_option maxHeartbeats 1600000 in
theorem gr_BSF (l : List NodeG) (ok : Nat → Prop) (A : Option Addr) (c : Nat) (n : Int) (w : World) (hv : Nodes w ok A l) (hsort : ∀ i j, i < j → j < l.length → l[i]!.id < l[j]!.id) :
    Calls Tryz.prog 93 #[.slice A l.length c, .int .i64 n, .func (.func 94) #[] #[]] w fun e w' => (∃ i : Int, e = .returned (.tuple #[.int .i64 i, .bool (hasN l n)])) ∧ Ext w w' := by
  have hm := hv.len
  have HV := Lib.hid hv
  have HY := Lib.hid (hasN_at (l := l) (n := n))
  have HN := Lib.hid (hasN_no (l := l) (n := n))
  have HS := Lib.hid hsort
  generalize hasN l n = R at *
  clear hv hsort
  go_enter Tryz.func93, Tryz.ntmps93
  go_wp2_with fail
  go_loopw [9, 10] (fun u v W => ∃ i j : Nat, u = .int .i64 i ∧ v = .int .i64 j ∧ i ≤ j ∧ j ≤ l.length ∧ Hid (∀ t, t < i → l[t]!.id < n) ∧ Hid (∀ t, j ≤ t → t < l.length → n ≤ l[t]!.id) ∧ Ext w W) (fun u v _ => (intOf v - intOf u).toNat)
  case atStart => exact ⟨0, l.length, rfl, rfl, Nat.zero_le _, Nat.le_refl _, Lib.hid (fun t ht => absurd ht (by omega)), Lib.hid (fun t h1 h2 => absurd h1 (by omega)), Ext.refl _⟩
  case round =>
    obtain ⟨i, j, rfl, rfl, hij, hjl, hlo, hhi, hE⟩ := hrel
    by_cases hlt : i < j
    · obtain ⟨b, off, rfl, hc⟩ := HV.out.2 (by omega)
      have hm1 : (i + j) / 2 < l.length := by omega
      obtain ⟨-, d0, A', c', B', d', d1, -, -, d2, -, -⟩ := (hc ((i + j) / 2) hm1).ext hE
      rw [← getElem!_pos l ((i + j) / 2) hm1] at d0 d1 d2
      have HL := Lib.hid (fun (h : l[(i + j) / 2]!.id < n) t (ht : t < (i + j) / 2 + 1) => (if e : t = (i + j) / 2 then (by rw [e]; exact h) else (Int.lt_trans (HS.out t _ (by omega) hm1) h) : l[t]!.id < n))
      have HH := Lib.hid (fun (h : n ≤ l[(i + j) / 2]!.id) t (ht : (i + j) / 2 ≤ t) (htl : t < l.length) => (if e : t = (i + j) / 2 then (by rw [e]; exact h) else (Int.le_trans h (Int.le_of_lt (HS.out _ t (by omega) htl))) : n ≤ l[t]!.id))
      clear hc
      generalize l[(i + j) / 2]! = x at *
      have q1 : (0 : Int) ≤ ((i : Int) + (j : Int)) / 2 := by omega
      have q2 : ((i : Int) + (j : Int)) / 2 < (l.length : Int) := by omega
      have q3 : (((i : Int) + (j : Int)) / 2).toNat = (i + j) / 2 := by omega
      by_cases ho : x.id < n
      · have HX := Lib.hid (HL.out ho)
        have HC := Lib.hid (fun W => gr_has1 x.id A' B' x.labels.length c' x.props.length d' n W)
        rw [cmpI_lt ho] at HC
        clear ho HL HH
        go_wp2_with (go_at_call 94; ((with_reducible refine (HC.out _).mono ?_); rintro e w8 ⟨rfl, hx8⟩))
        go_roundw
        case rel => exact ⟨(i + j) / 2 + 1, j, congrArg (Value.int .i64) (by omega), rfl, by omega, hjl, HX, hhi, hE.trans hx8⟩
        case measure => simp [intOf]; omega
      · have HX := Lib.hid (HH.out (by omega))
        have ho' := cmpI_ge ho
        have HC := Lib.hid (fun W => gr_has1 x.id A' B' x.labels.length c' x.props.length d' n W)
        generalize Lib.compareInt x.id n = z at *
        have ho2 : decide (z < 0) = false := decide_eq_false ho'
        clear ho ho' HL HH
        go_wp2_with (go_at_call 94; ((with_reducible refine (HC.out _).mono ?_); rintro e w8 ⟨rfl, hx8⟩))
        go_roundw
        case rel => exact ⟨i, (i + j) / 2, rfl, congrArg (Value.int .i64) (by omega), by omega, by omega, hlo, HX, hE.trans hx8⟩
        case measure => simp [intOf]; omega
    · obtain rfl : i = j := by omega
      by_cases hin : i < l.length
      · obtain ⟨b, off, rfl, hc⟩ := HV.out.2 (by omega)
        obtain ⟨-, d0, A', c', B', d', d1, -, -, d2, -, -⟩ := (hc i hin).ext hE
        rw [← getElem!_pos l i hin] at d0 d1 d2
        have HX1 := Lib.hid (HY.out i hin)
        have HX2 := Lib.hid (fun (h : l[i]!.id ≠ n) => HN.out (fun t ht => by
          rcases Nat.lt_trichotomy t i with h1 | h1 | h1
          · have := hlo.out t h1; omega
          · rw [h1]; exact h
          · have h2 := hhi.out i (Nat.le_refl _) hin
            have h3 := HS.out i t h1 ht
            omega))
        have HC := Lib.hid (fun W => gr_has1 l[i]!.id A' B' l[i]!.labels.length c' l[i]!.props.length d' n W)
        clear hc HY HN
        generalize l[i]! = x at *
        by_cases he : x.id = n
        · have HT := Lib.hid (HX1.out he)
          rw [he] at d0 HC
          rw [cmpI_eq] at HC
          clear he HX1 HX2
          go_wp2_with (go_at_call 94; ((with_reducible refine (HC.out _).mono ?_); rintro e w8 ⟨rfl, hx8⟩))
          go_ret2
          exact ⟨⟨(i : Int), by rw [HT.out]; rfl⟩, hE.trans hx8⟩
        · have HT := Lib.hid (HX2.out he)
          have hz : (Lib.compareInt x.id n == 0) = false := beq_eq_false_iff_ne.2 (cmpI_ne he)
          generalize Lib.compareInt x.id n = z at *
          clear he HX1 HX2
          go_wp2_with (go_at_call 94; ((with_reducible refine (HC.out _).mono ?_); rintro e w8 ⟨rfl, hx8⟩))
          go_ret2
          exact ⟨⟨(i : Int), by rw [HT.out]; rfl⟩, hE.trans hx8⟩
      · have HT := Lib.hid (HN.out (fun t ht => by have := hlo.out t (by omega); omega))
        go_wp2_with fail
        go_ret2
        exact ⟨⟨(i : Int), by rw [HT.out]; rfl⟩, hE⟩
set_option maxRecDepth 100000 in
theorem gr_has (l : List NodeG) (ok : Nat → Prop) (A : Option Addr) (c : Nat) (n : Int) (w : World) (hv : Nodes w ok A l) (hsort : ∀ i j, i < j → j < l.length → l[i]!.id < l[j]!.id) :
    Calls Tryz.prog 57 #[.slice A l.length c, .int .i64 n] w fun e w' => e = .returned (.bool (hasN l n)) ∧ Ext w w' := by
  have HC := Lib.hid (gr_BSF l ok A c n w hv hsort)
  clear hv hsort
  generalize hasN l n = R at *
  go_enter Tryz.func57, Tryz.ntmps57
  go_wp2_with (go_at_call 93; ((with_reducible refine (HC.out).mono ?_); rintro e w8 ⟨⟨i, rfl⟩, hx8⟩))
  go_ret
  exact ⟨rfl, hx8⟩
theorem box_graph (w : World) (A B : Option Addr) (c d : Nat) (g : GraphG) (t : TypeId) : ∃ (q : Nat) (w1 : World), q = w.heap.size ∧ w1 = w.alloc (.cells #[.slice A g.nodes.length c, .slice B g.edges.length d, .int .i64 g.nn, .int .i64 g.ne] t) ∧ w1.cell? ⟨q, 0, none⟩ = some (.slice A g.nodes.length c) ∧ w1.cell? ⟨q, 1, none⟩ = some (.slice B g.edges.length d) ∧ w1.cell? ⟨q, 2, none⟩ = some (.int .i64 g.nn) ∧ w1.cell? ⟨q, 3, none⟩ = some (.int .i64 g.ne) ∧ Ext w w1 :=
  ⟨_, _, rfl, rfl, by go_simp, by go_simp, by go_simp, by go_simp, (Ext.refl _).alloc _⟩
set_option maxRecDepth 100000 in
set_option maxHeartbeats 1600000 in
theorem r7_Node (g : GraphG) (ok : Nat → Prop) (A B : Option Addr) (c d : Nat) (n : Int) (w : World) (hv : Nodes w ok A g.nodes) :
    Calls Tryz.prog 108 #[.agg #[.slice A g.nodes.length c, .slice B g.edges.length d, .int .i64 g.nn, .int .i64 g.ne], .int .i64 n] w fun e w' => (∃ id L nl cl P np cp, e = .returned (.tuple #[.agg #[.int .i64 id, .slice L nl cl, .slice P np cp], .bool (hasN g.nodes n)])) ∧ Ext w w' := by
  have hm := hv.len
  obtain ⟨q, w1, hq, hw1, g0, g1, g2, g3, hx⟩ := box_graph w A B c d g 25
  have hq1 : w1.heap.size = q + 1 := by rw [hw1, hq]; simp
  obtain ⟨w2, hw2, z0, z1, z2, y0, y1, y2⟩ : ∃ w2, w2 = w1.alloc (.cells #[.int .i64 0, .slice none 0 0, .slice none 0 0] 45) ∧ w2.cell? ⟨q + 1, 0, none⟩ = some (.int .i64 0) ∧ w2.cell? ⟨q + 1, 1, none⟩ = some (.slice none 0 0) ∧ w2.cell? ⟨q + 1, 2, none⟩ = some (.slice none 0 0) ∧ w2.frozen? ⟨q + 1, 0, none⟩ = false ∧ w2.frozen? ⟨q + 1, 1, none⟩ = false ∧ w2.frozen? ⟨q + 1, 2, none⟩ = false := ⟨_, rfl, by rw [← hq1]; go_simp, by rw [← hq1]; go_simp, by rw [← hq1]; go_simp, by rw [← hq1]; go_simp, by rw [← hq1]; go_simp, by rw [← hq1]; go_simp⟩
  have hx2 : Ext w1 w2 := by rw [hw2]; exact (Ext.refl _).alloc _
  have HW1 := Lib.hid hw1
  have HW2 := Lib.hid hw2
  have HG := Lib.hid hq
  have HLE := Lib.hid (show w.heap.size ≤ q + 1 by omega)
  have HV := Lib.hid (hv.ext (hx.trans hx2))
  have HY := Lib.hid (hasN_at (l := g.nodes) (n := n))
  have HN := Lib.hid (hasN_no (l := g.nodes) (n := n))
  replace g0 := hx2.cell g0
  replace g1 := hx2.cell g1
  replace g2 := hx2.cell g2
  replace g3 := hx2.cell g3
  have hE := hx.trans hx2
  generalize hasN g.nodes n = R at *
  generalize hl : g.nodes = l at *
  clear hv hl hw1 hq hw2 hx hx2 hq1
  go_enter Tryz.func108, Tryz.ntmps108
  go_upto_region 1 with (fail)
  rw [← HW1.out, ← HG.out, ← HW2.out]
  clear HW1 HG HW2
  go_wp2_with fail
  go_loop [6] (fun u => ∃ k : Nat, u = .int .i64 k ∧ k ≤ l.length ∧ Hid (∀ t, t < k → l[t]!.id ≠ n)) (fun u => l.length - (intOf u).toNat)
  case atStart => exact ⟨0, rfl, Nat.zero_le _, Lib.hid (fun t ht => absurd ht (by omega))⟩
  case round =>
    obtain ⟨k, rfl, hk, hgd⟩ := hrel
    by_cases hlt : k < l.length
    · obtain ⟨b, off, rfl, hc⟩ := HV.out.2 (by omega)
      obtain ⟨-, d0, A', c', B', d', d1, -, -, d2, -, -⟩ := hc k hlt
      rw [← getElem!_pos l k hlt] at d0 d1 d2
      have HS := Lib.hid (fun (h : l[k]!.id ≠ n) t (ht : t < k + 1) => (if e : t = k then (by rw [e]; exact h) else hgd.out t (by omega) : l[t]!.id ≠ n))
      have HX := Lib.hid (HY.out k hlt)
      clear hc HY HN hgd
      generalize l[k]! = x at *
      by_cases he : x.id = n
      · have HT := Lib.hid (HX.out he)
        have he2 : (x.id == n) = true := beq_iff_eq.2 he
        clear he HX HS
        go_wp2_with fail
        refine bodyPost_ret (v := .tuple #[.agg #[.int .i64 x.id, .slice A' x.labels.length c', .slice B' x.props.length d'], .bool true]) (by simp [results, Tryz.results108, go_sem, *]) rfl ?_
        exact ⟨⟨_, _, _, _, _, _, _, by rw [HT.out]⟩, ((hE.setCell HLE.out _).setCell HLE.out _).setCell HLE.out _⟩
      · have HT := Lib.hid (HS.out he)
        have he2 : (x.id == n) = false := beq_eq_false_iff_ne.2 he
        clear he HX HS
        go_wp2_with fail
        go_round
        case rel => exact ⟨k + 1, by go_num, by omega, HT⟩
        case measure => simp [intOf]; omega
    · have HT := Lib.hid (HN.out (fun t ht => hgd.out t (by omega)))
      clear HY HN
      go_wp2_with fail
      refine bodyPost_ret (v := .tuple #[.agg #[.int .i64 0, .slice none 0 0, .slice none 0 0], .bool false]) (by simp [results, Tryz.results108, go_sem, *]) rfl ?_
      exact ⟨⟨_, _, _, _, _, _, _, by rw [HT.out]⟩, ((hE.setCell HLE.out _).setCell HLE.out _).setCell HLE.out _⟩
def typB (types : List ByteArray) (t : ByteArray) : Bool := decide (types.length = 0) || memB t types
set_option maxRecDepth 100000 in
theorem gr_HasType (types : List ByteArray) (x : EdgeG) (ok : Nat → Prop) (A B : Option Addr) (c m d : Nat) (w : World) (hv : Strs w ok A types) :
    Calls Tryz.prog 70 #[.agg #[.int .i64 x.id, .int .i64 x.frm, .int .i64 x.to_, .string x.typ, .slice B m d], .slice A types.length c] w fun e w' => e = .returned (.bool (typB types x.typ)) ∧ Ext w w' := by
  have hm := hv.len
  have HC := Lib.hid (fun W (e : Ext w W) => s_ContainsS types x.typ ok A c W (hv.ext e))
  have HQ := Lib.hid (show typB types x.typ = (decide (types.length = 0) || memB x.typ types) from rfl)
  generalize typB types x.typ = R at *
  generalize memB x.typ types = q at *
  clear hv
  by_cases h0 : types.length = 0
  · have hz : ((types.length : Int) == 0) = true := by rw [h0]; rfl
    go_enter Tryz.func70, Tryz.ntmps70
    go_wp2_with (go_at_call 110; ((with_reducible refine (HC.out _ (by solve_by_elim [X0, X1, X2, X3])).mono ?_); rintro e w8 ⟨rfl, rfl⟩))
    go_ret
    exact ⟨ret_bool (by rw [HQ.out, decide_eq_true h0]; rfl), (by solve_by_elim [X0, X1, X2, X3])⟩
  · have hz : ((types.length : Int) == 0) = false := beq_eq_false_iff_ne.2 (by omega)
    have HR := Lib.hid (show R = q by rw [HQ.out, decide_eq_false h0]; rfl)
    clear h0 HQ
    go_enter Tryz.func70, Tryz.ntmps70
    go_wp2_with (go_at_call 110; ((with_reducible refine (HC.out _ (by solve_by_elim [X0, X1, X2, X3])).mono ?_); rintro e w8 ⟨rfl, rfl⟩))
    go_ret
    exact ⟨ret_bool HR.out.symm, (by solve_by_elim [X0, X1, X2, X3])⟩
end Go.Proofs.YtigmdddeplnciaaGreatDoor

/- THE WALKS over the reference's node, edge, Check of a graph. -/
namespace Go.Proofs.YtigmdddeplnciaaGreatDoor
open Go.RowKit
/-- no string of a graph's values is longer than the platform's room -/
structure SzG (g : GraphG) : Prop where
  nodes : ∀ n ∈ g.nodes, ∀ p ∈ n.props, szV p.v
  edges : ∀ e ∈ g.edges, ∀ p ∈ e.props, szV p.v
theorem mem_bang {α : Type} [Inhabited α] {l : List α} {i : Nat} (h : i < l.length) : l[i]! ∈ l := by rw [getElem!_pos l i h]; exact List.getElem_mem h
theorem Nodes.at_ {w : World} {ok : Nat → Prop} {A : Option Addr} {l : List NodeG} (h : Nodes w ok A l) {i : Nat} (hi : i < l.length) : ∃ b o, A = some ⟨b, o, none⟩ ∧ ∀ k, k < l.length → NodeC w ok b (o + k * 3) l[k]! := by
  obtain ⟨b, o, hA, hc⟩ := h.2 (by omega)
  exact ⟨b, o, hA, fun k hk => by rw [getElem!_pos l k hk]; exact hc k hk⟩
theorem Edges.at_ {w : World} {ok : Nat → Prop} {A : Option Addr} {l : List EdgeG} (h : Edges w ok A l) {i : Nat} (hi : i < l.length) : ∃ b o, A = some ⟨b, o, none⟩ ∧ ∀ k, k < l.length → EdgeC w ok b (o + k * 5) l[k]! := by
  obtain ⟨b, o, hA, hc⟩ := h.2 (by omega)
  exact ⟨b, o, hA, fun k hk => by rw [getElem!_pos l k hk]; exact hc k hk⟩
theorem box_node (w : World) (n : Int) (A B : Option Addr) (na c nb d : Nat) (t : TypeId) : ∃ (q : Nat) (w1 : World), q = w.heap.size ∧ w1 = w.alloc (.cells #[.int .i64 n, .slice A na c, .slice B nb d] t) ∧ w1.cell? ⟨q, 0, none⟩ = some (.int .i64 n) ∧ w1.cell? ⟨q, 1, none⟩ = some (.slice A na c) ∧ w1.cell? ⟨q, 2, none⟩ = some (.slice B nb d) ∧ Ext w w1 :=
  ⟨_, _, rfl, rfl, by go_simp, by go_simp, by go_simp, (Ext.refl _).alloc _⟩
theorem box_edge (w : World) (e : EdgeG) (B : Option Addr) (d : Nat) (t : TypeId) : ∃ (q : Nat) (w1 : World), q = w.heap.size ∧ w1 = w.alloc (.cells #[.int .i64 e.id, .int .i64 e.frm, .int .i64 e.to_, .string e.typ, .slice B e.props.length d] t) ∧ w1.cell? ⟨q, 0, none⟩ = some (.int .i64 e.id) ∧ w1.cell? ⟨q, 1, none⟩ = some (.int .i64 e.frm) ∧ w1.cell? ⟨q, 2, none⟩ = some (.int .i64 e.to_) ∧ w1.cell? ⟨q, 3, none⟩ = some (.string e.typ) ∧ w1.cell? ⟨q, 4, none⟩ = some (.slice B e.props.length d) ∧ Ext w w1 :=
  ⟨_, _, rfl, rfl, by go_simp, by go_simp, by go_simp, by go_simp, by go_simp, (Ext.refl _).alloc _⟩
/-- what is wrong with a node, piece by piece -/
theorem nodeE_26 {g : GraphG} {i : Nat} (h : 0 < i) (h2 : g.nodes[i]!.id ≤ g.nodes[i - 1]!.id) : nodeE g i = 26 := by unfold nodeE; rw [if_pos ⟨h, h2⟩]
theorem nodeE_1 {g : GraphG} {i : Nat} (h : 0 < i → g.nodes[i - 1]!.id < g.nodes[i]!.id) (h2 : g.nodes[i]!.id < 1 ∨ g.nn ≤ g.nodes[i]!.id) : nodeE g i = 1 := by
  unfold nodeE; rw [if_neg (fun hh => by have := h hh.1; omega), if_pos h2]
theorem nodeE_p {g : GraphG} {i : Nat} (h : 0 < i → g.nodes[i - 1]!.id < g.nodes[i]!.id) (h2 : 1 ≤ g.nodes[i]!.id) (h3 : g.nodes[i]!.id < g.nn) : nodeE g i = partsE g.nodes[i]!.labels g.nodes[i]!.props := by
  unfold nodeE; rw [if_neg (fun hh => by have := h hh.1; omega), if_neg (by omega)]
theorem edgeE_26 {g : GraphG} {i : Nat} (h : 0 < i) (h2 : g.edges[i]!.id ≤ g.edges[i - 1]!.id) : edgeE g i = 26 := by unfold edgeE; rw [if_pos ⟨h, h2⟩]
theorem edgeE_1 {g : GraphG} {i : Nat} (h : 0 < i → g.edges[i - 1]!.id < g.edges[i]!.id) (h2 : g.edges[i]!.id < 1 ∨ g.ne ≤ g.edges[i]!.id) : edgeE g i = 1 := by
  unfold edgeE; rw [if_neg (fun hh => by have := h hh.1; omega), if_pos h2]
theorem edgeE_p {g : GraphG} {i : Nat} (h : 0 < i → g.edges[i - 1]!.id < g.edges[i]!.id) (h2 : 1 ≤ g.edges[i]!.id) (h3 : g.edges[i]!.id < g.ne) : edgeE g i = if hasN g.nodes g.edges[i]!.frm && hasN g.nodes g.edges[i]!.to_ then (if nameB g.edges[i]!.typ then partsE [] g.edges[i]!.props else 6) else 10 := by
  unfold edgeE; rw [if_neg (fun hh => by have := h hh.1; omega), if_neg (by omega)]
set_option maxRecDepth 100000 in
set_option maxHeartbeats 1600000 in
theorem r7_node (g : GraphG) (ok : Nat → Prop) (A B : Option Addr) (c d : Nat) (i : Nat) (w : World) (hg : GraphAt w ok A B g) (hs : SzG g) (hi : i < g.nodes.length) :
    Calls Tryz.prog 64 #[.agg #[.slice A g.nodes.length c, .slice B g.edges.length d, .int .i64 g.nn, .int .i64 g.ne], .int .i64 i] w fun e w' => e = .returned (.int .i64 (nodeE g i)) ∧ Ext w w' := by
  have hm := hg.nodes.len
  obtain ⟨b, o, rfl, hc⟩ := hg.nodes.at_ hi
  obtain ⟨-, d0, A', c', B', d', d1, -, hS, d2, -, hP⟩ := hc i hi
  obtain ⟨q, w1, hq, hw1, g0, g1, g2, g3, hx1⟩ := box_graph w (some ⟨b, o, none⟩) B c d g 25
  have hq1 : w1.heap.size = q + 1 := by rw [hw1, hq]; simp
  obtain ⟨q2, w2, hq2, hw2, n0, n1, n2, hx2⟩ := box_node w1 g.nodes[i]!.id A' B' g.nodes[i]!.labels.length c' g.nodes[i]!.props.length d' 45
  rw [hq1] at hq2
  subst hq2
  have HP := Lib.hid (fun W (e : Ext w2 W) => r7_parts g.nodes[i]!.labels g.nodes[i]!.props ok ok A' B' c' d' W (hS.ext ((hx1.trans hx2).trans e)) (hP.ext ((hx1.trans hx2).trans e)) (hs.nodes _ (mem_bang hi)))
  have hd0 := hx1.cell d0
  have hd1 := hx1.cell d1
  have hd2 := hx1.cell d2
  have G0 := hx2.cell g0
  have G1 := hx2.cell g1
  have G2 := hx2.cell g2
  have G3 := hx2.cell g3
  have hpv : 0 < i → w2.cell? ⟨b, o + (i - 1) * 3, none⟩ = some (.int .i64 g.nodes[i - 1]!.id) := fun h => by
    obtain ⟨-, e0, -⟩ := hc (i - 1) (by omega)
    exact hx2.cell (hx1.cell e0)
  obtain ⟨E, hE⟩ : ∃ E, E = nodeE g i := ⟨_, rfl⟩
  rw [← hE]
  have HW1 := Lib.hid hw1
  have HW2 := Lib.hid hw2
  have HG := Lib.hid hq
  have HQ1 := Lib.hid hq1
  have hEx := hx1.trans hx2
  clear hc d0 d1 d2 hg hs hS hP hw1 hw2 hq hx1 hx2 hq1
  rcases Nat.eq_zero_or_pos i with hz | hz
  · subst hz
    clear hpv
    have HE1 := Lib.hid (fun h => nodeE_1 (g := g) (i := 0) (fun h => absurd h (Nat.lt_irrefl _)) h)
    have HEP := Lib.hid (fun h1 h2 => nodeE_p (g := g) (i := 0) (fun h => absurd h (Nat.lt_irrefl _)) h1 h2)
    rw [← hE] at HE1 HEP
    clear hE
    rw [Nat.zero_mul, Nat.add_zero] at hd0 hd1 hd2
    generalize g.nodes[0]! = x at *
    generalize partsE x.labels x.props = z at *
    generalize g.nn = nn at *
    go_enter Tryz.func64, Tryz.ntmps64
    go_upto_region 1 with (fail)
    rw [← HW1.out, ← HG.out]
    clear HW1 HG
    go_upto_region 2 with (fail)
    rw [← HW2.out, HQ1.out]
    clear HW2 HQ1 g0 g1 g2 g3
    have MKR1 := Lib.hid (fun V (e : Ext w2 V) => (e : Ext w2 V))
    refine wp_region_held_drew (S := (fun V => Ext w2 V)) (by kernel_rfl) ?hs1 (fun hHeld => ?go1)
    case hs1 => (exact MKR1.out _ (by solve_by_elim [X0, X1, X2, X3]))
    refine TK 0 (v := ?v2) hHeld ?hy2 ?_
    case hy2 => (intro w _; go_simp <;> rfl)
    (try simp only [PU])
    refine TK 1 (v := ?v3) hHeld ?hy3 ?_
    case hy3 => (intro w _; go_simp <;> first | with_reducible rfl | rw [if_neg (by omega)] | rw [if_pos (by omega)])
    (try simp only [PU])
    refine TK 2 (v := ?v4) hHeld ?hy4 ?_
    case hy4 => (intro w _; go_simp <;> rfl)
    (try simp only [PU])
    refine TN 3 hHeld ?_
    (try simp only [PU])
    refine TN 4 hHeld ?_
    (try simp only [PU])
    refine TN 5 hHeld ?_
    (try simp only [PU])
    refine TN 6 hHeld ?_
    (try simp only [PU])
    refine TN 7 hHeld ?_
    (try simp only [PU])
    refine TN 8 hHeld ?_
    (try simp only [PU])
    refine TN 9 hHeld ?_
    (try simp only [PU])
    refine TN 10 hHeld ?_
    (try simp only [PU])
    refine TN 11 hHeld ?_
    (try simp only [PU])
    refine TN 12 hHeld ?_
    (try simp only [PU])
    refine TK 13 (v := ?v15) hHeld ?hy15 ?_
    case hy15 => (intro w _; go_simp <;> rfl)
    (try simp only [PU])
    refine wpAnyH_done (by kernel_rfl) ?_ _
    clear hHeld
    clear MKR1
    have gE : Ext w2 w2.drew := (Ext.refl _).drew
    have m0 := gE.cell n0
    have m1 := gE.cell n1
    have m2 := gE.cell n2
    have k2 := gE.cell G2
    by_cases h1 : x.id < 1
    · go_wp2_with fail
      go_ret
      exact ⟨ret_int (HE1.out (.inl h1)).symm, hEx.trans (by solve_by_elim [X0, X1, X2, X3])⟩
    · by_cases h2 : nn ≤ x.id
      · go_wp2_with fail
        go_ret
        exact ⟨ret_int (HE1.out (.inr h2)).symm, hEx.trans (by solve_by_elim [X0, X1, X2, X3])⟩
      · have HZ := Lib.hid (HEP.out (by omega) (by omega))
        go_wp2_with (go_at_call 107; ((with_reducible refine (HP.out _ (by solve_by_elim [X0, X1, X2, X3])).mono ?_); rintro e w8 ⟨rfl, hx8⟩))
        go_ret
        exact ⟨ret_int HZ.out.symm, hEx.trans (Ext.trans (by solve_by_elim [X0, X1, X2, X3]) hx8)⟩
  · replace hpv := hpv hz
    by_cases hlt : g.nodes[i - 1]!.id < g.nodes[i]!.id
    · have HE1 := Lib.hid (fun h => nodeE_1 (g := g) (i := i) (fun _ => hlt) h)
      have HEP := Lib.hid (fun h1 h2 => nodeE_p (g := g) (i := i) (fun _ => hlt) h1 h2)
      rw [← hE] at HE1 HEP
      clear hE
      generalize g.nodes[i]! = x at *
      generalize g.nodes[i - 1]! = y at *
      generalize partsE x.labels x.props = z at *
      generalize g.nn = nn at *
      have ho : ¬ x.id ≤ y.id := by omega
      clear hlt
      go_enter Tryz.func64, Tryz.ntmps64
      go_upto_region 1 with (fail)
      rw [← HW1.out, ← HG.out]
      clear HW1 HG
      go_upto_region 2 with (fail)
      rw [← HW2.out, HQ1.out]
      clear HW2 HQ1 g0 g1 g2 g3
      have p0 : 0 < i := by omega
      have p1 : (1 : Int) ≤ (i : Int) := by omega
      have p2 : ((i : Int) - 1).toNat = i - 1 := by omega
      have p5 : IntKind.i64.wrap ((i : Int) - 1) = (i : Int) - 1 := IntWalk.i64_in _ (by omega)
      have p6 : ((i : Int) - 1) < (g.nodes.length : Int) := by omega
      have MKR2 := Lib.hid (fun V (e : Ext w2 V) => (⟨e.cell G0, e.cell n0, e.cell hpv, e⟩ : V.cell? ⟨q, 0, none⟩ = some (.slice (some ⟨b, o, none⟩) g.nodes.length c) ∧ V.cell? ⟨q + 1, 0, none⟩ = some (.int .i64 x.id) ∧ V.cell? ⟨b, o + (i - 1) * 3, none⟩ = some (.int .i64 y.id) ∧ Ext w2 V))
      refine wp_region_held_drew (S := (fun V => V.cell? ⟨q, 0, none⟩ = some (.slice (some ⟨b, o, none⟩) g.nodes.length c) ∧ V.cell? ⟨q + 1, 0, none⟩ = some (.int .i64 x.id) ∧ V.cell? ⟨b, o + (i - 1) * 3, none⟩ = some (.int .i64 y.id) ∧ Ext w2 V)) (by kernel_rfl) ?hs16 (fun hHeld => ?go16)
      case hs16 => (exact MKR2.out _ (by solve_by_elim [X0, X1, X2, X3]))
      refine TK 0 (v := ?v17) hHeld ?hy17 ?_
      case hy17 => (intro w _; go_simp <;> rfl)
      (try simp only [PU])
      refine TK 1 (v := ?v18) hHeld ?hy18 ?_
      case hy18 => (intro w _; go_simp <;> first | with_reducible rfl | rw [if_neg (by omega)] | rw [if_pos (by omega)])
      (try simp only [PU])
      refine TK 2 (v := ?v19) hHeld ?hy19 ?_
      case hy19 => (intro w _; go_simp <;> rfl)
      (try simp only [PU])
      refine TK 3 (v := ?v20) hHeld ?hy20 ?_
      case hy20 => (intro w _; go_simp <;> rfl)
      (try simp only [PU])
      refine TK 4 (v := ?v21) hHeld ?hy21 ?_
      case hy21 => (intro w hSw; (try dsimp only at hSw); go_simp <;> first | with_reducible rfl | rw [if_neg (by omega)] | rw [if_pos (by omega)])
      (try simp only [PU])
      refine TK 5 (v := ?v22) hHeld ?hy22 ?_
      case hy22 => (intro w _; go_simp <;> rfl)
      (try simp only [PU])
      refine TK 6 (v := ?v23) hHeld ?hy23 ?_
      case hy23 => (intro w hSw; (try dsimp only at hSw); go_simp <;> first | with_reducible rfl | rw [if_neg (by omega)] | rw [if_pos (by omega)])
      (try simp only [PU])
      refine TK 7 (v := ?v24) hHeld ?hy24 ?_
      case hy24 => (intro w _; go_simp <;> rfl)
      (try simp only [PU])
      refine TK 8 (v := ?v25) hHeld ?hy25 ?_
      case hy25 => (intro w _; go_simp <;> first | with_reducible rfl | rw [if_neg (by omega)] | rw [if_pos (by omega)])
      (try simp only [PU])
      refine TK 9 (v := ?v26) hHeld ?hy26 ?_
      case hy26 => (intro w _; go_simp <;> first | with_reducible rfl | rw [if_neg (by omega)] | rw [if_pos (by omega)])
      (try simp only [PU])
      refine TK 10 (v := ?v27) hHeld ?hy27 ?_
      case hy27 => (intro w _; go_simp <;> rfl)
      (try simp only [PU])
      refine TK 11 (v := ?v28) hHeld ?hy28 ?_
      case hy28 => (intro w hSw; (try dsimp only at hSw); go_simp <;> first | with_reducible rfl | rw [if_neg (by omega)] | rw [if_pos (by omega)])
      (try simp only [PU])
      refine TK 12 (v := ?v29) hHeld ?hy29 ?_
      case hy29 => (intro w _; go_simp <;> first | with_reducible rfl | rw [if_neg (by omega)] | rw [if_pos (by omega)])
      (try simp only [PU])
      refine TK 13 (v := ?v30) hHeld ?hy30 ?_
      case hy30 => (intro w _; go_simp <;> rfl)
      (try simp only [PU])
      refine wpAnyH_done (by kernel_rfl) ?_ _
      clear hHeld
      clear MKR2
      clear p0 p1 p2 p5 p6 ho hpv
      have gE : Ext w2 w2.drew := (Ext.refl _).drew
      have m0 := gE.cell n0
      have m1 := gE.cell n1
      have m2 := gE.cell n2
      have k2 := gE.cell G2
      by_cases h1 : x.id < 1
      · go_wp2_with fail
        go_ret
        exact ⟨ret_int (HE1.out (.inl h1)).symm, hEx.trans (by solve_by_elim [X0, X1, X2, X3])⟩
      · by_cases h2 : nn ≤ x.id
        · go_wp2_with fail
          go_ret
          exact ⟨ret_int (HE1.out (.inr h2)).symm, hEx.trans (by solve_by_elim [X0, X1, X2, X3])⟩
        · have HZ := Lib.hid (HEP.out (by omega) (by omega))
          go_wp2_with (go_at_call 107; ((with_reducible refine (HP.out _ (by solve_by_elim [X0, X1, X2, X3])).mono ?_); rintro e w8 ⟨rfl, hx8⟩))
          go_ret
          exact ⟨ret_int HZ.out.symm, hEx.trans (Ext.trans (by solve_by_elim [X0, X1, X2, X3]) hx8)⟩
    · have HR := Lib.hid (hE.trans (nodeE_26 hz (by omega)))
      clear hE HP
      generalize g.nodes[i]! = x at *
      generalize g.nodes[i - 1]! = y at *
      have ho : x.id ≤ y.id := by omega
      clear hlt
      go_enter Tryz.func64, Tryz.ntmps64
      go_upto_region 1 with (fail)
      rw [← HW1.out, ← HG.out]
      clear HW1 HG
      go_upto_region 2 with (fail)
      rw [← HW2.out, HQ1.out]
      clear HW2 HQ1 g0 g1 g2 g3
      have p0 : 0 < i := by omega
      have p1 : (1 : Int) ≤ (i : Int) := by omega
      have p2 : ((i : Int) - 1).toNat = i - 1 := by omega
      have p5 : IntKind.i64.wrap ((i : Int) - 1) = (i : Int) - 1 := IntWalk.i64_in _ (by omega)
      have p6 : ((i : Int) - 1) < (g.nodes.length : Int) := by omega
      have MKR3 := Lib.hid (fun V (e : Ext w2 V) => (⟨e.cell G0, e.cell n0, e.cell hpv, e⟩ : V.cell? ⟨q, 0, none⟩ = some (.slice (some ⟨b, o, none⟩) g.nodes.length c) ∧ V.cell? ⟨q + 1, 0, none⟩ = some (.int .i64 x.id) ∧ V.cell? ⟨b, o + (i - 1) * 3, none⟩ = some (.int .i64 y.id) ∧ Ext w2 V))
      refine wp_region_held_drew (S := (fun V => V.cell? ⟨q, 0, none⟩ = some (.slice (some ⟨b, o, none⟩) g.nodes.length c) ∧ V.cell? ⟨q + 1, 0, none⟩ = some (.int .i64 x.id) ∧ V.cell? ⟨b, o + (i - 1) * 3, none⟩ = some (.int .i64 y.id) ∧ Ext w2 V)) (by kernel_rfl) ?hs31 (fun hHeld => ?go31)
      case hs31 => (exact MKR3.out _ (by solve_by_elim [X0, X1, X2, X3]))
      refine TK 0 (v := ?v32) hHeld ?hy32 ?_
      case hy32 => (intro w _; go_simp <;> rfl)
      (try simp only [PU])
      refine TK 1 (v := ?v33) hHeld ?hy33 ?_
      case hy33 => (intro w _; go_simp <;> first | with_reducible rfl | rw [if_neg (by omega)] | rw [if_pos (by omega)])
      (try simp only [PU])
      refine TK 2 (v := ?v34) hHeld ?hy34 ?_
      case hy34 => (intro w _; go_simp <;> rfl)
      (try simp only [PU])
      refine TK 3 (v := ?v35) hHeld ?hy35 ?_
      case hy35 => (intro w _; go_simp <;> rfl)
      (try simp only [PU])
      refine TK 4 (v := ?v36) hHeld ?hy36 ?_
      case hy36 => (intro w hSw; (try dsimp only at hSw); go_simp <;> first | with_reducible rfl | rw [if_neg (by omega)] | rw [if_pos (by omega)])
      (try simp only [PU])
      refine TK 5 (v := ?v37) hHeld ?hy37 ?_
      case hy37 => (intro w _; go_simp <;> rfl)
      (try simp only [PU])
      refine TK 6 (v := ?v38) hHeld ?hy38 ?_
      case hy38 => (intro w hSw; (try dsimp only at hSw); go_simp <;> first | with_reducible rfl | rw [if_neg (by omega)] | rw [if_pos (by omega)])
      (try simp only [PU])
      refine TK 7 (v := ?v39) hHeld ?hy39 ?_
      case hy39 => (intro w _; go_simp <;> rfl)
      (try simp only [PU])
      refine TK 8 (v := ?v40) hHeld ?hy40 ?_
      case hy40 => (intro w _; go_simp <;> first | with_reducible rfl | rw [if_neg (by omega)] | rw [if_pos (by omega)])
      (try simp only [PU])
      refine TK 9 (v := ?v41) hHeld ?hy41 ?_
      case hy41 => (intro w _; go_simp <;> first | with_reducible rfl | rw [if_neg (by omega)] | rw [if_pos (by omega)])
      (try simp only [PU])
      refine TK 10 (v := ?v42) hHeld ?hy42 ?_
      case hy42 => (intro w _; go_simp <;> rfl)
      (try simp only [PU])
      refine TK 11 (v := ?v43) hHeld ?hy43 ?_
      case hy43 => (intro w hSw; (try dsimp only at hSw); go_simp <;> first | with_reducible rfl | rw [if_neg (by omega)] | rw [if_pos (by omega)])
      (try simp only [PU])
      refine TK 12 (v := ?v44) hHeld ?hy44 ?_
      case hy44 => (intro w _; go_simp <;> first | with_reducible rfl | rw [if_neg (by omega)] | rw [if_pos (by omega)])
      (try simp only [PU])
      refine TK 13 (v := ?v45) hHeld ?hy45 ?_
      case hy45 => (intro w _; go_simp <;> rfl)
      (try simp only [PU])
      refine wpAnyH_done (by kernel_rfl) ?_ _
      clear hHeld
      clear MKR3
      go_wp2_with fail
      go_ret
      exact ⟨ret_int HR.out.symm, hEx.trans (by solve_by_elim [X0, X1, X2, X3])⟩
end Go.Proofs.YtigmdddeplnciaaGreatDoor

/- GRAPHS THAT COME IN. -/
namespace Go.Proofs.YtigmdddeplnciaaGreatDoor
open Go.ChangeShapes Go.WideShapes Go.ChangeAt Go.RowKit
open Go.ChangeMaps (open_string shut_string)
theorem twoL {α : Type} {l : List α} (h : l.length = 2) : ∃ a b, l = [a, b] := by
  match l, h with
  | [a, b], _ => exact ⟨a, b, rfl⟩
theorem three_L {α : Type} {l : List α} (h : l.length = 3) : ∃ a b c, l = [a, b, c] := by
  match l, h with
  | [a, b, c], _ => exact ⟨a, b, c, rfl⟩
theorem four_L {α : Type} {l : List α} (h : l.length = 4) : ∃ a b c d, l = [a, b, c, d] := by
  match l, h with
  | [a, b, c, d], _ => exact ⟨a, b, c, d, rfl⟩
theorem fiveL {α : Type} {l : List α} (h : l.length = 5) : ∃ a b c d e, l = [a, b, c, d, e] := by
  match l, h with
  | [a, b, c, d, e], _ => exact ⟨a, b, c, d, e, rfl⟩
theorem six_L {α : Type} {l : List α} (h : l.length = 6) : ∃ a b c d e f, l = [a, b, c, d, e, f] := by
  match l, h with
  | [a, b, c, d, e, f], _ => exact ⟨a, b, c, d, e, f, rfl⟩
theorem cellsProp : Tryz.prog.cellsOf 108 = 6 := by kernel_rfl
theorem cellsNode : Tryz.prog.cellsOf 45 = 3 := by kernel_rfl
theorem cellsEdge : Tryz.prog.cellsOf 47 = 5 := by kernel_rfl
theorem cellsGraph : Tryz.prog.cellsOf 25 = 4 := by kernel_rfl
theorem cellsProps : Tryz.prog.cellsOf 43 = 1 := by kernel_rfl
theorem cellsNodes : Tryz.prog.cellsOf 22 = 1 := by kernel_rfl
theorem cellsEdges : Tryz.prog.cellsOf 23 = 1 := by kernel_rfl
theorem bytesProp : 0 < Tryz.prog.bytesOf 108 := of_decide_eq_true (by kernel_rfl)
theorem bytesNode : 0 < Tryz.prog.bytesOf 45 := of_decide_eq_true (by kernel_rfl)
theorem bytesEdge : 0 < Tryz.prog.bytesOf 47 := of_decide_eq_true (by kernel_rfl)
section
variable {H : Type} {enc : TypeId × Value → H} {w : World} {base : Nat} {spare : Nat → Bool} {held : Bool}
set_option maxRecDepth 100000 in
theorem open_prop {fuel : Nat} {cs : List Value} {x : DataW H × List MemPlace} (hwt : ∀ k ∈ x.1.weights Tryz.prog 108, k ≤ reachBytes) (h : DataW.trod enc Tryz.prog w base spare held fuel 108 cs = some x) : ∃ v : PropG, (szV v.v) ∧ ∀ b o, (∀ j u, cs[j]? = some u → w.cell? ⟨b, o + j, none⟩ = some u) → PropC w (fun _ => True) b o v := by
  obtain ⟨xs, m, hm, hxx, hl, hlen, hg⟩ := DataW.trod_struct Tryz.underlying108 h
  rw [cellsProp] at hl
  obtain ⟨c0, c1, c2, c3, c4, c5, rfl⟩ := six_L hl
  obtain ⟨y0, y1, rfl⟩ := twoL (show xs.length = 2 from hlen)
  have g0 : DataW.trod enc Tryz.prog w base spare held m 9 (([c0, c1, c2, c3, c4, c5].drop 0).take (Tryz.prog.cellsOf 9)) = some y0 := hg 0 _ rfl
  rw [cellsStr] at g0
  have g1 : DataW.trod enc Tryz.prog w base spare held m 37 (([c0, c1, c2, c3, c4, c5].drop 1).take (Tryz.prog.cellsOf 37)) = some y1 := hg 1 _ rfl
  rw [cellsVal] at g1
  have hwe : ∀ k ∈ DataW.weightsEach Tryz.prog [9, 37] [y0.1, y1.1], k ≤ reachBytes := fun k hk => hwt k (by
    rw [show x.1 = .agg [y0.1, y1.1] from congrArg Prod.fst hxx]
    simp only [DataW.weights, Tryz.underlying108]
    exact hk)
  obtain ⟨s0, e0, x0, -⟩ := DataW.trod_string Tryz.underlying9 g0
  have z0 := str_small x0 (fun k hk => hwe k (DataW.weights_mem_each (j := 0) rfl rfl k hk))
  obtain ⟨v1, z1, d1⟩ := (open_both m).1 _ _ (fun k hk => hwe k (DataW.weights_mem_each (j := 1) rfl rfl k hk)) g1
  cases e0
  refine ⟨⟨s0, v1⟩, z1, fun b o hc => ⟨hc 0 _ rfl, d1 b (o + 1) (fun j u hu => ?_)⟩⟩
  have h6 := hc (j + 1) u (by simpa using hu)
  rwa [show o + (j + 1) = o + 1 + j by omega] at h6
theorem open_props {fuel : Nat} {cs : List Value} {x : DataW H × List MemPlace} (hwt : ∀ k ∈ x.1.weights Tryz.prog 43, k ≤ reachBytes) (h : DataW.trod enc Tryz.prog w base spare held fuel 43 cs = some x) :
    ∃ (l : List PropG) (A : Option Addr) (c : Nat), cs = [.slice A l.length c] ∧ l.length ≤ c ∧ SliceR (PropC w (fun _ => True)) 6 A l ∧ ∀ v ∈ l, szV v.v :=
  slice_gen (α := PropG) Tryz.underlying43 cellsProp bytesProp (by decide) (PropC w (fun _ => True)) (fun v => szV v.v) (fun _ _ _ _ hk hy => open_prop hk hy) hwt h
set_option maxRecDepth 100000 in
theorem open_edge {fuel : Nat} {cs : List Value} {x : DataW H × List MemPlace} (hwt : ∀ k ∈ x.1.weights Tryz.prog 47, k ≤ reachBytes) (h : DataW.trod enc Tryz.prog w base spare held fuel 47 cs = some x) : ∃ v : EdgeG, (∀ p ∈ v.props, szV p.v) ∧ ∀ b o, (∀ j u, cs[j]? = some u → w.cell? ⟨b, o + j, none⟩ = some u) → EdgeC w (fun _ => True) b o v := by
  obtain ⟨xs, m, hm, hxx, hl, hlen, hg⟩ := DataW.trod_struct Tryz.underlying47 h
  rw [cellsEdge] at hl
  obtain ⟨c0, c1, c2, c3, c4, rfl⟩ := fiveL hl
  obtain ⟨y0, y1, y2, y3, y4, rfl⟩ := fiveL (show xs.length = 5 from hlen)
  have g0 : DataW.trod enc Tryz.prog w base spare held m 3 (([c0, c1, c2, c3, c4].drop 0).take (Tryz.prog.cellsOf 3)) = some y0 := hg 0 _ rfl
  rw [cellsInt] at g0
  have g1 : DataW.trod enc Tryz.prog w base spare held m 3 (([c0, c1, c2, c3, c4].drop 1).take (Tryz.prog.cellsOf 3)) = some y1 := hg 1 _ rfl
  rw [cellsInt] at g1
  have g2 : DataW.trod enc Tryz.prog w base spare held m 3 (([c0, c1, c2, c3, c4].drop 2).take (Tryz.prog.cellsOf 3)) = some y2 := hg 2 _ rfl
  rw [cellsInt] at g2
  have g3 : DataW.trod enc Tryz.prog w base spare held m 9 (([c0, c1, c2, c3, c4].drop 3).take (Tryz.prog.cellsOf 9)) = some y3 := hg 3 _ rfl
  rw [cellsStr] at g3
  have g4 : DataW.trod enc Tryz.prog w base spare held m 43 (([c0, c1, c2, c3, c4].drop 4).take (Tryz.prog.cellsOf 43)) = some y4 := hg 4 _ rfl
  rw [cellsProps] at g4
  have hwe : ∀ k ∈ DataW.weightsEach Tryz.prog [3, 3, 3, 9, 43] [y0.1, y1.1, y2.1, y3.1, y4.1], k ≤ reachBytes := fun k hk => hwt k (by
    rw [show x.1 = .agg [y0.1, y1.1, y2.1, y3.1, y4.1] from congrArg Prod.fst hxx]
    simp only [DataW.weights, Tryz.underlying47]
    exact hk)
  obtain ⟨k0, e0, -, -⟩ := DataW.trod_int (k := .i64) Tryz.underlying3 g0
  obtain ⟨k1, e1, -, -⟩ := DataW.trod_int (k := .i64) Tryz.underlying3 g1
  obtain ⟨k2, e2, -, -⟩ := DataW.trod_int (k := .i64) Tryz.underlying3 g2
  obtain ⟨s3, e3, x3, -⟩ := DataW.trod_string Tryz.underlying9 g3
  have z3 := str_small x3 (fun k hk => hwe k (DataW.weights_mem_each (j := 3) rfl rfl k hk))
  obtain ⟨l4, A4, c4', e4, n4, v4, z4⟩ := open_props (fun k hk => hwe k (DataW.weights_mem_each (j := 4) rfl rfl k hk)) g4
  cases e0; cases e1; cases e2; cases e3; cases e4
  exact ⟨⟨k0, k1, k2, s3, l4⟩, z4, fun b o hc => ⟨trivial, hc 0 _ rfl, hc 1 _ rfl, hc 2 _ rfl, hc 3 _ rfl, A4, c4', hc 4 _ rfl, n4, v4⟩⟩
theorem open_edges {fuel : Nat} {cs : List Value} {x : DataW H × List MemPlace} (hwt : ∀ k ∈ x.1.weights Tryz.prog 23, k ≤ reachBytes) (h : DataW.trod enc Tryz.prog w base spare held fuel 23 cs = some x) :
    ∃ (l : List EdgeG) (A : Option Addr) (c : Nat), cs = [.slice A l.length c] ∧ l.length ≤ c ∧ SliceR (EdgeC w (fun _ => True)) 5 A l ∧ ∀ v ∈ l, ∀ p ∈ v.props, szV p.v :=
  slice_gen (α := EdgeG) Tryz.underlying23 cellsEdge bytesEdge (by decide) (EdgeC w (fun _ => True)) (fun v => ∀ p ∈ v.props, szV p.v) (fun _ _ _ _ hk hy => open_edge hk hy) hwt h
end
end Go.Proofs.YtigmdddeplnciaaGreatDoor

/- ROWS THAT A CALL OWNS whose elements have several cells and may lead to other blocks: any kind of element. -/
namespace Go.Proofs.YtigmdddeplnciaaGreatDoor
open Go.RowKit
/-- a kind of element: its cells, and what of it lies elsewhere -/
structure KindG (α : Type) where
  enc : α → List Value
  size : Nat
  lies : World → (Nat → Prop) → α → Prop
  len : ∀ h, (enc h).length = size
  one : ∀ h, ∀ u ∈ enc h, u.oneCell' = true
  keep : ∀ W W' (ok ok' : Nat → Prop) h, (∀ b o x, ok b → W.cell? ⟨b, o, none⟩ = some x → W'.cell? ⟨b, o, none⟩ = some x ∧ ok' b) → lies W ok h → lies W' ok' h
variable {α : Type} {K : KindG α} {e : TypeId} {W W' : World} {base : Nat} {ok0 : Nat → Prop} {v v' : Value} {hs : List α}
/-- the call's own row v holds the elements hs; what they lead to lies outside v's block, in blocks of the kind ok0 -/
structure OwnG (K : KindG α) (e : TypeId) (W : World) (base : Nat) (ok0 : Nat → Prop) (v : Value) (hs : List α) : Prop where
  own : W.ownsRow base e K.size v hs.length (hs.flatMap K.enc)
  lies : ∀ h ∈ hs, K.lies W (fun b => ok0 b ∧ some b ≠ v.ownBlock) h
theorem OwnG.nil (K : KindG α) (e : TypeId) (W : World) (base : Nat) (ok0 : Nat → Prop) : OwnG K e W base ok0 (.slice none 0 0) [] := ⟨World.ownsRow_nil _ _ _ _, fun _ h => absurd h (by simp)⟩
theorem OwnG.made (K : KindG α) (e : TypeId) (w : World) (base : Nat) (ok0 : Nat → Prop) (hb : base ≤ w.heap.size) : OwnG K e (w.alloc (.cells #[] e)) base ok0 (.slice (some ⟨w.heap.size, 0, none⟩) 0 0) [] :=
  ⟨World.ownsRow_made w #[] 0 hb (by unfold maxLen; omega) (by simp), fun _ h => absurd h (by simp)⟩
theorem OwnG.ext (h : OwnG K e W base ok0 v hs) (x : Ext W W') : OwnG K e W' base ok0 v hs :=
  ⟨own_ext h.own x, fun p hp => K.keep _ _ _ _ _ (fun _ _ _ hb hc => ⟨x.cell hc, hb⟩) (h.lies p hp)⟩
theorem OwnG.mono {base' : Nat} (h : OwnG K e W base ok0 v hs) (hb : base' ≤ base) : OwnG K e W base' ok0 v hs := ⟨own_mono h.own hb, h.lies⟩
theorem OwnG.to {ok1 : Nat → Prop} (h : OwnG K e W base ok0 v hs) (ho : ∀ b, ok0 b → ok1 b) : OwnG K e W base ok1 v hs :=
  ⟨h.own, fun p hp => K.keep _ _ _ _ _ (fun _ _ _ hb hc => ⟨hc, ho _ hb.1, hb.2⟩) (h.lies p hp)⟩
theorem OwnG.lt (h : OwnG K e W base ok0 v hs) {g : Nat} (hg : v.ownBlock = some g) : base ≤ g ∧ g < W.heap.size := World.ownsRow.lt h.own g hg
theorem OwnG.form (h : OwnG K e W base ok0 v hs) : ∃ A c, v = .slice A hs.length c := own_form h.own
/-- over a step that leaves v's block as it was -/
theorem OwnG.grown {row : Option Nat} (h : OwnG K e W base ok0 v hs) (hg : W.grownBy W' row) (hne : v.ownBlock = none ∨ v.ownBlock ≠ row) (hr : ∀ b, some b = row → ¬ ok0 b) : OwnG K e W' base ok0 v hs :=
  ⟨h.own.kept hg hne, fun p hp => K.keep _ _ _ _ _ (fun b _ _ hb hc => ⟨hg.cell hc (fun e2 => hr b e2 hb.1), hb⟩) (h.lies p hp)⟩
/-- an element's cells -/
theorem OwnG.cellAt {A : Option Addr} {n c : Nat} (h : OwnG K e W base ok0 (.slice A n c) hs) {i : Nat} (hi : i < hs.length) : ∃ g, A = some ⟨g, 0, none⟩ ∧ base ≤ g ∧ g < W.heap.size ∧ n = hs.length ∧ n ≤ c ∧ ∀ j, j < K.size → W.cell? ⟨g, i * K.size + j, none⟩ = (K.enc hs[i])[j]? ∧ W.frozen? ⟨g, i * K.size + j, none⟩ = false := by
  rcases h.own.2 with ⟨hv, h0⟩ | ⟨g, cap, cur, hv, hb, hh, hc, hm, hcs, htk⟩
  · omega
  · injection hv with h1 h2 h3
    subst h1 h2 h3
    refine ⟨g, rfl, hb, ?_, rfl, hc, fun j hj => ⟨?_, frozen_of_row W g _ cur e hh⟩⟩
    · rcases Nat.lt_or_ge g W.heap.size with h4 | h4
      · exact h4
      · rw [Array.getElem?_eq_none h4] at hh; cases hh
    · have h1 := flat_get K.enc K.size K.len hs i j hi hj
      rw [cell_of_row W g _ cur e (0, 0) hh, ← h1, ← htk, List.getElem?_take, if_pos (by
        have h2 : (i + 1) * K.size ≤ hs.length * K.size := Nat.mul_le_mul_right _ hi
        rw [Nat.add_mul] at h2; omega)]
      simp
theorem flat_set (f : α → List Value) (size : Nat) (hf : ∀ x, (f x).length = size) : ∀ (l : List α) (i j : Nat) (y : α) (u : Value) (hi : i < l.length), j < size → f y = (f l[i]).set j u → (l.set i y).flatMap f = (l.flatMap f).set (i * size + j) u
  | [], i, j, y, u, hi, _, _ => absurd hi (by simp)
  | x :: l, 0, j, y, u, _, hj, h => by
    rw [List.set_cons_zero, List.flatMap_cons, List.flatMap_cons, Nat.zero_mul, Nat.zero_add, List.set_append_left _ _ (by rw [hf]; exact hj)]
    rw [h]; rfl
  | x :: l, i + 1, j, y, u, hi, hj, h => by
    have e2 : (i + 1) * size + j = size + (i * size + j) := by rw [Nat.add_mul]; omega
    rw [List.set_cons_succ, List.flatMap_cons, List.flatMap_cons, List.set_append_right _ _ (by rw [hf]; omega), hf, e2, Nat.add_sub_cancel_left]
    rw [flat_set f size hf l i j y u (by simpa using hi) hj h]
/-- one cell of an element stored -/
theorem OwnG.stored {g n c : Nat} (h : OwnG K e W base ok0 (.slice (some ⟨g, 0, none⟩) n c) hs) {i j : Nat} (hi : i < hs.length) (hj : j < K.size) (y : α) (u : Value) (hy : K.enc y = (K.enc hs[i]).set j u) (hl : K.lies W (fun b => ok0 b ∧ some b ≠ some g) y) :
    OwnG K e (W.setCell ⟨g, i * K.size + j, none⟩ u) base ok0 (.slice (some ⟨g, 0, none⟩) n c) (hs.set i y) ∧ W.grownBy (W.setCell ⟨g, i * K.size + j, none⟩ u) (some g) := by
  obtain ⟨A, c', hv⟩ := own_form h.own
  injection hv with h1 h2 h3
  subst h2
  obtain ⟨k1, k2⟩ := World.ownsRow.stored h.own (i * K.size + j) u
  refine ⟨⟨?_, fun p hp => ?_⟩, k2⟩
  · rw [List.length_set, flat_set K.enc K.size K.len hs i j y u hi hj hy]; exact k1
  · have hlies : K.lies W (fun b => ok0 b ∧ some b ≠ (Value.slice (some ⟨g, 0, none⟩) hs.length c).ownBlock) p := by
      rcases List.mem_or_eq_of_mem_set hp with hp | hp
      · exact h.lies p hp
      · rw [hp]; exact hl
    exact K.keep _ _ _ _ _ (fun b o x hb hc => ⟨k2.cell hc (fun e2 => hb.2 (by rw [e2]; rfl)), hb⟩) hlies
section
variable {P : Program} {t bytes : Nat}
/-- one element appended: the run -/
theorem run_pushG (T : ElT P t e K.size bytes) (ty : TypeId) {w : World} (w0 : World) (h : OwnG K e w0 base ok0 v hs) (hb : base ≤ w0.heap.size) (x : α) (hx : K.lies w0 (fun b => ok0 b ∧ some b ≠ v.ownBlock) x)
    (hw : w = w0.alloc (.cells (K.enc x).toArray e)) (h63 : hs.length + 1 ≤ 8388608) (hbytes : bytes ≤ 1000000) :
    ∃ v' w', (Builtin.append_ #[t, t] ty #[v, .slice (some ⟨w0.heap.size, 0, none⟩) 1 1]).run P w = .ok v' w' ∧ OwnG K e w' base ok0 v' (hs ++ [x]) ∧ w0.grownBy w' v.ownBlock ∧ (v'.ownBlock = v.ownBlock ∨ v'.ownBlock = some (w0.heap.size + 1)) := by
  obtain ⟨v', w', hr, k1, k2, k3⟩ := run_pushK T ty base w0 v hs.length (hs.flatMap K.enc) (K.enc x) h.own hb hw (K.len x) (K.one x) h63 hbytes
  have hcell : ∀ b o y, (ok0 b ∧ some b ≠ v.ownBlock) → w0.cell? ⟨b, o, none⟩ = some y → w'.cell? ⟨b, o, none⟩ = some y ∧ (ok0 b ∧ some b ≠ v'.ownBlock) := fun b o y hb hc => by
    have hlt : b < w0.heap.size := block_lt_of_cell hc
    refine ⟨k2.cell hc hb.2, hb.1, ?_⟩
    rcases k3 with e2 | e2
    · rw [e2]; exact hb.2
    · rw [e2]
      intro e3
      injection e3 with e3
      omega
  refine ⟨v', w', hr, ⟨by rw [List.length_append, List.flatMap_append]; simpa using k1, fun p hp => ?_⟩, k2, k3⟩
  rcases List.mem_append.1 hp with hp | hp
  · exact K.keep _ _ _ _ _ hcell (h.lies p hp)
  · rw [List.mem_singleton.1 hp]; exact K.keep _ _ _ _ _ hcell hx
theorem own_pushG (T : ElT P t e K.size bytes) {ops : Array Oper} {rest : List Oper} {o : Oper} {a : Act} {Q : Exit → Act → World → Prop} {w : World} (hgd : o.guard = none) (s y : Operand)
    (ho : o.op = .call { callee := .builtin .append, args := #[s, y], argTypes := #[t, t] }) (w0 : World) (hs' : a.eval s = v) (h : OwnG K e w0 base ok0 v hs) (hb : base ≤ w0.heap.size) (x : α) (hx : K.lies w0 (fun b => ok0 b ∧ some b ≠ v.ownBlock) x)
    (hw : w = w0.alloc (.cells (K.enc x).toArray e)) (H : Nat) (hH : w0.heap.size = H) (hy : a.eval y = .slice (some ⟨H, 0, none⟩) 1 1) (h63 : hs.length + 1 ≤ 8388608) (hbytes : bytes ≤ 1000000)
    (hK : ∀ v' w', OwnG K e w' base ok0 v' (hs ++ [x]) → w0.grownBy w' v.ownBlock → (v'.ownBlock = v.ownBlock ∨ v'.ownBlock = some (w0.heap.size + 1)) → wpList P ops Q rest (a.put o.dst v') w') : wpList P ops Q (o :: rest) a w := by
  subst hH
  obtain ⟨v', w', hr, h1, h2, h3⟩ := run_pushG T o.type w0 h hb x hx hw h63 hbytes
  refine wpList_plain hgd fun K2 hK2 => ?_
  unfold Oper.wp execOp
  simp only [ho, resolve, invoke, builtin, Sem.run_bind, Sem.run_pure, Result.andThen_ok, List.map_toArray, List.map_cons, List.map_nil, hs', hy, hr]
  exact hK2 _ _ (hK v' w' h1 h2 h3)
end
/-- read as a slice: R from the cells and what lies elsewhere -/
theorem OwnG.slice {β : Type} {R : Nat → Nat → β → Prop} (f : α → β) (h : OwnG K e W base ok0 v hs) (hm : hs.length ≤ 140737488355328)
    (hR : ∀ g o x, base ≤ g → (∀ j u, (K.enc x)[j]? = some u → W.cell? ⟨g, o + j, none⟩ = some u) → K.lies W ok0 x → R g o (f x)) : ∃ A c, v = .slice A hs.length c ∧ hs.length ≤ c ∧ SliceR R K.size A (hs.map f) := by
  have hfl : (hs.map K.enc).flatten = hs.flatMap K.enc := by rw [List.flatMap_def]
  have h1 := own_sliceR (l := hs.map f) (R := R) (cs := hs.map K.enc) (size := K.size) (by rw [hfl]; exact h.own) (by simp) (by simp) (fun x hx => by obtain ⟨y, -, rfl⟩ := List.mem_map.1 hx; exact K.len y) (by simpa using hm) (fun g hg _ k hk hk' hcell => by
    have hk2 : k < hs.length := by simpa using hk
    rw [List.getElem_map] at hcell ⊢
    exact hR g _ _ hg hcell (K.keep _ _ _ _ _ (fun _ _ _ hb hc => ⟨hc, hb.1⟩) (h.lies _ (List.getElem_mem hk2))))
  rw [List.length_map] at h1
  exact h1
end Go.Proofs.YtigmdddeplnciaaGreatDoor

/- A ROW THAT A CALL OWNS, cut short: what lies behind the cut is cleared. -/
namespace Go.Proofs.YtigmdddeplnciaaGreatDoor
open Go.RowKit
theorem zeros_one {z : Array Value} (hz : ∀ v ∈ z.toList, v.oneCell' = true) (h0 : 0 < z.size) (n : Nat) : ∀ v ∈ (Builtin.zeroCells z n).toList, v.oneCell' = true := by
  intro v hv
  unfold Builtin.zeroCells at hv
  rw [Array.toList_map, List.mem_map] at hv
  obtain ⟨i, -, rfl⟩ := hv
  have hlt : i % z.size < z.size := Nat.mod_lt _ h0
  rw [getElem!_pos z _ hlt]
  exact hz _ (by simp)
variable {α : Type} {K : KindG α} {P : Program} {e : TypeId} {W : World} {base : Nat} {ok0 : Nat → Prop} {hs : List α}
theorem OwnG.cleared {t g n c i : Nat} {z : Value} (hu : P.underlying t = some (.slice e)) (hz : ∀ w, (zeroValue e).run P w = .ok z w) (hzs : z.cells.size = K.size) (hz1 : ∀ v ∈ z.cells.toList, v.oneCell' = true) (hs0 : 0 < K.size)
    (h : OwnG K e W base ok0 (.slice (some ⟨g, 0, none⟩) n c) hs) (hn : n = hs.length) (hi : i < n) :
    ∃ W', (∀ ty c', (Builtin.clear_ #[t] ty #[.slice (some ⟨g, i * K.size, none⟩) (n - i) c']).run P W = .ok (.tuple #[]) W') ∧ OwnG K e W' base ok0 (.slice (some ⟨g, 0, none⟩) i c) (hs.take i) ∧ W.grownBy W' (some g) := by
  subst hn
  rcases h.own.2 with ⟨hv, -⟩ | ⟨g', cap', cur, hv, hb, hh, hcp, hm, hcs, htk⟩
  · simp at hv
  · simp only [Value.slice.injEq, Option.some.injEq, Addr.mk.injEq, and_true, true_and] at hv
    obtain ⟨rfl, rfl⟩ := hv
    have hB : Blk W g e cur.toList := by unfold Blk; rw [Array.toArray_toList]; exact hh
    have hzl : (Builtin.zeroCells z.cells (hs.length - i)).size = (hs.length - i) * K.size := by rw [size_zeroCells, hzs]
    have hmul : i * K.size + (hs.length - i) * K.size = hs.length * K.size := by rw [← Nat.add_mul]; congr 1; omega
    have hcap : hs.length * K.size ≤ c * K.size := Nat.mul_le_mul_right _ hcp
    have hfit : i * K.size + (Builtin.zeroCells z.cells (hs.length - i)).size ≤ cur.toList.length := by
      have h1 : cur.toList.length = c * K.size := by rw [Array.length_toList]; exact hcs
      rw [hzl, h1]; omega
    have hgr : ∀ X : Array Value, W.grownBy (W.setRow g X) (some g) := fun X => ⟨rfl, rfl, rfl, by simp [World.setRow], fun k hk hne => setRow_other W g k X (fun e2 => hne (by rw [e2]))⟩
    refine ⟨W.setRow g (laidAt cur.toList (i * K.size) (Builtin.zeroCells z.cells (hs.length - i)).toList).toArray, fun ty c' => run_clearK (P := P) W t ty e g (i * K.size) (hs.length - i) c' z cur.toList e hu hz (by omega) hB hfit (zeros_one hz1 (by omega) _), ⟨?_, fun p hp => ?_⟩, hgr _⟩
    · have hlen : (hs.take i).length = i := by rw [List.length_take]; omega
      rw [hlen]
      refine Blk.own (cs := laidAt cur.toList (i * K.size) (Builtin.zeroCells z.cells (hs.length - i)).toList) (hB.set _) hb (by omega) hm (by rw [laidAt_len (by rw [Array.length_toList]; exact hfit), Array.length_toList, hcs]) ?_
      rw [take_laid_lt (by rw [Array.length_toList] at *; omega) (Nat.le_refl _), ← flat_takeK K.enc K.size K.len, ← htk, List.take_take, Nat.min_eq_left (Nat.mul_le_mul_right _ (Nat.le_of_lt hi))]
    · exact K.keep _ _ _ _ _ (fun b o x hb2 hc => ⟨(hgr _).cell hc (fun e2 => hb2.2 (by rw [e2]; rfl)), hb2⟩) (h.lies p (List.mem_of_mem_take hp))
theorem grown_two {a b c : World} {r : Option Nat} (p : a.grownBy b r) (q : b.grownBy c r) : a.grownBy c r := ⟨q.os.trans p.os, q.tape.trans p.tape, q.output.trans p.output, Nat.le_trans p.size q.size, fun k hk hne => (q.block k (Nat.lt_of_lt_of_le hk p.size) hne).trans (p.block k hk hne)⟩
theorem Ext.gr {a b : World} (h : Ext a b) (r : Option Nat) : a.grownBy b r := ⟨h.os, h.tape, h.output, h.size, fun k hk _ => h.block k hk⟩
end Go.Proofs.YtigmdddeplnciaaGreatDoor

/- PLAIN: numbers of fourteen digits in base 1000. No program. -/
namespace Go.Proofs.YtigmdddeplnciaaGreatDoor
/-- the first n digits -/
def valN : Nat → (Nat → Nat) → Nat
  | 0, _ => 0
  | n + 1, f => valN n f + f n * 1000 ^ n
theorem valW_exists (f : Nat → Nat) : ∃ v, ∀ n, n = 14 → v = valN n f := ⟨valN 14 f, fun n h => by rw [h]⟩
/-- the number (closed to unfolding: its powers are great) -/
noncomputable def valW (f : Nat → Nat) : Nat := Classical.choose (valW_exists f)
theorem valW_def (f : Nat → Nat) {n : Nat} (h : n = 14) : valW f = valN n f := Classical.choose_spec (valW_exists f) n h
/-- digits -/
def SmallW (f : Nat → Nat) : Prop := ∀ i, f i < 1000
def updW (f : Nat → Nat) (k v : Nat) : Nat → Nat := fun i => if i = k then v else f i
theorem updW_at (f : Nat → Nat) (k v : Nat) : updW f k v k = v := if_pos rfl
theorem updW_ne (f : Nat → Nat) {k i : Nat} (v : Nat) (h : i ≠ k) : updW f k v i = f i := if_neg h
theorem smallW_upd {f : Nat → Nat} {k v : Nat} (h : SmallW f) (hv : v < 1000) : SmallW (updW f k v) := by
  intro i; unfold updW; split
  · exact hv
  · exact h i
theorem valN_upd_ge (f : Nat → Nat) (k v : Nat) : ∀ n, n ≤ k → valN n (updW f k v) = valN n f
  | 0, _ => rfl
  | n + 1, h => by
    unfold valN
    rw [valN_upd_ge f k v n (by omega), updW_ne f v (by omega)]
theorem valN_upd (f : Nat → Nat) (k v : Nat) : ∀ n, k < n → valN n (updW f k v) + f k * 1000 ^ k = valN n f + v * 1000 ^ k
  | 0, h => absurd h (by omega)
  | n + 1, h => by
    unfold valN
    by_cases e : k = n
    · subst e
      rw [valN_upd_ge f k v k (Nat.le_refl _), updW_at]; omega
    · rw [updW_ne f v (show n ≠ k from fun q => e q.symm)]
      have := valN_upd f k v n (by omega)
      omega
theorem valW_upd (f : Nat → Nat) (k v : Nat) (h : k < 14) : valW (updW f k v) + f k * 1000 ^ k = valW f + v * 1000 ^ k := by
  obtain ⟨n, hn⟩ : ∃ n : Nat, n = 14 := ⟨_, rfl⟩
  rw [valW_def _ hn, valW_def _ hn]; exact valN_upd f k v n (by omega)
theorem valN_zero : ∀ n, valN n (fun _ => 0) = 0
  | 0 => rfl
  | n + 1 => by unfold valN; rw [valN_zero n]; simp
theorem valN_lt {f : Nat → Nat} (h : SmallW f) : ∀ n, valN n f < 1000 ^ n
  | 0 => by simp [valN]
  | n + 1 => by
    unfold valN
    have h1 := valN_lt h n
    have h2 := h n
    have h3 : f n * 1000 ^ n ≤ 999 * 1000 ^ n := Nat.mul_le_mul_right _ (by omega)
    rw [Nat.pow_succ]; omega
theorem pow_big {k : Nat} (h : 14 ≤ k) : 1000000000000000000000000000000000000000000 ≤ 1000 ^ k :=
  Nat.le_trans (by decide) (Nat.pow_le_pow_right (show 0 < 1000 by omega) h)
/-! times -/
/-- the round within: what the digits and the rest come to -/
structure InnerI (f : Nat → Nat) (i k c y d b T : Nat) : Prop where
  small : SmallW f
  sum : valW f + 1000 ^ k * (y + d * c) = T
  left : c * 1000 ^ k ≤ b * 1000 ^ i
  carry : y ≤ 1000
theorem InnerI.room {f : Nat → Nat} {i k c y d b T : Nat} (h : InnerI f i k c y d b T) (hb : b ≤ 1000000000000000) (hi : i ≤ 5) (hT : T ≤ 1000000000000000000000000000000) (hg : 0 < c ∨ 0 < y) : k < 14 := by
  rcases Nat.lt_or_ge k 14 with k1 | k1
  · exact k1
  · exfalso
    have hp := pow_big k1
    rcases hg with hc | hy
    · have h1 : b * 1000 ^ i ≤ 1000000000000000 * 1000 ^ 5 := Nat.mul_le_mul hb (Nat.pow_le_pow_right (by omega) hi)
      have h2 : 1000 ^ k ≤ c * 1000 ^ k := Nat.le_mul_of_pos_left _ hc
      have h3 := h.left
      have h4 : 1000000000000000 * 1000 ^ 5 = 1000000000000000000000000000000 := by decide
      omega
    · have h1 := h.sum
      have h2 : 1000 ^ k * 1 ≤ 1000 ^ k * (y + d * c) := Nat.mul_le_mul_left _ (by omega)
      omega
theorem InnerI.step {f : Nat → Nat} {i k c y d b T : Nat} (h : InnerI f i k c y d b T) (hd : d < 1000) (hk : k < 14) :
    InnerI (updW f k ((y + f k + d * (c % 1000)) % 1000)) i (k + 1) (c / 1000) ((y + f k + d * (c % 1000)) / 1000) d b T := by
  have hs := h.small k
  have hy := h.carry
  have hm : d * (c % 1000) ≤ 999 * 999 := Nat.mul_le_mul (by omega) (by omega)
  have hc : d * c = d * (c % 1000) + 1000 * (d * (c / 1000)) := by
    have := Nat.div_add_mod c 1000
    calc d * c = d * (1000 * (c / 1000) + c % 1000) := by rw [this]
      _ = _ := by rw [Nat.mul_add, Nat.mul_left_comm]; omega
  refine ⟨smallW_upd h.small (Nat.mod_lt _ (by omega)), ?_, ?_, by omega⟩
  · have e := h.sum
    have u := valW_upd f k ((y + f k + d * (c % 1000)) % 1000) hk
    rw [hc] at e
    rw [Nat.pow_succ]
    generalize d * (c % 1000) = m at *
    generalize d * (c / 1000) = n at *
    generalize f k = z at *
    generalize 1000 ^ k = p at *
    have q := Nat.div_add_mod (y + z + m) 1000
    generalize (y + z + m) / 1000 = t at *
    generalize (y + z + m) % 1000 = r at *
    generalize valW f = v at *
    generalize valW (updW f k r) = v' at *
    have e1 : p * 1000 * (t + n) = p * (1000 * t) + p * (1000 * n) := by grind
    have e2 : p * (y + (m + 1000 * n)) = p * y + p * m + p * (1000 * n) := by grind
    have e3 : p * (1000 * t) + p * r = p * y + p * z + p * m := by
      have : p * (1000 * t + r) = p * (y + z + m) := by rw [q]
      grind
    rw [Nat.mul_comm z p, Nat.mul_comm r p] at u
    omega
  · have l := h.left
    rw [Nat.pow_succ]
    have : c / 1000 * (1000 ^ k * 1000) ≤ c * 1000 ^ k := by
      rw [Nat.mul_comm (1000 ^ k), ← Nat.mul_assoc]
      exact Nat.mul_le_mul_right _ (Nat.div_mul_le_self c 1000)
    omega
structure OuterI (f : Nat → Nat) (i a b a0 : Nat) : Prop where
  small : SmallW f
  sum : valW f + 1000 ^ i * (a * b) = a0 * b
  left : a * 1000 ^ i ≤ a0
theorem OuterI.room {f : Nat → Nat} {i a b a0 : Nat} (h : OuterI f i a b a0) (ha : a0 ≤ 1000000000000000) (hg : 0 < a) : i ≤ 5 := by
  rcases Nat.lt_or_ge i 6 with k | k
  · omega
  · exfalso
    have h1 : 1000 ^ 6 ≤ 1000 ^ i := Nat.pow_le_pow_right (by omega) k
    have h2 : 1000 ^ i ≤ a * 1000 ^ i := Nat.le_mul_of_pos_left _ hg
    have := h.left
    have h4 : 1000 ^ 6 = 1000000000000000000 := by decide
    omega
theorem OuterI.start (a0 b : Nat) : OuterI (fun _ => 0) 0 a0 b a0 := by
  refine ⟨fun _ => by omega, ?_, by simp⟩
  obtain ⟨n, hn⟩ : ∃ n : Nat, n = 14 := ⟨_, rfl⟩
  rw [valW_def _ hn, valN_zero]; simp
theorem OuterI.enter {f : Nat → Nat} {i a b a0 : Nat} (h : OuterI f i a b a0) : InnerI f i i b 0 (a % 1000) b (valW f + 1000 ^ i * (a % 1000 * b)) := by
  refine ⟨h.small, by simp, Nat.le_refl _, by omega⟩
theorem OuterI.total {f : Nat → Nat} {i a b a0 : Nat} (h : OuterI f i a b a0) : valW f + 1000 ^ i * (a % 1000 * b) ≤ a0 * b := by
  have := h.sum
  have h1 : a % 1000 * b ≤ a * b := Nat.mul_le_mul_right _ (Nat.mod_le _ _)
  have h2 : 1000 ^ i * (a % 1000 * b) ≤ 1000 ^ i * (a * b) := Nat.mul_le_mul_left _ h1
  omega
theorem OuterI.leave {f g : Nat → Nat} {i k a b a0 : Nat} (h : OuterI f i a b a0) (hI : InnerI g i k 0 0 (a % 1000) b (valW f + 1000 ^ i * (a % 1000 * b))) : OuterI g (i + 1) (a / 1000) b a0 := by
  refine ⟨hI.small, ?_, ?_⟩
  · have e := h.sum
    have e2 := hI.sum
    simp only [Nat.mul_zero, Nat.add_zero] at e2
    rw [e2, Nat.pow_succ]
    have q := Nat.div_add_mod a 1000
    have e3 : 1000 ^ i * (a * b) = 1000 ^ i * (a % 1000 * b) + 1000 ^ i * 1000 * (a / 1000 * b) := by
      calc 1000 ^ i * (a * b) = 1000 ^ i * ((1000 * (a / 1000) + a % 1000) * b) := by rw [q]
        _ = _ := by grind
    omega
  · have l := h.left
    rw [Nat.pow_succ]
    have : a / 1000 * (1000 ^ i * 1000) ≤ a * 1000 ^ i := by
      rw [Nat.mul_comm (1000 ^ i), ← Nat.mul_assoc]
      exact Nat.mul_le_mul_right _ (Nat.div_mul_le_self a 1000)
    omega
theorem OuterI.done {f : Nat → Nat} {i b a0 : Nat} (h : OuterI f i 0 b a0) : valW f = a0 * b := by
  have := h.sum; simpa using this
/-! plus, minus -/
structure PlusI (x y f : Nat → Nat) (k c : Nat) : Prop where
  small : SmallW f
  sum : valN k f + 1000 ^ k * c = valN k x + valN k y
  carry : c ≤ 1
theorem PlusI.start (x y : Nat → Nat) : PlusI x y (fun _ => 0) 0 0 := ⟨fun _ => by omega, rfl, by omega⟩
theorem PlusI.step {x y f : Nat → Nat} {k c : Nat} (h : PlusI x y f k c) (hx : SmallW x) (hy : SmallW y) : PlusI x y (updW f k ((c + x k + y k) % 1000)) (k + 1) ((c + x k + y k) / 1000) := by
  have h1 := hx k
  have h2 := hy k
  have h3 := h.carry
  refine ⟨smallW_upd h.small (Nat.mod_lt _ (by omega)), ?_, by omega⟩
  unfold valN
  rw [valN_upd_ge f k _ k (Nat.le_refl _), updW_at, Nat.pow_succ]
  have e := h.sum
  have q := Nat.div_add_mod (c + x k + y k) 1000
  generalize (c + x k + y k) / 1000 = t at *
  generalize (c + x k + y k) % 1000 = r at *
  generalize 1000 ^ k = p at *
  have e3 : r * p + p * 1000 * t = p * c + x k * p + y k * p := by
    have : p * (1000 * t + r) = p * (c + x k + y k) := by rw [q]
    grind
  omega
theorem PlusI.done {x y f : Nat → Nat} {n c : Nat} (hn : n = 14) (h : PlusI x y f n c) (hs : valW x + valW y < 1000000000000000000000000000000000000000000) : valW f = valW x + valW y := by
  have e := h.sum
  have hc := h.carry
  have hp := pow_big (show 14 ≤ n by omega)
  rw [valW_def _ hn, valW_def _ hn] at hs
  rw [valW_def _ hn, valW_def _ hn, valW_def _ hn]
  rcases Nat.eq_zero_or_pos c with k | k
  · subst k; omega
  · obtain rfl : c = 1 := by omega
    omega
structure MinusI (x y f : Nat → Nat) (k : Nat) (c : Int) : Prop where
  small : SmallW f
  sum : (valN k f : Int) + 1000 ^ k * c = valN k x - valN k y
  carry : -1 ≤ c ∧ c ≤ 0
theorem MinusI.start (x y : Nat → Nat) : MinusI x y (fun _ => 0) 0 0 := ⟨fun _ => by omega, rfl, by omega⟩
theorem MinusI.low {x y f : Nat → Nat} {k : Nat} {c : Int} (h : MinusI x y f k c) (hx : SmallW x) (hy : SmallW y) (hn : c + x k - y k < 0) : MinusI x y (updW f k (c + x k - y k + 1000).toNat) (k + 1) (-1) := by
  have h1 := hx k
  have h2 := hy k
  have h3 := h.carry
  refine ⟨smallW_upd h.small (by omega), ?_, by omega⟩
  unfold valN
  rw [valN_upd_ge f k _ k (Nat.le_refl _), updW_at, Int.pow_succ]
  have e := h.sum
  have q : (((c + x k - y k + 1000).toNat : Nat) : Int) = c + x k - y k + 1000 := by omega
  simp only [Int.natCast_add, Int.natCast_mul, Int.natCast_pow, q]
  generalize ((1000 : Nat) : Int) ^ k = p at *
  grind
theorem MinusI.high {x y f : Nat → Nat} {k : Nat} {c : Int} (h : MinusI x y f k c) (hx : SmallW x) (hy : SmallW y) (hn : ¬ c + x k - y k < 0) : MinusI x y (updW f k (c + x k - y k).toNat) (k + 1) 0 := by
  have h1 := hx k
  have h2 := hy k
  have h3 := h.carry
  refine ⟨smallW_upd h.small (by omega), ?_, by omega⟩
  unfold valN
  rw [valN_upd_ge f k _ k (Nat.le_refl _), updW_at, Int.pow_succ]
  have e := h.sum
  have q : (((c + x k - y k).toNat : Nat) : Int) = c + x k - y k := by omega
  simp only [Int.natCast_add, Int.natCast_mul, Int.natCast_pow, q]
  generalize ((1000 : Nat) : Int) ^ k = p at *
  grind
theorem MinusI.done {x y f : Nat → Nat} {n : Nat} {c : Int} (hn : n = 14) (h : MinusI x y f n c) (hs : valW y ≤ valW x) : valW f = valW x - valW y := by
  have e := h.sum
  have hc := h.carry
  have hl := valN_lt h.small n
  rw [valW_def _ hn, valW_def _ hn] at hs
  rw [valW_def _ hn, valW_def _ hn, valW_def _ hn]
  rcases (show c = 0 ∨ c = -1 by omega) with k | k
  · subst k; omega
  · subst k
    have : ((1000 : Int) ^ n) = ((1000 ^ n : Nat) : Int) := by simp
    rw [this] at e
    omega
/-! from the top -/
/-- the digits from k on -/
def hiW (f : Nat → Nat) (k : Nat) : Nat := if h : k < 14 then f k + 1000 * hiW f (k + 1) else 0
termination_by 14 - k
theorem hiW_end (f : Nat → Nat) : hiW f 14 = 0 := by rw [hiW, dif_neg (by omega)]
theorem hiW_stop (f : Nat → Nat) {k : Nat} (h : 14 ≤ k) : hiW f k = 0 := by rw [hiW, dif_neg (by omega)]
theorem hiW_step (f : Nat → Nat) {k : Nat} (h : k < 14) : hiW f k = f k + 1000 * hiW f (k + 1) := by rw [hiW, dif_pos h]
theorem val_hi (f : Nat → Nat) : ∀ n k, n + k = 14 → valN k f + 1000 ^ k * hiW f k = valW f
  | 0, k, h => by rw [valW_def f (show k = 14 by omega), hiW_stop f (by omega)]; simp
  | n + 1, k, h => by
    have ih := val_hi f n (k + 1) (by omega)
    rw [hiW_step f (by omega)]
    unfold valN at ih
    rw [Nat.pow_succ] at ih
    rw [← ih]; grind
theorem hiW_zero (f : Nat → Nat) : hiW f 0 = valW f := by
  have := val_hi f 14 0 rfl
  unfold valN at this
  simpa using this
theorem hiW_upd (f : Nat → Nat) (k v : Nat) : ∀ n j, n + j = 14 → k < j → hiW (updW f k v) j = hiW f j
  | 0, j, h, _ => by rw [hiW_stop _ (by omega), hiW_stop _ (by omega)]
  | n + 1, j, h, hk => by
    rw [hiW_step _ (show j < 14 by omega), hiW_step _ (show j < 14 by omega), hiW_upd f k v n (j + 1) (by omega) (by omega), updW_ne f v (by omega)]
/-- the long division -/
structure PartI (x f : Nat → Nat) (d k r : Nat) : Prop where
  small : SmallW f
  sum : hiW x k = d * hiW f k + r
  rest : r < d
theorem PartI.start (x : Nat → Nat) {d : Nat} (h : 0 < d) : PartI x (fun _ => 0) d 14 0 := ⟨fun _ => by omega, by rw [hiW_end, hiW_end]; simp, h⟩
theorem PartI.step {x f : Nat → Nat} {d k r : Nat} (h : PartI x f d (k + 1) r) (hx : SmallW x) (hk : k < 14) : PartI x (updW f k ((r * 1000 + x k) / d)) d k ((r * 1000 + x k) % d) := by
  have hd : 0 < d := by have := h.rest; omega
  have h1 := hx k
  have h2 := h.rest
  refine ⟨smallW_upd h.small ?_, ?_, Nat.mod_lt _ hd⟩
  · rw [Nat.div_lt_iff_lt_mul hd]
    have : r * 1000 + 1000 ≤ d * 1000 := by omega
    omega
  · rw [hiW_step x hk, hiW_step _ hk, updW_at, hiW_upd f k _ (14 - (k + 1)) (k + 1) (by omega) (by omega), h.sum]
    have q := Nat.div_add_mod (r * 1000 + x k) d
    generalize (r * 1000 + x k) / d = t at *
    generalize (r * 1000 + x k) % d = s at *
    grind
theorem PartI.done {x f : Nat → Nat} {d r : Nat} (h : PartI x f d 0 r) : valW f = valW x / d ∧ r = valW x % d := by
  have e := h.sum
  rw [hiW_zero, hiW_zero] at e
  have hr := h.rest
  constructor
  · rw [e, Nat.mul_comm, Nat.add_comm, Nat.add_mul_div_right _ _ (by omega), Nat.div_eq_of_lt hr]; omega
  · rw [e, Nat.mul_comm, Nat.add_comm, Nat.add_mul_mod_self_right, Nat.mod_eq_of_lt hr]
/-- order: the first digit from the top that differs decides -/
def SameFrom (x y : Nat → Nat) (k : Nat) : Prop := hiW x k = hiW y k
theorem order_lt {x y : Nat → Nat} {k : Nat} (hx : SmallW x) (hk : k < 14) (h : SameFrom x y (k + 1)) (hl : x k < y k) : valW x < valW y := by
  have e1 := val_hi x (14 - (k + 1)) (k + 1) (by omega)
  have e2 := val_hi y (14 - (k + 1)) (k + 1) (by omega)
  unfold SameFrom at h
  rw [h] at e1
  have b := valN_lt hx k
  unfold valN at e1 e2
  have : x k * 1000 ^ k + 1000 ^ k ≤ y k * 1000 ^ k := by
    have := Nat.mul_le_mul_right (1000 ^ k) (show x k + 1 ≤ y k by omega)
    rw [Nat.add_mul, Nat.one_mul] at this; exact this
  omega
theorem SameFrom.step {x y : Nat → Nat} {k : Nat} (hk : k < 14) (h : SameFrom x y (k + 1)) (he : x k = y k) : SameFrom x y k := by
  unfold SameFrom at *; rw [hiW_step x hk, hiW_step y hk, h, he]
theorem SameFrom.symm {x y : Nat → Nat} {k : Nat} (h : SameFrom x y k) : SameFrom y x k := Eq.symm h
theorem SameFrom.start (x y : Nat → Nat) : SameFrom x y 14 := by unfold SameFrom; rw [hiW_end, hiW_end]
theorem SameFrom.done {x y : Nat → Nat} (h : SameFrom x y 0) : valW x = valW y := by unfold SameFrom at h; rw [hiW_zero, hiW_zero] at h; exact h
end Go.Proofs.YtigmdddeplnciaaGreatDoor
