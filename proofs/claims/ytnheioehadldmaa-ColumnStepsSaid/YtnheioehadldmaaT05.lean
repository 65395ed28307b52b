/- PARTS OF THE WALKS, joined: Gd, Ge, LaidX, CoA, Adj, CoB. -/
import Derived.Test.YtnheioehadldmaaT04
import Derived.Laws.BitsAllLaws
import Derived.Test.YtnheioehadldmaaT03
import Derived.Test.YtnheioehadldmaaT00
import Derived.Test.YtnheioehadldmaaT01
/- THE WALKS over the search for a node by its id: graph.has, the reference's Node; over the types of edges. -/
namespace Go.Proofs.Ytnheioehadldmaa
open Go.RowKit
theorem gr_has1 (n : Int) (A B : Option Addr) (na c nb d : Nat) (m : Int) (w : World) :
  Calls Try.prog 74 #[.agg #[.int .i64 n, .slice A na c, .slice B nb d], .int .i64 m] w fun e w' => e = .returned (.int .i64 (Lib.compareInt n m)) ∧ Ext w w' := by
 go_enter Try.func74, Try.ntmps74
 go_wp2_with (go_at_call 51; ((with_reducible refine (c_cmp_int _ _ _).mono ?_); rintro e w' ⟨rfl, rfl⟩))
 go_ret
 exact ⟨rfl, (Ext.refl _).alloc _⟩
theorem hasN_at {l : List NodeG} {n : Int} (i : Nat) (hi : i < l.length) (h : l[i]!.id = n) : hasN l n = true := by
 unfold hasN
 rw [List.any_eq_true]
 exact ⟨l[i], List.getElem_mem hi, by rw [getElem!_pos l i hi] at h; exact decide_eq_true h⟩
theorem hasN_no {l : List NodeG} {n : Int} (h : ∀ i, i < l.length → l[i]!.id ≠ n) : hasN l n = false := by
 unfold hasN
 rw [List.any_eq_false]
 intro x hx
 obtain ⟨i, hi, rfl⟩ := List.getElem_of_mem hx
 have := h i hi
 rw [getElem!_pos l i hi] at this
 rw [decide_eq_false this]; exact Bool.false_ne_true
theorem cmpI_lt {a b : Int} (h : a < b) : Lib.compareInt a b = -1 := by unfold Lib.compareInt; rw [if_pos h]
theorem cmpI_ge {a b : Int} (h : ¬ a < b) : ¬ Lib.compareInt a b < 0 := by unfold Lib.compareInt; rw [if_neg h]; split <;> omega
theorem cmpI_eq (a : Int) : Lib.compareInt a a = 0 := by unfold Lib.compareInt; rw [if_neg (by omega), if_neg (by omega)]
theorem cmpI_ne {a b : Int} (h : a ≠ b) : Lib.compareInt a b ≠ 0 := by unfold Lib.compareInt; split <;> (try split) <;> omega
set_option maxRecDepth 100000 in
set_option maxHeartbeats 1600000 in
theorem gr_BSF (l : List NodeG) (ok : Nat → Prop) (A : Option Addr) (c : Nat) (n : Int) (w : World) (hv : Nodes w ok A l) (hsort : ∀ i j, i < j → j < l.length → l[i]!.id < l[j]!.id) :
  Calls Try.prog 73 #[.slice A l.length c, .int .i64 n, .func (.func 74) #[] #[]] w fun e w' => (∃ i : Int, e = .returned (.tuple #[.int .i64 i, .bool (hasN l n)])) ∧ Ext w w' := by
 have hm := hv.len
 have HV := Lib.hid hv
 have HY := Lib.hid (hasN_at (l := l) (n := n))
 have HN := Lib.hid (hasN_no (l := l) (n := n))
 have HS := Lib.hid hsort
 generalize hasN l n = R at *
 clear hv hsort
 go_enter Try.func73, Try.ntmps73
 go_wp2_with fail
 go_loopw [9, 10] (fun u v W => ∃ i j : Nat, u = .int .i64 i ∧ v = .int .i64 j ∧ i ≤ j ∧ j ≤ l.length ∧ Hid (∀ t, t < i → l[t]!.id < n) ∧ Hid (∀ t, j ≤ t → t < l.length → n ≤ l[t]!.id) ∧ Ext w W) (fun u v _ => (intOf v - intOf u).toNat)
 case atStart => exact ⟨0, l.length, rfl, rfl, Nat.zero_le _, Nat.le_refl _, Lib.hid (fun t ht => absurd ht (by omega)), Lib.hid (fun t h1 h2 => absurd h1 (by omega)), Ext.refl _⟩
 case round =>
  obtain ⟨i, j, rfl, rfl, hij, hjl, hlo, hhi, hE⟩ := hrel
  by_cases hlt : i < j
  ·obtain ⟨b, off, rfl, hc⟩ := HV.out.2 (by omega)
   have hm1 : (i + j) / 2 < l.length := by omega
   obtain ⟨-, d0, A', c', B', d', d1, -, -, d2, -, -⟩ := (hc ((i + j) / 2) hm1).ext hE
   rw [← getElem!_pos l ((i + j) / 2) hm1] at d0 d1 d2
   have HL := Lib.hid (fun (h : l[(i + j) / 2]!.id < n) t (ht : t < (i + j) / 2 + 1) => (if e : t = (i + j) / 2 then (by rw [e]; exact h) else (Int.lt_trans (HS.out t _ (by omega) hm1) h) : l[t]!.id < n))
   have HH := Lib.hid (fun (h : n ≤ l[(i + j) / 2]!.id) t (ht : (i + j) / 2 ≤ t) (htl : t < l.length) => (if e : t = (i + j) / 2 then (by rw [e]; exact h) else (Int.le_trans h (Int.le_of_lt (HS.out _ t (by omega) htl))) : n ≤ l[t]!.id))
   clear hc
   generalize l[(i + j) / 2]! = x at *
   have q1 : (0 : Int) ≤ ((i : Int) + (j : Int)) / 2 := by omega
   have q2 : ((i : Int) + (j : Int)) / 2 < (l.length : Int) := by omega
   have q3 : (((i : Int) + (j : Int)) / 2).toNat = (i + j) / 2 := by omega
   by_cases ho : x.id < n
   ·have HX := Lib.hid (HL.out ho)
    have HC := Lib.hid (fun W => gr_has1 x.id A' B' x.labels.length c' x.props.length d' n W)
    rw [cmpI_lt ho] at HC
    clear ho HL HH
    go_wp2_with (go_at_call 74; ((with_reducible refine (HC.out _).mono ?_); rintro e w8 ⟨rfl, hx8⟩))
    go_roundw
    case rel => exact ⟨(i + j) / 2 + 1, j, congrArg (Value.int .i64) (by omega), rfl, by omega, hjl, HX, hhi, hE.trans hx8⟩
    case measure => simp [intOf]; omega
   ·have HX := Lib.hid (HH.out (by omega))
    have ho' := cmpI_ge ho
    have HC := Lib.hid (fun W => gr_has1 x.id A' B' x.labels.length c' x.props.length d' n W)
    generalize Lib.compareInt x.id n = z at *
    have ho2 : decide (z < 0) = false := decide_eq_false ho'
    clear ho ho' HL HH
    go_wp2_with (go_at_call 74; ((with_reducible refine (HC.out _).mono ?_); rintro e w8 ⟨rfl, hx8⟩))
    go_roundw
    case rel => exact ⟨i, (i + j) / 2, rfl, congrArg (Value.int .i64) (by omega), by omega, by omega, hlo, HX, hE.trans hx8⟩
    case measure => simp [intOf]; omega
  ·obtain rfl : i = j := by omega
   by_cases hin : i < l.length
   ·obtain ⟨b, off, rfl, hc⟩ := HV.out.2 (by omega)
    obtain ⟨-, d0, A', c', B', d', d1, -, -, d2, -, -⟩ := (hc i hin).ext hE
    rw [← getElem!_pos l i hin] at d0 d1 d2
    have HX1 := Lib.hid (HY.out i hin)
    have HX2 := Lib.hid (fun (h : l[i]!.id ≠ n) => HN.out (fun t ht => by
     rcases Nat.lt_trichotomy t i with h1 | h1 | h1
     ·have := hlo.out t h1; omega
     ·rw [h1]; exact h
     ·have h2 := hhi.out i (Nat.le_refl _) hin
      have h3 := HS.out i t h1 ht
      omega))
    have HC := Lib.hid (fun W => gr_has1 l[i]!.id A' B' l[i]!.labels.length c' l[i]!.props.length d' n W)
    clear hc HY HN
    generalize l[i]! = x at *
    by_cases he : x.id = n
    ·have HT := Lib.hid (HX1.out he)
     rw [he] at d0 HC
     rw [cmpI_eq] at HC
     clear he HX1 HX2
     go_wp2_with (go_at_call 74; ((with_reducible refine (HC.out _).mono ?_); rintro e w8 ⟨rfl, hx8⟩))
     go_ret2
     exact ⟨⟨(i : Int), by rw [HT.out]; rfl⟩, hE.trans hx8⟩
    ·have HT := Lib.hid (HX2.out he)
     have hz : (Lib.compareInt x.id n == 0) = false := beq_eq_false_iff_ne.2 (cmpI_ne he)
     generalize Lib.compareInt x.id n = z at *
     clear he HX1 HX2
     go_wp2_with (go_at_call 74; ((with_reducible refine (HC.out _).mono ?_); rintro e w8 ⟨rfl, hx8⟩))
     go_ret2
     exact ⟨⟨(i : Int), by rw [HT.out]; rfl⟩, hE.trans hx8⟩
   ·have HT := Lib.hid (HN.out (fun t ht => by have := hlo.out t (by omega); omega))
    go_wp2_with fail
    go_ret2
    exact ⟨⟨(i : Int), by rw [HT.out]; rfl⟩, hE⟩
set_option maxRecDepth 100000 in
theorem gr_has (l : List NodeG) (ok : Nat → Prop) (A : Option Addr) (c : Nat) (n : Int) (w : World) (hv : Nodes w ok A l) (hsort : ∀ i j, i < j → j < l.length → l[i]!.id < l[j]!.id) :
  Calls Try.prog 60 #[.slice A l.length c, .int .i64 n] w fun e w' => e = .returned (.bool (hasN l n)) ∧ Ext w w' := by
 have HC := Lib.hid (gr_BSF l ok A c n w hv hsort)
 clear hv hsort
 generalize hasN l n = R at *
 go_enter Try.func60, Try.ntmps60
 go_wp2_with (go_at_call 73; ((with_reducible refine (HC.out).mono ?_); rintro e w8 ⟨⟨i, rfl⟩, hx8⟩))
 go_ret
 exact ⟨rfl, hx8⟩
theorem box_graph (w : World) (A B : Option Addr) (c d : Nat) (g : GraphG) (t : TypeId) : ∃ (q : Nat) (w1 : World), q = w.heap.size ∧ w1 = w.alloc (.cells #[.slice A g.nodes.length c, .slice B g.edges.length d, .int .i64 g.nn, .int .i64 g.ne] t) ∧ w1.cell? ⟨q, 0, none⟩ = some (.slice A g.nodes.length c) ∧ w1.cell? ⟨q, 1, none⟩ = some (.slice B g.edges.length d) ∧ w1.cell? ⟨q, 2, none⟩ = some (.int .i64 g.nn) ∧ w1.cell? ⟨q, 3, none⟩ = some (.int .i64 g.ne) ∧ Ext w w1 :=
 ⟨_, _, rfl, rfl, by go_simp, by go_simp, by go_simp, by go_simp, (Ext.refl _).alloc _⟩
def typB (types : List ByteArray) (t : ByteArray) : Bool := decide (types.length = 0) || memB t types
set_option maxRecDepth 100000 in
theorem gr_HasType (types : List ByteArray) (x : EdgeG) (ok : Nat → Prop) (A B : Option Addr) (c m d : Nat) (w : World) (hv : Strs w ok A types) :
  Calls Try.prog 47 #[.agg #[.int .i64 x.id, .int .i64 x.frm, .int .i64 x.to_, .string x.typ, .slice B m d], .slice A types.length c] w fun e w' => e = .returned (.bool (typB types x.typ)) ∧ Ext w w' := by
 have hm := hv.len
 have HC := Lib.hid (fun W (e : Ext w W) => s_ContainsS types x.typ ok A c W (hv.ext e))
 have HQ := Lib.hid (show typB types x.typ = (decide (types.length = 0) || memB x.typ types) from rfl)
 generalize typB types x.typ = R at *
 generalize memB x.typ types = q at *
 clear hv
 by_cases h0 : types.length = 0
 ·have hz : ((types.length : Int) == 0) = true := by rw [h0]; rfl
  go_enter Try.func47, Try.ntmps47
  go_wp2_with (go_at_call 62; ((with_reducible refine (HC.out _ (by solve_by_elim [X0, X1, X2, X3])).mono ?_); rintro e w8 ⟨rfl, rfl⟩))
  go_ret
  exact ⟨ret_bool (by rw [HQ.out, decide_eq_true h0]; rfl), (by solve_by_elim [X0, X1, X2, X3])⟩
 ·have hz : ((types.length : Int) == 0) = false := beq_eq_false_iff_ne.2 (by omega)
  have HR := Lib.hid (show R = q by rw [HQ.out, decide_eq_false h0]; rfl)
  clear h0 HQ
  go_enter Try.func47, Try.ntmps47
  go_wp2_with (go_at_call 62; ((with_reducible refine (HC.out _ (by solve_by_elim [X0, X1, X2, X3])).mono ?_); rintro e w8 ⟨rfl, rfl⟩))
  go_ret
  exact ⟨ret_bool HR.out.symm, (by solve_by_elim [X0, X1, X2, X3])⟩
end Go.Proofs.Ytnheioehadldmaa

/- THE WALKS over the reference's node, edge, Check of a graph. -/
namespace Go.Proofs.Ytnheioehadldmaa
open Go.RowKit
/-- no string of a graph's values is longer than the platform's room -/
structure SzG (g : GraphG) : Prop where
 nodes : ∀ n ∈ g.nodes, ∀ p ∈ n.props, szV p.v
 edges : ∀ e ∈ g.edges, ∀ p ∈ e.props, szV p.v
theorem Nodes.at_ {w : World} {ok : Nat → Prop} {A : Option Addr} {l : List NodeG} (h : Nodes w ok A l) {i : Nat} (hi : i < l.length) : ∃ b o, A = some ⟨b, o, none⟩ ∧ ∀ k, k < l.length → NodeC w ok b (o + k * 3) l[k]! := by
 obtain ⟨b, o, hA, hc⟩ := h.2 (by omega)
 exact ⟨b, o, hA, fun k hk => by rw [getElem!_pos l k hk]; exact hc k hk⟩
theorem Edges.at_ {w : World} {ok : Nat → Prop} {A : Option Addr} {l : List EdgeG} (h : Edges w ok A l) {i : Nat} (hi : i < l.length) : ∃ b o, A = some ⟨b, o, none⟩ ∧ ∀ k, k < l.length → EdgeC w ok b (o + k * 5) l[k]! := by
 obtain ⟨b, o, hA, hc⟩ := h.2 (by omega)
 exact ⟨b, o, hA, fun k hk => by rw [getElem!_pos l k hk]; exact hc k hk⟩
theorem box_node (w : World) (n : Int) (A B : Option Addr) (na c nb d : Nat) (t : TypeId) : ∃ (q : Nat) (w1 : World), q = w.heap.size ∧ w1 = w.alloc (.cells #[.int .i64 n, .slice A na c, .slice B nb d] t) ∧ w1.cell? ⟨q, 0, none⟩ = some (.int .i64 n) ∧ w1.cell? ⟨q, 1, none⟩ = some (.slice A na c) ∧ w1.cell? ⟨q, 2, none⟩ = some (.slice B nb d) ∧ Ext w w1 :=
 ⟨_, _, rfl, rfl, by go_simp, by go_simp, by go_simp, (Ext.refl _).alloc _⟩
theorem box_edge (w : World) (e : EdgeG) (B : Option Addr) (d : Nat) (t : TypeId) : ∃ (q : Nat) (w1 : World), q = w.heap.size ∧ w1 = w.alloc (.cells #[.int .i64 e.id, .int .i64 e.frm, .int .i64 e.to_, .string e.typ, .slice B e.props.length d] t) ∧ w1.cell? ⟨q, 0, none⟩ = some (.int .i64 e.id) ∧ w1.cell? ⟨q, 1, none⟩ = some (.int .i64 e.frm) ∧ w1.cell? ⟨q, 2, none⟩ = some (.int .i64 e.to_) ∧ w1.cell? ⟨q, 3, none⟩ = some (.string e.typ) ∧ w1.cell? ⟨q, 4, none⟩ = some (.slice B e.props.length d) ∧ Ext w w1 :=
 ⟨_, _, rfl, rfl, by go_simp, by go_simp, by go_simp, by go_simp, by go_simp, (Ext.refl _).alloc _⟩
/-- what is wrong with a node, piece by piece -/
theorem nodeE_26 {g : GraphG} {i : Nat} (h : 0 < i) (h2 : g.nodes[i]!.id ≤ g.nodes[i - 1]!.id) : nodeE g i = 26 := by unfold nodeE; rw [if_pos ⟨h, h2⟩]
theorem nodeE_1 {g : GraphG} {i : Nat} (h : 0 < i → g.nodes[i - 1]!.id < g.nodes[i]!.id) (h2 : g.nodes[i]!.id < 1 ∨ g.nn ≤ g.nodes[i]!.id) : nodeE g i = 1 := by
 unfold nodeE; rw [if_neg (fun hh => by have := h hh.1; omega), if_pos h2]
theorem nodeE_p {g : GraphG} {i : Nat} (h : 0 < i → g.nodes[i - 1]!.id < g.nodes[i]!.id) (h2 : 1 ≤ g.nodes[i]!.id) (h3 : g.nodes[i]!.id < g.nn) : nodeE g i = partsE g.nodes[i]!.labels g.nodes[i]!.props := by
 unfold nodeE; rw [if_neg (fun hh => by have := h hh.1; omega), if_neg (by omega)]
theorem edgeE_26 {g : GraphG} {i : Nat} (h : 0 < i) (h2 : g.edges[i]!.id ≤ g.edges[i - 1]!.id) : edgeE g i = 26 := by unfold edgeE; rw [if_pos ⟨h, h2⟩]
theorem edgeE_1 {g : GraphG} {i : Nat} (h : 0 < i → g.edges[i - 1]!.id < g.edges[i]!.id) (h2 : g.edges[i]!.id < 1 ∨ g.ne ≤ g.edges[i]!.id) : edgeE g i = 1 := by
 unfold edgeE; rw [if_neg (fun hh => by have := h hh.1; omega), if_pos h2]
theorem edgeE_p {g : GraphG} {i : Nat} (h : 0 < i → g.edges[i - 1]!.id < g.edges[i]!.id) (h2 : 1 ≤ g.edges[i]!.id) (h3 : g.edges[i]!.id < g.ne) : edgeE g i = if hasN g.nodes g.edges[i]!.frm && hasN g.nodes g.edges[i]!.to_ then (if nameB g.edges[i]!.typ then partsE [] g.edges[i]!.props else 6) else 10 := by
 unfold edgeE; rw [if_neg (fun hh => by have := h hh.1; omega), if_neg (by omega)]
end Go.Proofs.Ytnheioehadldmaa

/- GRAPHS THAT COME IN. -/
namespace Go.Proofs.Ytnheioehadldmaa
open Go.ChangeShapes Go.WideShapes Go.ChangeAt Go.RowKit
open Go.ChangeMaps (open_string shut_string)
theorem twoL {α : Type} {l : List α} (h : l.length = 2) : ∃ a b, l = [a, b] := by
 match l, h with
 | [a, b], _ => exact ⟨a, b, rfl⟩
theorem three_L {α : Type} {l : List α} (h : l.length = 3) : ∃ a b c, l = [a, b, c] := by
 match l, h with
 | [a, b, c], _ => exact ⟨a, b, c, rfl⟩
theorem four_L {α : Type} {l : List α} (h : l.length = 4) : ∃ a b c d, l = [a, b, c, d] := by
 match l, h with
 | [a, b, c, d], _ => exact ⟨a, b, c, d, rfl⟩
theorem fiveL {α : Type} {l : List α} (h : l.length = 5) : ∃ a b c d e, l = [a, b, c, d, e] := by
 match l, h with
 | [a, b, c, d, e], _ => exact ⟨a, b, c, d, e, rfl⟩
theorem six_L {α : Type} {l : List α} (h : l.length = 6) : ∃ a b c d e f, l = [a, b, c, d, e, f] := by
 match l, h with
 | [a, b, c, d, e, f], _ => exact ⟨a, b, c, d, e, f, rfl⟩
theorem cellsProp : Try.prog.cellsOf 104 = 6 := by kernel_rfl
theorem cellsNode : Try.prog.cellsOf 51 = 3 := by kernel_rfl
theorem cellsEdge : Try.prog.cellsOf 79 = 5 := by kernel_rfl
theorem cellsGraph : Try.prog.cellsOf 46 = 4 := by kernel_rfl
theorem cellsProps : Try.prog.cellsOf 49 = 1 := by kernel_rfl
theorem cellsNodes : Try.prog.cellsOf 43 = 1 := by kernel_rfl
theorem cellsEdges : Try.prog.cellsOf 44 = 1 := by kernel_rfl
theorem bytesProp : 0 < Try.prog.bytesOf 104 := of_decide_eq_true (by kernel_rfl)
theorem bytesNode : 0 < Try.prog.bytesOf 51 := of_decide_eq_true (by kernel_rfl)
theorem bytesEdge : 0 < Try.prog.bytesOf 79 := of_decide_eq_true (by kernel_rfl)
section
variable {H : Type} {enc : TypeId × Value → H} {w : World} {base : Nat} {spare : Nat → Bool} {held : Bool}
set_option maxRecDepth 100000 in
theorem open_prop {fuel : Nat} {cs : List Value} {x : DataW H × List MemPlace} (hwt : ∀ k ∈ x.1.weights Try.prog 104, k ≤ reachBytes) (h : DataW.trod enc Try.prog w base spare held fuel 104 cs = some x) : ∃ v : PropG, (szV v.v) ∧ ∀ b o, (∀ j u, cs[j]? = some u → w.cell? ⟨b, o + j, none⟩ = some u) → PropC w (fun _ => True) b o v := by
 obtain ⟨xs, m, hm, hxx, hl, hlen, hg⟩ := DataW.trod_struct Try.underlying104 h
 rw [cellsProp] at hl
 obtain ⟨c0, c1, c2, c3, c4, c5, rfl⟩ := six_L hl
 obtain ⟨y0, y1, rfl⟩ := twoL (show xs.length = 2 from hlen)
 have g0 : DataW.trod enc Try.prog w base spare held m 9 (([c0, c1, c2, c3, c4, c5].drop 0).take (Try.prog.cellsOf 9)) = some y0 := hg 0 _ rfl
 rw [cellsStr] at g0
 have g1 : DataW.trod enc Try.prog w base spare held m 102 (([c0, c1, c2, c3, c4, c5].drop 1).take (Try.prog.cellsOf 102)) = some y1 := hg 1 _ rfl
 rw [cellsVal] at g1
 have hwe : ∀ k ∈ DataW.weightsEach Try.prog [9, 102] [y0.1, y1.1], k ≤ reachBytes := fun k hk => hwt k (by
  rw [show x.1 = .agg [y0.1, y1.1] from congrArg Prod.fst hxx]
  simp only [DataW.weights, Try.underlying104]
  exact hk)
 obtain ⟨s0, e0, x0, -⟩ := DataW.trod_string Try.underlying9 g0
 have z0 := str_small x0 (fun k hk => hwe k (DataW.weights_mem_each (j := 0) rfl rfl k hk))
 obtain ⟨v1, z1, d1⟩ := (open_both m).1 _ _ (fun k hk => hwe k (DataW.weights_mem_each (j := 1) rfl rfl k hk)) g1
 cases e0
 refine ⟨⟨s0, v1⟩, z1, fun b o hc => ⟨hc 0 _ rfl, d1 b (o + 1) (fun j u hu => ?_)⟩⟩
 have h6 := hc (j + 1) u (by simpa using hu)
 rwa [show o + (j + 1) = o + 1 + j by omega] at h6
theorem open_props {fuel : Nat} {cs : List Value} {x : DataW H × List MemPlace} (hwt : ∀ k ∈ x.1.weights Try.prog 49, k ≤ reachBytes) (h : DataW.trod enc Try.prog w base spare held fuel 49 cs = some x) :
  ∃ (l : List PropG) (A : Option Addr) (c : Nat), cs = [.slice A l.length c] ∧ l.length ≤ c ∧ SliceR (PropC w (fun _ => True)) 6 A l ∧ ∀ v ∈ l, szV v.v :=
 slice_gen (α := PropG) Try.underlying49 cellsProp bytesProp (by decide) (PropC w (fun _ => True)) (fun v => szV v.v) (fun _ _ _ _ hk hy => open_prop hk hy) hwt h
set_option maxRecDepth 100000 in
theorem open_node {fuel : Nat} {cs : List Value} {x : DataW H × List MemPlace} (hwt : ∀ k ∈ x.1.weights Try.prog 51, k ≤ reachBytes) (h : DataW.trod enc Try.prog w base spare held fuel 51 cs = some x) : ∃ v : NodeG, (∀ p ∈ v.props, szV p.v) ∧ ∀ b o, (∀ j u, cs[j]? = some u → w.cell? ⟨b, o + j, none⟩ = some u) → NodeC w (fun _ => True) b o v := by
 obtain ⟨xs, m, hm, hxx, hl, hlen, hg⟩ := DataW.trod_struct Try.underlying51 h
 rw [cellsNode] at hl
 obtain ⟨c0, c1, c2, rfl⟩ := three_L hl
 obtain ⟨y0, y1, y2, rfl⟩ := three_L (show xs.length = 3 from hlen)
 have g0 : DataW.trod enc Try.prog w base spare held m 3 (([c0, c1, c2].drop 0).take (Try.prog.cellsOf 3)) = some y0 := hg 0 _ rfl
 rw [cellsInt] at g0
 have g1 : DataW.trod enc Try.prog w base spare held m 48 (([c0, c1, c2].drop 1).take (Try.prog.cellsOf 48)) = some y1 := hg 1 _ rfl
 rw [cellsStrs] at g1
 have g2 : DataW.trod enc Try.prog w base spare held m 49 (([c0, c1, c2].drop 2).take (Try.prog.cellsOf 49)) = some y2 := hg 2 _ rfl
 rw [cellsProps] at g2
 have hwe : ∀ k ∈ DataW.weightsEach Try.prog [3, 48, 49] [y0.1, y1.1, y2.1], k ≤ reachBytes := fun k hk => hwt k (by
  rw [show x.1 = .agg [y0.1, y1.1, y2.1] from congrArg Prod.fst hxx]
  simp only [DataW.weights, Try.underlying51]
  exact hk)
 obtain ⟨k0, e0, -, -⟩ := DataW.trod_int (k := .i64) Try.underlying3 g0
 obtain ⟨l1, A1, c1', e1, n1, v1, z1⟩ := open_strs Try.underlying48 (fun k hk => hwe k (DataW.weights_mem_each (j := 1) rfl rfl k hk)) g1
 obtain ⟨l2, A2, c2', e2, n2, v2, z2⟩ := open_props (fun k hk => hwe k (DataW.weights_mem_each (j := 2) rfl rfl k hk)) g2
 cases e0; cases e1; cases e2
 exact ⟨⟨k0, l1, l2⟩, z2, fun b o hc => ⟨trivial, hc 0 _ rfl, A1, c1', A2, c2', hc 1 _ rfl, n1, v1, hc 2 _ rfl, n2, v2⟩⟩
theorem open_nodes {fuel : Nat} {cs : List Value} {x : DataW H × List MemPlace} (hwt : ∀ k ∈ x.1.weights Try.prog 43, k ≤ reachBytes) (h : DataW.trod enc Try.prog w base spare held fuel 43 cs = some x) :
  ∃ (l : List NodeG) (A : Option Addr) (c : Nat), cs = [.slice A l.length c] ∧ l.length ≤ c ∧ SliceR (NodeC w (fun _ => True)) 3 A l ∧ ∀ v ∈ l, ∀ p ∈ v.props, szV p.v :=
 slice_gen (α := NodeG) Try.underlying43 cellsNode bytesNode (by decide) (NodeC w (fun _ => True)) (fun v => ∀ p ∈ v.props, szV p.v) (fun _ _ _ _ hk hy => open_node hk hy) hwt h
set_option maxRecDepth 100000 in
theorem open_edge {fuel : Nat} {cs : List Value} {x : DataW H × List MemPlace} (hwt : ∀ k ∈ x.1.weights Try.prog 79, k ≤ reachBytes) (h : DataW.trod enc Try.prog w base spare held fuel 79 cs = some x) : ∃ v : EdgeG, (∀ p ∈ v.props, szV p.v) ∧ ∀ b o, (∀ j u, cs[j]? = some u → w.cell? ⟨b, o + j, none⟩ = some u) → EdgeC w (fun _ => True) b o v := by
 obtain ⟨xs, m, hm, hxx, hl, hlen, hg⟩ := DataW.trod_struct Try.underlying79 h
 rw [cellsEdge] at hl
 obtain ⟨c0, c1, c2, c3, c4, rfl⟩ := fiveL hl
 obtain ⟨y0, y1, y2, y3, y4, rfl⟩ := fiveL (show xs.length = 5 from hlen)
 have g0 : DataW.trod enc Try.prog w base spare held m 3 (([c0, c1, c2, c3, c4].drop 0).take (Try.prog.cellsOf 3)) = some y0 := hg 0 _ rfl
 rw [cellsInt] at g0
 have g1 : DataW.trod enc Try.prog w base spare held m 3 (([c0, c1, c2, c3, c4].drop 1).take (Try.prog.cellsOf 3)) = some y1 := hg 1 _ rfl
 rw [cellsInt] at g1
 have g2 : DataW.trod enc Try.prog w base spare held m 3 (([c0, c1, c2, c3, c4].drop 2).take (Try.prog.cellsOf 3)) = some y2 := hg 2 _ rfl
 rw [cellsInt] at g2
 have g3 : DataW.trod enc Try.prog w base spare held m 9 (([c0, c1, c2, c3, c4].drop 3).take (Try.prog.cellsOf 9)) = some y3 := hg 3 _ rfl
 rw [cellsStr] at g3
 have g4 : DataW.trod enc Try.prog w base spare held m 49 (([c0, c1, c2, c3, c4].drop 4).take (Try.prog.cellsOf 49)) = some y4 := hg 4 _ rfl
 rw [cellsProps] at g4
 have hwe : ∀ k ∈ DataW.weightsEach Try.prog [3, 3, 3, 9, 49] [y0.1, y1.1, y2.1, y3.1, y4.1], k ≤ reachBytes := fun k hk => hwt k (by
  rw [show x.1 = .agg [y0.1, y1.1, y2.1, y3.1, y4.1] from congrArg Prod.fst hxx]
  simp only [DataW.weights, Try.underlying79]
  exact hk)
 obtain ⟨k0, e0, -, -⟩ := DataW.trod_int (k := .i64) Try.underlying3 g0
 obtain ⟨k1, e1, -, -⟩ := DataW.trod_int (k := .i64) Try.underlying3 g1
 obtain ⟨k2, e2, -, -⟩ := DataW.trod_int (k := .i64) Try.underlying3 g2
 obtain ⟨s3, e3, x3, -⟩ := DataW.trod_string Try.underlying9 g3
 have z3 := str_small x3 (fun k hk => hwe k (DataW.weights_mem_each (j := 3) rfl rfl k hk))
 obtain ⟨l4, A4, c4', e4, n4, v4, z4⟩ := open_props (fun k hk => hwe k (DataW.weights_mem_each (j := 4) rfl rfl k hk)) g4
 cases e0; cases e1; cases e2; cases e3; cases e4
 exact ⟨⟨k0, k1, k2, s3, l4⟩, z4, fun b o hc => ⟨trivial, hc 0 _ rfl, hc 1 _ rfl, hc 2 _ rfl, hc 3 _ rfl, A4, c4', hc 4 _ rfl, n4, v4⟩⟩
theorem open_edges {fuel : Nat} {cs : List Value} {x : DataW H × List MemPlace} (hwt : ∀ k ∈ x.1.weights Try.prog 44, k ≤ reachBytes) (h : DataW.trod enc Try.prog w base spare held fuel 44 cs = some x) :
  ∃ (l : List EdgeG) (A : Option Addr) (c : Nat), cs = [.slice A l.length c] ∧ l.length ≤ c ∧ SliceR (EdgeC w (fun _ => True)) 5 A l ∧ ∀ v ∈ l, ∀ p ∈ v.props, szV p.v :=
 slice_gen (α := EdgeG) Try.underlying44 cellsEdge bytesEdge (by decide) (EdgeC w (fun _ => True)) (fun v => ∀ p ∈ v.props, szV p.v) (fun _ _ _ _ hk hy => open_edge hk hy) hwt h
set_option maxRecDepth 100000 in
/-- a graph that reads -/
theorem open_graph {r : Reach} {b0 : Nat} {v : Value} {dd : DataW H} {p : List MemPlace} (hv : Value.okWide Try.prog w r b0 46 v) (hwt0 : ∀ k ∈ dd.weights Try.prog 46, k ≤ reachBytes) (h0 : DataW.Trod enc Try.prog w base spare held 46 v dd p) :
  ∃ (g : GraphG) (A B : Option Addr) (c d : Nat), v = .agg #[.slice A g.nodes.length c, .slice B g.edges.length d, .int .i64 g.nn, .int .i64 g.ne] ∧ g.nodes.length ≤ c ∧ g.edges.length ≤ d ∧ GraphAt w (fun _ => True) A B g ∧ SzG g := by
 obtain ⟨csa, rfl, -⟩ := okWide_struct Try.underlying46 hv
 obtain ⟨fuel, hf⟩ := h0
 obtain ⟨cs, rfl⟩ : ∃ cs : List Value, csa = cs.toArray := ⟨csa.toList, by simp⟩
 obtain ⟨x, hx⟩ : ∃ x : DataW H × List MemPlace, x = (dd, p) := ⟨_, rfl⟩
 rw [← hx] at hf
 have hwt : ∀ k ∈ x.1.weights Try.prog 46, k ≤ reachBytes := by rw [hx]; exact hwt0
 have h : DataW.trod enc Try.prog w base spare held fuel 46 cs = some x := by simpa [Value.cells] using hf
 obtain ⟨xs, m, hm, hxx, hl, hlen, hg⟩ := DataW.trod_struct Try.underlying46 h
 rw [cellsGraph] at hl
 obtain ⟨c0, c1, c2, c3, rfl⟩ := four_L hl
 obtain ⟨y0, y1, y2, y3, rfl⟩ := four_L (show xs.length = 4 from hlen)
 have g0 : DataW.trod enc Try.prog w base spare held m 43 (([c0, c1, c2, c3].drop 0).take (Try.prog.cellsOf 43)) = some y0 := hg 0 _ rfl
 rw [cellsNodes] at g0
 have g1 : DataW.trod enc Try.prog w base spare held m 44 (([c0, c1, c2, c3].drop 1).take (Try.prog.cellsOf 44)) = some y1 := hg 1 _ rfl
 rw [cellsEdges] at g1
 have g2 : DataW.trod enc Try.prog w base spare held m 3 (([c0, c1, c2, c3].drop 2).take (Try.prog.cellsOf 3)) = some y2 := hg 2 _ rfl
 rw [cellsInt] at g2
 have g3 : DataW.trod enc Try.prog w base spare held m 3 (([c0, c1, c2, c3].drop 3).take (Try.prog.cellsOf 3)) = some y3 := hg 3 _ rfl
 rw [cellsInt] at g3
 have hwe : ∀ k ∈ DataW.weightsEach Try.prog [43, 44, 3, 3] [y0.1, y1.1, y2.1, y3.1], k ≤ reachBytes := fun k hk => hwt k (by
  rw [show x.1 = .agg [y0.1, y1.1, y2.1, y3.1] from congrArg Prod.fst hxx]
  simp only [DataW.weights, Try.underlying46]
  exact hk)
 obtain ⟨l0, A0, c0', e0, n0, v0, z0⟩ := open_nodes (fun k hk => hwe k (DataW.weights_mem_each (j := 0) rfl rfl k hk)) g0
 obtain ⟨l1, A1, c1', e1, n1, v1, z1⟩ := open_edges (fun k hk => hwe k (DataW.weights_mem_each (j := 1) rfl rfl k hk)) g1
 obtain ⟨k2, e2, -, -⟩ := DataW.trod_int (k := .i64) Try.underlying3 g2
 obtain ⟨k3, e3, -, -⟩ := DataW.trod_int (k := .i64) Try.underlying3 g3
 cases e0; cases e1; cases e2; cases e3
 exact ⟨⟨l0, l1, k2, k3⟩, A0, A1, c0', c1', rfl, n0, n1, ⟨v0, v1⟩, ⟨z0, z1⟩⟩
end
end Go.Proofs.Ytnheioehadldmaa

/- PLAIN: numbers as bytes, seven bits at a time; reading undoes writing. -/
namespace Go.Proofs.Ytnheioehadldmaa
/-- the bytes of a number -/
def vi (u : Nat) : List Nat := if u < 128 then [u] else (u % 128 + 128) :: vi (u / 128)
termination_by u
decreasing_by omega
theorem vi_small {u : Nat} (h : u < 128) : vi u = [u] := by rw [vi, if_pos h]
theorem vi_big {u : Nat} (h : 128 ≤ u) : vi u = (u % 128 + 128) :: vi (u / 128) := by rw [vi, if_neg (by omega)]
theorem vi_len : ∀ (f u : Nat), u < 128 ^ (f + 1) → (vi u).length ≤ f + 1
 | 0, u, h => by rw [vi_small (by simpa using h)]; simp
 | f + 1, u, h => by
  rcases Nat.lt_or_ge u 128 with h1 | h1
  ·rw [vi_small h1]; simp
  ·rw [vi_big h1, List.length_cons]
   have := vi_len f (u / 128) (by rw [Nat.pow_succ] at h; exact Nat.div_lt_of_lt_mul (by omega))
   omega
theorem vi_len10 {u : Nat} (h : u < 18446744073709551616) : (vi u).length ≤ 10 := vi_len 9 u (by omega)
theorem vi_ne (u : Nat) : vi u ≠ [] := by rw [vi]; split <;> simp
/-- reading: how many bytes may come; what is left behind -/
def rdF : Nat → List Nat → Except Int (Nat × List Nat)
 | 0, _ => .error 4
 | _ + 1, [] => .error 3
 | f + 1, c :: l => if 128 ≤ c then (match rdF f l with
   | .ok (u, r) => .ok (c % 128 + 128 * u, r)
   | .error e => .error e) else if f = 0 ∧ 1 < c then .error 4 else if f < 9 ∧ c = 0 then .error 2 else .ok (c, l)
theorem rdF_inv : ∀ (f : Nat) (l : List Nat) (u : Nat) (r : List Nat), f ≤ 9 → (∀ c ∈ l, c < 256) → rdF (f + 1) l = .ok (u, r) → l = vi u ++ r ∧ u < 2 * 128 ^ f ∧ (f < 9 → 0 < u)
 | _, [], u, r, _, _, h => by rw [rdF] at h; cases h
 | 0, c :: l, u, r, _, hb, h => by
  rw [rdF] at h
  split at h
  ·rw [rdF] at h; cases h
  ·rename_i h1
   split at h
   ·cases h
   ·rename_i h2
    split at h
    ·cases h
    ·rename_i h3
     injection h with h
     injection h with e1 e2
     subst e1; subst e2
     exact ⟨by rw [vi_small (by omega)]; rfl, by omega, fun _ => by omega⟩
 | f + 1, c :: l, u, r, h9, hb, h => by
  rw [rdF] at h
  split at h
  ·rename_i h1
   cases h2 : rdF (f + 1) l with
   | error e => rw [h2] at h; cases h
   | ok p =>
    obtain ⟨u', r'⟩ := p
    rw [h2] at h
    injection h with h
    injection h with e1 e2
    obtain ⟨k1, k2, k3⟩ := rdF_inv f l u' r' (by omega) (fun x hx => hb x (by simp [hx])) h2
    have hc := hb c (by simp)
    subst e2
    have hu := k3 (by omega)
    rw [← e1]
    refine ⟨?_, by rw [Nat.pow_succ]; omega, fun _ => by omega⟩
    rw [vi_big (by omega), show (c % 128 + 128 * u') % 128 + 128 = c by omega, show (c % 128 + 128 * u') / 128 = u' by omega, k1]
    rfl
  ·rename_i h1
   split at h
   ·cases h
   ·rename_i h2
    split at h
    ·cases h
    ·rename_i h3
     injection h with h
     injection h with e1 e2
     subst e1; subst e2
     exact ⟨by rw [vi_small (by omega)]; rfl, by rw [Nat.pow_succ]; have := Nat.pow_pos (n := f) (show 0 < 128 by decide); omega, fun _ => by omega⟩
/-- a signed number as an unsigned one -/
def zig (n : Int) : Nat := if n < 0 then 2 * (-(n + 1)).toNat + 1 else 2 * n.toNat
def zag (u : Nat) : Int := if u % 2 = 1 then -((u / 2 : Nat) : Int) - 1 else ((u / 2 : Nat) : Int)
theorem zig_lt {n : Int} (h : -9223372036854775808 ≤ n ∧ n ≤ 9223372036854775807) : zig n < 18446744073709551616 := by unfold zig; split <;> omega
/-- reading a number -/
def uE (l : List Nat) : Except Int (Nat × List Nat) := match rdF 10 l with
 | .ok (u, r) => if u ≤ 9223372036854775807 then .ok (u, r) else .error 4
 | .error e => .error e
def iE (l : List Nat) : Except Int (Int × List Nat) := match rdF 10 l with
 | .ok (u, r) => .ok (zag u, r)
 | .error e => .error e
/-- what is left is the end of what came -/
theorem rdF_drop : ∀ (f : Nat) (l : List Nat) (u : Nat) (r : List Nat), rdF f l = .ok (u, r) → ∃ k, 0 < k ∧ k ≤ l.length ∧ r = l.drop k
 | 0, _, _, _, h => by rw [rdF] at h; cases h
 | _ + 1, [], _, _, h => by rw [rdF] at h; cases h
 | f + 1, c :: l, u, r, h => by
  rw [rdF] at h
  split at h
  ·cases h2 : rdF f l with
   | error e => rw [h2] at h; cases h
   | ok p =>
    obtain ⟨u', r'⟩ := p
    rw [h2] at h
    injection h with h
    injection h with e1 e2
    obtain ⟨k, k1, k2, k3⟩ := rdF_drop f l u' r' h2
    exact ⟨k + 1, by omega, by simp; omega, by rw [← e2, k3]; rfl⟩
  ·split at h
   ·cases h
   ·split at h
    ·cases h
    ·injection h with h
     injection h with e1 e2
     exact ⟨1, by omega, by simp, by rw [← e2]; rfl⟩
end Go.Proofs.Ytnheioehadldmaa

/- ENTRIES (api.Adj): three ints; plain and in memory. -/
namespace Go.Proofs.Ytnheioehadldmaa
open Go.RowKit
/-- an entry: id: where it begins, n: where it leads, d: its edge -/
structure Sh where
 id : Int
 n : Int
 d : Int
deriving DecidableEq
instance : Inhabited Sh := ⟨⟨0, 0, 0⟩⟩
def ShC (w : World) (ok : Nat → Prop) (b o : Nat) (s : Sh) : Prop := ok b ∧ w.cell? ⟨b, o, none⟩ = some (.int .i64 s.id) ∧ w.cell? ⟨b, o + 1, none⟩ = some (.int .i64 s.n) ∧ w.cell? ⟨b, o + 2, none⟩ = some (.int .i64 s.d)
def Shares (w : World) (ok : Nat → Prop) (A : Option Addr) (l : List Sh) : Prop := SliceR (ShC w ok) 3 A l
theorem Shares.keep {w w' : World} {ok ok' : Nat → Prop} {A : Option Addr} {l : List Sh} (h : Shares w ok A l) (hk : ∀ b o x, ok b → w.cell? ⟨b, o, none⟩ = some x → w'.cell? ⟨b, o, none⟩ = some x ∧ ok' b) : Shares w' ok' A l := SliceR.mono h (fun _ _ _ _ hx => ⟨(hk _ _ _ hx.1 hx.2.1).2, (hk _ _ _ hx.1 hx.2.1).1, (hk _ _ _ hx.1 hx.2.2.1).1, (hk _ _ _ hx.1 hx.2.2.2).1⟩)
theorem Shares.ext {w w' : World} {ok : Nat → Prop} {A : Option Addr} {l : List Sh} (h : Shares w ok A l) (e : Ext w w') : Shares w' ok A l := h.keep (fun _ _ _ hb hc => ⟨e.cell hc, hb⟩)
theorem Shares.at_ {w : World} {ok : Nat → Prop} {A : Option Addr} {l : List Sh} (h : Shares w ok A l) {i : Nat} (hi : i < l.length) : ∃ b o, A = some ⟨b, o, none⟩ ∧ ∀ k, k < l.length → ShC w ok b (o + k * 3) l[k]! := by
 obtain ⟨b, o, hA, hc⟩ := h.2 (by omega)
 exact ⟨b, o, hA, fun k hk => by rw [getElem!_pos l k hk]; exact hc k hk⟩
def Sh.cells (s : Sh) : List Value := [.int .i64 s.id, .int .i64 s.n, .int .i64 s.d]
theorem Sh.cells_one (s : Sh) : ∀ u ∈ s.cells, u.oneCell' = true := by
 intro u hu
 simp only [Sh.cells, List.mem_cons, List.not_mem_nil, or_false] at hu
 rcases hu with rfl | rfl | rfl <;> rfl
theorem El_adj : ElT Try.prog 22 54 3 24 := ⟨Try.underlying22, ⟨.agg #[.int .i64 0, .int .i64 0, .int .i64 0], by kernel_rfl, rfl⟩, by decide⟩
theorem shares_of_own {w : World} {base e : Nat} {v : Value} {n : Nat} {l : List Sh} (h : w.ownsRow base e 3 v n (l.flatMap Sh.cells)) (hn : n = l.length) (hm : l.length ≤ 140737488355328) : ∃ A c, v = .slice A l.length c ∧ l.length ≤ c ∧ Shares w (fun b => base ≤ b) A l :=
 own_sliceR (cs := l.map Sh.cells) (by rw [← List.flatMap_def]; exact h) hn (by simp) (by simp [Sh.cells]) hm (fun g hg _ k hk h' hu => ⟨hg, by have := hu 0 (.int .i64 l[k].id) (by simp [Sh.cells]); simpa using this, by have := hu 1 (.int .i64 l[k].n) (by simp [Sh.cells]); simpa using this, by have := hu 2 (.int .i64 l[k].d) (by simp [Sh.cells]); simpa using this⟩)
end Go.Proofs.Ytnheioehadldmaa

/- PLAIN: columns; entries packed, spread out again. -/
namespace Go.Proofs.Ytnheioehadldmaa
open Go.RowKit
structure Col where
 nodes : List Int
 first : List Int
 tos : List Int
 edges : List Int
deriving Inhabited
def adjOrd (a b : Sh) : Int := thenC (Lib.compareInt a.id b.id) (thenC (Lib.compareInt a.n b.n) (Lib.compareInt a.d b.d))
theorem TotC.adj : TotC adjOrd := (TotC.lex TotC.int (TotC.lex TotC.int TotC.int)).pull (fun a : Sh => (a.id, a.n, a.d)) (fun a b h => by
 obtain ⟨h1, h2⟩ := Prod.mk.inj h
 obtain ⟨h2, h3⟩ := Prod.mk.inj h2
 cases a; cases b; cases h1; cases h2; cases h3; rfl)
/-- does a row begin here -/
def headB (l : List Sh) (i : Nat) : Bool := decide (i = 0) || !decide (l[i]!.id = l[i - 1]!.id)
def headsK (l : List Sh) (k : Nat) : List Nat := (List.range k).filter (headB l)
def packK (l : List Sh) (k : Nat) : Col := ⟨(headsK l k).map (fun i => l[i]!.id), (headsK l k).map (fun i : Nat => (i : Int)), (l.take k).map Sh.n, (l.take k).map Sh.d⟩
def packC (l : List Sh) : Col := { packK l l.length with first := (packK l l.length).first ++ (if l = [] then [] else [(l.length : Int)]) }
theorem headsK_yes {l : List Sh} {k : Nat} (h : headB l k = true) : headsK l (k + 1) = headsK l k ++ [k] := by
 unfold headsK
 rw [List.range_succ, List.filter_append]; simp [h]
theorem headsK_no {l : List Sh} {k : Nat} (h : headB l k = false) : headsK l (k + 1) = headsK l k := by
 unfold headsK
 rw [List.range_succ, List.filter_append]; simp [h]
/-- an entry of a column -/
def entC (c : Col) (i k : Nat) : Sh := ⟨c.nodes[i]!, c.tos[k]!, c.edges[k]!⟩
/-- the entries of row i up to k -/
def rowK (c : Col) (i k : Nat) : List Sh := (List.range' c.first[i]!.toNat (k - c.first[i]!.toNat)).map (entC c i)
def flatK (c : Col) (i : Nat) : List Sh := (List.range i).flatMap (fun i => rowK c i c.first[i + 1]!.toNat)
def flatC (c : Col) : List Sh := flatK c c.nodes.length
theorem rowK_start (c : Col) (i : Nat) : rowK c i c.first[i]!.toNat = [] := by unfold rowK; rw [Nat.sub_self]; rfl
theorem rowK_snoc {c : Col} {i k : Nat} (h : c.first[i]!.toNat ≤ k) : rowK c i (k + 1) = rowK c i k ++ [entC c i k] := by
 unfold rowK
 rw [show k + 1 - c.first[i]!.toNat = (k - c.first[i]!.toNat) + 1 by omega, List.range'_1_concat, List.map_append, show c.first[i]!.toNat + (k - c.first[i]!.toNat) = k by omega]
 rfl
theorem flatK_succ (c : Col) (i : Nat) : flatK c (i + 1) = flatK c i ++ rowK c i c.first[i + 1]!.toNat := by
 unfold flatK
 rw [List.range_succ, List.flatMap_append]; simp
/-- the lists of a column fit together -/
structure ShapeC (c : Col) : Prop where
 len : c.first.length = c.nodes.length + 1
 zero : c.first[0]! = 0
 same : c.tos.length = c.edges.length
 last : c.first[c.nodes.length]! = (c.tos.length : Int)
 rise : ∀ i, i < c.nodes.length → c.first[i]! < c.first[i + 1]!
theorem ShapeC.nn {c : Col} (h : ShapeC c) : ∀ {i : Nat}, i ≤ c.nodes.length → 0 ≤ c.first[i]!
 | 0, _ => by rw [h.zero]; decide
 | i + 1, hi => by have := h.rise i (by omega); have := h.nn (i := i) (by omega); omega
theorem ShapeC.mono {c : Col} (h : ShapeC c) : ∀ {i j : Nat}, i ≤ j → j ≤ c.nodes.length → c.first[i]! ≤ c.first[j]!
 | i, 0, hi, _ => by rw [Nat.le_zero.1 hi]; omega
 | i, j + 1, hi, hj => by
  rcases Nat.eq_or_lt_of_le hi with e | e
  ·rw [e]; omega
  ·have := h.mono (i := i) (j := j) (by omega) (by omega); have := h.rise j (by omega); omega
theorem ShapeC.lt {c : Col} (h : ShapeC c) {i j : Nat} (hij : i < j) (hj : j ≤ c.nodes.length) : c.first[i]! < c.first[j]! := by
 have := h.rise i (by omega); have := h.mono (i := i + 1) (j := j) hij hj; omega
theorem ShapeC.le {c : Col} (h : ShapeC c) {i : Nat} (hi : i ≤ c.nodes.length) : c.first[i]! ≤ (c.tos.length : Int) := by rw [← h.last]; exact h.mono hi (Nat.le_refl _)
theorem flatK_len {c : Col} (h : ShapeC c) : ∀ {i : Nat}, i ≤ c.nodes.length → (flatK c i).length = c.first[i]!.toNat
 | 0, _ => by rw [h.zero]; rfl
 | i + 1, hi => by
  rw [flatK_succ, List.length_append, flatK_len h (i := i) (by omega)]
  unfold rowK
  rw [List.length_map, List.length_range']
  have := h.rise i (by omega); have := h.nn (i := i) (by omega); omega
theorem flatC_len {c : Col} (h : ShapeC c) : (flatC c).length = c.tos.length := by
 unfold flatC; rw [flatK_len h (Nat.le_refl _), h.last]; omega
theorem flatK_at {c : Col} (h : ShapeC c) : ∀ {n i k : Nat}, n ≤ c.nodes.length → i < n → c.first[i]!.toNat ≤ k → k < c.first[i + 1]!.toNat → (flatK c n)[k]? = some (entC c i k)
 | 0, _, _, _, hi, _, _ => absurd hi (by omega)
 | n + 1, i, k, hn, hi, h1, h2 => by
  rw [flatK_succ]
  have hl := flatK_len h (i := n) (by omega)
  have h0 := h.nn (i := n) (by omega)
  by_cases e : i = n
  ·subst e
   rw [List.getElem?_append_right (by omega), hl]
   unfold rowK
   rw [List.getElem?_map, List.getElem?_range' (by omega)]
   show some (entC c i (c.first[i]!.toNat + 1 * (k - c.first[i]!.toNat))) = _
   rw [show c.first[i]!.toNat + 1 * (k - c.first[i]!.toNat) = k by omega]
  ·have := h.mono (i := i + 1) (j := n) (by omega) (by omega)
   rw [List.getElem?_append_left (by omega)]
   exact flatK_at h (by omega) (by omega) h1 h2
/-- the row in which an entry lies -/
theorem ShapeC.row {c : Col} (h : ShapeC c) : ∀ {n k : Nat}, n ≤ c.nodes.length → k < c.first[n]!.toNat → ∃ i, i < n ∧ c.first[i]!.toNat ≤ k ∧ k < c.first[i + 1]!.toNat
 | 0, k, _, hk => by rw [h.zero] at hk; exact absurd hk (by simp)
 | n + 1, k, hn, hk => by
  by_cases e : k < c.first[n]!.toNat
  ·obtain ⟨i, h1, h2⟩ := h.row (n := n) (by omega) e
   exact ⟨i, by omega, h2⟩
  ·exact ⟨n, by omega, by omega, hk⟩
theorem flatC_nd {c : Col} (h : ShapeC c) {k : Nat} (hk : k < c.tos.length) : ∃ i, i < c.nodes.length ∧ c.first[i]!.toNat ≤ k ∧ k < c.first[i + 1]!.toNat ∧ (flatC c)[k]! = entC c i k := by
 obtain ⟨i, h1, h2, h3⟩ := h.row (n := c.nodes.length) (k := k) (Nat.le_refl _) (by rw [h.last]; omega)
 refine ⟨i, h1, h2, h3, ?_⟩
 have h4 := flatK_at h (Nat.le_refl _) h1 h2 h3
 rw [getElem!_def]
 unfold flatC
 rw [h4]
end Go.Proofs.Ytnheioehadldmaa
