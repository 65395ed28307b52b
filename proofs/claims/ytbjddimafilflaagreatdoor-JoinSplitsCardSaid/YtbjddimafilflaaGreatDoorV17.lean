/- PARTS OF THE WALKS, joined: Ke, Ji, Jj, Jk. -/
import Derived.Test.YtbjddimafilflaaGreatDoorV16
/- THE WALK over the reference's Natural. -/
namespace Go.Proofs.YtbjddimafilflaaGreatDoor
open Go.RowKit Go.Sort
theorem part_wt (y : List Val) : ∀ at_ : List Nat, (∀ i ∈ at_, i < y.length) → wtL (partJ y at_) ≤ at_.length * wtL y
  | [], _ => by simp [partJ, wtL]
  | i :: at_, h => by
    have hi := h i (by simp)
    have h1 : wtV y[i]! ≤ wtL y := by rw [getElem!_pos y i hi]; exact wtL_mem (List.getElem_mem hi)
    have h2 := part_wt y at_ (fun j hj => h j (by simp [hj]))
    unfold partJ at h2 ⊢
    rw [List.map_cons, wtL_cons, List.length_cons, Nat.succ_mul]
    omega
theorem szL_of : ∀ {l : List Val}, (∀ v ∈ l, szV v) → szL l
  | [], _ => by rw [szL]; trivial
  | v :: l, h => by rw [szL]; exact ⟨h v (by simp), szL_of (fun x hx => h x (by simp [hx]))⟩
theorem szL_app {a b : List Val} (ha : szL a) (hb : szL b) : szL (a ++ b) := szL_of (fun v hv => by
  rcases List.mem_append.1 hv with h | h
  · exact szL_mem ha h
  · exact szL_mem hb h)
theorem part_sz {y : List Val} (hy : szL y) {at_ : List Nat} (h : ∀ i ∈ at_, i < y.length) : szL (partJ y at_) := szL_of (fun v hv => by
  obtain ⟨i, hi, rfl⟩ := List.mem_map.1 hv
  rw [getElem!_pos y i (h i hi)]; exact szL_mem hy (List.getElem_mem _))
theorem rest_fit {a b : List ByteArray} {y : List Val} (hy : y.length = b.length) (hs : szL y) (hw : wtL y ≤ 10000) (hb : b.length ≤ 100) : szL (restJ a b y) ∧ wtL (restJ a b y) ≤ 1000000 := by
  have h : ∀ i ∈ othersK a b b.length, i < y.length := fun i hi => by rw [hy]; exact othersK_lt hi
  refine ⟨part_sz hs h, Nat.le_trans (part_wt y _ h) ?_⟩
  exact Nat.le_trans (Nat.mul_le_mul (Nat.le_trans othersK_len hb) hw) (by decide)
/-- a table of modest size -/
def TabFit (t : Tab) : Prop := t.cols.length ≤ 100 ∧ t.rows.length ≤ 2000 ∧ ∀ r ∈ t.rows, szL r ∧ wtL r ≤ 10000
theorem natR_mem {a b : Tab} {r : List Val} (h : r ∈ natR a b) : ∃ x ∈ a.rows, ∃ y ∈ b.rows, agreeJ a.cols b.cols x y = true ∧ r = x ++ restJ a.cols b.cols y := by
  obtain ⟨x, hx, h2⟩ := List.mem_flatMap.1 h
  obtain ⟨y, hy, rfl⟩ := List.mem_map.1 h2
  exact ⟨x, hx, y, (List.mem_filter.1 hy).1, (List.mem_filter.1 hy).2, rfl⟩
theorem natR_len {a b : Tab} (ha : a.rows.length ≤ 2000) (hb : b.rows.length ≤ 2000) : (natR a b).length ≤ 4002000 := by
  rw [← accR_end]; exact accR_small ha hb (by decide)
theorem natR_fit {a b : Tab} (ha : TabFit a) (hb : TabFit b) (hb2 : ∀ r ∈ b.rows, r.length = b.cols.length) : ∀ r ∈ natR a b, wtL r ≤ 1010000 ∧ szL r := fun r hr => by
  obtain ⟨x, hx, y, hy, -, rfl⟩ := natR_mem hr
  have h1 := ha.2.2 x hx
  have h2 := hb.2.2 y hy
  have h3 := rest_fit (a := a.cols) (hb2 y hy) h2.1 h2.2 hb.1
  exact ⟨by rw [wtL_append]; omega, szL_app h1.1 h3.1⟩
def errJ (a b : Tab) : Int := if chkT a = 0 then chkT b else chkT a
def noTab : Tab := ⟨[], []⟩
def natT (a b : Tab) : Tab := if errJ a b = 0 then ⟨colsJ a.cols b.cols, sortO ordL (natR a b)⟩ else noTab
theorem errJ_zero {a b : Tab} (h : errJ a b = 0) : (a.cols.Nodup ∧ ∀ r ∈ a.rows, r.length = a.cols.length) ∧ (b.cols.Nodup ∧ ∀ r ∈ b.rows, r.length = b.cols.length) := by
  unfold errJ at h
  split at h
  · rename_i h1; exact ⟨chkT_zero h1, chkT_zero h⟩
  · rename_i h1; exact absurd h h1
/-- a table is returned, in new memory, with an error's number -/
def TabRet (w0 : World) (t : Tab) (n : Int) (x : Ending) (w' : World) : Prop := ∃ A B c d, x = .returned (.tuple #[.agg #[.slice A t.cols.length c, .slice B t.rows.length d], .int .i64 n]) ∧ t.cols.length ≤ c ∧ t.rows.length ≤ d ∧ TabAt w' (fun b => w0.heap.size ≤ b) A B t ∧ Ext w0 w'
theorem cell_set2 (W : World) (b o g : Nat) {u0 u1 : Value} (h : b ≠ g) : ((W.setCell ⟨g, 0, none⟩ u0).setCell ⟨g, 1, none⟩ u1).cell? ⟨b, o, none⟩ = W.cell? ⟨b, o, none⟩ := by
  rw [World.cell?_setCell_other _ _ _ _ (fun e => h (by injection e with e1; exact e1.symm)), World.cell?_setCell_other _ _ _ _ (fun e => h (by injection e with e1; exact e1.symm))]
theorem set2_cells {W : World} {g : Nat} {u0 u1 x0 x1 : Value} (h0 : W.cell? ⟨g, 0, none⟩ = some x0) (h1 : W.cell? ⟨g, 1, none⟩ = some x1) : ((W.setCell ⟨g, 0, none⟩ u0).setCell ⟨g, 1, none⟩ u1).cell? ⟨g, 0, none⟩ = some u0 ∧ ((W.setCell ⟨g, 0, none⟩ u0).setCell ⟨g, 1, none⟩ u1).cell? ⟨g, 1, none⟩ = some u1 := by
  constructor
  · go_simp
  · go_simp
theorem TabAt.set2 {W : World} {m m' g : Nat} {A B : Option Addr} {t : Tab} {u0 u1 : Value} (h : TabAt W (fun b => m ≤ b) A B t) (hg : g < m) (hm : m' ≤ m) : TabAt ((W.setCell ⟨g, 0, none⟩ u0).setCell ⟨g, 1, none⟩ u1) (fun b => m' ≤ b) A B t :=
  ⟨SliceR.mono h.cols (fun b o _ _ hx => ⟨Nat.le_trans hm hx.1, (cell_set2 W b _ g (by have := hx.1; omega)).trans hx.2⟩), h.rows.keep (fun b o x hb hc => (cell_set2 W b o g (by omega)).trans hc) (fun b hb => Nat.le_trans hm hb)⟩
theorem TabAt.none_ (W : World) (ok : Nat → Prop) : TabAt W ok none none noTab := ⟨SliceR.nil _ _ _, SliceR.nil _ _ _⟩
theorem Strs.ge {w : World} {m m' : Nat} {A : Option Addr} {l : List ByteArray} (h : Strs w (fun b => m ≤ b) A l) (e : m' ≤ m) : Strs w (fun b => m' ≤ b) A l := SliceR.mono h (fun _ _ _ _ hx => ⟨Nat.le_trans e hx.1, hx.2⟩)
end Go.Proofs.YtbjddimafilflaaGreatDoor

/- THE WALK over join.begin. -/
namespace Go.Proofs.YtbjddimafilflaaGreatDoor
open Go.RowKit Go.Sort
/-- a joiner that lies in memory -/
structure JoinC (w : World) (ok : Nat → Prop) (q : Nat) (a b : Tab) (A B A' B' AL AR AO : Option Addr) (c d c' d' cl cr co : Nat) (L R O : List Nat) : Prop where
  j0 : w.cell? ⟨q, 0, none⟩ = some (.slice A a.cols.length c)
  j1 : w.cell? ⟨q, 1, none⟩ = some (.slice B a.rows.length d)
  j2 : w.cell? ⟨q, 2, none⟩ = some (.slice A' b.cols.length c')
  j3 : w.cell? ⟨q, 3, none⟩ = some (.slice B' b.rows.length d')
  j4 : w.cell? ⟨q, 4, none⟩ = some (.slice AL L.length cl)
  j5 : w.cell? ⟨q, 5, none⟩ = some (.slice AR R.length cr)
  j6 : w.cell? ⟨q, 6, none⟩ = some (.slice AO O.length co)
  ta : TabAt w ok A B a
  tb : TabAt w ok A' B' b
  nl : Nums w ok AL (ints L)
  nr : Nums w ok AR (ints R)
  no : Nums w ok AO (ints O)
def JoinAt (w : World) (ok : Nat → Prop) (q : Nat) (a b : Tab) : Prop := ∃ A B A' B' AL AR AO c d c' d' cl cr co, JoinC w ok q a b A B A' B' AL AR AO c d c' d' cl cr co (leftK a.cols b.cols b.cols.length) (rightK a.cols b.cols b.cols.length) (othersK a.cols b.cols b.cols.length)
theorem own_intsV {w : World} {base : Nat} {v : Value} {l : List Nat} (h : w.ownsRow base 3 1 v l.length (l.map intV)) (hm : l.length ≤ 140737488355328) : ∃ A c, v = .slice A l.length c ∧ Nums w (fun _ => True) A (ints l) := by
  obtain ⟨A, c, e, -, h2⟩ := own_nums (l := ints l) (by rw [ints_len]; unfold ints; rw [List.map_map]; exact h) (by rw [ints_len]; exact hm)
  rw [ints_len] at e
  exact ⟨A, c, e, SliceR.mono h2 (fun _ _ _ _ hx => ⟨trivial, hx.2⟩)⟩
theorem orL_two (x y : Int) : orL [x, y] = if x = 0 then y else x := by
  unfold orL
  unfold orL
  unfold orL
  rw [thenC_0]
  unfold thenC
  split <;> rfl
theorem ls3_eq {L R O L' R' O' : List Nat} {i k : Nat} (h0 : L' = L ++ [i]) (h1 : R' = R ++ [k]) (h2 : O' = O) : ∀ j, j < 3 → t3 L' R' O' j = upd (upd (t3 L R O) 0 (t3 L R O 0 ++ [i])) 1 (upd (t3 L R O) 0 (t3 L R O 0 ++ [i]) 1 ++ [k]) j
  | 0, _ => h0
  | 1, _ => h1
  | 2, _ => h2
  | j + 3, h => absurd h (by omega)
theorem BegW.congr {w5 W : World} {q : Nat} {cv v : Nat → Value} {ls ls' : Nat → List Nat} (h : BegW w5 q cv v ls W) (e : ∀ i, i < 3 → ls' i = ls i) : BegW w5 q cv v ls' W :=
  ⟨h.gr, h.hq, fun i hi => by rw [e i hi]; exact h.own i hi, h.d, h.cel, h.fz, h.c⟩
set_option maxRecDepth 100000 in
set_option maxHeartbeats 3200000 in
theorem j_begin (a b : Tab) (ok ok' : Nat → Prop) (A A' B B' : Option Addr) (c c' d d' : Nat) (w : World) (ha : TabAt w ok A B a) (hb : TabAt w ok' A' B' b) (hsa : ∀ s ∈ a.cols, s.size ≤ maxLen) (hsb : ∀ s ∈ b.cols, s.size ≤ maxLen) (hla : a.cols.length ≤ 1000000) (hlb : b.cols.length ≤ 1000000) :
    Calls Tryz.prog 30 #[.agg #[.slice A a.cols.length c, .slice B a.rows.length d], .agg #[.slice A' b.cols.length c', .slice B' b.rows.length d']] w fun e w' => (errJ a b ≠ 0 ∧ e = .returned (.tuple #[.pointer none, .int .i64 (errJ a b)]) ∨ errJ a b = 0 ∧ ∃ q, e = .returned (.tuple #[.pointer (some ⟨q, 0, none⟩), .int .i64 0]) ∧ JoinAt w' (fun _ => True) q a b) ∧ Ext w w' := by
  obtain ⟨q, w2, hq, hw2, q0, q1, p0, p1, hxw⟩ := box_tab2 w A B A' B' a.cols.length c a.rows.length d b.cols.length c' b.rows.length d' 25 25
  have hm := hb.cols.len
  have HC1 := Lib.hid (fun W (e : Ext w2 W) => j_Check a ok A B c d W (ha.ext (hxw.trans e)) hsa (by omega))
  have HC2 := Lib.hid (fun W (e : Ext w2 W) => j_Check b ok' A' B' c' d' W (hb.ext (hxw.trans e)) hsb (by omega))
  have HOR := Lib.hid (fun g W (h0 : W.cell? ⟨g, 0, none⟩ = some (.int .i64 (chkT a))) (h1 : W.cell? ⟨g, 1, none⟩ = some (.int .i64 (chkT b))) => (by
    have h := c_or_errno g [chkT a, chkT b] W (by simp) (fun j hj => by
      match j, hj with
      | 0, _ => exact h0
      | 1, _ => exact h1)
    rw [orL_two] at h
    exact h : Calls Tryz.prog 49 #[.slice (some ⟨g, 0, none⟩) 2 2] W fun e w' => e = .returned (.int .i64 (errJ a b)) ∧ w' = W))
  have HA := Lib.hid (ha.ext hxw)
  have HB := Lib.hid (hb.ext hxw)
  have hq2 : q + 1 < w2.heap.size := block_lt_of_cell p0
  have HW2 := Lib.hid hw2
  have HG := Lib.hid hq
  clear ha hb hw2 hq
  generalize chkT a = za at *
  generalize chkT b = zb at *
  go_enter Tryz.func30, Tryz.ntmps30
  go_upto_region 1 with (fail)
  rw [← HW2.out, ← HG.out]
  clear HW2 HG
  have MKR3 := Lib.hid (fun V (e : Ext w2 V) => (⟨e.cell q0, e.cell q1, e.cell p0, e.cell p1, e⟩ : V.cell? ⟨q, 0, none⟩ = some (.slice A a.cols.length c) ∧ V.cell? ⟨q, 1, none⟩ = some (.slice B a.rows.length d) ∧ V.cell? ⟨q + 1, 0, none⟩ = some (.slice A' b.cols.length c') ∧ V.cell? ⟨q + 1, 1, none⟩ = some (.slice B' b.rows.length d') ∧ Ext w2 V))
  refine wp_region_held_drew (S := (fun V => V.cell? ⟨q, 0, none⟩ = some (.slice A a.cols.length c) ∧ V.cell? ⟨q, 1, none⟩ = some (.slice B a.rows.length d) ∧ V.cell? ⟨q + 1, 0, none⟩ = some (.slice A' b.cols.length c') ∧ V.cell? ⟨q + 1, 1, none⟩ = some (.slice B' b.rows.length d') ∧ Ext w2 V)) (by kernel_rfl) ?hs41 (fun hHeld => ?go41)
  case hs41 => (exact MKR3.out _ (by repeat (first | with_reducible exact Ext.refl _ | with_reducible assumption | with_reducible refine Ext.drew ?_ | with_reducible refine Ext.drewN ?_ _ | with_reducible refine Ext.alloc ?_ _)))
  refine wpAnyH_take (i := 0) (oi := ⟨(some 11), (.load 25 (.tmp 2)), 25, "join.go:38", #[], none⟩) (v := ?v42) rfl (by kernel_rfl) (by kernel_rfl) (by kernel_rfl) (fun _ _ _ h => h) (Or.inl ⟨rfl, ?hy42⟩) hHeld ?rest42
  case hy42 => (intro w hSw; (try dsimp only at hSw); go_simp <;> first | with_reducible rfl | rw [if_neg (by omega)] | rw [if_pos (by omega)])
  (try simp only [Act.put]); (try simp only [List.setIfInBounds_toArray]); (try simp only [List.set_cons_succ]); (try simp only [List.set_cons_zero])
  refine wpAnyH_take (i := 2) (oi := ⟨(some 13), (.load 25 (.tmp 3)), 25, "join.go:38", #[], none⟩) (v := ?v43) rfl (by kernel_rfl) (by kernel_rfl) (by kernel_rfl) (fun _ _ _ h => h) (Or.inl ⟨rfl, ?hy43⟩) hHeld ?rest43
  case hy43 => (intro w hSw; (try dsimp only at hSw); go_simp <;> first | with_reducible rfl | rw [if_neg (by omega)] | rw [if_pos (by omega)])
  (try simp only [Act.put]); (try simp only [List.setIfInBounds_toArray]); (try simp only [List.set_cons_succ]); (try simp only [List.set_cons_zero])
  refine wpAnyH_ready (rs := [1]) (by kernel_rfl) (by simp) ?_
  refine AllReadyH.cons (o := ⟨(some 12), (.call { callee := (.value (.func 18)), args := #[(.tmp 11)], argTypes := #[25] }), 27, "join.go:38", #[⟨0, .data⟩], none⟩) rfl (fun K hK => ?step44x0) ?more44x0
  case more44x0 => exact AllReadyH.nil
  go_simp
  (refine (HC1.out _ (by repeat (first | with_reducible exact Ext.refl _ | with_reducible assumption | with_reducible refine Ext.drew ?_ | with_reducible refine Ext.drewN ?_ _ | with_reducible refine Ext.alloc ?_ _))).mono ?_; rintro e w3 ⟨rfl, hx3⟩; replace hx3 : Ext w2 w3 := Ext.trans (by repeat (first | with_reducible exact Ext.refl _ | with_reducible assumption | with_reducible refine Ext.drew ?_ | with_reducible refine Ext.drewN ?_ _ | with_reducible refine Ext.alloc ?_ _)) hx3)
  refine hK.out _ _ ?hS44x0 (fun hHeld44 => ?rest44x0)
  case hS44x0 => first | (exact MKR3.out _ (by repeat (first | with_reducible exact Ext.refl _ | with_reducible assumption | with_reducible refine Ext.drew ?_ | with_reducible refine Ext.drewN ?_ _ | with_reducible refine Ext.alloc ?_ _))) | ((try dsimp only); (exact MKR3.out _ (by repeat (first | with_reducible exact Ext.refl _ | with_reducible assumption | with_reducible refine Ext.drew ?_ | with_reducible refine Ext.drewN ?_ _ | with_reducible refine Ext.alloc ?_ _))))
  clear hK K
  clear hHeld
  (try simp only [Act.put]); (try simp only [List.setIfInBounds_toArray]); (try simp only [List.set_cons_succ]); (try simp only [List.set_cons_zero])
  refine wpAnyH_ready (rs := [3]) (by kernel_rfl) (by simp) ?_
  refine AllReadyH.cons (o := ⟨(some 14), (.call { callee := (.value (.func 18)), args := #[(.tmp 13)], argTypes := #[25] }), 27, "join.go:38", #[⟨2, .data⟩, ⟨1, .chain⟩], none⟩) rfl (fun K hK => ?step45x0) ?more45x0
  case more45x0 => exact AllReadyH.nil
  go_simp
  (refine (HC2.out _ (by repeat (first | with_reducible exact Ext.refl _ | with_reducible assumption | with_reducible refine Ext.drew ?_ | with_reducible refine Ext.drewN ?_ _ | with_reducible refine Ext.alloc ?_ _))).mono ?_; rintro e w4 ⟨rfl, hx4⟩; replace hx4 : Ext w2 w4 := Ext.trans (by repeat (first | with_reducible exact Ext.refl _ | with_reducible assumption | with_reducible refine Ext.drew ?_ | with_reducible refine Ext.drewN ?_ _ | with_reducible refine Ext.alloc ?_ _)) hx4)
  refine hK.out _ _ ?hS45x0 (fun hHeld45 => ?rest45x0)
  case hS45x0 => first | (exact MKR3.out _ (by repeat (first | with_reducible exact Ext.refl _ | with_reducible assumption | with_reducible refine Ext.drew ?_ | with_reducible refine Ext.drewN ?_ _ | with_reducible refine Ext.alloc ?_ _))) | ((try dsimp only); (exact MKR3.out _ (by repeat (first | with_reducible exact Ext.refl _ | with_reducible assumption | with_reducible refine Ext.drew ?_ | with_reducible refine Ext.drewN ?_ _ | with_reducible refine Ext.alloc ?_ _))))
  clear hK K
  clear hHeld44
  (try simp only [Act.put]); (try simp only [List.setIfInBounds_toArray]); (try simp only [List.set_cons_succ]); (try simp only [List.set_cons_zero])
  refine wpAnyH_ready (rs := [4]) (by kernel_rfl) (by simp) ?_
  refine AllReadyH.cons (o := ⟨(some 15), (.buildSlice 79 2 #[(0, (.tmp 12)), (1, (.tmp 14))]), 79, "join.go:38", #[⟨1, .data⟩, ⟨3, .data⟩], none⟩) rfl (fun K hK => ?step46x0) ?more46x0
  case more46x0 => exact AllReadyH.nil
  go_simp
  refine hK.out _ _ ?hS46x0 (fun hHeld46 => ?rest46x0)
  case hS46x0 => first | (exact MKR3.out _ (by repeat (first | with_reducible exact Ext.refl _ | with_reducible assumption | with_reducible refine Ext.drew ?_ | with_reducible refine Ext.drewN ?_ _ | with_reducible refine Ext.alloc ?_ _))) | ((try dsimp only); (exact MKR3.out _ (by repeat (first | with_reducible exact Ext.refl _ | with_reducible assumption | with_reducible refine Ext.drew ?_ | with_reducible refine Ext.drewN ?_ _ | with_reducible refine Ext.alloc ?_ _))))
  clear hK K
  clear hHeld45
  (try simp only [Act.put]); (try simp only [List.setIfInBounds_toArray]); (try simp only [List.set_cons_succ]); (try simp only [List.set_cons_zero])
  refine wpAnyH_ready (rs := [5]) (by kernel_rfl) (by simp) ?_
  refine AllReadyH.cons (o := ⟨(some 16), (.call { callee := (.value (.func 49)), args := #[(.tmp 15)], argTypes := #[79] }), 27, "join.go:38", #[⟨4, .data⟩, ⟨3, .chain⟩], none⟩) rfl (fun K hK => ?step47x0) ?more47x0
  case more47x0 => exact AllReadyH.nil
  go_simp
  (refine (HOR.out _ _ (by go_simp) (by go_simp)).mono ?_; rintro e w5 ⟨rfl, hw5⟩; have hx5 : Ext w2 w5 := (by rw [hw5]; exact (by repeat (first | with_reducible exact Ext.refl _ | with_reducible assumption | with_reducible refine Ext.drew ?_ | with_reducible refine Ext.drewN ?_ _ | with_reducible refine Ext.alloc ?_ _))); clear hw5)
  refine hK.out _ _ ?hS47x0 (fun hHeld47 => ?rest47x0)
  case hS47x0 => first | (exact MKR3.out _ (by repeat (first | with_reducible exact Ext.refl _ | with_reducible assumption | with_reducible refine Ext.drew ?_ | with_reducible refine Ext.drewN ?_ _ | with_reducible refine Ext.alloc ?_ _))) | ((try dsimp only); (exact MKR3.out _ (by repeat (first | with_reducible exact Ext.refl _ | with_reducible assumption | with_reducible refine Ext.drew ?_ | with_reducible refine Ext.drewN ?_ _ | with_reducible refine Ext.alloc ?_ _))))
  clear hK K
  clear hHeld46
  (try simp only [Act.put]); (try simp only [List.setIfInBounds_toArray]); (try simp only [List.set_cons_succ]); (try simp only [List.set_cons_zero])
  refine wpAnyH_take (i := 6) (oi := ⟨(some 6), (.assign (.tmp 16)), 27, "join.go:38", #[⟨5, .data⟩, ⟨5, .chain⟩, ⟨0, .phase⟩, ⟨1, .phase⟩, ⟨2, .phase⟩, ⟨3, .phase⟩, ⟨4, .phase⟩, ⟨5, .phase⟩], none⟩) (v := ?v48) rfl (by kernel_rfl) (by kernel_rfl) (by kernel_rfl) (fun _ _ _ h => h) (Or.inl ⟨rfl, ?hy48⟩) hHeld47 ?rest48
  case hy48 => (intro w hSw; (try dsimp only at hSw); go_simp <;> first | with_reducible rfl | rw [if_neg (by omega)] | rw [if_pos (by omega)])
  (try simp only [Act.put]); (try simp only [List.setIfInBounds_toArray]); (try simp only [List.set_cons_succ]); (try simp only [List.set_cons_zero])
  refine wpAnyH_done (by kernel_rfl) ?_ _
  clear hHeld47
  clear MKR3
  clear HC1 HC2 HOR
  by_cases he : errJ a b = 0
  · have HE := Lib.hid he
    rw [he]
    clear he
    have q0' := hx5.cell q0
    have q1' := hx5.cell q1
    have p0' := hx5.cell p0
    have p1' := hx5.cell p1
    go_upto_region 5 with (fail)
    obtain ⟨g, hg⟩ : ∃ g, g = w5.heap.size := ⟨_, rfl⟩
    obtain ⟨w6, hw6⟩ : ∃ w6, w6 = w5.alloc (.cells #[.slice A a.cols.length c, .slice B a.rows.length d, .slice A' b.cols.length c', .slice B' b.rows.length d', .slice none 0 0, .slice none 0 0, .slice none 0 0] 63) := ⟨_, rfl⟩
    rw [← hw6, ← hg]
    have hblk : w6.heap[g]? = some (.cells #[.slice A a.cols.length c, .slice B a.rows.length d, .slice A' b.cols.length c', .slice B' b.rows.length d', .slice none 0 0, .slice none 0 0, .slice none 0 0] 63) := by rw [hw6, hg]; exact heap_alloc_new _ _
    have hx6 : Ext w2 w6 := by rw [hw6]; exact hx5.alloc _
    have HQ := Lib.hid (show q + 1 < g by rw [hg]; exact Nat.lt_of_lt_of_le hq2 hx5.le)
    have HLQ := Lib.hid (show w2.heap.size ≤ g by rw [hg]; exact hx5.le)
    have hcl : ∀ i x, (#[.slice A a.cols.length c, .slice B a.rows.length d, .slice A' b.cols.length c', .slice B' b.rows.length d', .slice none 0 0, .slice none 0 0, .slice none 0 0] : Array Value)[i]? = some x → w6.cell? ⟨g, i, none⟩ = some x := fun i x hx => by rw [cell_of_row _ _ _ _ _ _ hblk]; exact hx
    have HC4 := Lib.hid (And.intro (hcl 0 _ rfl) (And.intro (hcl 1 _ rfl) (And.intro (hcl 2 _ rfl) (hcl 3 _ rfl))))
    have HBG := Lib.hid (show BegW w6 g (t3 (.slice none 0 0) (.slice none 0 0) (.slice none 0 0)) (t3 (.slice none 0 0) (.slice none 0 0) (.slice none 0 0)) (t3 (leftK a.cols b.cols 0) (rightK a.cols b.cols 0) (othersK a.cols b.cols 0)) w6 by
      refine ⟨World.grownBy.refl _ _, block_lt_of_cell (hcl 0 _ rfl), fun i hi => ?_, fun i j hi hj _ g h1 => ?_, fun i hi => ?_, fun i => by simp [World.frozen?, hblk], fun i x _ hx => hx⟩
      · match i, hi with
        | 0, _ => exact World.ownsRow_nil _ _ _ _
        | 1, _ => exact World.ownsRow_nil _ _ _ _
        | 2, _ => exact World.ownsRow_nil _ _ _ _
      · match i, hi with
        | 0, _ => cases h1
        | 1, _ => cases h1
        | 2, _ => cases h1
      · match i, hi with
        | 0, _ => exact hcl 4 _ rfl
        | 1, _ => exact hcl 5 _ rfl
        | 2, _ => exact hcl 6 _ rfl)
    have HX6 := Lib.hid hx6
    have t0 := hx6.cell p0
    clear hw6 hg hblk hcl hx5 q0' q1' p0' p1'
    go_upto_region 6 with (fail)
    clear t0
    go_loopw [27] (fun u W => ∃ (k : Nat) (v : Nat → Value), u = .int .i64 k ∧ k ≤ b.cols.length ∧ Hid (BegW w6 g v v (t3 (leftK a.cols b.cols k) (rightK a.cols b.cols k) (othersK a.cols b.cols k)) W)) (fun u _ => b.cols.length - (intOf u).toNat)
    case atStart => exact ⟨0, _, rfl, Nat.zero_le _, HBG⟩
    case round =>
      clear HBG
      obtain ⟨k, v, rfl, hk, hbw⟩ := hrel
      have hgx : ∀ {bk o x}, bk < g → w6.cell? ⟨bk, o, none⟩ = some x → wr.cell? ⟨bk, o, none⟩ = some x := fun {bk o x} hb hx => hbw.out.gr.cell hx (fun e => absurd (Option.some.inj e) (Nat.ne_of_lt hb))
      have s0 : wr.cell? ⟨q, 0, none⟩ = some (.slice A a.cols.length c) := hgx (by have := HQ.out; omega) (HX6.out.cell q0)
      have hQg := HQ.out
      by_cases hlt : k < b.cols.length
      · obtain ⟨bb, ob, rfl, hc⟩ := HB.out.cols.2 (by omega)
        have h5 := (hc k hlt).2
        rw [Nat.mul_one] at h5
        have hbq : bb < g := Nat.lt_of_lt_of_le (block_lt_of_cell h5) HLQ.out
        have d0 := hgx hbq (HX6.out.cell h5)
        have HIX := Lib.hid (fun W (e : Ext wr W) => j_IndexS a.cols b.cols[k] (fun b => ok b ∧ b < g) A c W (SliceR.mono HA.out.cols (fun b o x _ hx => ⟨⟨hx.1, Nat.lt_of_lt_of_le (block_lt_of_cell hx.2) HLQ.out⟩, e.cell (hgx (Nat.lt_of_lt_of_le (block_lt_of_cell hx.2) HLQ.out) (HX6.out.cell hx.2))⟩)))
        have HP := Lib.hid (show b.cols[k]! = b.cols[k] from getElem!_pos b.cols k hlt)
        have HZ := Lib.hid (idxF_pos a.cols b.cols[k])
        clear hc h5 hgx
        generalize b.cols[k] = s at *
        generalize idxF (fun t => decide (s = t)) a.cols = z at *
        go_upto_region 9 with (go_at_call 50; ((with_reducible refine (HIX.out _ (Ext.refl _)).mono ?_); rintro e w7 ⟨rfl, hx7⟩))
        have HBW := Lib.hid (hbw.out.ext hx7)
        have c4 : w7.cell? ⟨g, 4, none⟩ = some (v 0) := HBW.out.cel 0 (by decide)
        have c5 : w7.cell? ⟨g, 5, none⟩ = some (v 1) := HBW.out.cel 1 (by decide)
        have c6 : w7.cell? ⟨g, 6, none⟩ = some (v 2) := HBW.out.cel 2 (by decide)
        have f6 := HBW.out.fz 6
        have hgs : g < w7.heap.size := block_lt_of_cell c4
        have hb6 : w6.heap.size ≤ w7.heap.size := HBW.out.gr.size
        have hlk := leftK_len (a := a.cols) (b := b.cols) (k := k)
        have hrk := rightK_len (a := a.cols) (b := b.cols) (k := k)
        have hok := othersK_len (a := a.cols) (b := b.cols) (k := k)
        clear hbw s0 d0 hx7 HIX
        cases hpos : posJ a.cols s with
        | some i =>
          have hz := HZ.out
          rw [hpos] at hz
          have hz2 : z = (i : Int) := hz
          subst hz2
          have HL := Lib.hid (leftK_some (a := a.cols) (b := b.cols) (k := k) (i := i) (by rw [HP.out]; exact hpos))
          have HR := Lib.hid (rightK_some (a := a.cols) (b := b.cols) (k := k) (i := i) (by rw [HP.out]; exact hpos))
          have HO := Lib.hid (othersK_some (a := a.cols) (b := b.cols) (k := k) (i := i) (by rw [HP.out]; exact hpos))
          clear hpos HZ hz HP
          go_upto_region 10 with (fail)
          refine AnyE.start (S := (fun V => V.cell? ⟨g, 4, none⟩ = some (v 0) ∧ V.cell? ⟨g, 5, none⟩ = some (v 1))) (E := 18) (by kernel_rfl) ?hs49 (fun hHeld => ?go49)
          case hs49 => (exact ⟨by first | assumption | (go_simp; done), by first | assumption | (go_simp; done)⟩)
          refine AnyE.takeP (i := 0) (oi := ⟨(some 38), (.move (.tmp 7)), 45, "join.go:44", #[], none⟩) (v := ?v50) rfl (by kernel_rfl) (by kernel_rfl) (by kernel_rfl) (fun _ _ _ h => h) rfl (Or.inl ⟨rfl, ?hy50⟩) (fun _ => hHeld) ?rest50
          case hy50 => (intro w hSw; (try dsimp only at hSw); go_simp <;> first | with_reducible rfl | rw [if_neg (by omega)] | rw [if_pos (by omega)])
          (try simp only [Act.put]); (try simp only [List.setIfInBounds_toArray]); (try simp only [List.set_cons_succ]); (try simp only [List.set_cons_zero])
          refine AnyE.takeP (i := 1) (oi := ⟨(some 39), (.move (.tmp 7)), 45, "join.go:44", #[⟨18, (.gcOnly Departure.lateStores)⟩], none⟩) (v := ?v51) rfl (by kernel_rfl) (by kernel_rfl) (by kernel_rfl) (fun _ _ _ h => h) rfl (Or.inl ⟨rfl, ?hy51⟩) (fun _ => hHeld) ?rest51
          case hy51 => (intro w hSw; (try dsimp only at hSw); go_simp <;> first | with_reducible rfl | rw [if_neg (by omega)] | rw [if_pos (by omega)])
          (try simp only [Act.put]); (try simp only [List.setIfInBounds_toArray]); (try simp only [List.set_cons_succ]); (try simp only [List.set_cons_zero])
          refine AnyE.takeP (i := 2) (oi := ⟨(some 40), (.move (.tmp 7)), 45, "join.go:44", #[], none⟩) (v := ?v52) rfl (by kernel_rfl) (by kernel_rfl) (by kernel_rfl) (fun _ _ _ h => h) rfl (Or.inl ⟨rfl, ?hy52⟩) (fun _ => hHeld) ?rest52
          case hy52 => (intro w hSw; (try dsimp only at hSw); go_simp <;> first | with_reducible rfl | rw [if_neg (by omega)] | rw [if_pos (by omega)])
          (try simp only [Act.put]); (try simp only [List.setIfInBounds_toArray]); (try simp only [List.set_cons_succ]); (try simp only [List.set_cons_zero])
          refine AnyE.takeP (i := 3) (oi := ⟨(some 41), (.nilCheck (.tmp 40)), 0, "join.go:44", #[⟨2, .data⟩], none⟩) (v := ?v53) rfl (by kernel_rfl) (by kernel_rfl) (by kernel_rfl) (fun _ _ _ h => h) rfl (Or.inl ⟨rfl, ?hy53⟩) (fun _ => hHeld) ?rest53
          case hy53 => (intro w hSw; (try dsimp only at hSw); go_simp <;> first | with_reducible rfl | rw [if_neg (by omega)] | rw [if_pos (by omega)])
          (try simp only [Act.put]); (try simp only [List.setIfInBounds_toArray]); (try simp only [List.set_cons_succ]); (try simp only [List.set_cons_zero])
          refine AnyE.takeP (i := 4) (oi := ⟨(some 42), (.fieldAddr 63 (.tmp 41) 2), 0, "join.go:44", #[⟨3, .data⟩], none⟩) (v := ?v54) rfl (by kernel_rfl) (by kernel_rfl) (by kernel_rfl) (fun _ _ _ h => h) rfl (Or.inl ⟨rfl, ?hy54⟩) (fun _ => hHeld) ?rest54
          case hy54 => (intro w hSw; (try dsimp only at hSw); go_simp <;> first | with_reducible rfl | rw [if_neg (by omega)] | rw [if_pos (by omega)])
          (try simp only [Act.put]); (try simp only [List.setIfInBounds_toArray]); (try simp only [List.set_cons_succ]); (try simp only [List.set_cons_zero])
          refine AnyE.take (i := 5) (oi := ⟨(some 43), (.load 61 (.tmp 42)), 61, "join.go:44", #[⟨4, .data⟩], none⟩) (v := ?v55) rfl (by kernel_rfl) (by kernel_rfl) (by kernel_rfl) (fun _ _ _ h => h) (by kernel_rfl) rfl (by kernel_rfl) (Or.inl ⟨rfl, ?hy55⟩) hHeld ?rest55
          case hy55 => (intro w hSw; (try dsimp only at hSw); go_simp <;> first | with_reducible rfl | rw [if_neg (by omega)] | rw [if_pos (by omega)])
          (try simp only [Act.put]); (try simp only [List.setIfInBounds_toArray]); (try simp only [List.set_cons_succ]); (try simp only [List.set_cons_zero])
          refine AnyE.takeP (i := 6) (oi := ⟨(some 44), (.move (.tmp 10)), 3, "join.go:44", #[], none⟩) (v := ?v56) rfl (by kernel_rfl) (by kernel_rfl) (by kernel_rfl) (fun _ _ _ h => h) rfl (Or.inl ⟨rfl, ?hy56⟩) (fun _ => hHeld) ?rest56
          case hy56 => (intro w hSw; (try dsimp only at hSw); go_simp <;> first | with_reducible rfl | rw [if_neg (by omega)] | rw [if_pos (by omega)])
          (try simp only [Act.put]); (try simp only [List.setIfInBounds_toArray]); (try simp only [List.set_cons_succ]); (try simp only [List.set_cons_zero])
          refine AnyE.takeP (i := 9) (oi := ⟨(some 47), (.move (.tmp 7)), 45, "join.go:44", #[], none⟩) (v := ?v57) rfl (by kernel_rfl) (by kernel_rfl) (by kernel_rfl) (fun _ _ _ h => h) rfl (Or.inl ⟨rfl, ?hy57⟩) (fun _ => hHeld) ?rest57
          case hy57 => (intro w hSw; (try dsimp only at hSw); go_simp <;> first | with_reducible rfl | rw [if_neg (by omega)] | rw [if_pos (by omega)])
          (try simp only [Act.put]); (try simp only [List.setIfInBounds_toArray]); (try simp only [List.set_cons_succ]); (try simp only [List.set_cons_zero])
          refine AnyE.takeP (i := 10) (oi := ⟨(some 48), (.nilCheck (.tmp 47)), 0, "join.go:44", #[⟨9, .data⟩], none⟩) (v := ?v58) rfl (by kernel_rfl) (by kernel_rfl) (by kernel_rfl) (fun _ _ _ h => h) rfl (Or.inl ⟨rfl, ?hy58⟩) (fun _ => hHeld) ?rest58
          case hy58 => (intro w hSw; (try dsimp only at hSw); go_simp <;> first | with_reducible rfl | rw [if_neg (by omega)] | rw [if_pos (by omega)])
          (try simp only [Act.put]); (try simp only [List.setIfInBounds_toArray]); (try simp only [List.set_cons_succ]); (try simp only [List.set_cons_zero])
          refine AnyE.takeP (i := 11) (oi := ⟨(some 49), (.fieldAddr 63 (.tmp 48) 3), 0, "join.go:44", #[⟨10, .data⟩], none⟩) (v := ?v59) rfl (by kernel_rfl) (by kernel_rfl) (by kernel_rfl) (fun _ _ _ h => h) rfl (Or.inl ⟨rfl, ?hy59⟩) (fun _ => hHeld) ?rest59
          case hy59 => (intro w hSw; (try dsimp only at hSw); go_simp <;> first | with_reducible rfl | rw [if_neg (by omega)] | rw [if_pos (by omega)])
          (try simp only [Act.put]); (try simp only [List.setIfInBounds_toArray]); (try simp only [List.set_cons_succ]); (try simp only [List.set_cons_zero])
          refine AnyE.take (i := 12) (oi := ⟨(some 50), (.load 61 (.tmp 49)), 61, "join.go:44", #[⟨11, .data⟩], none⟩) (v := ?v60) rfl (by kernel_rfl) (by kernel_rfl) (by kernel_rfl) (fun _ _ _ h => h) (by kernel_rfl) rfl (by kernel_rfl) (Or.inl ⟨rfl, ?hy60⟩) hHeld ?rest60
          case hy60 => (intro w hSw; (try dsimp only at hSw); go_simp <;> first | with_reducible rfl | rw [if_neg (by omega)] | rw [if_pos (by omega)])
          (try simp only [Act.put]); (try simp only [List.setIfInBounds_toArray]); (try simp only [List.set_cons_succ]); (try simp only [List.set_cons_zero])
          refine AnyE.takeP (i := 13) (oi := ⟨(some 51), (.move (.tmp 8)), 3, "join.go:44", #[], none⟩) (v := ?v61) rfl (by kernel_rfl) (by kernel_rfl) (by kernel_rfl) (fun _ _ _ h => h) rfl (Or.inl ⟨rfl, ?hy61⟩) (fun _ => hHeld) ?rest61
          case hy61 => (intro w hSw; (try dsimp only at hSw); go_simp <;> first | with_reducible rfl | rw [if_neg (by omega)] | rw [if_pos (by omega)])
          (try simp only [Act.put]); (try simp only [List.setIfInBounds_toArray]); (try simp only [List.set_cons_succ]); (try simp only [List.set_cons_zero])
          refine AnyE.ready (rs := [7, 14]) (by kernel_rfl) (by simp) ?_
          refine AllE.cons (o := ⟨(some 45), (.buildSlice 61 1 #[(0, (.tmp 44))]), 61, "join.go:44", #[⟨6, .data⟩], none⟩) rfl (fun K hK => ?step62x0) ?more62x0
          case more62x0 =>
            refine AllE.cons (o := ⟨(some 52), (.buildSlice 61 1 #[(0, (.tmp 51))]), 61, "join.go:44", #[⟨13, .data⟩], none⟩) rfl (fun K hK => ?step62x1) ?more62x1
            case more62x1 => exact AllE.nil
            go_simp
            refine hK.out _ _ ?hS62x1 (fun hHeld62 => ?rest62x1)
            case hS62x1 => intro _; first | (exact ⟨by first | assumption | (go_simp; done), by first | assumption | (go_simp; done)⟩) | ((try dsimp only); (exact ⟨by first | assumption | (go_simp; done), by first | assumption | (go_simp; done)⟩))
            clear hK K
            clear hHeld
            (try simp only [Act.put]); (try simp only [List.setIfInBounds_toArray]); (try simp only [List.set_cons_succ]); (try simp only [List.set_cons_zero])
            refine AnyE.ready (rs := [7]) (by kernel_rfl) (by simp) ?_
            refine AllE.cons (o := ⟨(some 45), (.buildSlice 61 1 #[(0, (.tmp 44))]), 61, "join.go:44", #[⟨6, .data⟩], none⟩) rfl (fun K hK => ?step63x0) ?more63x0
            case more63x0 => exact AllE.nil
            go_simp
            refine hK.out _ _ ?hS63x0 (fun hHeld63 => ?rest63x0)
            case hS63x0 => intro _; first | (exact ⟨by first | assumption | (go_simp; done), by first | assumption | (go_simp; done)⟩) | ((try dsimp only); (exact ⟨by first | assumption | (go_simp; done), by first | assumption | (go_simp; done)⟩))
            clear hK K
            clear hHeld62
            (try simp only [Act.put]); (try simp only [List.setIfInBounds_toArray]); (try simp only [List.set_cons_succ]); (try simp only [List.set_cons_zero])
            refine AnyE.ready (rs := [8]) (by kernel_rfl) (by simp) ?_
            refine AllE.cons (o := ⟨(some 46), (.call { callee := (.builtin .append), args := #[(.tmp 43), (.tmp 45)], argTypes := #[61, 61] }), 61, "join.go:44", #[⟨5, .data⟩, ⟨7, .data⟩], none⟩) rfl (fun K hK => ?step64x0) ?more64x0
            case more64x0 => exact AllE.nil
            (refine step_pushN rfl (.tmp 43) (.tmp 45) rfl w6.heap.size (v 0) (leftK a.cols b.cols k).length ((leftK a.cols b.cols k).map intV) (.int .i64 i) rfl ((HBW.out.ext (W' := _) (by repeat (first | with_reducible exact Ext.refl _ | with_reducible assumption | with_reducible refine Ext.drew ?_ | with_reducible refine Ext.drewN ?_ _ | with_reducible refine Ext.alloc ?_ _))).own 0 (by decide)) _ rfl (by go_simp) rfl (by omega) (Nat.le_trans hb6 (Ext.le (a := w7) (by repeat (first | with_reducible exact Ext.refl _ | with_reducible assumption | with_reducible refine Ext.drew ?_ | with_reducible refine Ext.drewN ?_ _ | with_reducible refine Ext.alloc ?_ _)))) ?_; intro vL wL hOL hgL hbL; obtain ⟨AL, cL, rfl⟩ := own_form hOL; have hcL := fun (bk o : Nat) (x : Value) (hb : w7.heap.size ≤ bk) hx => hgL.cell (a := ⟨bk, o, none⟩) (v := x) hx (fun e => by have := ((HBW.out.own 0 (by decide)).lt bk e.symm).2; omega); have HBL := Lib.hid ((HBW.out.ext (W' := _) (by repeat (first | with_reducible exact Ext.refl _ | with_reducible assumption | with_reducible refine Ext.drew ?_ | with_reducible refine Ext.drewN ?_ _ | with_reducible refine Ext.alloc ?_ _))).grow (i := 0) (k := i) (by decide) hgL hOL hbL); have c4L : wL.cell? ⟨g, 4, none⟩ = some (v 0) := HBL.out.cel 0 (by decide); have c5L : wL.cell? ⟨g, 5, none⟩ = some (v 1) := HBL.out.cel 1 (by decide); have hgsL : g < wL.heap.size := block_lt_of_cell c4L; have hbL6 := HBL.out.gr.size)
            refine hK.out _ _ ?hS64x0 (fun hHeld64 => ?rest64x0)
            case hS64x0 => intro _; first | (exact ⟨by first | assumption | (go_simp; done), by first | assumption | (go_simp; done)⟩) | ((try dsimp only); (exact ⟨by first | assumption | (go_simp; done), by first | assumption | (go_simp; done)⟩))
            clear hK K
            clear hHeld63
            (try simp only [Act.put]); (try simp only [List.setIfInBounds_toArray]); (try simp only [List.set_cons_succ]); (try simp only [List.set_cons_zero])
            refine AnyE.ready (rs := [15]) (by kernel_rfl) (by simp) ?_
            refine AllE.cons (o := ⟨(some 53), (.call { callee := (.builtin .append), args := #[(.tmp 50), (.tmp 52)], argTypes := #[61, 61] }), 61, "join.go:44", #[⟨12, .data⟩, ⟨14, .data⟩, ⟨8, .chain⟩], none⟩) rfl (fun K hK => ?step65x0) ?more65x0
            case more65x0 => exact AllE.nil
            (refine step_pushN rfl (.tmp 50) (.tmp 52) rfl w6.heap.size (v 1) (rightK a.cols b.cols k).length ((rightK a.cols b.cols k).map intV) (.int .i64 k) rfl ((HBL.out.ext (W' := _) (by repeat (first | with_reducible exact Ext.refl _ | with_reducible assumption | with_reducible refine Ext.drew ?_ | with_reducible refine Ext.drewN ?_ _ | with_reducible refine Ext.alloc ?_ _))).own 1 (by decide)) _ rfl (by first | (go_simp; done) | (refine hcL _ _ _ (by first | exact Nat.le_refl _ | (simp; done) | (simp; omega)) ?_; go_simp)) rfl (by omega) (Nat.le_trans hbL6 (Ext.le (a := wL) (by repeat (first | with_reducible exact Ext.refl _ | with_reducible assumption | with_reducible refine Ext.drew ?_ | with_reducible refine Ext.drewN ?_ _ | with_reducible refine Ext.alloc ?_ _)))) ?_; intro vR wR hOR hgR hbR; obtain ⟨AR, cR, rfl⟩ := own_form hOR; have HBR := Lib.hid ((HBL.out.ext (W' := _) (by repeat (first | with_reducible exact Ext.refl _ | with_reducible assumption | with_reducible refine Ext.drew ?_ | with_reducible refine Ext.drewN ?_ _ | with_reducible refine Ext.alloc ?_ _))).grow (i := 1) (k := k) (by decide) hgR hOR hbR); have c4R : wR.cell? ⟨g, 4, none⟩ = some (v 0) := HBR.out.cel 0 (by decide); have c5R : wR.cell? ⟨g, 5, none⟩ = some (v 1) := HBR.out.cel 1 (by decide); have f4R := HBR.out.fz 4; have f5R := HBR.out.fz 5)
            refine hK.out _ _ ?hS65x0 (fun hHeld65 => ?rest65x0)
            case hS65x0 => intro _; first | (exact ⟨by first | assumption | (go_simp; done), by first | assumption | (go_simp; done)⟩) | ((try dsimp only); (exact ⟨by first | assumption | (go_simp; done), by first | assumption | (go_simp; done)⟩))
            clear hK K
            clear hHeld64
            (try simp only [Act.put]); (try simp only [List.setIfInBounds_toArray]); (try simp only [List.set_cons_succ]); (try simp only [List.set_cons_zero])
            refine AnyE.takeP (i := 16) (oi := ⟨(some 54), (.nilCheck (.tmp 38)), 0, "join.go:44", #[⟨0, .data⟩, ⟨0, .phase⟩, ⟨1, (.textOnly Departure.lateStores)⟩, ⟨2, .phase⟩, ⟨3, .phase⟩, ⟨4, .phase⟩, ⟨5, .phase⟩, ⟨6, .phase⟩, ⟨7, .phase⟩, ⟨8, .phase⟩, ⟨9, (.textOnly Departure.lateStores)⟩, ⟨10, (.textOnly Departure.lateStoresUnsure)⟩, ⟨11, (.textOnly Departure.lateStoresUnsure)⟩, ⟨12, .phase⟩, ⟨13, (.textOnly Departure.lateStores)⟩, ⟨14, (.textOnly Departure.lateStoresUnsure)⟩, ⟨15, .phase⟩], none⟩) (v := ?v66) rfl (by kernel_rfl) (by kernel_rfl) (by kernel_rfl) (fun _ _ _ h => h) rfl (Or.inl ⟨rfl, ?hy66⟩) (fun _ => (hHeld65 (by kernel_rfl))) ?rest66
            case hy66 => (intro w hSw; (try dsimp only at hSw); go_simp <;> first | with_reducible rfl | rw [if_neg (by omega)] | rw [if_pos (by omega)])
            (try simp only [Act.put]); (try simp only [List.setIfInBounds_toArray]); (try simp only [List.set_cons_succ]); (try simp only [List.set_cons_zero])
            refine AnyE.takeP (i := 17) (oi := ⟨(some 55), (.fieldAddr 63 (.tmp 54) 2), 0, "join.go:44", #[⟨16, .data⟩, ⟨0, .phase⟩, ⟨1, (.textOnly Departure.lateStores)⟩, ⟨2, .phase⟩, ⟨3, .phase⟩, ⟨4, .phase⟩, ⟨5, .phase⟩, ⟨6, .phase⟩, ⟨7, .phase⟩, ⟨8, .phase⟩, ⟨9, (.textOnly Departure.lateStores)⟩, ⟨10, (.textOnly Departure.lateStoresUnsure)⟩, ⟨11, (.textOnly Departure.lateStoresUnsure)⟩, ⟨12, .phase⟩, ⟨13, (.textOnly Departure.lateStores)⟩, ⟨14, (.textOnly Departure.lateStoresUnsure)⟩, ⟨15, .phase⟩], none⟩) (v := ?v67) rfl (by kernel_rfl) (by kernel_rfl) (by kernel_rfl) (fun _ _ _ h => h) rfl (Or.inl ⟨rfl, ?hy67⟩) (fun _ => (hHeld65 (by kernel_rfl))) ?rest67
            case hy67 => (intro w hSw; (try dsimp only at hSw); go_simp <;> first | with_reducible rfl | rw [if_neg (by omega)] | rw [if_pos (by omega)])
            (try simp only [Act.put]); (try simp only [List.setIfInBounds_toArray]); (try simp only [List.set_cons_succ]); (try simp only [List.set_cons_zero])
            refine AnyE.ready (rs := [18]) (by kernel_rfl) (by simp) ?_
            refine AllE.cons (o := ⟨none, (.store 61 (.tmp 55) (.tmp 46)), 0, "join.go:44", #[⟨17, .data⟩, ⟨8, .data⟩, ⟨15, .chain⟩, ⟨0, .phase⟩, ⟨1, (.textOnly Departure.lateStores)⟩, ⟨2, .phase⟩, ⟨3, .phase⟩, ⟨4, .phase⟩, ⟨5, .phase⟩, ⟨6, .phase⟩, ⟨7, .phase⟩, ⟨8, .phase⟩, ⟨9, (.textOnly Departure.lateStores)⟩, ⟨10, (.textOnly Departure.lateStoresUnsure)⟩, ⟨11, (.textOnly Departure.lateStoresUnsure)⟩, ⟨12, .phase⟩, ⟨13, (.textOnly Departure.lateStores)⟩, ⟨14, (.textOnly Departure.lateStoresUnsure)⟩, ⟨15, .phase⟩], none⟩) rfl (fun K hK => ?step68x0) ?more68x0
            case more68x0 => exact AllE.nil
            go_simp
            refine hK.out _ _ ?hS68x0 (fun hHeld68 => ?rest68x0)
            case hS68x0 => first | (intro h; exact absurd h (by decide)) | (intro h; simp at h)
            clear hK K
            clear hHeld65
            (try simp only [Act.put]); (try simp only [List.setIfInBounds_toArray]); (try simp only [List.set_cons_succ]); (try simp only [List.set_cons_zero])
            refine AnyE.ready (rs := [19]) (by kernel_rfl) (by simp) ?_
            refine AllE.cons (o := ⟨(some 56), (.nilCheck (.tmp 39)), 0, "join.go:44", #[⟨1, .data⟩, ⟨0, .phase⟩, ⟨1, .phase⟩, ⟨2, .phase⟩, ⟨3, .phase⟩, ⟨4, .phase⟩, ⟨5, .phase⟩, ⟨6, .phase⟩, ⟨7, .phase⟩, ⟨8, .phase⟩, ⟨9, .phase⟩, ⟨10, .phase⟩, ⟨11, .phase⟩, ⟨12, .phase⟩, ⟨13, .phase⟩, ⟨14, .phase⟩, ⟨15, .phase⟩, ⟨16, .phase⟩, ⟨17, .phase⟩, ⟨18, .phase⟩], none⟩) rfl (fun K hK => ?step69x0) ?more69x0
            case more69x0 => exact AllE.nil
            go_simp
            refine hK.out _ _ ?hS69x0 (fun hHeld69 => ?rest69x0)
            case hS69x0 => first | (intro h; exact absurd h (by decide)) | (intro h; simp at h)
            clear hK K
            clear hHeld68
            (try simp only [Act.put]); (try simp only [List.setIfInBounds_toArray]); (try simp only [List.set_cons_succ]); (try simp only [List.set_cons_zero])
            refine AnyE.ready (rs := [20]) (by kernel_rfl) (by simp) ?_
            refine AllE.cons (o := ⟨(some 57), (.fieldAddr 63 (.tmp 56) 3), 0, "join.go:44", #[⟨19, .data⟩, ⟨0, .phase⟩, ⟨1, .phase⟩, ⟨2, .phase⟩, ⟨3, .phase⟩, ⟨4, .phase⟩, ⟨5, .phase⟩, ⟨6, .phase⟩, ⟨7, .phase⟩, ⟨8, .phase⟩, ⟨9, .phase⟩, ⟨10, .phase⟩, ⟨11, .phase⟩, ⟨12, .phase⟩, ⟨13, .phase⟩, ⟨14, .phase⟩, ⟨15, .phase⟩, ⟨16, .phase⟩, ⟨17, .phase⟩, ⟨18, .phase⟩], none⟩) rfl (fun K hK => ?step70x0) ?more70x0
            case more70x0 => exact AllE.nil
            go_simp
            refine hK.out _ _ ?hS70x0 (fun hHeld70 => ?rest70x0)
            case hS70x0 => first | (intro h; exact absurd h (by decide)) | (intro h; simp at h)
            clear hK K
            clear hHeld69
            (try simp only [Act.put]); (try simp only [List.setIfInBounds_toArray]); (try simp only [List.set_cons_succ]); (try simp only [List.set_cons_zero])
            refine AnyE.ready (rs := [21]) (by kernel_rfl) (by simp) ?_
            refine AllE.cons (o := ⟨none, (.store 61 (.tmp 57) (.tmp 53)), 0, "join.go:44", #[⟨20, .data⟩, ⟨15, .data⟩, ⟨18, .chain⟩, ⟨0, .phase⟩, ⟨1, .phase⟩, ⟨2, .phase⟩, ⟨3, .phase⟩, ⟨4, .phase⟩, ⟨5, .phase⟩, ⟨6, .phase⟩, ⟨7, .phase⟩, ⟨8, .phase⟩, ⟨9, .phase⟩, ⟨10, .phase⟩, ⟨11, .phase⟩, ⟨12, .phase⟩, ⟨13, .phase⟩, ⟨14, .phase⟩, ⟨15, .phase⟩, ⟨16, .phase⟩, ⟨17, .phase⟩, ⟨18, .phase⟩], none⟩) rfl (fun K hK => ?step71x0) ?more71x0
            case more71x0 => exact AllE.nil
            go_simp
            refine hK.out _ _ ?hS71x0 (fun hHeld71 => ?rest71x0)
            case hS71x0 => first | (intro h; exact absurd h (by decide)) | (intro h; simp at h)
            clear hK K
            clear hHeld70
            (try simp only [Act.put]); (try simp only [List.setIfInBounds_toArray]); (try simp only [List.set_cons_succ]); (try simp only [List.set_cons_zero])
            refine AnyE.done (by kernel_rfl) ?_ _
            clear hHeld71
            have HS := Lib.hid ((HBR.out.store (i := 0) (by decide) (.slice AL ((leftK a.cols b.cols k).length + 1) cL)).store (i := 1) (by decide) (.slice AR ((rightK a.cols b.cols k).length + 1) cR))
            have HS2 := Lib.hid (HS.out.congr (ls' := t3 (leftK a.cols b.cols (k + 1)) (rightK a.cols b.cols (k + 1)) (othersK a.cols b.cols (k + 1))) (ls3_eq HL.out HR.out HO.out))
            go_wp2_with fail
            go_roundw
            case rel => exact ⟨k + 1, _, by go_num, by omega, HS2⟩
            case measure => simp [intOf]; omega
          go_simp
          refine hK.out _ _ ?hS62x0 (fun hHeld62 => ?rest62x0)
          case hS62x0 => intro _; first | (exact ⟨by first | assumption | (go_simp; done), by first | assumption | (go_simp; done)⟩) | ((try dsimp only); (exact ⟨by first | assumption | (go_simp; done), by first | assumption | (go_simp; done)⟩))
          clear hK K
          clear hHeld
          (try simp only [Act.put]); (try simp only [List.setIfInBounds_toArray]); (try simp only [List.set_cons_succ]); (try simp only [List.set_cons_zero])
          refine AnyE.ready (rs := [8, 14]) (by kernel_rfl) (by simp) ?_
          refine AllE.cons (o := ⟨(some 46), (.call { callee := (.builtin .append), args := #[(.tmp 43), (.tmp 45)], argTypes := #[61, 61] }), 61, "join.go:44", #[⟨5, .data⟩, ⟨7, .data⟩], none⟩) rfl (fun K hK => ?step72x0) ?more72x0
          case more72x0 =>
            refine AllE.cons (o := ⟨(some 52), (.buildSlice 61 1 #[(0, (.tmp 51))]), 61, "join.go:44", #[⟨13, .data⟩], none⟩) rfl (fun K hK => ?step72x1) ?more72x1
            case more72x1 => exact AllE.nil
            go_simp
            refine hK.out _ _ ?hS72x1 (fun hHeld72 => ?rest72x1)
            case hS72x1 => intro _; first | (exact ⟨by first | assumption | (go_simp; done), by first | assumption | (go_simp; done)⟩) | ((try dsimp only); (exact ⟨by first | assumption | (go_simp; done), by first | assumption | (go_simp; done)⟩))
            clear hK K
            clear hHeld62
            (try simp only [Act.put]); (try simp only [List.setIfInBounds_toArray]); (try simp only [List.set_cons_succ]); (try simp only [List.set_cons_zero])
            refine AnyE.ready (rs := [8]) (by kernel_rfl) (by simp) ?_
            refine AllE.cons (o := ⟨(some 46), (.call { callee := (.builtin .append), args := #[(.tmp 43), (.tmp 45)], argTypes := #[61, 61] }), 61, "join.go:44", #[⟨5, .data⟩, ⟨7, .data⟩], none⟩) rfl (fun K hK => ?step73x0) ?more73x0
            case more73x0 => exact AllE.nil
            (refine step_pushN rfl (.tmp 43) (.tmp 45) rfl w6.heap.size (v 0) (leftK a.cols b.cols k).length ((leftK a.cols b.cols k).map intV) (.int .i64 i) rfl ((HBW.out.ext (W' := _) (by repeat (first | with_reducible exact Ext.refl _ | with_reducible assumption | with_reducible refine Ext.drew ?_ | with_reducible refine Ext.drewN ?_ _ | with_reducible refine Ext.alloc ?_ _))).own 0 (by decide)) _ rfl (by go_simp) rfl (by omega) (Nat.le_trans hb6 (Ext.le (a := w7) (by repeat (first | with_reducible exact Ext.refl _ | with_reducible assumption | with_reducible refine Ext.drew ?_ | with_reducible refine Ext.drewN ?_ _ | with_reducible refine Ext.alloc ?_ _)))) ?_; intro vL wL hOL hgL hbL; obtain ⟨AL, cL, rfl⟩ := own_form hOL; have hcL := fun (bk o : Nat) (x : Value) (hb : w7.heap.size ≤ bk) hx => hgL.cell (a := ⟨bk, o, none⟩) (v := x) hx (fun e => by have := ((HBW.out.own 0 (by decide)).lt bk e.symm).2; omega); have HBL := Lib.hid ((HBW.out.ext (W' := _) (by repeat (first | with_reducible exact Ext.refl _ | with_reducible assumption | with_reducible refine Ext.drew ?_ | with_reducible refine Ext.drewN ?_ _ | with_reducible refine Ext.alloc ?_ _))).grow (i := 0) (k := i) (by decide) hgL hOL hbL); have c4L : wL.cell? ⟨g, 4, none⟩ = some (v 0) := HBL.out.cel 0 (by decide); have c5L : wL.cell? ⟨g, 5, none⟩ = some (v 1) := HBL.out.cel 1 (by decide); have hgsL : g < wL.heap.size := block_lt_of_cell c4L; have hbL6 := HBL.out.gr.size)
            refine hK.out _ _ ?hS73x0 (fun hHeld73 => ?rest73x0)
            case hS73x0 => intro _; first | (exact ⟨by first | assumption | (go_simp; done), by first | assumption | (go_simp; done)⟩) | ((try dsimp only); (exact ⟨by first | assumption | (go_simp; done), by first | assumption | (go_simp; done)⟩))
            clear hK K
            clear hHeld72
            (try simp only [Act.put]); (try simp only [List.setIfInBounds_toArray]); (try simp only [List.set_cons_succ]); (try simp only [List.set_cons_zero])
            refine AnyE.ready (rs := [15]) (by kernel_rfl) (by simp) ?_
            refine AllE.cons (o := ⟨(some 53), (.call { callee := (.builtin .append), args := #[(.tmp 50), (.tmp 52)], argTypes := #[61, 61] }), 61, "join.go:44", #[⟨12, .data⟩, ⟨14, .data⟩, ⟨8, .chain⟩], none⟩) rfl (fun K hK => ?step74x0) ?more74x0
            case more74x0 => exact AllE.nil
            (refine step_pushN rfl (.tmp 50) (.tmp 52) rfl w6.heap.size (v 1) (rightK a.cols b.cols k).length ((rightK a.cols b.cols k).map intV) (.int .i64 k) rfl ((HBL.out.ext (W' := _) (by repeat (first | with_reducible exact Ext.refl _ | with_reducible assumption | with_reducible refine Ext.drew ?_ | with_reducible refine Ext.drewN ?_ _ | with_reducible refine Ext.alloc ?_ _))).own 1 (by decide)) _ rfl (by first | (go_simp; done) | (refine hcL _ _ _ (by first | exact Nat.le_refl _ | (simp; done) | (simp; omega)) ?_; go_simp)) rfl (by omega) (Nat.le_trans hbL6 (Ext.le (a := wL) (by repeat (first | with_reducible exact Ext.refl _ | with_reducible assumption | with_reducible refine Ext.drew ?_ | with_reducible refine Ext.drewN ?_ _ | with_reducible refine Ext.alloc ?_ _)))) ?_; intro vR wR hOR hgR hbR; obtain ⟨AR, cR, rfl⟩ := own_form hOR; have HBR := Lib.hid ((HBL.out.ext (W' := _) (by repeat (first | with_reducible exact Ext.refl _ | with_reducible assumption | with_reducible refine Ext.drew ?_ | with_reducible refine Ext.drewN ?_ _ | with_reducible refine Ext.alloc ?_ _))).grow (i := 1) (k := k) (by decide) hgR hOR hbR); have c4R : wR.cell? ⟨g, 4, none⟩ = some (v 0) := HBR.out.cel 0 (by decide); have c5R : wR.cell? ⟨g, 5, none⟩ = some (v 1) := HBR.out.cel 1 (by decide); have f4R := HBR.out.fz 4; have f5R := HBR.out.fz 5)
            refine hK.out _ _ ?hS74x0 (fun hHeld74 => ?rest74x0)
            case hS74x0 => intro _; first | (exact ⟨by first | assumption | (go_simp; done), by first | assumption | (go_simp; done)⟩) | ((try dsimp only); (exact ⟨by first | assumption | (go_simp; done), by first | assumption | (go_simp; done)⟩))
            clear hK K
            clear hHeld73
            (try simp only [Act.put]); (try simp only [List.setIfInBounds_toArray]); (try simp only [List.set_cons_succ]); (try simp only [List.set_cons_zero])
            refine AnyE.takeP (i := 16) (oi := ⟨(some 54), (.nilCheck (.tmp 38)), 0, "join.go:44", #[⟨0, .data⟩, ⟨0, .phase⟩, ⟨1, (.textOnly Departure.lateStores)⟩, ⟨2, .phase⟩, ⟨3, .phase⟩, ⟨4, .phase⟩, ⟨5, .phase⟩, ⟨6, .phase⟩, ⟨7, .phase⟩, ⟨8, .phase⟩, ⟨9, (.textOnly Departure.lateStores)⟩, ⟨10, (.textOnly Departure.lateStoresUnsure)⟩, ⟨11, (.textOnly Departure.lateStoresUnsure)⟩, ⟨12, .phase⟩, ⟨13, (.textOnly Departure.lateStores)⟩, ⟨14, (.textOnly Departure.lateStoresUnsure)⟩, ⟨15, .phase⟩], none⟩) (v := ?v75) rfl (by kernel_rfl) (by kernel_rfl) (by kernel_rfl) (fun _ _ _ h => h) rfl (Or.inl ⟨rfl, ?hy75⟩) (fun _ => (hHeld74 (by kernel_rfl))) ?rest75
            case hy75 => (intro w hSw; (try dsimp only at hSw); go_simp <;> first | with_reducible rfl | rw [if_neg (by omega)] | rw [if_pos (by omega)])
            (try simp only [Act.put]); (try simp only [List.setIfInBounds_toArray]); (try simp only [List.set_cons_succ]); (try simp only [List.set_cons_zero])
            refine AnyE.takeP (i := 17) (oi := ⟨(some 55), (.fieldAddr 63 (.tmp 54) 2), 0, "join.go:44", #[⟨16, .data⟩, ⟨0, .phase⟩, ⟨1, (.textOnly Departure.lateStores)⟩, ⟨2, .phase⟩, ⟨3, .phase⟩, ⟨4, .phase⟩, ⟨5, .phase⟩, ⟨6, .phase⟩, ⟨7, .phase⟩, ⟨8, .phase⟩, ⟨9, (.textOnly Departure.lateStores)⟩, ⟨10, (.textOnly Departure.lateStoresUnsure)⟩, ⟨11, (.textOnly Departure.lateStoresUnsure)⟩, ⟨12, .phase⟩, ⟨13, (.textOnly Departure.lateStores)⟩, ⟨14, (.textOnly Departure.lateStoresUnsure)⟩, ⟨15, .phase⟩], none⟩) (v := ?v76) rfl (by kernel_rfl) (by kernel_rfl) (by kernel_rfl) (fun _ _ _ h => h) rfl (Or.inl ⟨rfl, ?hy76⟩) (fun _ => (hHeld74 (by kernel_rfl))) ?rest76
            case hy76 => (intro w hSw; (try dsimp only at hSw); go_simp <;> first | with_reducible rfl | rw [if_neg (by omega)] | rw [if_pos (by omega)])
            (try simp only [Act.put]); (try simp only [List.setIfInBounds_toArray]); (try simp only [List.set_cons_succ]); (try simp only [List.set_cons_zero])
            refine AnyE.ready (rs := [18]) (by kernel_rfl) (by simp) ?_
            refine AllE.cons (o := ⟨none, (.store 61 (.tmp 55) (.tmp 46)), 0, "join.go:44", #[⟨17, .data⟩, ⟨8, .data⟩, ⟨15, .chain⟩, ⟨0, .phase⟩, ⟨1, (.textOnly Departure.lateStores)⟩, ⟨2, .phase⟩, ⟨3, .phase⟩, ⟨4, .phase⟩, ⟨5, .phase⟩, ⟨6, .phase⟩, ⟨7, .phase⟩, ⟨8, .phase⟩, ⟨9, (.textOnly Departure.lateStores)⟩, ⟨10, (.textOnly Departure.lateStoresUnsure)⟩, ⟨11, (.textOnly Departure.lateStoresUnsure)⟩, ⟨12, .phase⟩, ⟨13, (.textOnly Departure.lateStores)⟩, ⟨14, (.textOnly Departure.lateStoresUnsure)⟩, ⟨15, .phase⟩], none⟩) rfl (fun K hK => ?step77x0) ?more77x0
            case more77x0 => exact AllE.nil
            go_simp
            refine hK.out _ _ ?hS77x0 (fun hHeld77 => ?rest77x0)
            case hS77x0 => first | (intro h; exact absurd h (by decide)) | (intro h; simp at h)
            clear hK K
            clear hHeld74
            (try simp only [Act.put]); (try simp only [List.setIfInBounds_toArray]); (try simp only [List.set_cons_succ]); (try simp only [List.set_cons_zero])
            refine AnyE.ready (rs := [19]) (by kernel_rfl) (by simp) ?_
            refine AllE.cons (o := ⟨(some 56), (.nilCheck (.tmp 39)), 0, "join.go:44", #[⟨1, .data⟩, ⟨0, .phase⟩, ⟨1, .phase⟩, ⟨2, .phase⟩, ⟨3, .phase⟩, ⟨4, .phase⟩, ⟨5, .phase⟩, ⟨6, .phase⟩, ⟨7, .phase⟩, ⟨8, .phase⟩, ⟨9, .phase⟩, ⟨10, .phase⟩, ⟨11, .phase⟩, ⟨12, .phase⟩, ⟨13, .phase⟩, ⟨14, .phase⟩, ⟨15, .phase⟩, ⟨16, .phase⟩, ⟨17, .phase⟩, ⟨18, .phase⟩], none⟩) rfl (fun K hK => ?step78x0) ?more78x0
            case more78x0 => exact AllE.nil
            go_simp
            refine hK.out _ _ ?hS78x0 (fun hHeld78 => ?rest78x0)
            case hS78x0 => first | (intro h; exact absurd h (by decide)) | (intro h; simp at h)
            clear hK K
            clear hHeld77
            (try simp only [Act.put]); (try simp only [List.setIfInBounds_toArray]); (try simp only [List.set_cons_succ]); (try simp only [List.set_cons_zero])
            refine AnyE.ready (rs := [20]) (by kernel_rfl) (by simp) ?_
            refine AllE.cons (o := ⟨(some 57), (.fieldAddr 63 (.tmp 56) 3), 0, "join.go:44", #[⟨19, .data⟩, ⟨0, .phase⟩, ⟨1, .phase⟩, ⟨2, .phase⟩, ⟨3, .phase⟩, ⟨4, .phase⟩, ⟨5, .phase⟩, ⟨6, .phase⟩, ⟨7, .phase⟩, ⟨8, .phase⟩, ⟨9, .phase⟩, ⟨10, .phase⟩, ⟨11, .phase⟩, ⟨12, .phase⟩, ⟨13, .phase⟩, ⟨14, .phase⟩, ⟨15, .phase⟩, ⟨16, .phase⟩, ⟨17, .phase⟩, ⟨18, .phase⟩], none⟩) rfl (fun K hK => ?step79x0) ?more79x0
            case more79x0 => exact AllE.nil
            go_simp
            refine hK.out _ _ ?hS79x0 (fun hHeld79 => ?rest79x0)
            case hS79x0 => first | (intro h; exact absurd h (by decide)) | (intro h; simp at h)
            clear hK K
            clear hHeld78
            (try simp only [Act.put]); (try simp only [List.setIfInBounds_toArray]); (try simp only [List.set_cons_succ]); (try simp only [List.set_cons_zero])
            refine AnyE.ready (rs := [21]) (by kernel_rfl) (by simp) ?_
            refine AllE.cons (o := ⟨none, (.store 61 (.tmp 57) (.tmp 53)), 0, "join.go:44", #[⟨20, .data⟩, ⟨15, .data⟩, ⟨18, .chain⟩, ⟨0, .phase⟩, ⟨1, .phase⟩, ⟨2, .phase⟩, ⟨3, .phase⟩, ⟨4, .phase⟩, ⟨5, .phase⟩, ⟨6, .phase⟩, ⟨7, .phase⟩, ⟨8, .phase⟩, ⟨9, .phase⟩, ⟨10, .phase⟩, ⟨11, .phase⟩, ⟨12, .phase⟩, ⟨13, .phase⟩, ⟨14, .phase⟩, ⟨15, .phase⟩, ⟨16, .phase⟩, ⟨17, .phase⟩, ⟨18, .phase⟩], none⟩) rfl (fun K hK => ?step80x0) ?more80x0
            case more80x0 => exact AllE.nil
            go_simp
            refine hK.out _ _ ?hS80x0 (fun hHeld80 => ?rest80x0)
            case hS80x0 => first | (intro h; exact absurd h (by decide)) | (intro h; simp at h)
            clear hK K
            clear hHeld79
            (try simp only [Act.put]); (try simp only [List.setIfInBounds_toArray]); (try simp only [List.set_cons_succ]); (try simp only [List.set_cons_zero])
            refine AnyE.done (by kernel_rfl) ?_ _
            clear hHeld80
            have HS := Lib.hid ((HBR.out.store (i := 0) (by decide) (.slice AL ((leftK a.cols b.cols k).length + 1) cL)).store (i := 1) (by decide) (.slice AR ((rightK a.cols b.cols k).length + 1) cR))
            have HS2 := Lib.hid (HS.out.congr (ls' := t3 (leftK a.cols b.cols (k + 1)) (rightK a.cols b.cols (k + 1)) (othersK a.cols b.cols (k + 1))) (ls3_eq HL.out HR.out HO.out))
            go_wp2_with fail
            go_roundw
            case rel => exact ⟨k + 1, _, by go_num, by omega, HS2⟩
            case measure => simp [intOf]; omega
          (refine step_pushN rfl (.tmp 43) (.tmp 45) rfl w6.heap.size (v 0) (leftK a.cols b.cols k).length ((leftK a.cols b.cols k).map intV) (.int .i64 i) rfl ((HBW.out.ext (W' := _) (by repeat (first | with_reducible exact Ext.refl _ | with_reducible assumption | with_reducible refine Ext.drew ?_ | with_reducible refine Ext.drewN ?_ _ | with_reducible refine Ext.alloc ?_ _))).own 0 (by decide)) _ rfl (by go_simp) rfl (by omega) (Nat.le_trans hb6 (Ext.le (a := w7) (by repeat (first | with_reducible exact Ext.refl _ | with_reducible assumption | with_reducible refine Ext.drew ?_ | with_reducible refine Ext.drewN ?_ _ | with_reducible refine Ext.alloc ?_ _)))) ?_; intro vL wL hOL hgL hbL; obtain ⟨AL, cL, rfl⟩ := own_form hOL; have hcL := fun (bk o : Nat) (x : Value) (hb : w7.heap.size ≤ bk) hx => hgL.cell (a := ⟨bk, o, none⟩) (v := x) hx (fun e => by have := ((HBW.out.own 0 (by decide)).lt bk e.symm).2; omega); have HBL := Lib.hid ((HBW.out.ext (W' := _) (by repeat (first | with_reducible exact Ext.refl _ | with_reducible assumption | with_reducible refine Ext.drew ?_ | with_reducible refine Ext.drewN ?_ _ | with_reducible refine Ext.alloc ?_ _))).grow (i := 0) (k := i) (by decide) hgL hOL hbL); have c4L : wL.cell? ⟨g, 4, none⟩ = some (v 0) := HBL.out.cel 0 (by decide); have c5L : wL.cell? ⟨g, 5, none⟩ = some (v 1) := HBL.out.cel 1 (by decide); have hgsL : g < wL.heap.size := block_lt_of_cell c4L; have hbL6 := HBL.out.gr.size)
          refine hK.out _ _ ?hS72x0 (fun hHeld72 => ?rest72x0)
          case hS72x0 => intro _; first | (exact ⟨by first | assumption | (go_simp; done), by first | assumption | (go_simp; done)⟩) | ((try dsimp only); (exact ⟨by first | assumption | (go_simp; done), by first | assumption | (go_simp; done)⟩))
          clear hK K
          clear hHeld62
          (try simp only [Act.put]); (try simp only [List.setIfInBounds_toArray]); (try simp only [List.set_cons_succ]); (try simp only [List.set_cons_zero])
          refine AnyE.ready (rs := [14]) (by kernel_rfl) (by simp) ?_
          refine AllE.cons (o := ⟨(some 52), (.buildSlice 61 1 #[(0, (.tmp 51))]), 61, "join.go:44", #[⟨13, .data⟩], none⟩) rfl (fun K hK => ?step81x0) ?more81x0
          case more81x0 => exact AllE.nil
          go_simp
          refine hK.out _ _ ?hS81x0 (fun hHeld81 => ?rest81x0)
          case hS81x0 => intro _; first | (exact ⟨by first | assumption | (go_simp; done), by first | assumption | (go_simp; done)⟩) | ((try dsimp only); (exact ⟨by first | assumption | (go_simp; done), by first | assumption | (go_simp; done)⟩))
          clear hK K
          clear hHeld72
          (try simp only [Act.put]); (try simp only [List.setIfInBounds_toArray]); (try simp only [List.set_cons_succ]); (try simp only [List.set_cons_zero])
          refine AnyE.ready (rs := [15]) (by kernel_rfl) (by simp) ?_
          refine AllE.cons (o := ⟨(some 53), (.call { callee := (.builtin .append), args := #[(.tmp 50), (.tmp 52)], argTypes := #[61, 61] }), 61, "join.go:44", #[⟨12, .data⟩, ⟨14, .data⟩, ⟨8, .chain⟩], none⟩) rfl (fun K hK => ?step82x0) ?more82x0
          case more82x0 => exact AllE.nil
          (refine step_pushN rfl (.tmp 50) (.tmp 52) rfl w6.heap.size (v 1) (rightK a.cols b.cols k).length ((rightK a.cols b.cols k).map intV) (.int .i64 k) rfl ((HBL.out.ext (W' := _) (by repeat (first | with_reducible exact Ext.refl _ | with_reducible assumption | with_reducible refine Ext.drew ?_ | with_reducible refine Ext.drewN ?_ _ | with_reducible refine Ext.alloc ?_ _))).own 1 (by decide)) _ rfl (by first | (go_simp; done) | (refine hcL _ _ _ (by first | exact Nat.le_refl _ | (simp; done) | (simp; omega)) ?_; go_simp)) rfl (by omega) (Nat.le_trans hbL6 (Ext.le (a := wL) (by repeat (first | with_reducible exact Ext.refl _ | with_reducible assumption | with_reducible refine Ext.drew ?_ | with_reducible refine Ext.drewN ?_ _ | with_reducible refine Ext.alloc ?_ _)))) ?_; intro vR wR hOR hgR hbR; obtain ⟨AR, cR, rfl⟩ := own_form hOR; have HBR := Lib.hid ((HBL.out.ext (W' := _) (by repeat (first | with_reducible exact Ext.refl _ | with_reducible assumption | with_reducible refine Ext.drew ?_ | with_reducible refine Ext.drewN ?_ _ | with_reducible refine Ext.alloc ?_ _))).grow (i := 1) (k := k) (by decide) hgR hOR hbR); have c4R : wR.cell? ⟨g, 4, none⟩ = some (v 0) := HBR.out.cel 0 (by decide); have c5R : wR.cell? ⟨g, 5, none⟩ = some (v 1) := HBR.out.cel 1 (by decide); have f4R := HBR.out.fz 4; have f5R := HBR.out.fz 5)
          refine hK.out _ _ ?hS82x0 (fun hHeld82 => ?rest82x0)
          case hS82x0 => intro _; first | (exact ⟨by first | assumption | (go_simp; done), by first | assumption | (go_simp; done)⟩) | ((try dsimp only); (exact ⟨by first | assumption | (go_simp; done), by first | assumption | (go_simp; done)⟩))
          clear hK K
          clear hHeld81
          (try simp only [Act.put]); (try simp only [List.setIfInBounds_toArray]); (try simp only [List.set_cons_succ]); (try simp only [List.set_cons_zero])
          refine AnyE.takeP (i := 16) (oi := ⟨(some 54), (.nilCheck (.tmp 38)), 0, "join.go:44", #[⟨0, .data⟩, ⟨0, .phase⟩, ⟨1, (.textOnly Departure.lateStores)⟩, ⟨2, .phase⟩, ⟨3, .phase⟩, ⟨4, .phase⟩, ⟨5, .phase⟩, ⟨6, .phase⟩, ⟨7, .phase⟩, ⟨8, .phase⟩, ⟨9, (.textOnly Departure.lateStores)⟩, ⟨10, (.textOnly Departure.lateStoresUnsure)⟩, ⟨11, (.textOnly Departure.lateStoresUnsure)⟩, ⟨12, .phase⟩, ⟨13, (.textOnly Departure.lateStores)⟩, ⟨14, (.textOnly Departure.lateStoresUnsure)⟩, ⟨15, .phase⟩], none⟩) (v := ?v83) rfl (by kernel_rfl) (by kernel_rfl) (by kernel_rfl) (fun _ _ _ h => h) rfl (Or.inl ⟨rfl, ?hy83⟩) (fun _ => (hHeld82 (by kernel_rfl))) ?rest83
          case hy83 => (intro w hSw; (try dsimp only at hSw); go_simp <;> first | with_reducible rfl | rw [if_neg (by omega)] | rw [if_pos (by omega)])
          (try simp only [Act.put]); (try simp only [List.setIfInBounds_toArray]); (try simp only [List.set_cons_succ]); (try simp only [List.set_cons_zero])
          refine AnyE.takeP (i := 17) (oi := ⟨(some 55), (.fieldAddr 63 (.tmp 54) 2), 0, "join.go:44", #[⟨16, .data⟩, ⟨0, .phase⟩, ⟨1, (.textOnly Departure.lateStores)⟩, ⟨2, .phase⟩, ⟨3, .phase⟩, ⟨4, .phase⟩, ⟨5, .phase⟩, ⟨6, .phase⟩, ⟨7, .phase⟩, ⟨8, .phase⟩, ⟨9, (.textOnly Departure.lateStores)⟩, ⟨10, (.textOnly Departure.lateStoresUnsure)⟩, ⟨11, (.textOnly Departure.lateStoresUnsure)⟩, ⟨12, .phase⟩, ⟨13, (.textOnly Departure.lateStores)⟩, ⟨14, (.textOnly Departure.lateStoresUnsure)⟩, ⟨15, .phase⟩], none⟩) (v := ?v84) rfl (by kernel_rfl) (by kernel_rfl) (by kernel_rfl) (fun _ _ _ h => h) rfl (Or.inl ⟨rfl, ?hy84⟩) (fun _ => (hHeld82 (by kernel_rfl))) ?rest84
          case hy84 => (intro w hSw; (try dsimp only at hSw); go_simp <;> first | with_reducible rfl | rw [if_neg (by omega)] | rw [if_pos (by omega)])
          (try simp only [Act.put]); (try simp only [List.setIfInBounds_toArray]); (try simp only [List.set_cons_succ]); (try simp only [List.set_cons_zero])
          refine AnyE.ready (rs := [18]) (by kernel_rfl) (by simp) ?_
          refine AllE.cons (o := ⟨none, (.store 61 (.tmp 55) (.tmp 46)), 0, "join.go:44", #[⟨17, .data⟩, ⟨8, .data⟩, ⟨15, .chain⟩, ⟨0, .phase⟩, ⟨1, (.textOnly Departure.lateStores)⟩, ⟨2, .phase⟩, ⟨3, .phase⟩, ⟨4, .phase⟩, ⟨5, .phase⟩, ⟨6, .phase⟩, ⟨7, .phase⟩, ⟨8, .phase⟩, ⟨9, (.textOnly Departure.lateStores)⟩, ⟨10, (.textOnly Departure.lateStoresUnsure)⟩, ⟨11, (.textOnly Departure.lateStoresUnsure)⟩, ⟨12, .phase⟩, ⟨13, (.textOnly Departure.lateStores)⟩, ⟨14, (.textOnly Departure.lateStoresUnsure)⟩, ⟨15, .phase⟩], none⟩) rfl (fun K hK => ?step85x0) ?more85x0
          case more85x0 => exact AllE.nil
          go_simp
          refine hK.out _ _ ?hS85x0 (fun hHeld85 => ?rest85x0)
          case hS85x0 => first | (intro h; exact absurd h (by decide)) | (intro h; simp at h)
          clear hK K
          clear hHeld82
          (try simp only [Act.put]); (try simp only [List.setIfInBounds_toArray]); (try simp only [List.set_cons_succ]); (try simp only [List.set_cons_zero])
          refine AnyE.ready (rs := [19]) (by kernel_rfl) (by simp) ?_
          refine AllE.cons (o := ⟨(some 56), (.nilCheck (.tmp 39)), 0, "join.go:44", #[⟨1, .data⟩, ⟨0, .phase⟩, ⟨1, .phase⟩, ⟨2, .phase⟩, ⟨3, .phase⟩, ⟨4, .phase⟩, ⟨5, .phase⟩, ⟨6, .phase⟩, ⟨7, .phase⟩, ⟨8, .phase⟩, ⟨9, .phase⟩, ⟨10, .phase⟩, ⟨11, .phase⟩, ⟨12, .phase⟩, ⟨13, .phase⟩, ⟨14, .phase⟩, ⟨15, .phase⟩, ⟨16, .phase⟩, ⟨17, .phase⟩, ⟨18, .phase⟩], none⟩) rfl (fun K hK => ?step86x0) ?more86x0
          case more86x0 => exact AllE.nil
          go_simp
          refine hK.out _ _ ?hS86x0 (fun hHeld86 => ?rest86x0)
          case hS86x0 => first | (intro h; exact absurd h (by decide)) | (intro h; simp at h)
          clear hK K
          clear hHeld85
          (try simp only [Act.put]); (try simp only [List.setIfInBounds_toArray]); (try simp only [List.set_cons_succ]); (try simp only [List.set_cons_zero])
          refine AnyE.ready (rs := [20]) (by kernel_rfl) (by simp) ?_
          refine AllE.cons (o := ⟨(some 57), (.fieldAddr 63 (.tmp 56) 3), 0, "join.go:44", #[⟨19, .data⟩, ⟨0, .phase⟩, ⟨1, .phase⟩, ⟨2, .phase⟩, ⟨3, .phase⟩, ⟨4, .phase⟩, ⟨5, .phase⟩, ⟨6, .phase⟩, ⟨7, .phase⟩, ⟨8, .phase⟩, ⟨9, .phase⟩, ⟨10, .phase⟩, ⟨11, .phase⟩, ⟨12, .phase⟩, ⟨13, .phase⟩, ⟨14, .phase⟩, ⟨15, .phase⟩, ⟨16, .phase⟩, ⟨17, .phase⟩, ⟨18, .phase⟩], none⟩) rfl (fun K hK => ?step87x0) ?more87x0
          case more87x0 => exact AllE.nil
          go_simp
          refine hK.out _ _ ?hS87x0 (fun hHeld87 => ?rest87x0)
          case hS87x0 => first | (intro h; exact absurd h (by decide)) | (intro h; simp at h)
          clear hK K
          clear hHeld86
          (try simp only [Act.put]); (try simp only [List.setIfInBounds_toArray]); (try simp only [List.set_cons_succ]); (try simp only [List.set_cons_zero])
          refine AnyE.ready (rs := [21]) (by kernel_rfl) (by simp) ?_
          refine AllE.cons (o := ⟨none, (.store 61 (.tmp 57) (.tmp 53)), 0, "join.go:44", #[⟨20, .data⟩, ⟨15, .data⟩, ⟨18, .chain⟩, ⟨0, .phase⟩, ⟨1, .phase⟩, ⟨2, .phase⟩, ⟨3, .phase⟩, ⟨4, .phase⟩, ⟨5, .phase⟩, ⟨6, .phase⟩, ⟨7, .phase⟩, ⟨8, .phase⟩, ⟨9, .phase⟩, ⟨10, .phase⟩, ⟨11, .phase⟩, ⟨12, .phase⟩, ⟨13, .phase⟩, ⟨14, .phase⟩, ⟨15, .phase⟩, ⟨16, .phase⟩, ⟨17, .phase⟩, ⟨18, .phase⟩], none⟩) rfl (fun K hK => ?step88x0) ?more88x0
          case more88x0 => exact AllE.nil
          go_simp
          refine hK.out _ _ ?hS88x0 (fun hHeld88 => ?rest88x0)
          case hS88x0 => first | (intro h; exact absurd h (by decide)) | (intro h; simp at h)
          clear hK K
          clear hHeld87
          (try simp only [Act.put]); (try simp only [List.setIfInBounds_toArray]); (try simp only [List.set_cons_succ]); (try simp only [List.set_cons_zero])
          refine AnyE.done (by kernel_rfl) ?_ _
          clear hHeld88
          have HS := Lib.hid ((HBR.out.store (i := 0) (by decide) (.slice AL ((leftK a.cols b.cols k).length + 1) cL)).store (i := 1) (by decide) (.slice AR ((rightK a.cols b.cols k).length + 1) cR))
          have HS2 := Lib.hid (HS.out.congr (ls' := t3 (leftK a.cols b.cols (k + 1)) (rightK a.cols b.cols (k + 1)) (othersK a.cols b.cols (k + 1))) (ls3_eq HL.out HR.out HO.out))
          go_wp2_with fail
          go_roundw
          case rel => exact ⟨k + 1, _, by go_num, by omega, HS2⟩
          case measure => simp [intOf]; omega
        | none =>
          have hz := HZ.out
          rw [hpos] at hz
          subst hz
          have HL := Lib.hid (leftK_none (a := a.cols) (b := b.cols) (k := k) (by rw [HP.out]; exact hpos))
          have HR := Lib.hid (rightK_none (a := a.cols) (b := b.cols) (k := k) (by rw [HP.out]; exact hpos))
          have HO := Lib.hid (othersK_none (a := a.cols) (b := b.cols) (k := k) (by rw [HP.out]; exact hpos))
          clear hpos HZ HP
          go_wp2_with (at_builtin; go_loud (refine own_pushN rfl (.tmp 62) (.tmp 64) rfl w6.heap.size (v 2) (othersK a.cols b.cols k).length ((othersK a.cols b.cols k).map intV) (.int .i64 k) rfl ((HBW.out.ext (W' := _) ((Ext.refl _).alloc _)).own 2 (by decide)) _ rfl (by go_simp) rfl (by omega) (Nat.le_trans hb6 ((Ext.refl w7).alloc _).le) ?_; intro vO wO hOO hgO hbO; obtain ⟨AO, cO, rfl⟩ := own_form hOO; have HBO := Lib.hid ((HBW.out.ext (W' := _) ((Ext.refl _).alloc _)).grow (i := 2) (k := k) (by decide) hgO hOO hbO); have c6O : wO.cell? ⟨g, 6, none⟩ = some (v 2) := HBO.out.cel 2 (by decide); have f6O := HBO.out.fz 6))
          have HS := Lib.hid (HBO.out.store (i := 2) (by decide) (.slice AO ((othersK a.cols b.cols k).length + 1) cO))
          have HS2 := Lib.hid (HS.out.congr (ls' := t3 (leftK a.cols b.cols (k + 1)) (rightK a.cols b.cols (k + 1)) (othersK a.cols b.cols (k + 1))) (fun i hi => by
            match i, hi with
            | 0, _ => exact HL.out
            | 1, _ => exact HR.out
            | 2, _ => exact HO.out))
          go_roundw
          case rel =>
            exact ⟨k + 1, _, by go_num, by omega, HS2⟩
          case measure => simp [intOf]; omega
      · have hkl : k = b.cols.length := by omega
        subst hkl
        have hlk := leftK_len (a := a.cols) (b := b.cols) (k := b.cols.length)
        have hrk := rightK_len (a := a.cols) (b := b.cols) (k := b.cols.length)
        have hok := othersK_len (a := a.cols) (b := b.cols) (k := b.cols.length)
        obtain ⟨AL, cl, eL, hL⟩ := own_intsV (hbw.out.own 0 (by decide)) (show (leftK a.cols b.cols b.cols.length).length ≤ _ by omega)
        obtain ⟨AR, cr, eR, hR⟩ := own_intsV (hbw.out.own 1 (by decide)) (show (rightK a.cols b.cols b.cols.length).length ≤ _ by omega)
        obtain ⟨AO, co, eO, hO⟩ := own_intsV (hbw.out.own 2 (by decide)) (show (othersK a.cols b.cols b.cols.length).length ≤ _ by omega)
        have hX : ∀ (t : Tab) (ok : Nat → Prop) (A B : Option Addr), TabAt w2 ok A B t → TabAt wr (fun _ => True) A B t := fun t ok A B ht => ⟨SliceR.mono ht.cols (fun b o x _ hx => ⟨trivial, hgx (Nat.lt_of_lt_of_le (block_lt_of_cell hx.2) HLQ.out) (HX6.out.cell hx.2)⟩), ht.rows.bnd.keep (fun b o x hb hc => hgx (Nat.lt_of_lt_of_le hb.2 HLQ.out) (HX6.out.cell hc)) (fun _ _ => trivial)⟩
        have HJ := Lib.hid (show JoinAt wr (fun _ => True) g a b from ⟨A, B, A', B', AL, AR, AO, c, d, c', d', cl, cr, co, hbw.out.c 0 _ (by decide) HC4.out.1, hbw.out.c 1 _ (by decide) HC4.out.2.1, hbw.out.c 2 _ (by decide) HC4.out.2.2.1, hbw.out.c 3 _ (by decide) HC4.out.2.2.2, (hbw.out.cel 0 (by decide)).trans (congrArg some eL), (hbw.out.cel 1 (by decide)).trans (congrArg some eR), (hbw.out.cel 2 (by decide)).trans (congrArg some eO), hX a ok A B HA.out, hX b ok' A' B' HB.out, hL, hR, hO⟩)
        have HEX := Lib.hid (show Ext w wr from by
          refine (hxw.trans ?_)
          refine Ext.grown (b := w6) (row := some g) HX6.out hbw.out.gr (fun k hk => by cases hk; exact HLQ.out))
        clear hbw hgx eL eR eO hL hR hO hX HC4
        go_wp2_with fail
        go_ret2
        exact ⟨.inr ⟨HE.out, g, rfl, HJ.out⟩, HEX.out⟩
  · obtain ⟨er, her⟩ : ∃ er, er = errJ a b := ⟨_, rfl⟩
    have HER := Lib.hid her
    have HE := Lib.hid he
    rw [← her] at he ⊢
    clear her
    have hen : ¬ er = 0 := he
    clear he
    go_wp2_with fail
    go_ret2
    exact ⟨.inl ⟨HE.out, by rw [← HER.out]; rfl⟩, hxw.trans hx5⟩
end Go.Proofs.YtbjddimafilflaaGreatDoor

/- THE WALKS over joiner.columns and the closure of joiner.natural. -/
namespace Go.Proofs.YtbjddimafilflaaGreatDoor
open Go.RowKit Go.Sort
theorem colsJ_eq (a b : List ByteArray) : colsJ a b = a ++ ((othersK a b b.length).take (othersK a b b.length).length).map (b[·]!) := by rw [List.take_length]; rfl
set_option maxRecDepth 100000 in
set_option maxHeartbeats 3200000 in
theorem j_columns (a b : Tab) (ok : Nat → Prop) (q : Nat) (w : World) (hj : JoinAt w ok q a b) (hla : a.cols.length ≤ 1000000) (hlb : b.cols.length ≤ 1000000) :
    Calls Tryz.prog 32 #[.pointer (some ⟨q, 0, none⟩)] w fun e w' => ∃ A2 c2, e = .returned (.slice A2 (colsJ a.cols b.cols).length c2) ∧ (colsJ a.cols b.cols).length ≤ c2 ∧ Strs w' (fun b => w.heap.size ≤ b) A2 (colsJ a.cols b.cols) ∧ Ext w w' := by
  obtain ⟨A, B, A', B', AL, AR, AO, c, d, c', d', cl, cr, co, hJ⟩ := hj
  have j0 := hJ.j0
  have j2 := hJ.j2
  have j6 := hJ.j6
  have HC := Lib.hid (c_Clone_str a.cols.length A c (a.cols.map Value.string) w (fun e => hJ.ta.cols.none_ e) (by simp) hJ.ta.cols.news (fun u hu => by obtain ⟨s, -, rfl⟩ := List.mem_map.1 hu; rfl) (by omega))
  have HB := Lib.hid hJ.tb.cols
  have HN := Lib.hid hJ.no
  have HR := Lib.hid (colsJ_eq a.cols b.cols)
  have HLT := Lib.hid (fun i (h : i ∈ othersK a.cols b.cols b.cols.length) => othersK_lt h)
  have hol := othersK_len (a := a.cols) (b := b.cols) (k := b.cols.length)
  have hqs : q < w.heap.size := block_lt_of_cell j0
  clear hJ
  generalize othersK a.cols b.cols b.cols.length = O at *
  go_enter Tryz.func32, Tryz.ntmps32
  go_wp2_with (go_at_call 52; ((with_reducible refine (HC.out).mono ?_); rintro e w2 ⟨v0, rfl, hO2, hx2⟩; have j6' := hx2.cell j6))
  have HO2 := Lib.hid (show w2.ownsRow w.heap.size 9 1 v0 (a.cols ++ (O.take 0).map (b.cols[·]!)).length ((a.cols ++ (O.take 0).map (b.cols[·]!)).map Value.string) by simpa using hO2)
  have HX2 := Lib.hid hx2
  clear hO2 hx2 j6' HC
  go_loopw [3, 17] (fun v u W => ∃ (k : Nat), u = .int .i64 k ∧ k ≤ O.length ∧ Hid (W.ownsRow w.heap.size 9 1 v (a.cols ++ (O.take k).map (b.cols[·]!)).length ((a.cols ++ (O.take k).map (b.cols[·]!)).map Value.string)) ∧ Hid (Ext w W)) (fun _ u _ => O.length - (intOf u).toNat)
  case atStart => exact ⟨0, rfl, Nat.zero_le _, HO2, HX2⟩
  case round =>
    clear HO2 HX2
    obtain ⟨k, rfl, hk, hown, hE⟩ := hrel
    by_cases hlt : k < O.length
    · have hk1 : k < (ints O).length := by rw [ints_len]; exact hlt
      obtain ⟨bo, oo, rfl, hno⟩ := HN.out.2 (by omega)
      have h6 := hE.out.cell (hno k hk1).2
      rw [Nat.mul_one, ints_get O k hk1 hlt] at h6
      have hp := HLT.out O[k] (List.getElem_mem hlt)
      obtain ⟨bb, ob, rfl, hcb⟩ := HB.out.2 (by omega)
      have h7 := hE.out.cell (hcb O[k] hp).2
      rw [Nat.mul_one] at h7
      have HS := Lib.hid (show a.cols ++ (O.take (k + 1)).map (b.cols[·]!) = (a.cols ++ (O.take k).map (b.cols[·]!)) ++ [b.cols[O[k]]] by rw [List.take_succ_eq_append_getElem hlt, List.map_append, List.map_cons, List.map_nil, List.append_assoc, getElem!_pos b.cols _ hp])
      have hkb : (a.cols ++ (O.take k).map (b.cols[·]!)).length + 1 ≤ 8388608 := by rw [List.length_append, List.length_map, List.length_take]; omega
      have s2 := hE.out.cell j2
      have hown' := hown.out
      have hE' := hE.out
      have hpi : (O[k] : Int) < (b.cols.length : Int) := by omega
      clear hno hcb hown hE
      generalize b.cols[O[k]] = s at *
      generalize O[k] = p at *
      generalize a.cols ++ (O.take k).map (b.cols[·]!) = pk at *
      go_wp2_with (at_builtin; refine own_pushF T_str rfl (.tmp 21) (.tmp 30) rfl w wr _ pk.length _ [.string s] rfl hown' hE' rfl rfl rfl (by simp [Value.oneCell']) hkb (by decide) ?_; intro v2 w9 hown2 hE9 hF9)
      clear hF9
      have HO3 := Lib.hid (show w9.ownsRow w.heap.size 9 1 v2 (a.cols ++ (O.take (k + 1)).map (b.cols[·]!)).length ((a.cols ++ (O.take (k + 1)).map (b.cols[·]!)).map Value.string) by rw [HS.out, List.map_append, List.length_append]; exact hown2)
      have HE9 := Lib.hid hE9
      go_roundw
      case rel => exact ⟨k + 1, by go_num, by omega, HO3, HE9⟩
      case measure => simp [intOf]; omega
    · have hkl : k = O.length := by omega
      have HX := Lib.hid (own_strs hown.out (by rw [List.length_append, List.length_map, List.length_take]; omega))
      rw [hkl, ← HR.out] at HX
      have HE := Lib.hid hE.out
      clear hown hE hkl
      go_wp2_with fail
      obtain ⟨A9, c9, e9, h9, hV9⟩ := HX.out
      subst e9
      go_ret
      exact ⟨A9, c9, rfl, h9, hV9, HE.out⟩
/-- the rows that the closure collects in the cell of block o -/
structure NatW (wZ : World) (o : Nat) (v : Value) (acc : List (List Val)) (W : World) : Prop where
  gr : wZ.grownBy W (some o)
  c : W.cell? ⟨o, 0, none⟩ = some v
  f : W.frozen? ⟨o, 0, none⟩ = false
  own : OwnRows W wZ.heap.size (fun b => b ≠ o) v acc
  ho : o < wZ.heap.size
theorem NatW.ext {wZ W W' : World} {o : Nat} {v : Value} {acc : List (List Val)} (h : NatW wZ o v acc W) (e : Ext W W') : NatW wZ o v acc W' :=
  ⟨grown_trans h.gr (e.grownBy _), e.cell h.c, frozen_grown (e.grownBy none) h.c (fun e => by cases e) 0 h.f, h.own.ext e, h.ho⟩
theorem NatW.push {wZ W W' : World} {o : Nat} {v v' : Value} {acc acc' : List (List Val)} (h : NatW wZ o v acc W) (hg : W.grownBy W' v.ownBlock) (hO : OwnRows W' wZ.heap.size (fun b => b ≠ o) v' acc') : NatW wZ o v' acc' (W'.setCell ⟨o, 0, none⟩ v') := by
  have ho := h.ho
  have hnq : v.ownBlock ≠ some o := fun e => by have := (h.own.lt e).1; omega
  have hnq' : v'.ownBlock ≠ some o := fun e => by have := (hO.lt e).1; omega
  have c := hg.cell h.c (fun e => hnq e.symm)
  refine ⟨⟨hg.os.trans h.gr.os, hg.tape.trans h.gr.tape, hg.output.trans h.gr.output, by simpa using Nat.le_trans h.gr.size hg.size, fun j hj hne => ?_⟩, World.cell?_setCell_same' _ _ _ (by rw [c]; rfl), by rw [World.frozen?_setCell]; exact frozen_grown hg h.c hnq 0 h.f, ?_, ho⟩
  · refine (Below.heap_setCell W' _ _ j (fun e => hne (by rw [e]))).trans ((hg.block j (Nat.lt_of_lt_of_le hj h.gr.size) (fun e => by have := (h.own.lt e.symm).1; omega)).trans (h.gr.block j hj hne))
  · obtain ⟨ps, h1, h2, h3⟩ := hO
    refine ⟨ps, h1, ownsRow_setCell_other h2 hnq' _, fun p hp => (h3 p hp).keep (fun b o' x hb hc => ?_) (fun _ h => h)⟩
    rw [World.cell?_setCell_other _ _ _ _ (fun e => hb.1 (by injection e with e1; exact e1.symm))]; exact hc
/-- what the closure reads -/
structure NatE (wZ : World) (o jc q : Nat) (AO : Option Addr) (co : Nat) (O : List Nat) : Prop where
  jcc : wZ.cell? ⟨jc, 0, none⟩ = some (.pointer (some ⟨q, 0, none⟩))
  jo : jc ≠ o
  q6 : wZ.cell? ⟨q, 6, none⟩ = some (.slice AO O.length co)
  qo : q ≠ o
  no : Nums wZ (fun b => b ≠ o) AO (ints O)
theorem Rows.grown {w w' : World} {g : Nat} {ok : Nat → Prop} {A : Option Addr} {l : List (List Val)} (h : Rows w ok A l) (hg : w.grownBy w' (some g)) (hne : ∀ b, ok b → b ≠ g) : Rows w' ok A l :=
  h.keep (fun b _ _ hb hc => hg.cell hc (fun e => hne b hb (Option.some.inj e))) (fun _ h => h)
end Go.Proofs.YtbjddimafilflaaGreatDoor

/- THE WALK over the closure of joiner.natural. -/
namespace Go.Proofs.YtbjddimafilflaaGreatDoor
open Go.RowKit Go.Sort
theorem OwnRows.form' {W : World} {base : Nat} {ok0 : Nat → Prop} {v : Value} {acc : List (List Val)} (h : OwnRows W base ok0 v acc) : ∃ A n c, v = .slice A n c := let ⟨A, c, e⟩ := h.form; ⟨A, _, c, e⟩
def accN (acc x y : List (List Val)) (O : List Nat) (k j : Nat) : List (List Val) := acc ++ ((x.take k).flatMap (fun r => y.map (fun s => r ++ partJ s O)) ++ (y.take j).map (fun s => x[k]! ++ partJ s O))
theorem accN_zero (acc x y : List (List Val)) (O : List Nat) : accN acc x y O 0 0 = acc := by unfold accN; simp
theorem accN_step {acc x y : List (List Val)} {O : List Nat} {k j : Nat} (hj : j < y.length) : accN acc x y O k (j + 1) = accN acc x y O k j ++ [x[k]! ++ partJ y[j] O] := by
  unfold accN
  rw [List.take_succ_eq_append_getElem hj, List.map_append, List.append_assoc, List.append_assoc]
  rfl
theorem accN_next {acc x y : List (List Val)} {O : List Nat} {k : Nat} (hk : k < x.length) : accN acc x y O k y.length = accN acc x y O (k + 1) 0 := by
  unfold accN
  rw [List.take_succ_eq_append_getElem hk, List.flatMap_append, List.take_length, getElem!_pos x k hk]
  simp
theorem accN_end (acc x y : List (List Val)) (O : List Nat) : accN acc x y O x.length 0 = acc ++ x.flatMap (fun r => y.map (fun s => r ++ partJ s O)) := by
  unfold accN
  rw [List.take_length]
  simp
theorem accN_len (acc x y : List (List Val)) (O : List Nat) {k j : Nat} (hk : k < x.length) (hj : j < y.length) : (accN acc x y O k j).length ≤ acc.length + x.length * y.length := by
  unfold accN
  rw [List.length_append, List.length_append, List.length_map]
  have h1 := flatMap_len (fun r => y.map (fun s => r ++ partJ s O)) y.length (x.take k) (fun _ _ => by rw [List.length_map]; exact Nat.le_refl _)
  rw [List.length_take] at h1 ⊢
  have h2 : min k x.length * y.length ≤ k * y.length := Nat.mul_le_mul_right _ (Nat.min_le_left _ _)
  have h3 : (k + 1) * y.length ≤ x.length * y.length := Nat.mul_le_mul_right _ hk
  rw [Nat.succ_mul] at h3
  omega
set_option maxRecDepth 100000 in
set_option maxHeartbeats 3200000 in
theorem j_nat1 (x y acc : List (List Val)) (O : List Nat) (wZ : World) (o jc q : Nat) (X Y AO : Option Addr) (cx cy co : Nat) (v0 : Value) (w : World) (hE : NatE wZ o jc q AO co O) (hw : NatW wZ o v0 acc w) (hx : Rows wZ (fun b => b ≠ o) X x) (hy : Rows wZ (fun b => b ≠ o) Y y)
    (hyo : ∀ s ∈ y, ∀ i ∈ O, i < s.length) (hxl : ∀ r ∈ x, r.length ≤ 4000000) (hO : O.length ≤ 4000000) (hbig : acc.length + x.length * y.length ≤ 8000000) :
    Calls Tryz.prog 54 #[.slice X x.length cx, .slice Y y.length cy, .pointer (some ⟨o, 0, none⟩), .pointer (some ⟨jc, 0, none⟩)] w fun e w' => e = .returned (.tuple #[]) ∧ ∃ v', NatW wZ o v' (acc ++ x.flatMap (fun r => y.map (fun s => r ++ partJ s O))) w' := by
  have hm1 := hx.len
  have hm2 := hy.len
  have HX := Lib.hid hx
  have HY := Lib.hid hy
  have HE := Lib.hid hE
  have HYO := Lib.hid hyo
  have HXL := Lib.hid hxl
  have HEND := Lib.hid (accN_end acc x y O)
  have HW := Lib.hid (show NatW wZ o v0 (accN acc x y O 0 0) w by rw [accN_zero]; exact hw)
  clear hx hy hE hyo hxl hw
  go_enter Tryz.func54, Tryz.ntmps54
  go_wp2_with fail
  go_loopw [12] (fun u W => ∃ (k : Nat) (v : Value), u = .int .i64 k ∧ k ≤ x.length ∧ Hid (NatW wZ o v (accN acc x y O k 0) W)) (fun u _ => x.length - (intOf u).toNat)
  case atStart => exact ⟨0, v0, rfl, Nat.zero_le _, HW⟩
  case round =>
    clear HW
    obtain ⟨k, v, rfl, hk, hnw⟩ := hrel
    by_cases hlt : k < x.length
    · obtain ⟨bx, ox, rfl, hcx⟩ := HX.out.2 (by omega)
      obtain ⟨hbx, Ax, ex, h5, hle5, hvx⟩ := hcx k hlt
      rw [Nat.mul_one] at h5
      have H5 := Lib.hid h5
      have HVX := Lib.hid hvx
      have HXK := Lib.hid (show x[k]! = x[k] from getElem!_pos x k hlt)
      have HXN := Lib.hid (HXL.out _ (List.getElem_mem hlt))
      have HNX := Lib.hid (accN_next (acc := acc) (y := y) (O := O) hlt)
      have hd5 : wr.cell? ⟨bx, ox + k, none⟩ = some (.slice Ax x[k].length ex) := hnw.out.gr.cell h5 (fun e => hbx (Option.some.inj e))
      have HHB := Lib.hid hbx
      clear hcx hvx h5 hbx
      generalize x[k] = r at *
      go_upto_region 4 with (fail)
      clear hd5
      go_loopw [18] (fun u W => ∃ (j : Nat) (v : Value), u = .int .i64 j ∧ j ≤ y.length ∧ Hid (NatW wZ o v (accN acc x y O k j) W)) (fun u _ => y.length - (intOf u).toNat)
      case atStart => exact ⟨0, v, rfl, Nat.zero_le _, hnw⟩
      case round =>
        clear hnw
        obtain ⟨j, v, rfl, hj, hnw⟩ := hrel
        by_cases hlj : j < y.length
        · obtain ⟨by_, oy, rfl, hcy⟩ := HY.out.2 (by omega)
          obtain ⟨hby, Ay, ey, h6, hle6, hvy⟩ := hcy j hlj
          rw [Nat.mul_one] at h6
          have gr := hnw.out.gr
          have d6 : wr.cell? ⟨by_, oy + j, none⟩ = some (.slice Ay y[j].length ey) := gr.cell h6 (fun e => hby (Option.some.inj e))
          have cO := hnw.out.c
          have cJ : wr.cell? ⟨jc, 0, none⟩ = some (.pointer (some ⟨q, 0, none⟩)) := gr.cell HE.out.jcc (fun e => HE.out.jo (Option.some.inj e))
          have c6 : wr.cell? ⟨q, 6, none⟩ = some (.slice AO O.length co) := gr.cell HE.out.q6 (fun e => HE.out.qo (Option.some.inj e))
          have HPS := Lib.hid (fun W (e : Ext wr W) => j_partS y[j] O (okN (fun b => b ≠ o) wZ) (okN (fun b => b ≠ o) wZ) Ay AO ey co W ((hvy.bnd.grown gr (fun b hb => hb.1)).ext e) ((HE.out.no.bnd.grown gr (fun b hb => hb.1)).ext e) (HYO.out _ (List.getElem_mem hlj)) (by omega))
          have HST := Lib.hid (accN_step (acc := acc) (x := x) (O := O) (k := k) hlj)
          rw [HXK.out] at HST
          have hlp : (partJ y[j] O).length ≤ 4000000 := by unfold partJ; rw [List.length_map]; exact hO
          have HCC := Lib.hid (fun W ok2 g B d (e : Ext wr W) (h0 : W.cell? ⟨g, 0, none⟩ = some (.slice Ax r.length ex)) (h1 : W.cell? ⟨g, 1, none⟩ = some (.slice B (partJ y[j] O).length d)) (hp : Vals W ok2 B (partJ y[j] O)) => j_Concat r (partJ y[j] O) g (okN (fun b => b ≠ o) wZ) ok2 Ax B ex d W h0 h1 ((HVX.out.bnd.grown gr (fun b hb => hb.1)).ext e) hp HXN.out hlp)
          have hsm : (accN acc x y O k j).length ≤ 8000000 := Nat.le_trans (accN_len acc x y O hlt hlj) hbig
          have HNW := hnw
          have hsz := hnw.out.gr.size
          have hho := hnw.out.ho
          have hjs : jc < wr.heap.size := block_lt_of_cell cJ
          have hqs : q < wr.heap.size := block_lt_of_cell c6
          have hos : o < wr.heap.size := block_lt_of_cell cO
          have HJQ := Lib.hid (And.intro (block_lt_of_cell HE.out.jcc) (block_lt_of_cell HE.out.q6))
          clear hcy h6 hvy hby gr hnw hlp
          generalize partJ y[j] O = py at *
          generalize y[j] = s at *
          go_upto_region 6 with (fail)
          clear d6
          generalize r ++ py = xr at *
          refine AnyE.start (S := (fun V => V.cell? ⟨o, 0, none⟩ = some v ∧ V.cell? ⟨jc, 0, none⟩ = some (.pointer (some ⟨q, 0, none⟩)) ∧ V.cell? ⟨q, 6, none⟩ = some (.slice AO O.length co))) (E := 12) (by kernel_rfl) ?hs89 (fun hHeld => ?go89)
          case hs89 => (exact ⟨by first | assumption | (go_simp; done), by first | assumption | (go_simp; done), by first | assumption | (go_simp; done)⟩)
          refine AnyE.take (i := 0) (oi := ⟨(some 22), (.load 23 (.tmp 2)), 23, "join.go:114", #[], none⟩) (v := ?v90) rfl (by kernel_rfl) (by kernel_rfl) (by kernel_rfl) (fun _ _ _ h => h) (by kernel_rfl) rfl (by kernel_rfl) (Or.inl ⟨rfl, ?hy90⟩) hHeld ?rest90
          case hy90 => (intro w hSw; (try dsimp only at hSw); go_simp <;> first | with_reducible rfl | rw [if_neg (by omega)] | rw [if_pos (by omega)])
          (try simp only [Act.put]); (try simp only [List.setIfInBounds_toArray]); (try simp only [List.set_cons_succ]); (try simp only [List.set_cons_zero])
          refine AnyE.takeP (i := 1) (oi := ⟨(some 23), (.move (.tmp 7)), 37, "join.go:114", #[], none⟩) (v := ?v91) rfl (by kernel_rfl) (by kernel_rfl) (by kernel_rfl) (fun _ _ _ h => h) rfl (Or.inl ⟨rfl, ?hy91⟩) (fun _ => hHeld) ?rest91
          case hy91 => (intro w hSw; (try dsimp only at hSw); go_simp <;> first | with_reducible rfl | rw [if_neg (by omega)] | rw [if_pos (by omega)])
          (try simp only [Act.put]); (try simp only [List.setIfInBounds_toArray]); (try simp only [List.set_cons_succ]); (try simp only [List.set_cons_zero])
          refine AnyE.takeP (i := 2) (oi := ⟨(some 24), (.move (.tmp 9)), 37, "join.go:114", #[], none⟩) (v := ?v92) rfl (by kernel_rfl) (by kernel_rfl) (by kernel_rfl) (fun _ _ _ h => h) rfl (Or.inl ⟨rfl, ?hy92⟩) (fun _ => hHeld) ?rest92
          case hy92 => (intro w hSw; (try dsimp only at hSw); go_simp <;> first | with_reducible rfl | rw [if_neg (by omega)] | rw [if_pos (by omega)])
          (try simp only [Act.put]); (try simp only [List.setIfInBounds_toArray]); (try simp only [List.set_cons_succ]); (try simp only [List.set_cons_zero])
          refine AnyE.take (i := 3) (oi := ⟨(some 25), (.load 45 (.tmp 3)), 45, "join.go:114", #[], none⟩) (v := ?v93) rfl (by kernel_rfl) (by kernel_rfl) (by kernel_rfl) (fun _ _ _ h => h) (by kernel_rfl) rfl (by kernel_rfl) (Or.inl ⟨rfl, ?hy93⟩) hHeld ?rest93
          case hy93 => (intro w hSw; (try dsimp only at hSw); go_simp <;> first | with_reducible rfl | rw [if_neg (by omega)] | rw [if_pos (by omega)])
          (try simp only [Act.put]); (try simp only [List.setIfInBounds_toArray]); (try simp only [List.set_cons_succ]); (try simp only [List.set_cons_zero])
          refine AnyE.takeP (i := 4) (oi := ⟨(some 26), (.nilCheck (.tmp 25)), 0, "join.go:114", #[⟨3, .data⟩], none⟩) (v := ?v94) rfl (by kernel_rfl) (by kernel_rfl) (by kernel_rfl) (fun _ _ _ h => h) rfl (Or.inl ⟨rfl, ?hy94⟩) (fun _ => hHeld) ?rest94
          case hy94 => (intro w hSw; (try dsimp only at hSw); go_simp <;> first | with_reducible rfl | rw [if_neg (by omega)] | rw [if_pos (by omega)])
          (try simp only [Act.put]); (try simp only [List.setIfInBounds_toArray]); (try simp only [List.set_cons_succ]); (try simp only [List.set_cons_zero])
          refine AnyE.takeP (i := 5) (oi := ⟨(some 27), (.fieldAddr 63 (.tmp 26) 4), 0, "join.go:114", #[⟨4, .data⟩], none⟩) (v := ?v95) rfl (by kernel_rfl) (by kernel_rfl) (by kernel_rfl) (fun _ _ _ h => h) rfl (Or.inl ⟨rfl, ?hy95⟩) (fun _ => hHeld) ?rest95
          case hy95 => (intro w hSw; (try dsimp only at hSw); go_simp <;> first | with_reducible rfl | rw [if_neg (by omega)] | rw [if_pos (by omega)])
          (try simp only [Act.put]); (try simp only [List.setIfInBounds_toArray]); (try simp only [List.set_cons_succ]); (try simp only [List.set_cons_zero])
          refine AnyE.take (i := 6) (oi := ⟨(some 28), (.load 61 (.tmp 27)), 61, "join.go:114", #[⟨5, .data⟩], none⟩) (v := ?v96) rfl (by kernel_rfl) (by kernel_rfl) (by kernel_rfl) (fun _ _ _ h => h) (by kernel_rfl) rfl (by kernel_rfl) (Or.inl ⟨rfl, ?hy96⟩) hHeld ?rest96
          case hy96 => (intro w hSw; (try dsimp only at hSw); go_simp <;> first | with_reducible rfl | rw [if_neg (by omega)] | rw [if_pos (by omega)])
          (try simp only [Act.put]); (try simp only [List.setIfInBounds_toArray]); (try simp only [List.set_cons_succ]); (try simp only [List.set_cons_zero])
          refine AnyE.ready (rs := [7]) (by kernel_rfl) (by simp) ?_
          refine AllE.cons (o := ⟨(some 29), (.call { callee := (.value (.func 55)), args := #[(.tmp 24), (.tmp 28)], argTypes := #[37, 61] }), 37, "join.go:114", #[⟨2, .data⟩, ⟨6, .data⟩], none⟩) rfl (fun K hK => ?step97x0) ?more97x0
          case more97x0 => exact AllE.nil
          go_simp
          (refine (HPS.out _ (by repeat (first | with_reducible exact Ext.refl _ | with_reducible assumption | with_reducible refine Ext.drew ?_ | with_reducible refine Ext.drewN ?_ _ | with_reducible refine Ext.alloc ?_ _))).mono ?_; rintro e w4 ⟨A4, c4, rfl, hc4, hV4, hx4⟩; replace hV4 : Vals w4 (fun b => okN (fun b => b ≠ o) wZ b ∨ wr.heap.size ≤ b) A4 py := hV4.to (fun b hb => hb.imp_right (fun h => Nat.le_trans (Ext.le (a := wr) (by repeat (first | with_reducible exact Ext.refl _ | with_reducible assumption | with_reducible refine Ext.drew ?_ | with_reducible refine Ext.drewN ?_ _ | with_reducible refine Ext.alloc ?_ _))) h)); replace hx4 : Ext wr w4 := Ext.trans (by repeat (first | with_reducible exact Ext.refl _ | with_reducible assumption | with_reducible refine Ext.drew ?_ | with_reducible refine Ext.drewN ?_ _ | with_reducible refine Ext.alloc ?_ _)) hx4; have hs4 := hx4.le; have a14 := hx4.cell cO; have a24 := hx4.cell cJ; have a34 := hx4.cell c6; have hjs4 : jc < w4.heap.size := block_lt_of_cell a24; have hqs4 : q < w4.heap.size := block_lt_of_cell a34; have hos4 : o < w4.heap.size := block_lt_of_cell a14)
          refine hK.out _ _ ?hS97x0 (fun hHeld97 => ?rest97x0)
          case hS97x0 => intro _; first | (exact ⟨by first | assumption | (go_simp; done), by first | assumption | (go_simp; done), by first | assumption | (go_simp; done)⟩) | ((try dsimp only); (exact ⟨by first | assumption | (go_simp; done), by first | assumption | (go_simp; done), by first | assumption | (go_simp; done)⟩))
          clear hK K
          clear hHeld
          (try simp only [Act.put]); (try simp only [List.setIfInBounds_toArray]); (try simp only [List.set_cons_succ]); (try simp only [List.set_cons_zero])
          refine AnyE.ready (rs := [8]) (by kernel_rfl) (by simp) ?_
          refine AllE.cons (o := ⟨(some 30), (.buildSlice 23 2 #[(0, (.tmp 23)), (1, (.tmp 29))]), 23, "join.go:114", #[⟨1, .data⟩, ⟨7, .data⟩], none⟩) rfl (fun K hK => ?step98x0) ?more98x0
          case more98x0 => exact AllE.nil
          go_simp
          refine hK.out _ _ ?hS98x0 (fun hHeld98 => ?rest98x0)
          case hS98x0 => intro _; first | (exact ⟨by first | assumption | (go_simp; done), by first | assumption | (go_simp; done), by first | assumption | (go_simp; done)⟩) | ((try dsimp only); (exact ⟨by first | assumption | (go_simp; done), by first | assumption | (go_simp; done), by first | assumption | (go_simp; done)⟩))
          clear hK K
          clear hHeld97
          (try simp only [Act.put]); (try simp only [List.setIfInBounds_toArray]); (try simp only [List.set_cons_succ]); (try simp only [List.set_cons_zero])
          refine AnyE.ready (rs := [9]) (by kernel_rfl) (by simp) ?_
          refine AllE.cons (o := ⟨(some 31), (.call { callee := (.value (.func 41)), args := #[(.tmp 30)], argTypes := #[23] }), 37, "join.go:114", #[⟨8, .data⟩, ⟨7, .chain⟩], none⟩) rfl (fun K hK => ?step99x0) ?more99x0
          case more99x0 => exact AllE.nil
          go_simp
          (refine (HCC.out _ _ _ A4 c4 (by repeat (first | with_reducible exact Ext.refl _ | with_reducible assumption | with_reducible refine Ext.drew ?_ | with_reducible refine Ext.drewN ?_ _ | with_reducible refine Ext.alloc ?_ _)) (by go_simp) (by go_simp) (hV4.ext (by first | exact Ext.refl _ | exact (Ext.refl _).alloc _ | exact ((Ext.refl _).drew).alloc _))).mono ?_; rintro e w5 ⟨A5, c5, rfl, hc5, hV5, hx5⟩; replace hV5 : Vals w5 (fun b => (okN (fun b => b ≠ o) wZ b ∨ (okN (fun b => b ≠ o) wZ b ∨ wr.heap.size ≤ b)) ∨ wr.heap.size ≤ b) A5 xr := hV5.to (fun b hb => hb.imp_right (fun h => Nat.le_trans (Ext.le (a := wr) (by repeat (first | with_reducible exact Ext.refl _ | with_reducible assumption | with_reducible refine Ext.drew ?_ | with_reducible refine Ext.drewN ?_ _ | with_reducible refine Ext.alloc ?_ _))) h)); replace hx5 : Ext wr w5 := Ext.trans (by repeat (first | with_reducible exact Ext.refl _ | with_reducible assumption | with_reducible refine Ext.drew ?_ | with_reducible refine Ext.drewN ?_ _ | with_reducible refine Ext.alloc ?_ _)) hx5; have hs5 := hx5.le; have a15 := hx5.cell cO; have a25 := hx5.cell cJ; have a35 := hx5.cell c6; have hjs5 : jc < w5.heap.size := block_lt_of_cell a25; have hqs5 : q < w5.heap.size := block_lt_of_cell a35; have hos5 : o < w5.heap.size := block_lt_of_cell a15)
          refine hK.out _ _ ?hS99x0 (fun hHeld99 => ?rest99x0)
          case hS99x0 => intro _; first | (exact ⟨by first | assumption | (go_simp; done), by first | assumption | (go_simp; done), by first | assumption | (go_simp; done)⟩) | ((try dsimp only); (exact ⟨by first | assumption | (go_simp; done), by first | assumption | (go_simp; done), by first | assumption | (go_simp; done)⟩))
          clear hK K
          clear hHeld98
          (try simp only [Act.put]); (try simp only [List.setIfInBounds_toArray]); (try simp only [List.set_cons_succ]); (try simp only [List.set_cons_zero])
          refine AnyE.ready (rs := [10]) (by kernel_rfl) (by simp) ?_
          refine AllE.cons (o := ⟨(some 32), (.buildSlice 23 1 #[(0, (.tmp 31))]), 23, "join.go:114", #[⟨9, .data⟩], none⟩) rfl (fun K hK => ?step100x0) ?more100x0
          case more100x0 => exact AllE.nil
          go_simp
          refine hK.out _ _ ?hS100x0 (fun hHeld100 => ?rest100x0)
          case hS100x0 => intro _; first | (exact ⟨by first | assumption | (go_simp; done), by first | assumption | (go_simp; done), by first | assumption | (go_simp; done)⟩) | ((try dsimp only); (exact ⟨by first | assumption | (go_simp; done), by first | assumption | (go_simp; done), by first | assumption | (go_simp; done)⟩))
          clear hK K
          clear hHeld99
          (try simp only [Act.put]); (try simp only [List.setIfInBounds_toArray]); (try simp only [List.set_cons_succ]); (try simp only [List.set_cons_zero])
          refine AnyE.ready (rs := [11]) (by kernel_rfl) (by simp) ?_
          refine AllE.cons (o := ⟨(some 33), (.call { callee := (.builtin .append), args := #[(.tmp 22), (.tmp 32)], argTypes := #[23, 23] }), 23, "join.go:114", #[⟨0, .data⟩, ⟨10, .data⟩, ⟨9, .chain⟩], none⟩) rfl (fun K hK => ?step101x0) ?more101x0
          case more101x0 => exact AllE.nil
          (refine step_pushR rfl (.tmp 22) (.tmp 32) rfl wZ.heap.size (fun b => b ≠ o) w5 v (accN acc x y O k j) xr A5 c5 rfl ((HNW.out.ext hx5).own) (Nat.le_trans hsz hs5) rfl rfl hc5 (hV5.to (fun b hb => ⟨fun e => by rcases hb with (h | h | h) | h <;> first | exact h.1 e | omega, fun e => by have h1 := HNW.out.own.lt e.symm; rcases hb with (h | h | h) | h <;> first | omega | (have := h.2; omega)⟩)) hsm ?_; intro v9 w9 hO9 hg9; have hno := fun b (hb : b < wZ.heap.size) e => (by have h1 := HNW.out.own.lt (g := b) e; omega : False); have b1 := hg9.cell a15 (fun e => hno o hho e.symm); have b2 := hg9.cell a25 (fun e => hno jc HJQ.out.1 e.symm); have b3 := hg9.cell a35 (fun e => hno q HJQ.out.2 e.symm); obtain ⟨A9, n9, c9, rfl⟩ := hO9.form'; have f9 := frozen_grown hg9 a15 (fun e => hno o hho e) 0 (HNW.out.ext hx5).f)
          refine hK.out _ _ ?hS101x0 (fun hHeld101 => ?rest101x0)
          case hS101x0 => intro _; first | (exact ⟨by first | assumption | (go_simp; done), by first | assumption | (go_simp; done), by first | assumption | (go_simp; done)⟩) | ((try dsimp only); (exact ⟨by first | assumption | (go_simp; done), by first | assumption | (go_simp; done), by first | assumption | (go_simp; done)⟩))
          clear hK K
          clear hHeld100
          (try simp only [Act.put]); (try simp only [List.setIfInBounds_toArray]); (try simp only [List.set_cons_succ]); (try simp only [List.set_cons_zero])
          refine AnyE.ready (rs := [12]) (by kernel_rfl) (by simp) ?_
          refine AllE.cons (o := ⟨none, (.store 23 (.tmp 2) (.tmp 33)), 0, "join.go:114", #[⟨11, .data⟩, ⟨11, .chain⟩, ⟨0, .phase⟩, ⟨1, .phase⟩, ⟨2, .phase⟩, ⟨3, .phase⟩, ⟨4, .phase⟩, ⟨5, .phase⟩, ⟨6, .phase⟩, ⟨7, .phase⟩, ⟨8, .phase⟩, ⟨9, .phase⟩, ⟨10, .phase⟩, ⟨11, .phase⟩], none⟩) rfl (fun K hK => ?step102x0) ?more102x0
          case more102x0 => exact AllE.nil
          go_simp
          refine hK.out _ _ ?hS102x0 (fun hHeld102 => ?rest102x0)
          case hS102x0 => first | (intro h; exact absurd h (by decide)) | (intro h; simp at h)
          clear hK K
          clear hHeld101
          (try simp only [Act.put]); (try simp only [List.setIfInBounds_toArray]); (try simp only [List.set_cons_succ]); (try simp only [List.set_cons_zero])
          refine AnyE.done (by kernel_rfl) ?_ _
          clear hHeld102
          have HS := Lib.hid ((HNW.out.ext hx5).push hg9 hO9)
          rw [← HST.out] at HS
          go_wp2_with fail
          go_roundw
          case rel => exact ⟨j + 1, _, by go_num, by omega, HS⟩
          case measure => simp [intOf]; omega
        · have hjl : j = y.length := by omega
          subst hjl
          have hO2 := Lib.hid (HNX.out ▸ hnw.out)
          clear hnw HNX HXK
          go_wp2_with fail
          go_roundw
          case rel => exact ⟨k + 1, v, by go_num, by omega, hO2⟩
          case measure => simp [intOf]; omega
    · have hkl : k = x.length := by omega
      have hO2 := Lib.hid (show NatW wZ o v (acc ++ x.flatMap (fun r => y.map (fun s => r ++ partJ s O))) wr by have := hnw.out; rw [hkl, HEND.out] at this; exact this)
      clear hnw hkl HEND
      go_wp2_with fail
      go_end0
      exact ⟨rfl, v, hO2.out⟩
end Go.Proofs.YtbjddimafilflaaGreatDoor
