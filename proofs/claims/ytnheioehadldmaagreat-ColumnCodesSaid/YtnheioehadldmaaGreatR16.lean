/- PARTS OF THE WALKS, joined: CoS. -/
import Derived.Test.YtnheioehadldmaaGreatR15
/- THE WALK over column.Valid. -/
namespace Go.Proofs.YtnheioehadldmaaGreat
open Go.RowKit Go.Maps
theorem step_look {P : Program} {ops : Array Oper} {o : Oper} {a : Act} {w : World} {K' : Act → World → Prop} {Q : Exit → Act → World → Prop} {E : Prop} (hg : Region.wanted o (yielded ops a.tmps) = true) (m x : Operand) (t : TypeId) (hop : o.op = Op.lookup t m x false)
  {k e : TypeId} (K : Keyed P k) (ht : P.underlying t = some (.map k e)) {z : Value} (hz : (zeroValue e).run P w = .ok z w) (b n : Nat) (g : Lit → Option Value) (hm : a.eval m = .map (some b)) (hown : MapOf P k w b n g) (key : Value) (kl : Lit) (hx : a.eval x = key) (hkey : keyOf P k key = some kl)
  (hK : K' (a.put o.dst ((g kl).getD z)) w) : if Region.wanted o (yielded ops a.tmps) = true then Oper.wp P o a w K' Q else E := by
 rw [if_pos hg]
 have hrun := hown.look K ht hz hkey
 unfold Oper.wp
 simp [execOp, hop, hm, hx, hrun, Result.andThen]
 exact hK
abbrev lkC (i : Int) : Lit := .int .i64 i
theorem key_idC {x : Int} (h : idOk x) : keyOf Tryz.prog 3 (.int .i64 x) = some (lkC x) := keyOf_int_mk Tryz.underlying3 (a := x) (by unfold idOk at h; simp [Lit.wf, IntKind.min, IntKind.max, IntKind.signed, IntKind.bits]; omega)
/-- the map tells which edges came up among the first k entries -/
def SeenC (gf : Lit → Option Value) (l : List Sh) (k : Nat) : Prop := ∀ x : Int, gf (lkC x) = if x ∈ (l.take k).map Sh.d then some (.bool true) else none
theorem SeenC.nil (l : List Sh) : SeenC (fun _ => none) l 0 := fun x => by rw [List.take_zero, List.map_nil, if_neg (by simp)]
theorem SeenC.look {gf : Lit → Option Value} {l : List Sh} {k : Nat} (h : SeenC gf l k) (x : Int) : (gf (lkC x)).getD (.bool false) = .bool (decide (x ∈ (l.take k).map Sh.d)) := by
 rw [h x]
 by_cases hx : x ∈ (l.take k).map Sh.d
 ·rw [if_pos hx, decide_eq_true hx]; rfl
 ·rw [if_neg hx, decide_eq_false hx]; rfl
theorem SeenC.put {gf : Lit → Option Value} {l : List Sh} {k : Nat} (h : SeenC gf l k) (hk : k < l.length) : SeenC (putM gf (lkC l[k]!.d) (.bool true)) l (k + 1) := fun x => by
 rw [List.take_succ_eq_append_getElem hk, ← getElem!_pos l k hk, List.map_append]
 by_cases e : x = l[k]!.d
 ·rw [← e, putM_same, if_pos (by rw [List.mem_append]; exact .inr (by simp [e]))]
 ·rw [putM_other _ _ (fun e2 => e (by injection e2)), h x]
  by_cases hx : x ∈ (l.take k).map Sh.d
  ·rw [if_pos hx, if_pos (List.mem_append.2 (.inl hx))]
  ·rw [if_neg hx, if_neg (show ¬ x ∈ (l.take k).map Sh.d ++ [l[k]!].map Sh.d from fun h => (List.mem_append.1 h).elim hx (fun h => e (List.mem_singleton.1 h)))]
/-- what the program looks at -/
def goodAt (l : List Sh) (i : Nat) : Prop := idOk l[i]!.id ∧ idOk l[i]!.n ∧ idOk l[i]!.d ∧ l[i]!.d ∉ (l.take i).map Sh.d ∧ ∀ j, i = j + 1 → adjOrd l[j]! l[i]! < 0
theorem good_iff (l : List Sh) : GoodL l ↔ ∀ i, i < l.length → goodAt l i := by
 constructor
 ·intro h i hi
  have h1 := h.ids l[i]! (by rw [getElem!_pos l i hi]; exact List.getElem_mem hi)
  refine ⟨h1.1, h1.2.1, h1.2.2, fun hm => ?_, fun j hj => ?_⟩
  ·obtain ⟨a, ha, e⟩ := List.mem_map.1 hm
   obtain ⟨m, hm, rfl⟩ := List.getElem_of_mem ha
   rw [List.length_take] at hm
   rw [List.getElem_take, getElem!_pos l i hi] at e
   have := List.pairwise_iff_getElem.1 h.once m i (by rw [List.length_map]; omega) (by rw [List.length_map]; exact hi) (by omega)
   rw [List.getElem_map, List.getElem_map] at this
   exact this e
  ·have := List.pairwise_iff_getElem.1 h.rise j i (by omega) hi (by omega)
   rwa [← getElem!_pos l j (by omega), ← getElem!_pos l i hi] at this
 ·intro h
  refine ⟨fun a ha => ?_, rise_of (fun k j hj hk => (h k hk).2.2.2.2 j hj), ?_⟩
  ·obtain ⟨i, hi, rfl⟩ := List.getElem_of_mem ha
   have := h i hi
   rw [← getElem!_pos l i hi]
   exact ⟨this.1, this.2.1, this.2.2.1⟩
  ·rw [List.Nodup, List.pairwise_iff_getElem]
   intro m i hm hi hmi e
   rw [List.length_map] at hm hi
   rw [List.getElem_map, List.getElem_map] at e
   refine (h i hi).2.2.2.1 (List.mem_map.2 ⟨l[m], List.mem_take_iff_getElem.2 ⟨m, by omega, rfl⟩, ?_⟩)
   rw [getElem!_pos l i hi]; exact e
theorem valid_prog (c : Col) : validP c ↔ shapeP c ∧ (∀ t, t < c.nodes.length → ∀ j, t = j + 1 → c.nodes[j]! < c.nodes[t]!) ∧ ∀ i, i < (flatC c).length → goodAt (flatC c) i := by
 rw [← good_iff]
 constructor
 ·rintro (⟨h1, h2, h3, h4⟩ | ⟨hS, hn, hg⟩)
  ·obtain ⟨n, f, t, e⟩ := c
   cases h1; cases h2; cases h3; cases h4
   exact ⟨.inl ⟨rfl, rfl, rfl, rfl⟩, fun t ht => absurd ht (by simp), ⟨fun a ha => absurd ha (by simp [flatC, flatK]), List.Pairwise.nil, List.nodup_nil⟩⟩
  ·refine ⟨.inr hS, fun t ht j hj => ?_, hg⟩
   have := List.pairwise_iff_getElem.1 hn j t (by omega) ht (by omega)
   rwa [← getElem!_pos c.nodes j (by omega), ← getElem!_pos c.nodes t ht] at this
 ·rintro ⟨h1 | hS, hn, hg⟩
  ·exact .inl h1
  ·refine .inr ⟨hS, ?_, hg⟩
   have key : ∀ d i, i + d + 1 < c.nodes.length → c.nodes[i]! < c.nodes[i + d + 1]! := by
    intro d
    induction d with
    | zero => intro i hi; exact hn (i + 1) hi i rfl
    | succ d ih => intro i hi; have a1 := ih i (by omega); have a2 := hn (i + d + 1 + 1) (by omega) (i + d + 1) rfl; have e : i + (d + 1) + 1 = i + d + 1 + 1 := rfl; rw [e]; omega
   rw [List.pairwise_iff_getElem]
   intro i j hi hj hij
   have := key (j - i - 1) i (by omega)
   rw [show i + (j - i - 1) + 1 = j by omega, getElem!_pos _ i hi, getElem!_pos _ j hj] at this
   exact this
set_option maxRecDepth 100000 in
set_option maxHeartbeats 6400000 in
theorem co_Valid (c : Col) (ok : Nat → Prop) (A B Cx D : Option Addr) (k0 k1 k2 k3 : Nat) (w : World) (hv : ColAt w ok A B Cx D c) (hm : c.tos.length ≤ 8000000) :
  Calls Tryz.prog 15 #[agC c A B Cx D k0 k1 k2 k3] w fun e w' => e = .returned (.bool (colB c)) ∧ Ext w w' := by
 obtain ⟨q, w1, hq, hw1, ⟨a0, a1, a2, a3⟩, hx⟩ := box_col w c A B Cx D k0 k1 k2 k3 29
 have HW := Lib.hid hw1
 have HQ := Lib.hid hq
 have HX := Lib.hid hx
 have HNV := Lib.hid (hv.n.ext hx)
 have hnl := hv.n.len
 have HSH := Lib.hid (co_shape c ok A B Cx D k0 k1 k2 k3 w1 (hv.ext hx))
 have HFT := Lib.hid (fun (hs : shapeP c) W (e : Ext w1 W) => co_unpack c ok A B Cx D k0 k1 k2 k3 W ((hv.ext hx).ext e) hs hm)
 have HFL := Lib.hid (fun (h : shapeP c) => (by
  rcases h with ⟨h1, h2, h3, h4⟩ | h1
  ·unfold flatC; rw [h1, h3]; rfl
  ·exact flatC_len h1 : (flatC c).length = c.tos.length))
 have HVR := Lib.hid (valid_prog c)
 have HYB := Lib.hid (fun (h : validP c) => colB_iff.2 h)
 have HNB := Lib.hid (fun (h : ¬ validP c) => colB_no h)
 have MK1 := Lib.hid (fun V (e : Ext w1 V) => (⟨e.cell a0, e.cell a1, e.cell a2, e.cell a3⟩ : (V.cell? ⟨q, 0, none⟩ = some (.slice A c.nodes.length k0) ∧ V.cell? ⟨q, 1, none⟩ = some (.slice B c.first.length k1) ∧ V.cell? ⟨q, 2, none⟩ = some (.slice Cx c.tos.length k2) ∧ V.cell? ⟨q, 3, none⟩ = some (.slice D c.edges.length k3))))
 generalize colB c = T at *
 generalize validP c = VP at *
 clear hw1 hq hv hx
 unfold agC at HSH HFT ⊢
 go_enter Tryz.func15, Tryz.ntmps15
 go_upto_region 1 with (fail)
 rw [← HW.out, ← HQ.out]
 clear HW HQ
 cases hsb : shapeB c
 ·have HT := Lib.hid (HNB.out (fun h => by have h1 := shapeB_iff.2 (HVR.out.1 h).1; rw [hsb] at h1; cases h1))
  rw [hsb] at HSH
  clear hsb HVR HYB HNB HFT HNV HFL
  go_wp2_with (go_at_call 43; ((with_reducible refine (HSH.out).mono ?_); rintro e w2 ⟨rfl, hx2⟩))
  go_ret
  exact ⟨ret_bool HT.out.symm, HX.out.trans hx2⟩
 ·have hsr := shapeB_iff.1 hsb
  rw [hsb] at HSH
  have HFT' := Lib.hid (HFT.out hsr)
  have HLL := Lib.hid (HFL.out hsr)
  have HYES := Lib.hid (fun h1 h2 => HYB.out (HVR.out.2 ⟨hsr, h1, h2⟩))
  have HN1 := Lib.hid (fun (h : ¬ ∀ t, t < c.nodes.length → ∀ j, t = j + 1 → c.nodes[j]! < c.nodes[t]!) => HNB.out (fun hs => h (HVR.out.1 hs).2.1))
  have HN2 := Lib.hid (fun (h : ¬ ∀ i, i < (flatC c).length → goodAt (flatC c) i) => HNB.out (fun hs => h (HVR.out.1 hs).2.2))
  clear hsb hsr HVR HYB HNB HFT HFL
  generalize flatC c = l at *
  go_upto_region 3 with (go_at_call 43; ((with_reducible refine (HSH.out).mono ?_); rintro e w2 ⟨rfl, hx2⟩; obtain ⟨a0, a1, a2, a3⟩ := MK1.out _ hx2))
  have HX2 := Lib.hid hx2
  clear hx2 HSH
  go_wp2_with fail
  go_loopw [15] (fun u W => ∃ k : Nat, u = .int .i64 k ∧ k ≤ c.nodes.length ∧ Hid (∀ t, t < k → ∀ j, t = j + 1 → c.nodes[j]! < c.nodes[t]!) ∧ Hid (Ext w1 W)) (fun u _ => c.nodes.length - (intOf u).toNat)
  case atStart => exact ⟨0, rfl, Nat.zero_le _, Lib.hid (fun t h => absurd h (by omega)), HX2⟩
  case round =>
   clear HX2
   obtain ⟨k, rfl, hk, HG, hE⟩ := hrel
   obtain ⟨a0, a1, a2, a3⟩ := MK1.out _ hE.out
   by_cases hlt : k < c.nodes.length
   ·obtain ⟨b, o, rfl, hc⟩ := HNV.out.2 (by omega)
    have d0 := hE.out.cell (hc k hlt).2
    rw [← getElem!_pos _ k hlt, Nat.mul_one] at d0
    by_cases hk0 : k = 0
    ·have HT := Lib.hid (fun t (ht : t < k + 1) j (hj : t = j + 1) => (absurd hj (by omega) : c.nodes[j]! < c.nodes[t]!))
     have g0 : decide (0 < (k : Int)) = false := decide_eq_false (by omega)
     have g1 : decide (0 < k) = false := decide_eq_false (by omega)
     clear hc hk0 HG
     go_wp2_with fail
     go_roundw
     case rel => exact ⟨k + 1, by go_num, by omega, HT, hE⟩
     case measure => simp [intOf]; omega
    ·obtain ⟨j, hj⟩ : ∃ j, k = j + 1 := ⟨k - 1, by omega⟩
     have g0 : decide (0 < (k : Int)) = true := decide_eq_true (by omega)
     have g1 : decide (0 < k) = true := decide_eq_true (by omega)
     have wj : IntKind.i64.wrap ((k : Int) - 1) = (j : Int) := by rw [IntKind.wrap_i64]; omega
     have hjl : j < c.nodes.length := by omega
     have e0 := hE.out.cell (hc j hjl).2
     rw [← getElem!_pos _ j hjl, Nat.mul_one] at e0
     have HB := Lib.hid (fun (h : ¬ c.nodes[j]! < c.nodes[k]!) => HN1.out (fun hs => h (hs k hlt j hj)))
     have HS := Lib.hid (fun (h : c.nodes[j]! < c.nodes[k]!) t (ht : t < k + 1) j' (hj' : t = j' + 1) => (if e : t = k then (by rw [e, show j' = j by omega]; exact h) else HG.out t (by omega) j' hj' : c.nodes[j']! < c.nodes[t]!))
     clear hc hk0 HG hj
     generalize c.nodes[j]! = x at *
     generalize c.nodes[k]! = y at *
     by_cases hxy : x < y
     ·have HT := Lib.hid (HS.out hxy)
      have g : decide (y ≤ x) = false := decide_eq_false (by omega)
      clear HB HS hxy
      go_wp2_with fail
      go_roundw
      case rel => exact ⟨k + 1, by go_num, by omega, HT, hE⟩
      case measure => simp [intOf]; omega
     ·have HT := Lib.hid (HB.out hxy)
      have g : decide (y ≤ x) = true := decide_eq_true (by omega)
      clear HB HS hxy
      go_wp2_with fail
      go_ret
      exact ⟨ret_bool HT.out.symm, HX.out.trans hE.out⟩
   ·have HI := Lib.hid (fun t (ht : t < c.nodes.length) => HG.out t (by omega))
    clear HG HN1 HNV
    have hmm := @run_makeMap Tryz.prog
    go_upto_region 10 with (go_at_call 44; ((with_reducible refine (HFT'.out _ hE.out).mono ?_); rintro e w3 ⟨A3, c3, rfl, hc3, hV3, hx3⟩))
    have HV3 := Lib.hid hV3
    have HE3 := Lib.hid (hE.out.trans hx3)
    have hll := hV3.len
    have hl8 : l.length ≤ 8000000 := by rw [HLL.out]; exact hm
    obtain ⟨mb, hmb⟩ : ∃ mb, mb = w3.heap.size := ⟨_, rfl⟩
    have hmade := MapOf.made Tryz.prog 3 w3
    obtain ⟨w4, hw4⟩ : ∃ w4, w4 = w3.alloc (.map #[] 0) := ⟨_, rfl⟩
    have hx4 : Ext w3 w4 := by rw [hw4]; exact (Ext.refl _).alloc _
    rw [← hw4, ← hmb] at hmade
    have HM := Lib.hid hmade
    have HX4 := Lib.hid hx4
    have HMB := Lib.hid hmb
    clear hV3 hx3 hE HFT' a0 a1 a2 a3 MK1 hk hlt hmade hx4
    go_upto_region 11 with (fail)
    rw [← hw4, ← hmb]
    clear hw4 hmb hmm
    go_wp2_with fail
    go_loopw [38] (fun u W => ∃ (k : Nat) (gf : Lit → Option Value), u = .int .i64 k ∧ k ≤ l.length ∧ Hid (MapOf Tryz.prog 3 W mb k gf) ∧ Hid (SeenC gf l k) ∧ Hid (∀ t, t < k → goodAt l t) ∧ Hid (Ext w3 W)) (fun u _ => l.length - (intOf u).toNat)
    case atStart => exact ⟨0, _, rfl, Nat.zero_le _, HM, Lib.hid (SeenC.nil l), Lib.hid (fun t h => absurd h (by omega)), HX4⟩
    case round =>
     clear HM HX4
     obtain ⟨k, gf, rfl, hk, hM, hS, hG, hE⟩ := hrel
     by_cases hlt : k < l.length
     ·obtain ⟨b, o, rfl, hc⟩ := HV3.out.at_ hlt
      obtain ⟨-, d0, d1, d2⟩ := hc k hlt
      replace d0 := hE.out.cell d0
      replace d1 := hE.out.cell d1
      replace d2 := hE.out.cell d2
      have HCJ := Lib.hid (fun j (hj : j < l.length) => (⟨hE.out.cell (hc j hj).2.1, hE.out.cell (hc j hj).2.2.1, hE.out.cell (hc j hj).2.2.2⟩ : wr.cell? ⟨b, o + j * 3, none⟩ = some (.int .i64 l[j]!.id) ∧ wr.cell? ⟨b, o + j * 3 + 1, none⟩ = some (.int .i64 l[j]!.n) ∧ wr.cell? ⟨b, o + j * 3 + 2, none⟩ = some (.int .i64 l[j]!.d)))
      have HBAD := Lib.hid (fun (h : ¬ goodAt l k) => HN2.out (fun hs => h (hs k hlt)))
      have HLK := Lib.hid (hS.out.look l[k]!.d)
      have HPUT := Lib.hid (hS.out.put hlt)
      have HOK := Lib.hid (fun (h : goodAt l k) t (ht : t < k + 1) => (if e : t = k then (by rw [e]; exact h) else hG.out t (by omega) : goodAt l t))
      have hkm : k < maxLen := by unfold maxLen; omega
      obtain ⟨y, w2, hy, hw2, ⟨c0, c1, c2⟩, hx2⟩ := box_adj wr l[k]! 41
      have HW2 := Lib.hid hw2
      have HYY := Lib.hid hy
      have HE2 := Lib.hid (hE.out.trans hx2)
      have HM2 := Lib.hid (MapOf.ext hM.out hx2)
      have HCJ2 := Lib.hid (fun j (hj : j < l.length) V (e : Ext w2 V) => (⟨e.cell (hx2.cell (HCJ.out j hj).1), e.cell (hx2.cell (HCJ.out j hj).2.1), e.cell (hx2.cell (HCJ.out j hj).2.2)⟩ : V.cell? ⟨b, o + j * 3, none⟩ = some (.int .i64 l[j]!.id) ∧ V.cell? ⟨b, o + j * 3 + 1, none⟩ = some (.int .i64 l[j]!.n) ∧ V.cell? ⟨b, o + j * 3 + 2, none⟩ = some (.int .i64 l[j]!.d)))
      unfold goodAt at HBAD HOK
      have HSN := Lib.hid (show (l[k]!.d ∉ (l.take k).map Sh.d) ↔ decide (l[k]!.d ∈ (l.take k).map Sh.d) = false from by simp)
      generalize decide (l[k]!.d ∈ (l.take k).map Sh.d) = sn at *
      generalize (¬ (l[k]!.d ∈ (l.take k).map Sh.d)) = SN at *
      clear hw2 hy hc HN2 hS hG hM HV3 HCJ HYES hE HI
      generalize hlk : l[k]! = x at *
      obtain ⟨x0, x1, x2⟩ := x
      dsimp only at *
      go_upto_region 14 with (fail)
      rw [← HW2.out, ← HYY.out]
      clear HW2 HYY d0 d1 d2 hx2
      have HI0 := Lib.hid (fun W (_ : Ext w2 W) => co_id x0 W)
      have HI1 := Lib.hid (fun W (_ : Ext w2 W) => co_id x1 W)
      have HI2 := Lib.hid (fun W (_ : Ext w2 W) => co_id x2 W)
      have MK := Lib.hid (fun V (e : Ext w2 V) => (⟨e.cell c0, e.cell c1, e.cell c2⟩ : (V.cell? ⟨y, 0, none⟩ = some (.int .i64 x0) ∧ V.cell? ⟨y, 1, none⟩ = some (.int .i64 x1) ∧ V.cell? ⟨y, 2, none⟩ = some (.int .i64 x2))))
      by_cases h0 : idOk x0
      ·rw [idB_iff.2 h0] at HI0
       by_cases h1 : idOk x1
       ·rw [idB_iff.2 h1] at HI1
        by_cases h2 : idOk x2
        ·rw [idB_iff.2 h2] at HI2
         have hkey := key_idC h2
         cases sn
         ·have HL2 := HLK
          by_cases hk0 : k = 0
          ·have HT := Lib.hid (HOK.out ⟨h0, h1, h2, HSN.out.2 rfl, fun j hj => absurd hj (by omega)⟩)
           have g0 : decide (0 < (k : Int)) = false := decide_eq_false (by omega)
           have g1 : decide (0 < k) = false := decide_eq_false (by omega)
           clear hk0 HOK HBAD HSN HLK HCJ2 h0 h1 h2 hlk
           refine wp_region_held_drew (S := (fun V => (V.cell? ⟨y, 0, none⟩ = some (.int .i64 x0) ∧ V.cell? ⟨y, 1, none⟩ = some (.int .i64 x1) ∧ V.cell? ⟨y, 2, none⟩ = some (.int .i64 x2)))) (by kernel_rfl) ?hs50149 (fun hHeld => ?go50149)
           case hs50149 => (exact MK.out _ (by solve_by_elim [X0, X1, X2, X3]))
           refine TK 0 (v := ?v50150) hHeld ?hy50150 ?_
           case hy50150 => (intro w hSw; (try dsimp only at hSw); go_simp <;> first | with_reducible rfl | rw [if_neg (by omega)] | rw [if_pos (by omega)])
           (try simp only [PU])
           refine TK 1 (v := ?v50151) hHeld ?hy50151 ?_
           case hy50151 => (intro w hSw; (try dsimp only at hSw); go_simp <;> first | with_reducible rfl | rw [if_neg (by omega)] | rw [if_pos (by omega)])
           (try simp only [PU])
           refine wpAnyH_ready (rs := [2]) (by kernel_rfl) (by simp) ?_
           refine AllReadyH.cons (o := ⟨_, _, _, _, _, _⟩) rfl (fun K hK => ?step50152x0) ?more50152x0
           case more50152x0 => exact AllReadyH.nil
           go_simp
           (with_reducible refine (HI0.out _ (by solve_by_elim [X0, X1, X2, X3])).mono ?_; rintro r v0 ⟨rfl, hy0⟩; replace hy0 : Ext w2 v0 := Ext.trans (by solve_by_elim [X0, X1, X2, X3]) hy0)
           refine hK.out _ _ ?hS50152x0 (fun H50152 => ?_)
           case hS50152x0 => first | (exact MK.out _ (by solve_by_elim [X0, X1, X2, X3])) | ((try dsimp only); (exact MK.out _ (by solve_by_elim [X0, X1, X2, X3])))
           clear hK K
           clear hHeld
           (try simp only [PU])
           refine TK 3 (v := ?v50153) H50152 ?hy50153 ?_
           case hy50153 => (intro w hSw; (try dsimp only at hSw); go_simp <;> first | with_reducible rfl | rw [if_neg (by omega)] | rw [if_pos (by omega)])
           (try simp only [PU])
           refine TK 4 (v := ?v50154) H50152 ?hy50154 ?_
           case hy50154 => (intro w hSw; (try dsimp only at hSw); go_simp <;> first | with_reducible rfl | rw [if_neg (by omega)] | rw [if_pos (by omega)])
           (try simp only [PU])
           refine TK 5 (v := ?v50155) H50152 ?hy50155 ?_
           case hy50155 => (intro w hSw; (try dsimp only at hSw); go_simp <;> first | with_reducible rfl | rw [if_neg (by omega)] | rw [if_pos (by omega)])
           (try simp only [PU])
           refine TK 6 (v := ?v50156) H50152 ?hy50156 ?_
           case hy50156 => (intro w hSw; (try dsimp only at hSw); go_simp <;> first | with_reducible rfl | rw [if_neg (by omega)] | rw [if_pos (by omega)])
           (try simp only [PU])
           refine wpAnyH_ready (rs := [7]) (by kernel_rfl) (by simp) ?_
           refine AllReadyH.cons (o := ⟨_, _, _, _, _, _⟩) rfl (fun K hK => ?step50157x0) ?more50157x0
           case more50157x0 => exact AllReadyH.nil
           go_simp
           (with_reducible refine (HI1.out _ (by solve_by_elim [X0, X1, X2, X3])).mono ?_; rintro r v1 ⟨rfl, hy1⟩; replace hy1 : Ext w2 v1 := Ext.trans (by solve_by_elim [X0, X1, X2, X3]) hy1)
           refine hK.out _ _ ?hS50157x0 (fun H50157 => ?_)
           case hS50157x0 => first | (exact MK.out _ (by solve_by_elim [X0, X1, X2, X3])) | ((try dsimp only); (exact MK.out _ (by solve_by_elim [X0, X1, X2, X3])))
           clear hK K
           clear H50152
           (try simp only [PU])
           refine TK 8 (v := ?v50158) H50157 ?hy50158 ?_
           case hy50158 => (intro w hSw; (try dsimp only at hSw); go_simp <;> first | with_reducible rfl | rw [if_neg (by omega)] | rw [if_pos (by omega)])
           (try simp only [PU])
           refine TK 9 (v := ?v50159) H50157 ?hy50159 ?_
           case hy50159 => (intro w hSw; (try dsimp only at hSw); go_simp <;> first | with_reducible rfl | rw [if_neg (by omega)] | rw [if_pos (by omega)])
           (try simp only [PU])
           refine TK 10 (v := ?v50160) H50157 ?hy50160 ?_
           case hy50160 => (intro w hSw; (try dsimp only at hSw); go_simp <;> first | with_reducible rfl | rw [if_neg (by omega)] | rw [if_pos (by omega)])
           (try simp only [PU])
           refine TK 11 (v := ?v50161) H50157 ?hy50161 ?_
           case hy50161 => (intro w hSw; (try dsimp only at hSw); go_simp <;> first | with_reducible rfl | rw [if_neg (by omega)] | rw [if_pos (by omega)])
           (try simp only [PU])
           refine TK 12 (v := ?v50162) H50157 ?hy50162 ?_
           case hy50162 => (intro w hSw; (try dsimp only at hSw); go_simp <;> first | with_reducible rfl | rw [if_neg (by omega)] | rw [if_pos (by omega)])
           (try simp only [PU])
           refine wpAnyH_ready (rs := [13]) (by kernel_rfl) (by simp) ?_
           refine AllReadyH.cons (o := ⟨_, _, _, _, _, _⟩) rfl (fun K hK => ?step50163x0) ?more50163x0
           case more50163x0 => exact AllReadyH.nil
           go_simp
           (with_reducible refine (HI2.out _ (by solve_by_elim [X0, X1, X2, X3])).mono ?_; rintro r v2 ⟨rfl, hy2⟩; replace hy2 : Ext w2 v2 := Ext.trans (by solve_by_elim [X0, X1, X2, X3]) hy2)
           refine hK.out _ _ ?hS50163x0 (fun H50163 => ?_)
           case hS50163x0 => first | (exact MK.out _ (by solve_by_elim [X0, X1, X2, X3])) | ((try dsimp only); (exact MK.out _ (by solve_by_elim [X0, X1, X2, X3])))
           clear hK K
           clear H50157
           (try simp only [PU])
           refine TK 14 (v := ?v50164) H50163 ?hy50164 ?_
           case hy50164 => (intro w hSw; (try dsimp only at hSw); go_simp <;> first | with_reducible rfl | rw [if_neg (by omega)] | rw [if_pos (by omega)])
           (try simp only [PU])
           refine TK 15 (v := ?v50165) H50163 ?hy50165 ?_
           case hy50165 => (intro w hSw; (try dsimp only at hSw); go_simp <;> first | with_reducible rfl | rw [if_neg (by omega)] | rw [if_pos (by omega)])
           (try simp only [PU])
           refine TK 16 (v := ?v50166) H50163 ?hy50166 ?_
           case hy50166 => (intro w hSw; (try dsimp only at hSw); go_simp <;> first | with_reducible rfl | rw [if_neg (by omega)] | rw [if_pos (by omega)])
           (try simp only [PU])
           refine TK 17 (v := ?v50167) H50163 ?hy50167 ?_
           case hy50167 => (intro w hSw; (try dsimp only at hSw); go_simp <;> first | with_reducible rfl | rw [if_neg (by omega)] | rw [if_pos (by omega)])
           (try simp only [PU])
           refine TK 18 (v := ?v50168) H50163 ?hy50168 ?_
           case hy50168 => (intro w hSw; (try dsimp only at hSw); go_simp <;> first | with_reducible rfl | rw [if_neg (by omega)] | rw [if_pos (by omega)])
           (try simp only [PU])
           refine TK 19 (v := ?v50169) H50163 ?hy50169 ?_
           case hy50169 => (intro w hSw; (try dsimp only at hSw); go_simp <;> first | with_reducible rfl | rw [if_neg (by omega)] | rw [if_pos (by omega)])
           (try simp only [PU])
           refine wpAnyH_ready (rs := [20]) (by kernel_rfl) (by simp) ?_
           refine AllReadyH.cons (o := ⟨_, _, _, _, _, _⟩) rfl (fun K hK => ?step50170x0) ?more50170x0
           case more50170x0 => exact AllReadyH.nil
           (refine step_look rfl (.tmp 60) (.tmp 62) 70 rfl (int_keyed Tryz.underlying3) Tryz.underlying70 (z := .bool false) rfl mb k gf rfl (MapOf.ext HM2.out (by solve_by_elim [X0, X1, X2, X3])) (.int .i64 x2) (lkC x2) rfl hkey ?_; rw [HL2.out])
           refine hK.out _ _ ?hS50170x0 (fun H50170 => ?_)
           case hS50170x0 => first | (exact MK.out _ (by solve_by_elim [X0, X1, X2, X3])) | ((try dsimp only); (exact MK.out _ (by solve_by_elim [X0, X1, X2, X3])))
           clear hK K
           clear H50163
           (try simp only [PU])
           refine TK 21 (v := ?v50171) H50170 ?hy50171 ?_
           case hy50171 => (intro w hSw; (try dsimp only at hSw); go_simp <;> first | with_reducible rfl | rw [if_neg (by omega)] | rw [if_pos (by omega)])
           (try simp only [PU])
           refine TK 22 (v := ?v50172) H50170 ?hy50172 ?_
           case hy50172 => (intro w hSw; (try dsimp only at hSw); go_simp <;> first | with_reducible rfl | rw [if_neg (by omega)] | rw [if_pos (by omega)])
           (try simp only [PU])
           refine TK 23 (v := ?v50173) H50170 ?hy50173 ?_
           case hy50173 => (intro w hSw; (try dsimp only at hSw); go_simp <;> first | with_reducible rfl | rw [if_neg (by omega)] | rw [if_pos (by omega)])
           (try simp only [PU])
           refine TK 24 (v := ?v50174) H50170 ?hy50174 ?_
           case hy50174 => (intro w hSw; (try dsimp only at hSw); go_simp <;> first | with_reducible rfl | rw [if_neg (by omega)] | rw [if_pos (by omega)])
           (try simp only [PU])
           refine TK 25 (v := ?v50175) H50170 ?hy50175 ?_
           case hy50175 => (intro w hSw; (try dsimp only at hSw); go_simp <;> first | with_reducible rfl | rw [if_neg (by omega)] | rw [if_pos (by omega)])
           (try simp only [PU])
           refine TN 26 H50170 ?_
           (try simp only [PU])
           refine TN 27 H50170 ?_
           (try simp only [PU])
           refine TN 28 H50170 ?_
           (try simp only [PU])
           refine TN 29 H50170 ?_
           (try simp only [PU])
           refine TN 30 H50170 ?_
           (try simp only [PU])
           refine TN 31 H50170 ?_
           (try simp only [PU])
           refine TN 32 H50170 ?_
           (try simp only [PU])
           refine TN 33 H50170 ?_
           (try simp only [PU])
           refine TK 34 (v := ?v50184) H50170 ?hy50184 ?_
           case hy50184 => (intro w hSw; (try dsimp only at hSw); go_simp <;> first | with_reducible rfl | rw [if_neg (by omega)] | rw [if_pos (by omega)])
           (try simp only [PU])
           refine TK 35 (v := ?v50185) H50170 ?hy50185 ?_
           case hy50185 => (intro w hSw; (try dsimp only at hSw); go_simp <;> first | with_reducible rfl | rw [if_neg (by omega)] | rw [if_pos (by omega)])
           (try simp only [PU])
           refine wpAnyH_done (by kernel_rfl) ?_ _
           clear H50170
           obtain ⟨c0, c1, c2⟩ := MK.out _ hy2
           go_wp2_with (at_mapUpdate; refine wpList_put rfl (.tmp 79) (.tmp 81) (.const (.bool true)) 70 rfl (int_keyed Tryz.underlying3) Tryz.underlying70 mb k gf rfl (MapOf.ext HM2.out (by solve_by_elim [X0, X1, X2, X3])) hkm (.int .i64 x2) (.bool true) (lkC x2) rfl rfl hkey ?_; intro w7 hm7 hg7)
           have HM7 := Lib.hid hm7
           have HE7 := Lib.hid ((HE2.out.trans (show Ext w2 _ from (by solve_by_elim [X0, X1, X2, X3]))).grown hg7 (fun g e => by have := HMB.out; have := Option.some.inj e; omega))
           clear hm7 hg7
           go_roundw
           case rel => exact ⟨k + 1, _, by go_num, by omega, HM7, HPUT, HT, HE7⟩
           case measure => simp [intOf]; omega
          ·obtain ⟨j, hj⟩ : ∃ j, k = j + 1 := ⟨k - 1, by omega⟩
           have g0 : decide (0 < (k : Int)) = true := decide_eq_true (by omega)
           have g1 : decide (0 < k) = true := decide_eq_true (by omega)
           have wj : IntKind.i64.wrap ((k : Int) - 1) = (j : Int) := by rw [IntKind.wrap_i64]; omega
           have hjl : j < l.length := by omega
           have HP := Lib.hid (HCJ2.out j hjl)
           have HB := Lib.hid (fun (h : ¬ adjOrd l[j]! ⟨x0, x1, x2⟩ < 0) => HBAD.out (fun hs => h (hs.2.2.2.2 j hj)))
           have HG := Lib.hid (fun (h : adjOrd l[j]! ⟨x0, x1, x2⟩ < 0) => HOK.out ⟨h0, h1, h2, HSN.out.2 rfl, fun j' hj' => by rw [show j' = j by omega]; exact h⟩)
           clear hk0 HOK HBAD HSN HLK HCJ2 h0 h1 h2 hlk hj
           generalize l[j]! = p at *
           obtain ⟨p0, p1, p2⟩ := p
           dsimp only at *
           have HOR := Lib.hid (fun W (_ : Ext w2 W) => co_order ⟨p0, p1, p2⟩ ⟨x0, x1, x2⟩ W)
           have MKP := Lib.hid (fun V (e : Ext w2 V) => (⟨MK.out V e, HP.out V e⟩ : (V.cell? ⟨y, 0, none⟩ = some (.int .i64 x0) ∧ V.cell? ⟨y, 1, none⟩ = some (.int .i64 x1) ∧ V.cell? ⟨y, 2, none⟩ = some (.int .i64 x2)) ∧ (V.cell? ⟨b, o + j * 3, none⟩ = some (.int .i64 p0) ∧ V.cell? ⟨b, o + j * 3 + 1, none⟩ = some (.int .i64 p1) ∧ V.cell? ⟨b, o + j * 3 + 2, none⟩ = some (.int .i64 p2))))
           generalize adjOrd ⟨p0, p1, p2⟩ ⟨x0, x1, x2⟩ = od at *
           by_cases hod : od < 0
           ·have HT := Lib.hid (HG.out hod)
            have g : decide (0 ≤ od) = false := decide_eq_false (by omega)
            clear HB HG hod
            refine wp_region_held_drew (S := (fun V => (V.cell? ⟨y, 0, none⟩ = some (.int .i64 x0) ∧ V.cell? ⟨y, 1, none⟩ = some (.int .i64 x1) ∧ V.cell? ⟨y, 2, none⟩ = some (.int .i64 x2)) ∧ (V.cell? ⟨b, o + j * 3, none⟩ = some (.int .i64 p0) ∧ V.cell? ⟨b, o + j * 3 + 1, none⟩ = some (.int .i64 p1) ∧ V.cell? ⟨b, o + j * 3 + 2, none⟩ = some (.int .i64 p2)))) (by kernel_rfl) ?hs50223 (fun hHeld => ?go50223)
            case hs50223 => (exact MKP.out _ (by solve_by_elim [X0, X1, X2, X3]))
            refine TK 0 (v := ?v50224) hHeld ?hy50224 ?_
            case hy50224 => (intro w hSw; (try dsimp only at hSw); go_simp <;> first | with_reducible rfl | rw [if_neg (by omega)] | rw [if_pos (by omega)])
            (try simp only [PU])
            refine TK 1 (v := ?v50225) hHeld ?hy50225 ?_
            case hy50225 => (intro w hSw; (try dsimp only at hSw); go_simp <;> first | with_reducible rfl | rw [if_neg (by omega)] | rw [if_pos (by omega)])
            (try simp only [PU])
            refine wpAnyH_ready (rs := [2]) (by kernel_rfl) (by simp) ?_
            refine AllReadyH.cons (o := ⟨_, _, _, _, _, _⟩) rfl (fun K hK => ?step50226x0) ?more50226x0
            case more50226x0 => exact AllReadyH.nil
            go_simp
            (with_reducible refine (HI0.out _ (by solve_by_elim [X0, X1, X2, X3])).mono ?_; rintro r v0 ⟨rfl, hy0⟩; replace hy0 : Ext w2 v0 := Ext.trans (by solve_by_elim [X0, X1, X2, X3]) hy0)
            refine hK.out _ _ ?hS50226x0 (fun H50226 => ?_)
            case hS50226x0 => first | (exact MKP.out _ (by solve_by_elim [X0, X1, X2, X3])) | ((try dsimp only); (exact MKP.out _ (by solve_by_elim [X0, X1, X2, X3])))
            clear hK K
            clear hHeld
            (try simp only [PU])
            refine TK 3 (v := ?v50227) H50226 ?hy50227 ?_
            case hy50227 => (intro w hSw; (try dsimp only at hSw); go_simp <;> first | with_reducible rfl | rw [if_neg (by omega)] | rw [if_pos (by omega)])
            (try simp only [PU])
            refine TK 4 (v := ?v50228) H50226 ?hy50228 ?_
            case hy50228 => (intro w hSw; (try dsimp only at hSw); go_simp <;> first | with_reducible rfl | rw [if_neg (by omega)] | rw [if_pos (by omega)])
            (try simp only [PU])
            refine TK 5 (v := ?v50229) H50226 ?hy50229 ?_
            case hy50229 => (intro w hSw; (try dsimp only at hSw); go_simp <;> first | with_reducible rfl | rw [if_neg (by omega)] | rw [if_pos (by omega)])
            (try simp only [PU])
            refine TK 6 (v := ?v50230) H50226 ?hy50230 ?_
            case hy50230 => (intro w hSw; (try dsimp only at hSw); go_simp <;> first | with_reducible rfl | rw [if_neg (by omega)] | rw [if_pos (by omega)])
            (try simp only [PU])
            refine wpAnyH_ready (rs := [7]) (by kernel_rfl) (by simp) ?_
            refine AllReadyH.cons (o := ⟨_, _, _, _, _, _⟩) rfl (fun K hK => ?step50231x0) ?more50231x0
            case more50231x0 => exact AllReadyH.nil
            go_simp
            (with_reducible refine (HI1.out _ (by solve_by_elim [X0, X1, X2, X3])).mono ?_; rintro r v1 ⟨rfl, hy1⟩; replace hy1 : Ext w2 v1 := Ext.trans (by solve_by_elim [X0, X1, X2, X3]) hy1)
            refine hK.out _ _ ?hS50231x0 (fun H50231 => ?_)
            case hS50231x0 => first | (exact MKP.out _ (by solve_by_elim [X0, X1, X2, X3])) | ((try dsimp only); (exact MKP.out _ (by solve_by_elim [X0, X1, X2, X3])))
            clear hK K
            clear H50226
            (try simp only [PU])
            refine TK 8 (v := ?v50232) H50231 ?hy50232 ?_
            case hy50232 => (intro w hSw; (try dsimp only at hSw); go_simp <;> first | with_reducible rfl | rw [if_neg (by omega)] | rw [if_pos (by omega)])
            (try simp only [PU])
            refine TK 9 (v := ?v50233) H50231 ?hy50233 ?_
            case hy50233 => (intro w hSw; (try dsimp only at hSw); go_simp <;> first | with_reducible rfl | rw [if_neg (by omega)] | rw [if_pos (by omega)])
            (try simp only [PU])
            refine TK 10 (v := ?v50234) H50231 ?hy50234 ?_
            case hy50234 => (intro w hSw; (try dsimp only at hSw); go_simp <;> first | with_reducible rfl | rw [if_neg (by omega)] | rw [if_pos (by omega)])
            (try simp only [PU])
            refine TK 11 (v := ?v50235) H50231 ?hy50235 ?_
            case hy50235 => (intro w hSw; (try dsimp only at hSw); go_simp <;> first | with_reducible rfl | rw [if_neg (by omega)] | rw [if_pos (by omega)])
            (try simp only [PU])
            refine TK 12 (v := ?v50236) H50231 ?hy50236 ?_
            case hy50236 => (intro w hSw; (try dsimp only at hSw); go_simp <;> first | with_reducible rfl | rw [if_neg (by omega)] | rw [if_pos (by omega)])
            (try simp only [PU])
            refine wpAnyH_ready (rs := [13]) (by kernel_rfl) (by simp) ?_
            refine AllReadyH.cons (o := ⟨_, _, _, _, _, _⟩) rfl (fun K hK => ?step50237x0) ?more50237x0
            case more50237x0 => exact AllReadyH.nil
            go_simp
            (with_reducible refine (HI2.out _ (by solve_by_elim [X0, X1, X2, X3])).mono ?_; rintro r v2 ⟨rfl, hy2⟩; replace hy2 : Ext w2 v2 := Ext.trans (by solve_by_elim [X0, X1, X2, X3]) hy2)
            refine hK.out _ _ ?hS50237x0 (fun H50237 => ?_)
            case hS50237x0 => first | (exact MKP.out _ (by solve_by_elim [X0, X1, X2, X3])) | ((try dsimp only); (exact MKP.out _ (by solve_by_elim [X0, X1, X2, X3])))
            clear hK K
            clear H50231
            (try simp only [PU])
            refine TK 14 (v := ?v50238) H50237 ?hy50238 ?_
            case hy50238 => (intro w hSw; (try dsimp only at hSw); go_simp <;> first | with_reducible rfl | rw [if_neg (by omega)] | rw [if_pos (by omega)])
            (try simp only [PU])
            refine TK 15 (v := ?v50239) H50237 ?hy50239 ?_
            case hy50239 => (intro w hSw; (try dsimp only at hSw); go_simp <;> first | with_reducible rfl | rw [if_neg (by omega)] | rw [if_pos (by omega)])
            (try simp only [PU])
            refine TK 16 (v := ?v50240) H50237 ?hy50240 ?_
            case hy50240 => (intro w hSw; (try dsimp only at hSw); go_simp <;> first | with_reducible rfl | rw [if_neg (by omega)] | rw [if_pos (by omega)])
            (try simp only [PU])
            refine TK 17 (v := ?v50241) H50237 ?hy50241 ?_
            case hy50241 => (intro w hSw; (try dsimp only at hSw); go_simp <;> first | with_reducible rfl | rw [if_neg (by omega)] | rw [if_pos (by omega)])
            (try simp only [PU])
            refine TK 18 (v := ?v50242) H50237 ?hy50242 ?_
            case hy50242 => (intro w hSw; (try dsimp only at hSw); go_simp <;> first | with_reducible rfl | rw [if_neg (by omega)] | rw [if_pos (by omega)])
            (try simp only [PU])
            refine TK 19 (v := ?v50243) H50237 ?hy50243 ?_
            case hy50243 => (intro w hSw; (try dsimp only at hSw); go_simp <;> first | with_reducible rfl | rw [if_neg (by omega)] | rw [if_pos (by omega)])
            (try simp only [PU])
            refine wpAnyH_ready (rs := [20]) (by kernel_rfl) (by simp) ?_
            refine AllReadyH.cons (o := ⟨_, _, _, _, _, _⟩) rfl (fun K hK => ?step50244x0) ?more50244x0
            case more50244x0 => exact AllReadyH.nil
            (refine step_look rfl (.tmp 60) (.tmp 62) 70 rfl (int_keyed Tryz.underlying3) Tryz.underlying70 (z := .bool false) rfl mb k gf rfl (MapOf.ext HM2.out (by solve_by_elim [X0, X1, X2, X3])) (.int .i64 x2) (lkC x2) rfl hkey ?_; rw [HL2.out])
            refine hK.out _ _ ?hS50244x0 (fun H50244 => ?_)
            case hS50244x0 => first | (exact MKP.out _ (by solve_by_elim [X0, X1, X2, X3])) | ((try dsimp only); (exact MKP.out _ (by solve_by_elim [X0, X1, X2, X3])))
            clear hK K
            clear H50237
            (try simp only [PU])
            refine TK 21 (v := ?v50245) H50244 ?hy50245 ?_
            case hy50245 => (intro w hSw; (try dsimp only at hSw); go_simp <;> first | with_reducible rfl | rw [if_neg (by omega)] | rw [if_pos (by omega)])
            (try simp only [PU])
            refine TK 22 (v := ?v50246) H50244 ?hy50246 ?_
            case hy50246 => (intro w hSw; (try dsimp only at hSw); go_simp <;> first | with_reducible rfl | rw [if_neg (by omega)] | rw [if_pos (by omega)])
            (try simp only [PU])
            refine TK 23 (v := ?v50247) H50244 ?hy50247 ?_
            case hy50247 => (intro w hSw; (try dsimp only at hSw); go_simp <;> first | with_reducible rfl | rw [if_neg (by omega)] | rw [if_pos (by omega)])
            (try simp only [PU])
            refine TK 24 (v := ?v50248) H50244 ?hy50248 ?_
            case hy50248 => (intro w hSw; (try dsimp only at hSw); go_simp <;> first | with_reducible rfl | rw [if_neg (by omega)] | rw [if_pos (by omega)])
            (try simp only [PU])
            refine TK 25 (v := ?v50249) H50244 ?hy50249 ?_
            case hy50249 => (intro w hSw; (try dsimp only at hSw); go_simp <;> first | with_reducible rfl | rw [if_neg (by omega)] | rw [if_pos (by omega)])
            (try simp only [PU])
            refine TK 26 (v := ?v50250) H50244 ?hy50250 ?_
            case hy50250 => (intro w hSw; (try dsimp only at hSw); go_simp <;> first | with_reducible rfl | rw [if_neg (by omega)] | rw [if_pos (by omega)])
            (try simp only [PU])
            refine TK 27 (v := ?v50251) H50244 ?hy50251 ?_
            case hy50251 => (intro w hSw; (try dsimp only at hSw); go_simp <;> first | with_reducible rfl | rw [if_neg (by omega)] | rw [if_pos (by omega)])
            (try simp only [PU])
            refine TK 28 (v := ?v50252) H50244 ?hy50252 ?_
            case hy50252 => (intro w hSw; (try dsimp only at hSw); go_simp <;> first | with_reducible rfl | rw [if_neg (by omega)] | rw [if_pos (by omega)])
            (try simp only [PU])
            refine TK 29 (v := ?v50253) H50244 ?hy50253 ?_
            case hy50253 => (intro w hSw; (try dsimp only at hSw); go_simp <;> first | with_reducible rfl | rw [if_neg (by omega)] | rw [if_pos (by omega)])
            (try simp only [PU])
            refine TK 30 (v := ?v50254) H50244 ?hy50254 ?_
            case hy50254 => (intro w hSw; (try dsimp only at hSw); go_simp <;> first | with_reducible rfl | rw [if_neg (by omega)] | rw [if_pos (by omega)])
            (try simp only [PU])
            refine TK 31 (v := ?v50255) H50244 ?hy50255 ?_
            case hy50255 => (intro w hSw; (try dsimp only at hSw); go_simp <;> first | with_reducible rfl | rw [if_neg (by omega)] | rw [if_pos (by omega)])
            (try simp only [PU])
            refine wpAnyH_ready (rs := [32]) (by kernel_rfl) (by simp) ?_
            refine AllReadyH.cons (o := ⟨_, _, _, _, _, _⟩) rfl (fun K hK => ?step50256x0) ?more50256x0
            case more50256x0 => exact AllReadyH.nil
            go_simp
            (with_reducible refine (HOR.out _ (by solve_by_elim [X0, X1, X2, X3])).mono ?_; rintro r v3 ⟨rfl, hy3⟩; replace hy3 : Ext w2 v3 := Ext.trans (by solve_by_elim [X0, X1, X2, X3]) hy3)
            refine hK.out _ _ ?hS50256x0 (fun H50256 => ?_)
            case hS50256x0 => first | (exact MKP.out _ (by solve_by_elim [X0, X1, X2, X3])) | ((try dsimp only); (exact MKP.out _ (by solve_by_elim [X0, X1, X2, X3])))
            clear hK K
            clear H50244
            (try simp only [PU])
            refine TK 33 (v := ?v50257) H50256 ?hy50257 ?_
            case hy50257 => (intro w hSw; (try dsimp only at hSw); go_simp <;> first | with_reducible rfl | rw [if_neg (by omega)] | rw [if_pos (by omega)])
            (try simp only [PU])
            refine TK 34 (v := ?v50258) H50256 ?hy50258 ?_
            case hy50258 => (intro w hSw; (try dsimp only at hSw); go_simp <;> first | with_reducible rfl | rw [if_neg (by omega)] | rw [if_pos (by omega)])
            (try simp only [PU])
            refine TK 35 (v := ?v50259) H50256 ?hy50259 ?_
            case hy50259 => (intro w hSw; (try dsimp only at hSw); go_simp <;> first | with_reducible rfl | rw [if_neg (by omega)] | rw [if_pos (by omega)])
            (try simp only [PU])
            refine wpAnyH_done (by kernel_rfl) ?_ _
            clear H50256
            obtain ⟨c0, c1, c2⟩ := MK.out _ hy3
            go_wp2_with (at_mapUpdate; refine wpList_put rfl (.tmp 79) (.tmp 81) (.const (.bool true)) 70 rfl (int_keyed Tryz.underlying3) Tryz.underlying70 mb k gf rfl (MapOf.ext HM2.out (by solve_by_elim [X0, X1, X2, X3])) hkm (.int .i64 x2) (.bool true) (lkC x2) rfl rfl hkey ?_; intro w7 hm7 hg7)
            have HM7 := Lib.hid hm7
            have HE7 := Lib.hid ((HE2.out.trans (show Ext w2 _ from (by solve_by_elim [X0, X1, X2, X3]))).grown hg7 (fun g e => by have := HMB.out; have := Option.some.inj e; omega))
            clear hm7 hg7
            go_roundw
            case rel => exact ⟨k + 1, _, by go_num, by omega, HM7, HPUT, HT, HE7⟩
            case measure => simp [intOf]; omega
           ·have HT := Lib.hid (HB.out hod)
            have g : decide (0 ≤ od) = true := decide_eq_true (by omega)
            clear HB HG hod HPUT
            refine wp_region_held_drew (S := (fun V => (V.cell? ⟨y, 0, none⟩ = some (.int .i64 x0) ∧ V.cell? ⟨y, 1, none⟩ = some (.int .i64 x1) ∧ V.cell? ⟨y, 2, none⟩ = some (.int .i64 x2)) ∧ (V.cell? ⟨b, o + j * 3, none⟩ = some (.int .i64 p0) ∧ V.cell? ⟨b, o + j * 3 + 1, none⟩ = some (.int .i64 p1) ∧ V.cell? ⟨b, o + j * 3 + 2, none⟩ = some (.int .i64 p2)))) (by kernel_rfl) ?hs50186 (fun hHeld => ?go50186)
            case hs50186 => (exact MKP.out _ (by solve_by_elim [X0, X1, X2, X3]))
            refine TK 0 (v := ?v50187) hHeld ?hy50187 ?_
            case hy50187 => (intro w hSw; (try dsimp only at hSw); go_simp <;> first | with_reducible rfl | rw [if_neg (by omega)] | rw [if_pos (by omega)])
            (try simp only [PU])
            refine TK 1 (v := ?v50188) hHeld ?hy50188 ?_
            case hy50188 => (intro w hSw; (try dsimp only at hSw); go_simp <;> first | with_reducible rfl | rw [if_neg (by omega)] | rw [if_pos (by omega)])
            (try simp only [PU])
            refine wpAnyH_ready (rs := [2]) (by kernel_rfl) (by simp) ?_
            refine AllReadyH.cons (o := ⟨_, _, _, _, _, _⟩) rfl (fun K hK => ?step50189x0) ?more50189x0
            case more50189x0 => exact AllReadyH.nil
            go_simp
            (with_reducible refine (HI0.out _ (by solve_by_elim [X0, X1, X2, X3])).mono ?_; rintro r v0 ⟨rfl, hy0⟩; replace hy0 : Ext w2 v0 := Ext.trans (by solve_by_elim [X0, X1, X2, X3]) hy0)
            refine hK.out _ _ ?hS50189x0 (fun H50189 => ?_)
            case hS50189x0 => first | (exact MKP.out _ (by solve_by_elim [X0, X1, X2, X3])) | ((try dsimp only); (exact MKP.out _ (by solve_by_elim [X0, X1, X2, X3])))
            clear hK K
            clear hHeld
            (try simp only [PU])
            refine TK 3 (v := ?v50190) H50189 ?hy50190 ?_
            case hy50190 => (intro w hSw; (try dsimp only at hSw); go_simp <;> first | with_reducible rfl | rw [if_neg (by omega)] | rw [if_pos (by omega)])
            (try simp only [PU])
            refine TK 4 (v := ?v50191) H50189 ?hy50191 ?_
            case hy50191 => (intro w hSw; (try dsimp only at hSw); go_simp <;> first | with_reducible rfl | rw [if_neg (by omega)] | rw [if_pos (by omega)])
            (try simp only [PU])
            refine TK 5 (v := ?v50192) H50189 ?hy50192 ?_
            case hy50192 => (intro w hSw; (try dsimp only at hSw); go_simp <;> first | with_reducible rfl | rw [if_neg (by omega)] | rw [if_pos (by omega)])
            (try simp only [PU])
            refine TK 6 (v := ?v50193) H50189 ?hy50193 ?_
            case hy50193 => (intro w hSw; (try dsimp only at hSw); go_simp <;> first | with_reducible rfl | rw [if_neg (by omega)] | rw [if_pos (by omega)])
            (try simp only [PU])
            refine wpAnyH_ready (rs := [7]) (by kernel_rfl) (by simp) ?_
            refine AllReadyH.cons (o := ⟨_, _, _, _, _, _⟩) rfl (fun K hK => ?step50194x0) ?more50194x0
            case more50194x0 => exact AllReadyH.nil
            go_simp
            (with_reducible refine (HI1.out _ (by solve_by_elim [X0, X1, X2, X3])).mono ?_; rintro r v1 ⟨rfl, hy1⟩; replace hy1 : Ext w2 v1 := Ext.trans (by solve_by_elim [X0, X1, X2, X3]) hy1)
            refine hK.out _ _ ?hS50194x0 (fun H50194 => ?_)
            case hS50194x0 => first | (exact MKP.out _ (by solve_by_elim [X0, X1, X2, X3])) | ((try dsimp only); (exact MKP.out _ (by solve_by_elim [X0, X1, X2, X3])))
            clear hK K
            clear H50189
            (try simp only [PU])
            refine TK 8 (v := ?v50195) H50194 ?hy50195 ?_
            case hy50195 => (intro w hSw; (try dsimp only at hSw); go_simp <;> first | with_reducible rfl | rw [if_neg (by omega)] | rw [if_pos (by omega)])
            (try simp only [PU])
            refine TK 9 (v := ?v50196) H50194 ?hy50196 ?_
            case hy50196 => (intro w hSw; (try dsimp only at hSw); go_simp <;> first | with_reducible rfl | rw [if_neg (by omega)] | rw [if_pos (by omega)])
            (try simp only [PU])
            refine TK 10 (v := ?v50197) H50194 ?hy50197 ?_
            case hy50197 => (intro w hSw; (try dsimp only at hSw); go_simp <;> first | with_reducible rfl | rw [if_neg (by omega)] | rw [if_pos (by omega)])
            (try simp only [PU])
            refine TK 11 (v := ?v50198) H50194 ?hy50198 ?_
            case hy50198 => (intro w hSw; (try dsimp only at hSw); go_simp <;> first | with_reducible rfl | rw [if_neg (by omega)] | rw [if_pos (by omega)])
            (try simp only [PU])
            refine TK 12 (v := ?v50199) H50194 ?hy50199 ?_
            case hy50199 => (intro w hSw; (try dsimp only at hSw); go_simp <;> first | with_reducible rfl | rw [if_neg (by omega)] | rw [if_pos (by omega)])
            (try simp only [PU])
            refine wpAnyH_ready (rs := [13]) (by kernel_rfl) (by simp) ?_
            refine AllReadyH.cons (o := ⟨_, _, _, _, _, _⟩) rfl (fun K hK => ?step50200x0) ?more50200x0
            case more50200x0 => exact AllReadyH.nil
            go_simp
            (with_reducible refine (HI2.out _ (by solve_by_elim [X0, X1, X2, X3])).mono ?_; rintro r v2 ⟨rfl, hy2⟩; replace hy2 : Ext w2 v2 := Ext.trans (by solve_by_elim [X0, X1, X2, X3]) hy2)
            refine hK.out _ _ ?hS50200x0 (fun H50200 => ?_)
            case hS50200x0 => first | (exact MKP.out _ (by solve_by_elim [X0, X1, X2, X3])) | ((try dsimp only); (exact MKP.out _ (by solve_by_elim [X0, X1, X2, X3])))
            clear hK K
            clear H50194
            (try simp only [PU])
            refine TK 14 (v := ?v50201) H50200 ?hy50201 ?_
            case hy50201 => (intro w hSw; (try dsimp only at hSw); go_simp <;> first | with_reducible rfl | rw [if_neg (by omega)] | rw [if_pos (by omega)])
            (try simp only [PU])
            refine TK 15 (v := ?v50202) H50200 ?hy50202 ?_
            case hy50202 => (intro w hSw; (try dsimp only at hSw); go_simp <;> first | with_reducible rfl | rw [if_neg (by omega)] | rw [if_pos (by omega)])
            (try simp only [PU])
            refine TK 16 (v := ?v50203) H50200 ?hy50203 ?_
            case hy50203 => (intro w hSw; (try dsimp only at hSw); go_simp <;> first | with_reducible rfl | rw [if_neg (by omega)] | rw [if_pos (by omega)])
            (try simp only [PU])
            refine TK 17 (v := ?v50204) H50200 ?hy50204 ?_
            case hy50204 => (intro w hSw; (try dsimp only at hSw); go_simp <;> first | with_reducible rfl | rw [if_neg (by omega)] | rw [if_pos (by omega)])
            (try simp only [PU])
            refine TK 18 (v := ?v50205) H50200 ?hy50205 ?_
            case hy50205 => (intro w hSw; (try dsimp only at hSw); go_simp <;> first | with_reducible rfl | rw [if_neg (by omega)] | rw [if_pos (by omega)])
            (try simp only [PU])
            refine TK 19 (v := ?v50206) H50200 ?hy50206 ?_
            case hy50206 => (intro w hSw; (try dsimp only at hSw); go_simp <;> first | with_reducible rfl | rw [if_neg (by omega)] | rw [if_pos (by omega)])
            (try simp only [PU])
            refine wpAnyH_ready (rs := [20]) (by kernel_rfl) (by simp) ?_
            refine AllReadyH.cons (o := ⟨_, _, _, _, _, _⟩) rfl (fun K hK => ?step50207x0) ?more50207x0
            case more50207x0 => exact AllReadyH.nil
            (refine step_look rfl (.tmp 60) (.tmp 62) 70 rfl (int_keyed Tryz.underlying3) Tryz.underlying70 (z := .bool false) rfl mb k gf rfl (MapOf.ext HM2.out (by solve_by_elim [X0, X1, X2, X3])) (.int .i64 x2) (lkC x2) rfl hkey ?_; rw [HL2.out])
            refine hK.out _ _ ?hS50207x0 (fun H50207 => ?_)
            case hS50207x0 => first | (exact MKP.out _ (by solve_by_elim [X0, X1, X2, X3])) | ((try dsimp only); (exact MKP.out _ (by solve_by_elim [X0, X1, X2, X3])))
            clear hK K
            clear H50200
            (try simp only [PU])
            refine TK 21 (v := ?v50208) H50207 ?hy50208 ?_
            case hy50208 => (intro w hSw; (try dsimp only at hSw); go_simp <;> first | with_reducible rfl | rw [if_neg (by omega)] | rw [if_pos (by omega)])
            (try simp only [PU])
            refine TK 22 (v := ?v50209) H50207 ?hy50209 ?_
            case hy50209 => (intro w hSw; (try dsimp only at hSw); go_simp <;> first | with_reducible rfl | rw [if_neg (by omega)] | rw [if_pos (by omega)])
            (try simp only [PU])
            refine TK 23 (v := ?v50210) H50207 ?hy50210 ?_
            case hy50210 => (intro w hSw; (try dsimp only at hSw); go_simp <;> first | with_reducible rfl | rw [if_neg (by omega)] | rw [if_pos (by omega)])
            (try simp only [PU])
            refine TK 24 (v := ?v50211) H50207 ?hy50211 ?_
            case hy50211 => (intro w hSw; (try dsimp only at hSw); go_simp <;> first | with_reducible rfl | rw [if_neg (by omega)] | rw [if_pos (by omega)])
            (try simp only [PU])
            refine TK 25 (v := ?v50212) H50207 ?hy50212 ?_
            case hy50212 => (intro w hSw; (try dsimp only at hSw); go_simp <;> first | with_reducible rfl | rw [if_neg (by omega)] | rw [if_pos (by omega)])
            (try simp only [PU])
            refine TK 26 (v := ?v50213) H50207 ?hy50213 ?_
            case hy50213 => (intro w hSw; (try dsimp only at hSw); go_simp <;> first | with_reducible rfl | rw [if_neg (by omega)] | rw [if_pos (by omega)])
            (try simp only [PU])
            refine TK 27 (v := ?v50214) H50207 ?hy50214 ?_
            case hy50214 => (intro w hSw; (try dsimp only at hSw); go_simp <;> first | with_reducible rfl | rw [if_neg (by omega)] | rw [if_pos (by omega)])
            (try simp only [PU])
            refine TK 28 (v := ?v50215) H50207 ?hy50215 ?_
            case hy50215 => (intro w hSw; (try dsimp only at hSw); go_simp <;> first | with_reducible rfl | rw [if_neg (by omega)] | rw [if_pos (by omega)])
            (try simp only [PU])
            refine TK 29 (v := ?v50216) H50207 ?hy50216 ?_
            case hy50216 => (intro w hSw; (try dsimp only at hSw); go_simp <;> first | with_reducible rfl | rw [if_neg (by omega)] | rw [if_pos (by omega)])
            (try simp only [PU])
            refine TK 30 (v := ?v50217) H50207 ?hy50217 ?_
            case hy50217 => (intro w hSw; (try dsimp only at hSw); go_simp <;> first | with_reducible rfl | rw [if_neg (by omega)] | rw [if_pos (by omega)])
            (try simp only [PU])
            refine TK 31 (v := ?v50218) H50207 ?hy50218 ?_
            case hy50218 => (intro w hSw; (try dsimp only at hSw); go_simp <;> first | with_reducible rfl | rw [if_neg (by omega)] | rw [if_pos (by omega)])
            (try simp only [PU])
            refine wpAnyH_ready (rs := [32]) (by kernel_rfl) (by simp) ?_
            refine AllReadyH.cons (o := ⟨_, _, _, _, _, _⟩) rfl (fun K hK => ?step50219x0) ?more50219x0
            case more50219x0 => exact AllReadyH.nil
            go_simp
            (with_reducible refine (HOR.out _ (by solve_by_elim [X0, X1, X2, X3])).mono ?_; rintro r v3 ⟨rfl, hy3⟩; replace hy3 : Ext w2 v3 := Ext.trans (by solve_by_elim [X0, X1, X2, X3]) hy3)
            refine hK.out _ _ ?hS50219x0 (fun H50219 => ?_)
            case hS50219x0 => first | (exact MKP.out _ (by solve_by_elim [X0, X1, X2, X3])) | ((try dsimp only); (exact MKP.out _ (by solve_by_elim [X0, X1, X2, X3])))
            clear hK K
            clear H50207
            (try simp only [PU])
            refine TK 33 (v := ?v50220) H50219 ?hy50220 ?_
            case hy50220 => (intro w hSw; (try dsimp only at hSw); go_simp <;> first | with_reducible rfl | rw [if_neg (by omega)] | rw [if_pos (by omega)])
            (try simp only [PU])
            refine TK 34 (v := ?v50221) H50219 ?hy50221 ?_
            case hy50221 => (intro w hSw; (try dsimp only at hSw); go_simp <;> first | with_reducible rfl | rw [if_neg (by omega)] | rw [if_pos (by omega)])
            (try simp only [PU])
            refine TK 35 (v := ?v50222) H50219 ?hy50222 ?_
            case hy50222 => (intro w hSw; (try dsimp only at hSw); go_simp <;> first | with_reducible rfl | rw [if_neg (by omega)] | rw [if_pos (by omega)])
            (try simp only [PU])
            refine wpAnyH_done (by kernel_rfl) ?_ _
            clear H50219
            go_wp2_with fail
            go_ret
            exact ⟨ret_bool HT.out.symm, HX.out.trans (HE3.out.trans (HE2.out.trans (by solve_by_elim [X0, X1, X2, X3])))⟩
         ·have HL2 := HLK
          have HT := Lib.hid (HBAD.out (fun hs => by have := HSN.out.1 hs.2.2.2.1; cases this))
          clear HOK HBAD HSN HLK HCJ2 h0 h1 h2 hlk HPUT
          refine wp_region_held_drew (S := (fun V => (V.cell? ⟨y, 0, none⟩ = some (.int .i64 x0) ∧ V.cell? ⟨y, 1, none⟩ = some (.int .i64 x1) ∧ V.cell? ⟨y, 2, none⟩ = some (.int .i64 x2)))) (by kernel_rfl) ?hs50112 (fun hHeld => ?go50112)
          case hs50112 => (exact MK.out _ (by solve_by_elim [X0, X1, X2, X3]))
          refine TK 0 (v := ?v50113) hHeld ?hy50113 ?_
          case hy50113 => (intro w hSw; (try dsimp only at hSw); go_simp <;> first | with_reducible rfl | rw [if_neg (by omega)] | rw [if_pos (by omega)])
          (try simp only [PU])
          refine TK 1 (v := ?v50114) hHeld ?hy50114 ?_
          case hy50114 => (intro w hSw; (try dsimp only at hSw); go_simp <;> first | with_reducible rfl | rw [if_neg (by omega)] | rw [if_pos (by omega)])
          (try simp only [PU])
          refine wpAnyH_ready (rs := [2]) (by kernel_rfl) (by simp) ?_
          refine AllReadyH.cons (o := ⟨_, _, _, _, _, _⟩) rfl (fun K hK => ?step50115x0) ?more50115x0
          case more50115x0 => exact AllReadyH.nil
          go_simp
          (with_reducible refine (HI0.out _ (by solve_by_elim [X0, X1, X2, X3])).mono ?_; rintro r v0 ⟨rfl, hy0⟩; replace hy0 : Ext w2 v0 := Ext.trans (by solve_by_elim [X0, X1, X2, X3]) hy0)
          refine hK.out _ _ ?hS50115x0 (fun H50115 => ?_)
          case hS50115x0 => first | (exact MK.out _ (by solve_by_elim [X0, X1, X2, X3])) | ((try dsimp only); (exact MK.out _ (by solve_by_elim [X0, X1, X2, X3])))
          clear hK K
          clear hHeld
          (try simp only [PU])
          refine TK 3 (v := ?v50116) H50115 ?hy50116 ?_
          case hy50116 => (intro w hSw; (try dsimp only at hSw); go_simp <;> first | with_reducible rfl | rw [if_neg (by omega)] | rw [if_pos (by omega)])
          (try simp only [PU])
          refine TK 4 (v := ?v50117) H50115 ?hy50117 ?_
          case hy50117 => (intro w hSw; (try dsimp only at hSw); go_simp <;> first | with_reducible rfl | rw [if_neg (by omega)] | rw [if_pos (by omega)])
          (try simp only [PU])
          refine TK 5 (v := ?v50118) H50115 ?hy50118 ?_
          case hy50118 => (intro w hSw; (try dsimp only at hSw); go_simp <;> first | with_reducible rfl | rw [if_neg (by omega)] | rw [if_pos (by omega)])
          (try simp only [PU])
          refine TK 6 (v := ?v50119) H50115 ?hy50119 ?_
          case hy50119 => (intro w hSw; (try dsimp only at hSw); go_simp <;> first | with_reducible rfl | rw [if_neg (by omega)] | rw [if_pos (by omega)])
          (try simp only [PU])
          refine wpAnyH_ready (rs := [7]) (by kernel_rfl) (by simp) ?_
          refine AllReadyH.cons (o := ⟨_, _, _, _, _, _⟩) rfl (fun K hK => ?step50120x0) ?more50120x0
          case more50120x0 => exact AllReadyH.nil
          go_simp
          (with_reducible refine (HI1.out _ (by solve_by_elim [X0, X1, X2, X3])).mono ?_; rintro r v1 ⟨rfl, hy1⟩; replace hy1 : Ext w2 v1 := Ext.trans (by solve_by_elim [X0, X1, X2, X3]) hy1)
          refine hK.out _ _ ?hS50120x0 (fun H50120 => ?_)
          case hS50120x0 => first | (exact MK.out _ (by solve_by_elim [X0, X1, X2, X3])) | ((try dsimp only); (exact MK.out _ (by solve_by_elim [X0, X1, X2, X3])))
          clear hK K
          clear H50115
          (try simp only [PU])
          refine TK 8 (v := ?v50121) H50120 ?hy50121 ?_
          case hy50121 => (intro w hSw; (try dsimp only at hSw); go_simp <;> first | with_reducible rfl | rw [if_neg (by omega)] | rw [if_pos (by omega)])
          (try simp only [PU])
          refine TK 9 (v := ?v50122) H50120 ?hy50122 ?_
          case hy50122 => (intro w hSw; (try dsimp only at hSw); go_simp <;> first | with_reducible rfl | rw [if_neg (by omega)] | rw [if_pos (by omega)])
          (try simp only [PU])
          refine TK 10 (v := ?v50123) H50120 ?hy50123 ?_
          case hy50123 => (intro w hSw; (try dsimp only at hSw); go_simp <;> first | with_reducible rfl | rw [if_neg (by omega)] | rw [if_pos (by omega)])
          (try simp only [PU])
          refine TK 11 (v := ?v50124) H50120 ?hy50124 ?_
          case hy50124 => (intro w hSw; (try dsimp only at hSw); go_simp <;> first | with_reducible rfl | rw [if_neg (by omega)] | rw [if_pos (by omega)])
          (try simp only [PU])
          refine TK 12 (v := ?v50125) H50120 ?hy50125 ?_
          case hy50125 => (intro w hSw; (try dsimp only at hSw); go_simp <;> first | with_reducible rfl | rw [if_neg (by omega)] | rw [if_pos (by omega)])
          (try simp only [PU])
          refine wpAnyH_ready (rs := [13]) (by kernel_rfl) (by simp) ?_
          refine AllReadyH.cons (o := ⟨_, _, _, _, _, _⟩) rfl (fun K hK => ?step50126x0) ?more50126x0
          case more50126x0 => exact AllReadyH.nil
          go_simp
          (with_reducible refine (HI2.out _ (by solve_by_elim [X0, X1, X2, X3])).mono ?_; rintro r v2 ⟨rfl, hy2⟩; replace hy2 : Ext w2 v2 := Ext.trans (by solve_by_elim [X0, X1, X2, X3]) hy2)
          refine hK.out _ _ ?hS50126x0 (fun H50126 => ?_)
          case hS50126x0 => first | (exact MK.out _ (by solve_by_elim [X0, X1, X2, X3])) | ((try dsimp only); (exact MK.out _ (by solve_by_elim [X0, X1, X2, X3])))
          clear hK K
          clear H50120
          (try simp only [PU])
          refine TK 14 (v := ?v50127) H50126 ?hy50127 ?_
          case hy50127 => (intro w hSw; (try dsimp only at hSw); go_simp <;> first | with_reducible rfl | rw [if_neg (by omega)] | rw [if_pos (by omega)])
          (try simp only [PU])
          refine TK 15 (v := ?v50128) H50126 ?hy50128 ?_
          case hy50128 => (intro w hSw; (try dsimp only at hSw); go_simp <;> first | with_reducible rfl | rw [if_neg (by omega)] | rw [if_pos (by omega)])
          (try simp only [PU])
          refine TK 16 (v := ?v50129) H50126 ?hy50129 ?_
          case hy50129 => (intro w hSw; (try dsimp only at hSw); go_simp <;> first | with_reducible rfl | rw [if_neg (by omega)] | rw [if_pos (by omega)])
          (try simp only [PU])
          refine TK 17 (v := ?v50130) H50126 ?hy50130 ?_
          case hy50130 => (intro w hSw; (try dsimp only at hSw); go_simp <;> first | with_reducible rfl | rw [if_neg (by omega)] | rw [if_pos (by omega)])
          (try simp only [PU])
          refine TK 18 (v := ?v50131) H50126 ?hy50131 ?_
          case hy50131 => (intro w hSw; (try dsimp only at hSw); go_simp <;> first | with_reducible rfl | rw [if_neg (by omega)] | rw [if_pos (by omega)])
          (try simp only [PU])
          refine TK 19 (v := ?v50132) H50126 ?hy50132 ?_
          case hy50132 => (intro w hSw; (try dsimp only at hSw); go_simp <;> first | with_reducible rfl | rw [if_neg (by omega)] | rw [if_pos (by omega)])
          (try simp only [PU])
          refine wpAnyH_ready (rs := [20]) (by kernel_rfl) (by simp) ?_
          refine AllReadyH.cons (o := ⟨_, _, _, _, _, _⟩) rfl (fun K hK => ?step50133x0) ?more50133x0
          case more50133x0 => exact AllReadyH.nil
          (refine step_look rfl (.tmp 60) (.tmp 62) 70 rfl (int_keyed Tryz.underlying3) Tryz.underlying70 (z := .bool false) rfl mb k gf rfl (MapOf.ext HM2.out (by solve_by_elim [X0, X1, X2, X3])) (.int .i64 x2) (lkC x2) rfl hkey ?_; rw [HL2.out])
          refine hK.out _ _ ?hS50133x0 (fun H50133 => ?_)
          case hS50133x0 => first | (exact MK.out _ (by solve_by_elim [X0, X1, X2, X3])) | ((try dsimp only); (exact MK.out _ (by solve_by_elim [X0, X1, X2, X3])))
          clear hK K
          clear H50126
          (try simp only [PU])
          refine TK 21 (v := ?v50134) H50133 ?hy50134 ?_
          case hy50134 => (intro w hSw; (try dsimp only at hSw); go_simp <;> first | with_reducible rfl | rw [if_neg (by omega)] | rw [if_pos (by omega)])
          (try simp only [PU])
          refine TK 22 (v := ?v50135) H50133 ?hy50135 ?_
          case hy50135 => (intro w hSw; (try dsimp only at hSw); go_simp <;> first | with_reducible rfl | rw [if_neg (by omega)] | rw [if_pos (by omega)])
          (try simp only [PU])
          refine TN 23 H50133 ?_
          (try simp only [PU])
          refine TN 24 H50133 ?_
          (try simp only [PU])
          refine TN 25 H50133 ?_
          (try simp only [PU])
          refine TN 26 H50133 ?_
          (try simp only [PU])
          refine TN 27 H50133 ?_
          (try simp only [PU])
          refine TN 28 H50133 ?_
          (try simp only [PU])
          refine TN 29 H50133 ?_
          (try simp only [PU])
          refine TN 30 H50133 ?_
          (try simp only [PU])
          refine TN 31 H50133 ?_
          (try simp only [PU])
          refine TN 32 H50133 ?_
          (try simp only [PU])
          refine TN 33 H50133 ?_
          (try simp only [PU])
          refine TN 34 H50133 ?_
          (try simp only [PU])
          refine TK 35 (v := ?v50148) H50133 ?hy50148 ?_
          case hy50148 => (intro w hSw; (try dsimp only at hSw); go_simp <;> first | with_reducible rfl | rw [if_neg (by omega)] | rw [if_pos (by omega)])
          (try simp only [PU])
          refine wpAnyH_done (by kernel_rfl) ?_ _
          clear H50133
          go_wp2_with fail
          go_ret
          exact ⟨ret_bool HT.out.symm, HX.out.trans (HE3.out.trans (HE2.out.trans (by solve_by_elim [X0, X1, X2, X3])))⟩
        ·have HT := Lib.hid (HBAD.out (fun hs => h2 hs.2.2.1))
         rw [show idB x2 = false from by rw [← Bool.not_eq_true, idB_iff]; exact h2] at HI2
         clear HOK HBAD HSN HLK HCJ2 h0 h1 h2 hlk HPUT
         refine wp_region_held_drew (S := (fun V => (V.cell? ⟨y, 0, none⟩ = some (.int .i64 x0) ∧ V.cell? ⟨y, 1, none⟩ = some (.int .i64 x1) ∧ V.cell? ⟨y, 2, none⟩ = some (.int .i64 x2)))) (by kernel_rfl) ?hs50075 (fun hHeld => ?go50075)
         case hs50075 => (exact MK.out _ (by solve_by_elim [X0, X1, X2, X3]))
         refine TK 0 (v := ?v50076) hHeld ?hy50076 ?_
         case hy50076 => (intro w hSw; (try dsimp only at hSw); go_simp <;> first | with_reducible rfl | rw [if_neg (by omega)] | rw [if_pos (by omega)])
         (try simp only [PU])
         refine TK 1 (v := ?v50077) hHeld ?hy50077 ?_
         case hy50077 => (intro w hSw; (try dsimp only at hSw); go_simp <;> first | with_reducible rfl | rw [if_neg (by omega)] | rw [if_pos (by omega)])
         (try simp only [PU])
         refine wpAnyH_ready (rs := [2]) (by kernel_rfl) (by simp) ?_
         refine AllReadyH.cons (o := ⟨_, _, _, _, _, _⟩) rfl (fun K hK => ?step50078x0) ?more50078x0
         case more50078x0 => exact AllReadyH.nil
         go_simp
         (with_reducible refine (HI0.out _ (by solve_by_elim [X0, X1, X2, X3])).mono ?_; rintro r v0 ⟨rfl, hy0⟩; replace hy0 : Ext w2 v0 := Ext.trans (by solve_by_elim [X0, X1, X2, X3]) hy0)
         refine hK.out _ _ ?hS50078x0 (fun H50078 => ?_)
         case hS50078x0 => first | (exact MK.out _ (by solve_by_elim [X0, X1, X2, X3])) | ((try dsimp only); (exact MK.out _ (by solve_by_elim [X0, X1, X2, X3])))
         clear hK K
         clear hHeld
         (try simp only [PU])
         refine TK 3 (v := ?v50079) H50078 ?hy50079 ?_
         case hy50079 => (intro w hSw; (try dsimp only at hSw); go_simp <;> first | with_reducible rfl | rw [if_neg (by omega)] | rw [if_pos (by omega)])
         (try simp only [PU])
         refine TK 4 (v := ?v50080) H50078 ?hy50080 ?_
         case hy50080 => (intro w hSw; (try dsimp only at hSw); go_simp <;> first | with_reducible rfl | rw [if_neg (by omega)] | rw [if_pos (by omega)])
         (try simp only [PU])
         refine TK 5 (v := ?v50081) H50078 ?hy50081 ?_
         case hy50081 => (intro w hSw; (try dsimp only at hSw); go_simp <;> first | with_reducible rfl | rw [if_neg (by omega)] | rw [if_pos (by omega)])
         (try simp only [PU])
         refine TK 6 (v := ?v50082) H50078 ?hy50082 ?_
         case hy50082 => (intro w hSw; (try dsimp only at hSw); go_simp <;> first | with_reducible rfl | rw [if_neg (by omega)] | rw [if_pos (by omega)])
         (try simp only [PU])
         refine wpAnyH_ready (rs := [7]) (by kernel_rfl) (by simp) ?_
         refine AllReadyH.cons (o := ⟨_, _, _, _, _, _⟩) rfl (fun K hK => ?step50083x0) ?more50083x0
         case more50083x0 => exact AllReadyH.nil
         go_simp
         (with_reducible refine (HI1.out _ (by solve_by_elim [X0, X1, X2, X3])).mono ?_; rintro r v1 ⟨rfl, hy1⟩; replace hy1 : Ext w2 v1 := Ext.trans (by solve_by_elim [X0, X1, X2, X3]) hy1)
         refine hK.out _ _ ?hS50083x0 (fun H50083 => ?_)
         case hS50083x0 => first | (exact MK.out _ (by solve_by_elim [X0, X1, X2, X3])) | ((try dsimp only); (exact MK.out _ (by solve_by_elim [X0, X1, X2, X3])))
         clear hK K
         clear H50078
         (try simp only [PU])
         refine TK 8 (v := ?v50084) H50083 ?hy50084 ?_
         case hy50084 => (intro w hSw; (try dsimp only at hSw); go_simp <;> first | with_reducible rfl | rw [if_neg (by omega)] | rw [if_pos (by omega)])
         (try simp only [PU])
         refine TK 9 (v := ?v50085) H50083 ?hy50085 ?_
         case hy50085 => (intro w hSw; (try dsimp only at hSw); go_simp <;> first | with_reducible rfl | rw [if_neg (by omega)] | rw [if_pos (by omega)])
         (try simp only [PU])
         refine TK 10 (v := ?v50086) H50083 ?hy50086 ?_
         case hy50086 => (intro w hSw; (try dsimp only at hSw); go_simp <;> first | with_reducible rfl | rw [if_neg (by omega)] | rw [if_pos (by omega)])
         (try simp only [PU])
         refine TK 11 (v := ?v50087) H50083 ?hy50087 ?_
         case hy50087 => (intro w hSw; (try dsimp only at hSw); go_simp <;> first | with_reducible rfl | rw [if_neg (by omega)] | rw [if_pos (by omega)])
         (try simp only [PU])
         refine TK 12 (v := ?v50088) H50083 ?hy50088 ?_
         case hy50088 => (intro w hSw; (try dsimp only at hSw); go_simp <;> first | with_reducible rfl | rw [if_neg (by omega)] | rw [if_pos (by omega)])
         (try simp only [PU])
         refine wpAnyH_ready (rs := [13]) (by kernel_rfl) (by simp) ?_
         refine AllReadyH.cons (o := ⟨_, _, _, _, _, _⟩) rfl (fun K hK => ?step50089x0) ?more50089x0
         case more50089x0 => exact AllReadyH.nil
         go_simp
         (with_reducible refine (HI2.out _ (by solve_by_elim [X0, X1, X2, X3])).mono ?_; rintro r v2 ⟨rfl, hy2⟩; replace hy2 : Ext w2 v2 := Ext.trans (by solve_by_elim [X0, X1, X2, X3]) hy2)
         refine hK.out _ _ ?hS50089x0 (fun H50089 => ?_)
         case hS50089x0 => first | (exact MK.out _ (by solve_by_elim [X0, X1, X2, X3])) | ((try dsimp only); (exact MK.out _ (by solve_by_elim [X0, X1, X2, X3])))
         clear hK K
         clear H50083
         (try simp only [PU])
         refine TK 14 (v := ?v50090) H50089 ?hy50090 ?_
         case hy50090 => (intro w hSw; (try dsimp only at hSw); go_simp <;> first | with_reducible rfl | rw [if_neg (by omega)] | rw [if_pos (by omega)])
         (try simp only [PU])
         refine TK 15 (v := ?v50091) H50089 ?hy50091 ?_
         case hy50091 => (intro w hSw; (try dsimp only at hSw); go_simp <;> first | with_reducible rfl | rw [if_neg (by omega)] | rw [if_pos (by omega)])
         (try simp only [PU])
         refine TK 16 (v := ?v50092) H50089 ?hy50092 ?_
         case hy50092 => (intro w hSw; (try dsimp only at hSw); go_simp <;> first | with_reducible rfl | rw [if_neg (by omega)] | rw [if_pos (by omega)])
         (try simp only [PU])
         refine TN 17 H50089 ?_
         (try simp only [PU])
         refine TN 18 H50089 ?_
         (try simp only [PU])
         refine TN 19 H50089 ?_
         (try simp only [PU])
         refine TN 20 H50089 ?_
         (try simp only [PU])
         refine TK 21 (v := ?v50097) H50089 ?hy50097 ?_
         case hy50097 => (intro w hSw; (try dsimp only at hSw); go_simp <;> first | with_reducible rfl | rw [if_neg (by omega)] | rw [if_pos (by omega)])
         (try simp only [PU])
         refine TK 22 (v := ?v50098) H50089 ?hy50098 ?_
         case hy50098 => (intro w hSw; (try dsimp only at hSw); go_simp <;> first | with_reducible rfl | rw [if_neg (by omega)] | rw [if_pos (by omega)])
         (try simp only [PU])
         refine TN 23 H50089 ?_
         (try simp only [PU])
         refine TN 24 H50089 ?_
         (try simp only [PU])
         refine TN 25 H50089 ?_
         (try simp only [PU])
         refine TN 26 H50089 ?_
         (try simp only [PU])
         refine TN 27 H50089 ?_
         (try simp only [PU])
         refine TN 28 H50089 ?_
         (try simp only [PU])
         refine TN 29 H50089 ?_
         (try simp only [PU])
         refine TN 30 H50089 ?_
         (try simp only [PU])
         refine TN 31 H50089 ?_
         (try simp only [PU])
         refine TN 32 H50089 ?_
         (try simp only [PU])
         refine TN 33 H50089 ?_
         (try simp only [PU])
         refine TN 34 H50089 ?_
         (try simp only [PU])
         refine TK 35 (v := ?v50111) H50089 ?hy50111 ?_
         case hy50111 => (intro w hSw; (try dsimp only at hSw); go_simp <;> first | with_reducible rfl | rw [if_neg (by omega)] | rw [if_pos (by omega)])
         (try simp only [PU])
         refine wpAnyH_done (by kernel_rfl) ?_ _
         clear H50089
         go_wp2_with fail
         go_ret
         exact ⟨ret_bool HT.out.symm, HX.out.trans (HE3.out.trans (HE2.out.trans (by solve_by_elim [X0, X1, X2, X3])))⟩
       ·have HT := Lib.hid (HBAD.out (fun hs => h1 hs.2.1))
        rw [show idB x1 = false from by rw [← Bool.not_eq_true, idB_iff]; exact h1] at HI1
        clear HOK HBAD HSN HLK HCJ2 h0 h1 hlk HPUT HI2
        refine wp_region_held_drew (S := (fun V => (V.cell? ⟨y, 0, none⟩ = some (.int .i64 x0) ∧ V.cell? ⟨y, 1, none⟩ = some (.int .i64 x1) ∧ V.cell? ⟨y, 2, none⟩ = some (.int .i64 x2)))) (by kernel_rfl) ?hs50038 (fun hHeld => ?go50038)
        case hs50038 => (exact MK.out _ (by solve_by_elim [X0, X1, X2, X3]))
        refine TK 0 (v := ?v50039) hHeld ?hy50039 ?_
        case hy50039 => (intro w hSw; (try dsimp only at hSw); go_simp <;> first | with_reducible rfl | rw [if_neg (by omega)] | rw [if_pos (by omega)])
        (try simp only [PU])
        refine TK 1 (v := ?v50040) hHeld ?hy50040 ?_
        case hy50040 => (intro w hSw; (try dsimp only at hSw); go_simp <;> first | with_reducible rfl | rw [if_neg (by omega)] | rw [if_pos (by omega)])
        (try simp only [PU])
        refine wpAnyH_ready (rs := [2]) (by kernel_rfl) (by simp) ?_
        refine AllReadyH.cons (o := ⟨_, _, _, _, _, _⟩) rfl (fun K hK => ?step50041x0) ?more50041x0
        case more50041x0 => exact AllReadyH.nil
        go_simp
        (with_reducible refine (HI0.out _ (by solve_by_elim [X0, X1, X2, X3])).mono ?_; rintro r v0 ⟨rfl, hy0⟩; replace hy0 : Ext w2 v0 := Ext.trans (by solve_by_elim [X0, X1, X2, X3]) hy0)
        refine hK.out _ _ ?hS50041x0 (fun H50041 => ?_)
        case hS50041x0 => first | (exact MK.out _ (by solve_by_elim [X0, X1, X2, X3])) | ((try dsimp only); (exact MK.out _ (by solve_by_elim [X0, X1, X2, X3])))
        clear hK K
        clear hHeld
        (try simp only [PU])
        refine TK 3 (v := ?v50042) H50041 ?hy50042 ?_
        case hy50042 => (intro w hSw; (try dsimp only at hSw); go_simp <;> first | with_reducible rfl | rw [if_neg (by omega)] | rw [if_pos (by omega)])
        (try simp only [PU])
        refine TK 4 (v := ?v50043) H50041 ?hy50043 ?_
        case hy50043 => (intro w hSw; (try dsimp only at hSw); go_simp <;> first | with_reducible rfl | rw [if_neg (by omega)] | rw [if_pos (by omega)])
        (try simp only [PU])
        refine TK 5 (v := ?v50044) H50041 ?hy50044 ?_
        case hy50044 => (intro w hSw; (try dsimp only at hSw); go_simp <;> first | with_reducible rfl | rw [if_neg (by omega)] | rw [if_pos (by omega)])
        (try simp only [PU])
        refine TK 6 (v := ?v50045) H50041 ?hy50045 ?_
        case hy50045 => (intro w hSw; (try dsimp only at hSw); go_simp <;> first | with_reducible rfl | rw [if_neg (by omega)] | rw [if_pos (by omega)])
        (try simp only [PU])
        refine wpAnyH_ready (rs := [7]) (by kernel_rfl) (by simp) ?_
        refine AllReadyH.cons (o := ⟨_, _, _, _, _, _⟩) rfl (fun K hK => ?step50046x0) ?more50046x0
        case more50046x0 => exact AllReadyH.nil
        go_simp
        (with_reducible refine (HI1.out _ (by solve_by_elim [X0, X1, X2, X3])).mono ?_; rintro r v1 ⟨rfl, hy1⟩; replace hy1 : Ext w2 v1 := Ext.trans (by solve_by_elim [X0, X1, X2, X3]) hy1)
        refine hK.out _ _ ?hS50046x0 (fun H50046 => ?_)
        case hS50046x0 => first | (exact MK.out _ (by solve_by_elim [X0, X1, X2, X3])) | ((try dsimp only); (exact MK.out _ (by solve_by_elim [X0, X1, X2, X3])))
        clear hK K
        clear H50041
        (try simp only [PU])
        refine TK 8 (v := ?v50047) H50046 ?hy50047 ?_
        case hy50047 => (intro w hSw; (try dsimp only at hSw); go_simp <;> first | with_reducible rfl | rw [if_neg (by omega)] | rw [if_pos (by omega)])
        (try simp only [PU])
        refine TK 9 (v := ?v50048) H50046 ?hy50048 ?_
        case hy50048 => (intro w hSw; (try dsimp only at hSw); go_simp <;> first | with_reducible rfl | rw [if_neg (by omega)] | rw [if_pos (by omega)])
        (try simp only [PU])
        refine TK 10 (v := ?v50049) H50046 ?hy50049 ?_
        case hy50049 => (intro w hSw; (try dsimp only at hSw); go_simp <;> first | with_reducible rfl | rw [if_neg (by omega)] | rw [if_pos (by omega)])
        (try simp only [PU])
        refine TN 11 H50046 ?_
        (try simp only [PU])
        refine TN 12 H50046 ?_
        (try simp only [PU])
        refine TN 13 H50046 ?_
        (try simp only [PU])
        refine TN 14 H50046 ?_
        (try simp only [PU])
        refine TK 15 (v := ?v50054) H50046 ?hy50054 ?_
        case hy50054 => (intro w hSw; (try dsimp only at hSw); go_simp <;> first | with_reducible rfl | rw [if_neg (by omega)] | rw [if_pos (by omega)])
        (try simp only [PU])
        refine TK 16 (v := ?v50055) H50046 ?hy50055 ?_
        case hy50055 => (intro w hSw; (try dsimp only at hSw); go_simp <;> first | with_reducible rfl | rw [if_neg (by omega)] | rw [if_pos (by omega)])
        (try simp only [PU])
        refine TN 17 H50046 ?_
        (try simp only [PU])
        refine TN 18 H50046 ?_
        (try simp only [PU])
        refine TN 19 H50046 ?_
        (try simp only [PU])
        refine TN 20 H50046 ?_
        (try simp only [PU])
        refine TK 21 (v := ?v50060) H50046 ?hy50060 ?_
        case hy50060 => (intro w hSw; (try dsimp only at hSw); go_simp <;> first | with_reducible rfl | rw [if_neg (by omega)] | rw [if_pos (by omega)])
        (try simp only [PU])
        refine TK 22 (v := ?v50061) H50046 ?hy50061 ?_
        case hy50061 => (intro w hSw; (try dsimp only at hSw); go_simp <;> first | with_reducible rfl | rw [if_neg (by omega)] | rw [if_pos (by omega)])
        (try simp only [PU])
        refine TN 23 H50046 ?_
        (try simp only [PU])
        refine TN 24 H50046 ?_
        (try simp only [PU])
        refine TN 25 H50046 ?_
        (try simp only [PU])
        refine TN 26 H50046 ?_
        (try simp only [PU])
        refine TN 27 H50046 ?_
        (try simp only [PU])
        refine TN 28 H50046 ?_
        (try simp only [PU])
        refine TN 29 H50046 ?_
        (try simp only [PU])
        refine TN 30 H50046 ?_
        (try simp only [PU])
        refine TN 31 H50046 ?_
        (try simp only [PU])
        refine TN 32 H50046 ?_
        (try simp only [PU])
        refine TN 33 H50046 ?_
        (try simp only [PU])
        refine TN 34 H50046 ?_
        (try simp only [PU])
        refine TK 35 (v := ?v50074) H50046 ?hy50074 ?_
        case hy50074 => (intro w hSw; (try dsimp only at hSw); go_simp <;> first | with_reducible rfl | rw [if_neg (by omega)] | rw [if_pos (by omega)])
        (try simp only [PU])
        refine wpAnyH_done (by kernel_rfl) ?_ _
        clear H50046
        go_wp2_with fail
        go_ret
        exact ⟨ret_bool HT.out.symm, HX.out.trans (HE3.out.trans (HE2.out.trans (by solve_by_elim [X0, X1, X2, X3])))⟩
      ·have HT := Lib.hid (HBAD.out (fun hs => h0 hs.1))
       rw [show idB x0 = false from by rw [← Bool.not_eq_true, idB_iff]; exact h0] at HI0
       clear HOK HBAD HSN HLK HCJ2 h0 hlk HPUT HI1 HI2
       refine wp_region_held_drew (S := (fun V => (V.cell? ⟨y, 0, none⟩ = some (.int .i64 x0) ∧ V.cell? ⟨y, 1, none⟩ = some (.int .i64 x1) ∧ V.cell? ⟨y, 2, none⟩ = some (.int .i64 x2)))) (by kernel_rfl) ?hs50001 (fun hHeld => ?go50001)
       case hs50001 => (exact MK.out _ (by solve_by_elim [X0, X1, X2, X3]))
       refine TK 0 (v := ?v50002) hHeld ?hy50002 ?_
       case hy50002 => (intro w hSw; (try dsimp only at hSw); go_simp <;> first | with_reducible rfl | rw [if_neg (by omega)] | rw [if_pos (by omega)])
       (try simp only [PU])
       refine TK 1 (v := ?v50003) hHeld ?hy50003 ?_
       case hy50003 => (intro w hSw; (try dsimp only at hSw); go_simp <;> first | with_reducible rfl | rw [if_neg (by omega)] | rw [if_pos (by omega)])
       (try simp only [PU])
       refine wpAnyH_ready (rs := [2]) (by kernel_rfl) (by simp) ?_
       refine AllReadyH.cons (o := ⟨_, _, _, _, _, _⟩) rfl (fun K hK => ?step50004x0) ?more50004x0
       case more50004x0 => exact AllReadyH.nil
       go_simp
       (with_reducible refine (HI0.out _ (by solve_by_elim [X0, X1, X2, X3])).mono ?_; rintro r v0 ⟨rfl, hy0⟩; replace hy0 : Ext w2 v0 := Ext.trans (by solve_by_elim [X0, X1, X2, X3]) hy0)
       refine hK.out _ _ ?hS50004x0 (fun H50004 => ?_)
       case hS50004x0 => first | (exact MK.out _ (by solve_by_elim [X0, X1, X2, X3])) | ((try dsimp only); (exact MK.out _ (by solve_by_elim [X0, X1, X2, X3])))
       clear hK K
       clear hHeld
       (try simp only [PU])
       refine TK 3 (v := ?v50005) H50004 ?hy50005 ?_
       case hy50005 => (intro w hSw; (try dsimp only at hSw); go_simp <;> first | with_reducible rfl | rw [if_neg (by omega)] | rw [if_pos (by omega)])
       (try simp only [PU])
       refine TK 4 (v := ?v50006) H50004 ?hy50006 ?_
       case hy50006 => (intro w hSw; (try dsimp only at hSw); go_simp <;> first | with_reducible rfl | rw [if_neg (by omega)] | rw [if_pos (by omega)])
       (try simp only [PU])
       refine TN 5 H50004 ?_
       (try simp only [PU])
       refine TN 6 H50004 ?_
       (try simp only [PU])
       refine TN 7 H50004 ?_
       (try simp only [PU])
       refine TN 8 H50004 ?_
       (try simp only [PU])
       refine TK 9 (v := ?v50011) H50004 ?hy50011 ?_
       case hy50011 => (intro w hSw; (try dsimp only at hSw); go_simp <;> first | with_reducible rfl | rw [if_neg (by omega)] | rw [if_pos (by omega)])
       (try simp only [PU])
       refine TK 10 (v := ?v50012) H50004 ?hy50012 ?_
       case hy50012 => (intro w hSw; (try dsimp only at hSw); go_simp <;> first | with_reducible rfl | rw [if_neg (by omega)] | rw [if_pos (by omega)])
       (try simp only [PU])
       refine TN 11 H50004 ?_
       (try simp only [PU])
       refine TN 12 H50004 ?_
       (try simp only [PU])
       refine TN 13 H50004 ?_
       (try simp only [PU])
       refine TN 14 H50004 ?_
       (try simp only [PU])
       refine TK 15 (v := ?v50017) H50004 ?hy50017 ?_
       case hy50017 => (intro w hSw; (try dsimp only at hSw); go_simp <;> first | with_reducible rfl | rw [if_neg (by omega)] | rw [if_pos (by omega)])
       (try simp only [PU])
       refine TK 16 (v := ?v50018) H50004 ?hy50018 ?_
       case hy50018 => (intro w hSw; (try dsimp only at hSw); go_simp <;> first | with_reducible rfl | rw [if_neg (by omega)] | rw [if_pos (by omega)])
       (try simp only [PU])
       refine TN 17 H50004 ?_
       (try simp only [PU])
       refine TN 18 H50004 ?_
       (try simp only [PU])
       refine TN 19 H50004 ?_
       (try simp only [PU])
       refine TN 20 H50004 ?_
       (try simp only [PU])
       refine TK 21 (v := ?v50023) H50004 ?hy50023 ?_
       case hy50023 => (intro w hSw; (try dsimp only at hSw); go_simp <;> first | with_reducible rfl | rw [if_neg (by omega)] | rw [if_pos (by omega)])
       (try simp only [PU])
       refine TK 22 (v := ?v50024) H50004 ?hy50024 ?_
       case hy50024 => (intro w hSw; (try dsimp only at hSw); go_simp <;> first | with_reducible rfl | rw [if_neg (by omega)] | rw [if_pos (by omega)])
       (try simp only [PU])
       refine TN 23 H50004 ?_
       (try simp only [PU])
       refine TN 24 H50004 ?_
       (try simp only [PU])
       refine TN 25 H50004 ?_
       (try simp only [PU])
       refine TN 26 H50004 ?_
       (try simp only [PU])
       refine TN 27 H50004 ?_
       (try simp only [PU])
       refine TN 28 H50004 ?_
       (try simp only [PU])
       refine TN 29 H50004 ?_
       (try simp only [PU])
       refine TN 30 H50004 ?_
       (try simp only [PU])
       refine TN 31 H50004 ?_
       (try simp only [PU])
       refine TN 32 H50004 ?_
       (try simp only [PU])
       refine TN 33 H50004 ?_
       (try simp only [PU])
       refine TN 34 H50004 ?_
       (try simp only [PU])
       refine TK 35 (v := ?v50037) H50004 ?hy50037 ?_
       case hy50037 => (intro w hSw; (try dsimp only at hSw); go_simp <;> first | with_reducible rfl | rw [if_neg (by omega)] | rw [if_pos (by omega)])
       (try simp only [PU])
       refine wpAnyH_done (by kernel_rfl) ?_ _
       clear H50004
       go_wp2_with fail
       go_ret
       exact ⟨ret_bool HT.out.symm, HX.out.trans (HE3.out.trans (HE2.out.trans (by solve_by_elim [X0, X1, X2, X3])))⟩
     ·have HT := Lib.hid (HYES.out HI.out (fun t ht => hG.out t (by omega)))
      clear hG HYES HI HN2 HV3 hM hS
      go_wp2_with fail
      go_ret
      exact ⟨ret_bool HT.out.symm, HX.out.trans (HE3.out.trans hE.out)⟩
end Go.Proofs.YtnheioehadldmaaGreat
