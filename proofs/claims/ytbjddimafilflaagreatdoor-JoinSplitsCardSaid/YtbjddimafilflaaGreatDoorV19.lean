/- PARTS OF THE WALKS, joined: Kg, Jo, Kh, La. -/
import Derived.Test.YtbjddimafilflaaGreatDoorV18
import Derived.Laws.MakeOwn
import Derived.Test.YtbjddimafilflaaGreatDoorV14
import Derived.Test.YtbjddimafilflaaGreatDoorV16
import Derived.Deep.RegionHeld3
/- THE WALK over the reference's Left. -/
namespace Go.Proofs.YtbjddimafilflaaGreatDoor
open Go.RowKit Go.Sort
def othN (a b : List ByteArray) : Nat := (othersK a b b.length).length
def extJ (a b : List ByteArray) (x : List Val) : List Val := x ++ List.replicate (othN a b) nullV
def leftR (a b : Tab) : List (List Val) := natR a b ++ (a.rows.filter (fun x => !hasJ a b x)).map (extJ a.cols b.cols)
def leftT (a b : Tab) : Tab := if errJ a b = 0 then ⟨colsJ a.cols b.cols, sortO ordL (leftR a b)⟩ else noTab
theorem cols_len (a b : List ByteArray) : (colsJ a b).length = a.length + othN a b := by unfold colsJ othN; rw [List.length_append, List.length_map]
theorem wt_rep : ∀ n : Nat, wtL (List.replicate n nullV) = n
  | 0 => by rw [List.replicate_zero, wtL]
  | n + 1 => by rw [List.replicate_succ, wtL_cons, wt_rep n]; unfold wtV; rw [show nullV.l = [] from rfl, wtL]; omega
theorem othN_le (a b : List ByteArray) : othN a b ≤ b.length := othersK_len
theorem ext_fit {a b : List ByteArray} {x : List Val} (hb : b.length ≤ 100) (hs : szL x) (hw : wtL x ≤ 10000) : wtL (extJ a b x) ≤ 8000000 ∧ szL (extJ a b x) := by
  have := othN_le a b
  unfold extJ
  refine ⟨by rw [wtL_append, wt_rep]; omega, szL_app hs (szL_of (fun v hv => by rw [(List.mem_replicate.1 hv).2]; exact szV_null))⟩
theorem leftR_fit {a b : Tab} (ha : TabFit a) (hb : TabFit b) (hb2 : ∀ r ∈ b.rows, r.length = b.cols.length) : ∀ r ∈ leftR a b, wtL r ≤ 8000000 ∧ szL r := fun r hr => by
  rcases List.mem_append.1 hr with h | h
  · exact ⟨Nat.le_trans (natR_fit ha hb hb2 r h).1 (by decide), (natR_fit ha hb hb2 r h).2⟩
  · obtain ⟨x, hx, rfl⟩ := List.mem_map.1 h
    have := ha.2.2 x (List.mem_filter.1 hx).1
    exact ext_fit hb.1 this.1 this.2
theorem null_cells : nullV.cells none 0 = [.int .i64 0, .int .i64 0, .int .i64 0, .string ByteArray.empty, .slice none 0 0] := rfl
end Go.Proofs.YtbjddimafilflaaGreatDoor

/- THE WALK over join.Left. -/
namespace Go.Proofs.YtbjddimafilflaaGreatDoor
open Go.RowKit Go.Sort
def nullC : Array Value := #[.int .i64 0, .int .i64 0, .int .i64 0, .string ⟨#[]⟩, .slice none 0 0]
theorem run_make_vals (n : Nat) (hn : n ≤ 1000000) (W : World) : (Instr.makeSlice 37 (.int .i64 (n : Int)) (.int .i64 (n : Int))).run Tryz.prog W = .ok (.slice (some ⟨W.heap.size, 0, none⟩) n n) (W.alloc (.cells (madeCells nullC (n * 5)) 40)) := by
  obtain ⟨i, hi, h0, h1, h2⟩ := info_parts (show (Tryz.prog.info? 40).map (fun i => (i.zero, i.size, i.bytes)) = some (some (.agg nullC), 5, 64) by kernel_rfl)
  have h := run_make (P := Tryz.prog) W 37 40 i (.agg nullC) Tryz.underlying37 hi h0 .i64 .i64 n n (by omega) (by omega) (by rw [h2]; omega) (by omega)
  rw [h1] at h
  simp only [Int.toNat_natCast] at h
  exact h
theorem made_get (n k j : Nat) (hk : k < n) (hj : j < 5) : (madeCells nullC (n * 5))[k * 5 + j]? = nullC[j]? := by
  unfold madeCells
  have hlt : k * 5 + j < n * 5 := by omega
  rw [Array.getElem?_map, Array.getElem?_eq_getElem (by simpa using hlt)]
  simp only [Option.map_some, Array.getElem_range]
  have h5 : nullC.size = 5 := rfl
  rw [h5, show (k * 5 + j) % 5 = j by omega]
  match j, hj with
  | 0, _ => rfl
  | 1, _ => rfl
  | 2, _ => rfl
  | 3, _ => rfl
  | 4, _ => rfl
theorem made_vals (w : World) (n : Nat) (hn : n ≤ 1000000) : Vals (w.alloc (.cells (madeCells nullC (n * 5)) 40)) (fun b => w.heap.size ≤ b) (some ⟨w.heap.size, 0, none⟩) (List.replicate n nullV) := by
  refine ⟨by rw [List.length_replicate]; omega, fun _ => ⟨w.heap.size, 0, rfl, fun k hk => ?_⟩⟩
  rw [List.length_replicate] at hk
  have hc : ∀ j, j < 5 → (w.alloc (.cells (madeCells nullC (n * 5)) 40)).cell? ⟨w.heap.size, 0 + k * 5 + j, none⟩ = nullC[j]? := fun j hj => by
    rw [cell_of_row _ _ _ _ _ _ (heap_alloc_new w _), Nat.zero_add]
    exact made_get n k j hk hj
  rw [List.getElem_replicate]
  exact VCells.iff.2 ⟨Nat.le_refl _, none, 0, ⟨hc 0 (by decide), hc 1 (by decide), hc 2 (by decide), hc 3 (by decide), hc 4 (by decide)⟩, Nat.le_refl _, SliceR.nil _ _ _⟩
/-- what Left lists, the natural rows in any order -/
def accM (a b : Tab) (N : List (List Val)) (k : Nat) : List (List Val) := N ++ ((a.rows.take k).filter (fun x => !hasJ a b x)).map (extJ a.cols b.cols)
theorem accM_zero (a b : Tab) (N : List (List Val)) : accM a b N 0 = N := by unfold accM; simp
theorem accM_yes {a b : Tab} {N : List (List Val)} {k : Nat} (hk : k < a.rows.length) (h : hasJ a b a.rows[k] = false) : accM a b N (k + 1) = accM a b N k ++ [a.rows[k] ++ List.replicate (othersK a.cols b.cols b.cols.length).length nullV] := by
  unfold accM
  rw [List.take_succ_eq_append_getElem hk, List.filter_append, List.map_append, List.append_assoc]
  simp only [List.filter_cons, h, Bool.not_false, if_true, List.filter_nil, List.map_cons, List.map_nil]
  rfl
theorem accM_no {a b : Tab} {N : List (List Val)} {k : Nat} (hk : k < a.rows.length) (h : hasJ a b a.rows[k] = true) : accM a b N (k + 1) = accM a b N k := by
  unfold accM
  rw [List.take_succ_eq_append_getElem hk, List.filter_append]
  simp only [List.filter_cons, h, List.filter_nil, Bool.not_true, Bool.false_eq_true, if_false, List.append_nil]
theorem accM_end (a b : Tab) {N : List (List Val)} (hN : N.Perm (natR a b)) : (accM a b N a.rows.length).Perm (leftR a b) := by
  unfold accM leftR
  rw [List.take_length]
  exact hN.append_right _
theorem accM_len {a b : Tab} (ha : a.rows.length ≤ 2000) (hb : b.rows.length ≤ 2000) {N : List (List Val)} (hN : N.Perm (natR a b)) (k : Nat) (hk : k ≤ 2000) : (accM a b N k).length ≤ 4004000 := by
  unfold accM
  rw [List.length_append, List.length_map, hN.length_eq]
  have h1 := natR_len ha hb
  have h2 := List.length_filter_le (fun x => !hasJ a b x) (a.rows.take k)
  rw [List.length_take] at h2
  omega
set_option maxRecDepth 100000 in
set_option maxHeartbeats 3200000 in
theorem j_Left (a b : Tab) (ok ok' : Nat → Prop) (A A' B B' : Option Addr) (c c' d d' : Nat) (w : World) (hz0 : ZeroAt w) (ha : TabAt w ok A B a) (hb : TabAt w ok' A' B' b) (hfa : TabFit a) (hfb : TabFit b) (hsa : ∀ s ∈ a.cols, s.size ≤ maxLen) (hsb : ∀ s ∈ b.cols, s.size ≤ maxLen) :
    Calls Tryz.prog 19 #[.agg #[.slice A a.cols.length c, .slice B a.rows.length d], .agg #[.slice A' b.cols.length c', .slice B' b.rows.length d']] w (TabRet w (leftT a b) (errJ a b)) := by
  obtain ⟨q, w3, hq, hw3, q0, q1, p0, p1, hxw, hqs, hz⟩ := box_tab3 w A B A' B' a.cols.length c a.rows.length d b.cols.length c' b.rows.length d' 25 25 25
  have hm1 := ha.rows.len
  have HZ := Lib.hid hz
  have HBG := Lib.hid (j_begin a b ok ok' A A' B B' c c' d d' w3 (ha.ext hxw) (hb.ext hxw) hsa hsb (Nat.le_trans hfa.1 (by decide)) (Nat.le_trans hfb.1 (by decide)))
  have HCO := Lib.hid (fun W g (h : JoinAt W (fun _ => True) g a b) => j_columns a b (fun _ => True) g W h (Nat.le_trans hfa.1 (by decide)) (Nat.le_trans hfb.1 (by decide)))
  have HNA := Lib.hid (fun W g (e : Ext w3 W) (h : JoinAt W (fun _ => True) g a b) (hok : JoinOk a b) => j_natural a b g W h (hz0.ext (hxw.trans e)) hok hfa hfb)
  have HAG := Lib.hid (fun W g (r : List Val) okr X cx (e : Ext w3 W) (h : JoinAt W (fun _ => True) g a b) (hok : JoinOk a b) (hv : Vals W okr X r) (hr : r.length = a.cols.length) => j_agrees a b g r okr X cx W h (hz0.ext (hxw.trans e)) hok hv hr (Nat.le_trans hfb.1 (by decide)))
  have HA := Lib.hid (ha.bnd.ext hxw)
  have HTB := Lib.hid (fun W A1 c1 B1 d1 N (e : Ext w3 W) (h1 : Strs W (fun b => w3.heap.size ≤ b) A1 (colsJ a.cols b.cols)) (h2 : Rows W (fun _ => True) B1 N) (hl : N.length ≤ 8000000) (hw : ∀ r ∈ N, wtL r ≤ 8000000) => j_table (colsJ a.cols b.cols) N (fun _ => True) w3.heap.size A1 B1 c1 d1 W h1 h2 (hz0.ext (hxw.trans e)) e.le hl hw)
  have HW3 := Lib.hid hw3
  have HG := Lib.hid hq
  have hqw : w.heap.size ≤ q := Nat.le_of_eq hq.symm
  have hle3 := hxw.le
  clear ha hb hz hw3 hq hz0
  go_enter Tryz.func19, Tryz.ntmps19
  go_upto_region 1 with (fail)
  rw [← HW3.out, ← HG.out]
  clear HW3 HG
  go_upto_region 2 with (go_at_call 30; ((with_reducible refine (HBG.out).mono ?_); rintro e w4 ⟨hor, hx4⟩; rcases hor with ⟨hen, rfl⟩ | ⟨hez, g, rfl, hJ⟩))
  · have HT := Lib.hid (show leftT a b = noTab by unfold leftT; rw [if_neg hen])
    have HE := Lib.hid hen
    clear hen HBG HAG HTB HCO HNA hfa hfb
    obtain ⟨z0, z1, f0, f1⟩ := HZ.out w4 hx4
    obtain ⟨er, her⟩ : ∃ er, er = errJ a b := ⟨_, rfl⟩
    have HER := Lib.hid her
    have hnz : ¬ er = 0 := by rw [her]; exact HE.out
    rw [← her]
    clear her
    go_wp2_with fail
    obtain ⟨W8, hW8⟩ : ∃ W8, W8 = (w4.setCell ⟨q + 1 + 1, 0, none⟩ (.slice none 0 0)).setCell ⟨q + 1 + 1, 1, none⟩ (.slice none 0 0) := ⟨_, rfl⟩
    obtain ⟨r0, r1⟩ := set2_cells (u0 := .slice none 0 0) (u1 := .slice none 0 0) z0 z1
    have HTA := Lib.hid ((TabAt.none_ w4 (fun b => w3.heap.size ≤ b)).set2 (u0 := .slice none 0 0) (u1 := .slice none 0 0) hqs hle3)
    have HEX := Lib.hid (show Ext w W8 by rw [hW8]; exact ((hxw.trans hx4).setCell (by simp; omega) _).setCell (by simp; omega) _)
    rw [← hW8] at r0 r1 HTA ⊢
    clear hW8 z0 z1 f0 f1
    go_wp2_with fail
    exact bodyPost_ret (v := .tuple #[.agg #[.slice none 0 0, .slice none 0 0], .int .i64 er]) (by simp [results, Tryz.results19, go_sem, r0, r1] <;> rfl) rfl (by rw [HT.out, ← HER.out]; exact ⟨none, none, 0, 0, rfl, Nat.le_refl _, Nat.le_refl _, HTA.out, HEX.out⟩)
  · have HT := Lib.hid (show leftT a b = ⟨colsJ a.cols b.cols, sortO ordL (leftR a b)⟩ by unfold leftT; rw [if_pos hez])
    have HOK := Lib.hid (JoinOk.of hez)
    have HEZ := Lib.hid hez
    have HJ := Lib.hid hJ
    have hrl := hfa.2.1
    have hrb := hfb.2.1
    have hcl := hfa.1
    have hcb := hfb.1
    have HWT := Lib.hid (fun r hr => (leftR_fit hfa hfb HOK.out.lb r hr).1)
    clear hez hJ hfa hfb HBG
    go_upto_region 5 with (go_at_call 33; ((with_reducible refine (HNA.out _ _ hx4 HJ.out HOK.out).mono ?_); rintro e w5 ⟨v5, N, rfl, hN, hO5, hx5⟩))
    have HN := Lib.hid hN
    have HEND := Lib.hid (accM_end a b hN)
    have HLEN := Lib.hid (fun k (hk : k ≤ 2000) => accM_len hrl hrb hN k hk)
    have HO5 := Lib.hid (show OwnRows w5 w4.heap.size (fun _ => True) v5 (accM a b N 0) by rw [accM_zero]; exact hO5)
    have s1 := (hx4.trans hx5).cell q1
    have HX5 := Lib.hid hx5
    clear HNA hN hO5 hx5
    go_upto_region 6 with (fail)
    clear s1
    go_loopw [8, 26] (fun v u W => ∃ (k : Nat), u = .int .i64 k ∧ k ≤ a.rows.length ∧ Hid (OwnRows W w4.heap.size (fun _ => True) v (accM a b N k)) ∧ Hid (Ext w4 W)) (fun _ u _ => a.rows.length - (intOf u).toNat)
    case atStart => exact ⟨0, rfl, Nat.zero_le _, HO5, HX5⟩
    case round =>
      clear HO5 HX5
      obtain ⟨k, rfl, hk, hown, hE⟩ := hrel
      have hE3 := hx4.trans hE.out
      by_cases hlt : k < a.rows.length
      · obtain ⟨ba, oa, rfl, hc⟩ := HA.out.rows.2 (by omega)
        obtain ⟨-, Ax, cx, h5, hlex, hvx⟩ := hc k hlt
        rw [Nat.mul_one] at h5
        have d5 := hE3.cell h5
        have HC := Lib.hid (HAG.out wr g a.rows[k] (okN ok w) Ax cx hE3 (HJ.out.ext hE.out) HOK.out (hvx.ext hE3) (HOK.out.la _ (List.getElem_mem hlt)))
        have HVX := Lib.hid hvx
        have HXL := Lib.hid (show a.rows[k].length ≤ 100 by rw [HOK.out.la _ (List.getElem_mem hlt)]; exact hcl)
        have HYES := Lib.hid (fun h => accM_yes (a := a) (b := b) (N := N) hlt h)
        have HNO := Lib.hid (fun h => accM_no (a := a) (b := b) (N := N) hlt h)
        have hsm : (accM a b N k).length ≤ 8000000 := Nat.le_trans (HLEN.out k (by omega)) (by decide)
        clear hc hvx h5
        generalize hasJ a b a.rows[k] = z at *
        generalize a.rows[k] = x at *
        cases z
        · have HN2 := Lib.hid (HYES.out rfl)
          clear HYES HNO
          have hol := othersK_len (a := a.cols) (b := b.cols) (k := b.cols.length)
          have hmk := run_make_vals (othersK a.cols b.cols b.cols.length).length (by omega)
          have HMV := Lib.hid (fun W => made_vals W (othersK a.cols b.cols b.cols.length).length (by omega))
          have HGL := Lib.hid (fun W ok2 gg Bx dx (e : Ext wr W) (h0 : W.cell? ⟨gg, 0, none⟩ = some (.slice Ax x.length cx)) (h1 : W.cell? ⟨gg, 1, none⟩ = some (.slice Bx (List.replicate (othersK a.cols b.cols b.cols.length).length nullV).length dx)) (h2 : Vals W ok2 Bx (List.replicate (othersK a.cols b.cols b.cols.length).length nullV)) => j_Concat x _ gg (okN ok w) ok2 Ax Bx cx dx W h0 h1 ((HVX.out.ext hE3).ext e) h2 (Nat.le_trans HXL.out (by decide)) (by rw [List.length_replicate]; omega))
          simp only [List.length_replicate] at HGL
          have HJ6 := Lib.hid (fun W (e : Ext wr W) => (by
            obtain ⟨_, _, _, _, _, _, _, _, _, _, _, _, _, _, hJ⟩ := HJ.out
            exact ⟨_, _, e.cell (hE.out.cell hJ.j6)⟩ : ∃ AO co, W.cell? ⟨g, 6, none⟩ = some (.slice AO (othersK a.cols b.cols b.cols.length).length co)))
          have hlw4 := hx4.le
          have HOW := Lib.hid (fun W (e : Ext wr W) => (⟨hown.out.ext e, (hE.out.trans e).le⟩ : OwnRows W w4.heap.size (fun _ => True) u8 (accM a b N k) ∧ w4.heap.size ≤ W.heap.size))
          have HBO := Lib.hid (fun bk (h : bk < w.heap.size ∨ wr.heap.size ≤ bk) (e2 : some bk = u8.ownBlock) => (by have h1 := hown.out.lt e2.symm; omega : False))
          generalize (othersK a.cols b.cols b.cols.length).length = no at *
          generalize x ++ List.replicate no nullV = xr at *
          generalize List.replicate no nullV = nl at *
          go_upto_region 9 with (go_at_call 40; ((with_reducible refine (HC.out).mono ?_); rintro e w5 ⟨rfl, hy5⟩))
          obtain ⟨AO, co, j6⟩ := HJ6.out w5 hy5
          have hgs : g < w5.heap.size := block_lt_of_cell j6
          have HY5 := Lib.hid hy5
          have hl5 := hy5.le
          have hsz : (w5.alloc (.cells (madeCells nullC (no * 5)) 40)).heap.size = w5.heap.size + 1 := by simp
          have HGL2 := Lib.hid (HGL.out ((w5.alloc (.cells (madeCells nullC (no * 5)) 40)).alloc (.cells #[.slice Ax x.length cx, .slice (some ⟨w5.heap.size, 0, none⟩) no no] 37)) (fun b => w5.heap.size ≤ b) (w5.heap.size + 1) (some ⟨w5.heap.size, 0, none⟩) no ((hy5.alloc _).alloc _) (by rw [← hsz, cell_of_row _ _ _ _ _ _ (heap_alloc_new (w5.alloc (.cells (madeCells nullC (no * 5)) 40)) _)]; rfl) (by rw [← hsz, cell_of_row _ _ _ _ _ _ (heap_alloc_new (w5.alloc (.cells (madeCells nullC (no * 5)) 40)) _)]; rfl) ((HMV.out w5).ext ((Ext.refl _).alloc _)))
          clear hsz HGL HMV
          go_wp2_with (first | (go_at_call 41; ((with_reducible refine (HGL2.out).mono ?_); rintro e w6 ⟨A6, c6, rfl, hc6, hV6, hx6⟩; have he6 : Ext wr w6 := Ext.trans ((HY5.out.alloc _).alloc _) hx6; have HV6 := Lib.hid (hV6.to (ok' := fun bk => bk < w.heap.size ∨ wr.heap.size ≤ bk) (fun b hb => by rcases hb with (h | h) | h <;> first | exact .inl h.2 | exact .inr (Nat.le_trans hl5 h) | exact .inr (Nat.le_trans ((HY5.out.alloc _).alloc _).le h))))) | (at_builtin; refine own_pushR rfl (.tmp 34) (.tmp 44) rfl w4.heap.size (fun _ => True) w6 u8 (accM a b N k) xr A6 c6 rfl (HOW.out _ he6).1 (HOW.out _ he6).2 rfl rfl hc6 (HV6.out.to (fun b hb => ⟨trivial, fun e2 => HBO.out b hb e2⟩)) hsm ?_; intro v9 w9 hO9 hg9))
          have hE9 : Ext w4 w9 := (hE.out.trans he6).grown hg9 (fun k hk => (hown.out.lt hk).1)
          rw [← HN2.out] at hO9
          go_roundw
          case rel => exact ⟨k + 1, by go_num, by omega, Lib.hid hO9, Lib.hid hE9⟩
          case measure => simp [intOf]; omega
        · have HN2 := Lib.hid (HNO.out rfl)
          clear HYES HNO
          go_wp2_with (go_at_call 40; ((with_reducible refine (HC.out).mono ?_); rintro e w5 ⟨rfl, hy5⟩))
          have hO := Lib.hid (hown.out.ext hy5)
          go_roundw
          case rel => exact ⟨k + 1, by go_num, by omega, by rw [HN2.out]; exact hO, Lib.hid (hE.out.trans hy5)⟩
          case measure => simp [intOf]; omega
      · have hkl : k = a.rows.length := by omega
        obtain ⟨A9, c9, e9, h9, hV9⟩ := hown.out.rows (Nat.le_trans (HLEN.out k (by omega)) (by decide))
        have HL9 := Lib.hid (HLEN.out k (by omega))
        have HP9 := Lib.hid (show (accM a b N k).Perm (leftR a b) by rw [hkl]; exact HEND.out)
        subst e9
        have hV9' := Lib.hid (hV9.to (ok' := fun _ => True) (fun _ _ => trivial))
        have HJE := Lib.hid (HJ.out.ext hE.out)
        have hleE := hE3.le
        clear hown hE hkl hV9 HEND HAG HA HLEN
        generalize accM a b N k = M at *
        have HSM := Lib.hid (sortO_of_perm HP9.out)
        have HWM := Lib.hid (fun r hr => HWT.out r (HP9.out.mem_iff.1 hr))
        have HSL := Lib.hid (sortO_len TotC.row M)
        generalize colsJ a.cols b.cols = cs at *
        go_wp2_with (first | (go_at_call 32; ((with_reducible refine (HCO.out _ _ HJE.out).mono ?_); rintro e w6 ⟨A5, c5, rfl, hc5, hV5, hx6⟩)) | (go_at_call 31; ((with_reducible refine (HTB.out _ A5 c5 A9 c9 M (hE3.trans hx6) (hV5.ge hleE) (hV9'.out.ext hx6) (Nat.le_trans HL9.out (by decide)) HWM.out).mono ?_); rintro e w7 ⟨B7, d7, rfl, hd7, hT7, hx7⟩; obtain ⟨z0, z1, f0, f1⟩ := HZ.out w7 (hE3.trans (hx6.trans hx7)))))
        obtain ⟨W8, hW8⟩ : ∃ W8, W8 = (w7.setCell ⟨q + 1 + 1, 0, none⟩ (.slice A5 cs.length c5)).setCell ⟨q + 1 + 1, 1, none⟩ (.slice B7 M.length d7) := ⟨_, rfl⟩
        obtain ⟨r0, r1⟩ := set2_cells (u0 := .slice A5 cs.length c5) (u1 := .slice B7 M.length d7) z0 z1
        have HTA := Lib.hid ((hT7).set2 (u0 := .slice A5 cs.length c5) (u1 := .slice B7 M.length d7) hqs hle3)
        have HEX := Lib.hid (show Ext w W8 by rw [hW8]; exact ((hxw.trans (hE3.trans (hx6.trans hx7))).setCell (by simp; omega) _).setCell (by simp; omega) _)
        rw [← hW8] at r0 r1 HTA ⊢
        clear hW8 z0 z1 f0 f1
        go_wp2_with fail
        exact bodyPost_ret (v := .tuple #[.agg #[.slice A5 cs.length c5, .slice B7 M.length d7], .int .i64 0]) (by simp [results, Tryz.results19, go_sem, r0, r1] <;> rfl) rfl (by rw [HT.out, HEZ.out, ← HSM.out]; exact ⟨A5, B7, c5, d7, by rw [HSL.out], hc5, by rw [HSL.out]; exact hd7, HTA.out, HEX.out⟩)
end Go.Proofs.YtbjddimafilflaaGreatDoor

/- THE WALKS over the reference's SameRows and Same of tables. -/
namespace Go.Proofs.YtbjddimafilflaaGreatDoor
open Go.RowKit Go.Sort
set_option maxRecDepth 100000 in
set_option maxHeartbeats 1600000 in
theorem r_SameRows (a b : List (List Val)) (ok ok' : Nat → Prop) (A B : Option Addr) (c d : Nat) (w : World) (ha : Rows w ok A a) (hb : Rows w ok' B b) (hza : ∀ r ∈ a, szL r) (hzb : ∀ r ∈ b, szL r) :
    Calls Tryz.prog 26 #[.slice A a.length c, .slice B b.length d] w fun e w' => e = .returned (.bool (decide (a = b))) ∧ Ext w w' := by
  have HA := Lib.hid ha
  have HB := Lib.hid hb
  have HQ := Lib.hid (And.intro hza hzb)
  have hla := ha.len
  have hlb := hb.len
  clear ha hb hza hzb
  by_cases hl : a.length = b.length
  · have hla1 : a.length ≤ b.length := by omega
    have hla2 : b.length ≤ a.length := by omega
    have hl0 : (((a.length : Int) != (b.length : Int))) = false := by simp; omega
    obtain ⟨R, hR⟩ : ∃ R, R = decide (a = b) := ⟨_, rfl⟩
    have HY := Lib.hid (fun (h : ∀ i (h1 : i < a.length) (h2 : i < b.length), a[i] = b[i]) => (by rw [hR]; exact decide_eq_true (List.ext_getElem hl h) : R = true))
    have HN := Lib.hid (fun i (h1 : i < a.length) (h2 : i < b.length) (h : a[i] ≠ b[i]) => (by rw [hR]; exact decide_eq_false (fun e => h (by subst e; rfl)) : R = false))
    rw [← hR]
    clear hR hl
    go_enter Tryz.func26, Tryz.ntmps26
    go_wp2_with fail
    clear hl0
    go_loopw [5] (fun u W => ∃ k : Nat, u = .int .i64 k ∧ k ≤ a.length ∧ Hid (∀ i (h1 : i < a.length) (h2 : i < b.length), i < k → a[i] = b[i]) ∧ Ext w W) (fun u _ => a.length - (intOf u).toNat)
    case atStart => exact ⟨0, rfl, Nat.zero_le _, Lib.hid (fun i _ _ hi => absurd hi (Nat.not_lt_zero _)), Ext.refl _⟩
    case round =>
      obtain ⟨k, rfl, hk, hgd, hE⟩ := hrel
      by_cases hlt : k < a.length
      · have hltb : k < b.length := by omega
        obtain ⟨ba, oa, rfl, hca⟩ := HA.out.2 (by omega)
        obtain ⟨bb, ob, rfl, hcb⟩ := HB.out.2 (by omega)
        obtain ⟨-, A', c', hc1, -, hv1⟩ := hca k hlt
        obtain ⟨-, B', d', hc2, -, hv2⟩ := hcb k hltb
        rw [Nat.mul_one] at hc1 hc2
        have p1 := hE.cell hc1
        have p2 := hE.cell hc2
        have HC := Lib.hid (fun W (h : Ext wr W) => r4_OrderRows a[k] b[k] ok ok' A' B' c' d' W (hv1.ext (hE.trans h)) (hv2.ext (hE.trans h)) (HQ.out.1 _ (List.getElem_mem hlt)) (HQ.out.2 _ (List.getElem_mem hltb)))
        have HG := Lib.hid (fun (h : ordL a[k] b[k] = 0) => (fun i h1 h2 hi => if e : i = k then by subst e; exact (ordL_zero _ _).1 h else hgd.out i h1 h2 (by omega) : ∀ i (h1 : i < a.length) (h2 : i < b.length), i < k + 1 → a[i] = b[i]))
        have HB2 := Lib.hid (fun (h : ordL a[k] b[k] ≠ 0) => HN.out k hlt hltb (fun e => h ((ordL_zero _ _).2 e)))
        have HBL := Lib.hid (fun (h : a[k].length ≠ b[k].length) => HN.out k hlt hltb (fun e => h (by rw [e])))
        clear hc1 hc2 hv1 hv2 hca hcb
        generalize ordL a[k] b[k] = z at *
        generalize a[k] = x at *
        generalize b[k] = y at *
        by_cases hxl : x.length = y.length
        · have hxl2 : (((x.length : Int) != (y.length : Int))) = false := by simp; omega
          clear hxl
          by_cases hz : z = 0
          · subst hz
            have HG2 := Lib.hid (HG.out rfl)
            clear HG HB2 HBL
            go_upto_region 6 with (fail)
            have MKR1 := Lib.hid (fun V (e : Ext wr V) => (⟨e.cell p1, e.cell p2, e⟩ : V.cell? ⟨ba, oa + k, none⟩ = some (.slice A' x.length c') ∧ V.cell? ⟨bb, ob + k, none⟩ = some (.slice B' y.length d') ∧ Ext wr V))
            refine wp_region_held_drew (S := (fun V => V.cell? ⟨ba, oa + k, none⟩ = some (.slice A' x.length c') ∧ V.cell? ⟨bb, ob + k, none⟩ = some (.slice B' y.length d') ∧ Ext wr V)) (by kernel_rfl) ?hs1 (fun hHeld => ?go1)
            case hs1 => (exact MKR1.out _ (by repeat (first | with_reducible exact Ext.refl _ | with_reducible assumption | with_reducible refine Ext.drew ?_ | with_reducible refine Ext.drewN ?_ _ | with_reducible refine Ext.alloc ?_ _)))
            refine wpAnyH_take (i := 0) (oi := ⟨(some 17), (.move (.tmp 0)), 23, "ref.go:159", #[], none⟩) (v := ?v2) rfl (by kernel_rfl) (by kernel_rfl) (by kernel_rfl) (fun _ _ _ h => h) (Or.inl ⟨rfl, ?hy2⟩) hHeld ?rest2
            case hy2 => (intro w hSw; (try dsimp only at hSw); go_simp <;> first | with_reducible rfl | rw [if_neg (by omega)] | rw [if_pos (by omega)])
            (try simp only [Act.put]); (try simp only [List.setIfInBounds_toArray]); (try simp only [List.set_cons_succ]); (try simp only [List.set_cons_zero])
            refine wpAnyH_take (i := 1) (oi := ⟨(some 18), (.move (.tmp 5)), 3, "ref.go:159", #[], none⟩) (v := ?v3) rfl (by kernel_rfl) (by kernel_rfl) (by kernel_rfl) (fun _ _ _ h => h) (Or.inl ⟨rfl, ?hy3⟩) hHeld ?rest3
            case hy3 => (intro w hSw; (try dsimp only at hSw); go_simp <;> first | with_reducible rfl | rw [if_neg (by omega)] | rw [if_pos (by omega)])
            (try simp only [Act.put]); (try simp only [List.setIfInBounds_toArray]); (try simp only [List.set_cons_succ]); (try simp only [List.set_cons_zero])
            refine wpAnyH_take (i := 2) (oi := ⟨(some 19), (.indexAddr 23 (.tmp 17) (.tmp 18)), 0, "ref.go:159", #[⟨0, .data⟩, ⟨1, .data⟩], none⟩) (v := ?v4) rfl (by kernel_rfl) (by kernel_rfl) (by kernel_rfl) (fun _ _ _ h => h) (Or.inl ⟨rfl, ?hy4⟩) hHeld ?rest4
            case hy4 => (intro w hSw; (try dsimp only at hSw); go_simp <;> first | with_reducible rfl | rw [if_neg (by omega)] | rw [if_pos (by omega)])
            (try simp only [Act.put]); (try simp only [List.setIfInBounds_toArray]); (try simp only [List.set_cons_succ]); (try simp only [List.set_cons_zero])
            refine wpAnyH_take (i := 3) (oi := ⟨(some 20), (.load 37 (.tmp 19)), 37, "ref.go:159", #[⟨2, .data⟩], none⟩) (v := ?v5) rfl (by kernel_rfl) (by kernel_rfl) (by kernel_rfl) (fun _ _ _ h => h) (Or.inl ⟨rfl, ?hy5⟩) hHeld ?rest5
            case hy5 => (intro w hSw; (try dsimp only at hSw); go_simp <;> first | with_reducible rfl | rw [if_neg (by omega)] | rw [if_pos (by omega)])
            (try simp only [Act.put]); (try simp only [List.setIfInBounds_toArray]); (try simp only [List.set_cons_succ]); (try simp only [List.set_cons_zero])
            refine wpAnyH_take (i := 4) (oi := ⟨(some 21), (.call { callee := (.builtin .len), args := #[(.tmp 20)], argTypes := #[37] }), 3, "ref.go:159", #[⟨3, .data⟩], none⟩) (v := ?v6) rfl (by kernel_rfl) (by kernel_rfl) (by kernel_rfl) (fun _ _ _ h => h) (Or.inl ⟨rfl, ?hy6⟩) hHeld ?rest6
            case hy6 => (intro w hSw; (try dsimp only at hSw); go_simp <;> first | with_reducible rfl | rw [if_neg (by omega)] | rw [if_pos (by omega)])
            (try simp only [Act.put]); (try simp only [List.setIfInBounds_toArray]); (try simp only [List.set_cons_succ]); (try simp only [List.set_cons_zero])
            refine wpAnyH_take (i := 5) (oi := ⟨(some 22), (.move (.tmp 1)), 23, "ref.go:159", #[], none⟩) (v := ?v7) rfl (by kernel_rfl) (by kernel_rfl) (by kernel_rfl) (fun _ _ _ h => h) (Or.inl ⟨rfl, ?hy7⟩) hHeld ?rest7
            case hy7 => (intro w hSw; (try dsimp only at hSw); go_simp <;> first | with_reducible rfl | rw [if_neg (by omega)] | rw [if_pos (by omega)])
            (try simp only [Act.put]); (try simp only [List.setIfInBounds_toArray]); (try simp only [List.set_cons_succ]); (try simp only [List.set_cons_zero])
            refine wpAnyH_take (i := 6) (oi := ⟨(some 23), (.move (.tmp 5)), 3, "ref.go:159", #[], none⟩) (v := ?v8) rfl (by kernel_rfl) (by kernel_rfl) (by kernel_rfl) (fun _ _ _ h => h) (Or.inl ⟨rfl, ?hy8⟩) hHeld ?rest8
            case hy8 => (intro w hSw; (try dsimp only at hSw); go_simp <;> first | with_reducible rfl | rw [if_neg (by omega)] | rw [if_pos (by omega)])
            (try simp only [Act.put]); (try simp only [List.setIfInBounds_toArray]); (try simp only [List.set_cons_succ]); (try simp only [List.set_cons_zero])
            refine wpAnyH_take (i := 7) (oi := ⟨(some 24), (.indexAddr 23 (.tmp 22) (.tmp 23)), 0, "ref.go:159", #[⟨5, .data⟩, ⟨6, .data⟩], none⟩) (v := ?v9) rfl (by kernel_rfl) (by kernel_rfl) (by kernel_rfl) (fun _ _ _ h => h) (Or.inl ⟨rfl, ?hy9⟩) hHeld ?rest9
            case hy9 => (intro w hSw; (try dsimp only at hSw); go_simp <;> first | with_reducible rfl | rw [if_neg (by omega)] | rw [if_pos (by omega)])
            (try simp only [Act.put]); (try simp only [List.setIfInBounds_toArray]); (try simp only [List.set_cons_succ]); (try simp only [List.set_cons_zero])
            refine wpAnyH_take (i := 8) (oi := ⟨(some 25), (.load 37 (.tmp 24)), 37, "ref.go:159", #[⟨7, .data⟩], none⟩) (v := ?v10) rfl (by kernel_rfl) (by kernel_rfl) (by kernel_rfl) (fun _ _ _ h => h) (Or.inl ⟨rfl, ?hy10⟩) hHeld ?rest10
            case hy10 => (intro w hSw; (try dsimp only at hSw); go_simp <;> first | with_reducible rfl | rw [if_neg (by omega)] | rw [if_pos (by omega)])
            (try simp only [Act.put]); (try simp only [List.setIfInBounds_toArray]); (try simp only [List.set_cons_succ]); (try simp only [List.set_cons_zero])
            refine wpAnyH_take (i := 9) (oi := ⟨(some 26), (.call { callee := (.builtin .len), args := #[(.tmp 25)], argTypes := #[37] }), 3, "ref.go:159", #[⟨8, .data⟩], none⟩) (v := ?v11) rfl (by kernel_rfl) (by kernel_rfl) (by kernel_rfl) (fun _ _ _ h => h) (Or.inl ⟨rfl, ?hy11⟩) hHeld ?rest11
            case hy11 => (intro w hSw; (try dsimp only at hSw); go_simp <;> first | with_reducible rfl | rw [if_neg (by omega)] | rw [if_pos (by omega)])
            (try simp only [Act.put]); (try simp only [List.setIfInBounds_toArray]); (try simp only [List.set_cons_succ]); (try simp only [List.set_cons_zero])
            refine wpAnyH_take (i := 10) (oi := ⟨(some 27), (.binOp .neq 3 (.tmp 21) (.tmp 26) 3), 4, "ref.go:159", #[⟨4, .data⟩, ⟨9, .data⟩], none⟩) (v := ?v12) rfl (by kernel_rfl) (by kernel_rfl) (by kernel_rfl) (fun _ _ _ h => h) (Or.inl ⟨rfl, ?hy12⟩) hHeld ?rest12
            case hy12 => (intro w hSw; (try dsimp only at hSw); go_simp <;> first | with_reducible rfl | rw [if_neg (by omega)] | rw [if_pos (by omega)])
            (try simp only [Act.put]); (try simp only [List.setIfInBounds_toArray]); (try simp only [List.set_cons_succ]); (try simp only [List.set_cons_zero])
            refine wpAnyH_take (i := 11) (oi := ⟨(some 28), (.move (.tmp 27)), 4, "ref.go:159", #[⟨10, .data⟩], none⟩) (v := ?v13) rfl (by kernel_rfl) (by kernel_rfl) (by kernel_rfl) (fun _ _ _ h => h) (Or.inl ⟨rfl, ?hy13⟩) hHeld ?rest13
            case hy13 => (intro w hSw; (try dsimp only at hSw); go_simp <;> first | with_reducible rfl | rw [if_neg (by omega)] | rw [if_pos (by omega)])
            (try simp only [Act.put]); (try simp only [List.setIfInBounds_toArray]); (try simp only [List.set_cons_succ]); (try simp only [List.set_cons_zero])
            refine wpAnyH_take (i := 12) (oi := ⟨(some 29), (.move (.tmp 0)), 23, "ref.go:159", #[⟨11, .guard⟩], (some (11, false))⟩) (v := ?v14) rfl (by kernel_rfl) (by kernel_rfl) (by kernel_rfl) (fun _ _ _ h => h) (Or.inl ⟨rfl, ?hy14⟩) hHeld ?rest14
            case hy14 => (intro w hSw; (try dsimp only at hSw); go_simp <;> first | with_reducible rfl | rw [if_neg (by omega)] | rw [if_pos (by omega)])
            (try simp only [Act.put]); (try simp only [List.setIfInBounds_toArray]); (try simp only [List.set_cons_succ]); (try simp only [List.set_cons_zero])
            refine wpAnyH_take (i := 13) (oi := ⟨(some 30), (.move (.tmp 5)), 3, "ref.go:159", #[⟨11, .guard⟩], (some (11, false))⟩) (v := ?v15) rfl (by kernel_rfl) (by kernel_rfl) (by kernel_rfl) (fun _ _ _ h => h) (Or.inl ⟨rfl, ?hy15⟩) hHeld ?rest15
            case hy15 => (intro w hSw; (try dsimp only at hSw); go_simp <;> first | with_reducible rfl | rw [if_neg (by omega)] | rw [if_pos (by omega)])
            (try simp only [Act.put]); (try simp only [List.setIfInBounds_toArray]); (try simp only [List.set_cons_succ]); (try simp only [List.set_cons_zero])
            refine wpAnyH_take (i := 14) (oi := ⟨(some 31), (.indexAddr 23 (.tmp 29) (.tmp 30)), 0, "ref.go:159", #[⟨12, .data⟩, ⟨13, .data⟩, ⟨11, .guard⟩], (some (11, false))⟩) (v := ?v16) rfl (by kernel_rfl) (by kernel_rfl) (by kernel_rfl) (fun _ _ _ h => h) (Or.inl ⟨rfl, ?hy16⟩) hHeld ?rest16
            case hy16 => (intro w hSw; (try dsimp only at hSw); go_simp <;> first | with_reducible rfl | rw [if_neg (by omega)] | rw [if_pos (by omega)])
            (try simp only [Act.put]); (try simp only [List.setIfInBounds_toArray]); (try simp only [List.set_cons_succ]); (try simp only [List.set_cons_zero])
            refine wpAnyH_take (i := 15) (oi := ⟨(some 32), (.load 37 (.tmp 31)), 37, "ref.go:159", #[⟨14, .data⟩, ⟨11, .guard⟩], (some (11, false))⟩) (v := ?v17) rfl (by kernel_rfl) (by kernel_rfl) (by kernel_rfl) (fun _ _ _ h => h) (Or.inl ⟨rfl, ?hy17⟩) hHeld ?rest17
            case hy17 => (intro w hSw; (try dsimp only at hSw); go_simp <;> first | with_reducible rfl | rw [if_neg (by omega)] | rw [if_pos (by omega)])
            (try simp only [Act.put]); (try simp only [List.setIfInBounds_toArray]); (try simp only [List.set_cons_succ]); (try simp only [List.set_cons_zero])
            refine wpAnyH_take (i := 16) (oi := ⟨(some 33), (.move (.tmp 1)), 23, "ref.go:159", #[⟨11, .guard⟩], (some (11, false))⟩) (v := ?v18) rfl (by kernel_rfl) (by kernel_rfl) (by kernel_rfl) (fun _ _ _ h => h) (Or.inl ⟨rfl, ?hy18⟩) hHeld ?rest18
            case hy18 => (intro w hSw; (try dsimp only at hSw); go_simp <;> first | with_reducible rfl | rw [if_neg (by omega)] | rw [if_pos (by omega)])
            (try simp only [Act.put]); (try simp only [List.setIfInBounds_toArray]); (try simp only [List.set_cons_succ]); (try simp only [List.set_cons_zero])
            refine wpAnyH_take (i := 17) (oi := ⟨(some 34), (.move (.tmp 5)), 3, "ref.go:159", #[⟨11, .guard⟩], (some (11, false))⟩) (v := ?v19) rfl (by kernel_rfl) (by kernel_rfl) (by kernel_rfl) (fun _ _ _ h => h) (Or.inl ⟨rfl, ?hy19⟩) hHeld ?rest19
            case hy19 => (intro w hSw; (try dsimp only at hSw); go_simp <;> first | with_reducible rfl | rw [if_neg (by omega)] | rw [if_pos (by omega)])
            (try simp only [Act.put]); (try simp only [List.setIfInBounds_toArray]); (try simp only [List.set_cons_succ]); (try simp only [List.set_cons_zero])
            refine wpAnyH_take (i := 18) (oi := ⟨(some 35), (.indexAddr 23 (.tmp 33) (.tmp 34)), 0, "ref.go:159", #[⟨16, .data⟩, ⟨17, .data⟩, ⟨11, .guard⟩], (some (11, false))⟩) (v := ?v20) rfl (by kernel_rfl) (by kernel_rfl) (by kernel_rfl) (fun _ _ _ h => h) (Or.inl ⟨rfl, ?hy20⟩) hHeld ?rest20
            case hy20 => (intro w hSw; (try dsimp only at hSw); go_simp <;> first | with_reducible rfl | rw [if_neg (by omega)] | rw [if_pos (by omega)])
            (try simp only [Act.put]); (try simp only [List.setIfInBounds_toArray]); (try simp only [List.set_cons_succ]); (try simp only [List.set_cons_zero])
            refine wpAnyH_take (i := 19) (oi := ⟨(some 36), (.load 37 (.tmp 35)), 37, "ref.go:159", #[⟨18, .data⟩, ⟨11, .guard⟩], (some (11, false))⟩) (v := ?v21) rfl (by kernel_rfl) (by kernel_rfl) (by kernel_rfl) (fun _ _ _ h => h) (Or.inl ⟨rfl, ?hy21⟩) hHeld ?rest21
            case hy21 => (intro w hSw; (try dsimp only at hSw); go_simp <;> first | with_reducible rfl | rw [if_neg (by omega)] | rw [if_pos (by omega)])
            (try simp only [Act.put]); (try simp only [List.setIfInBounds_toArray]); (try simp only [List.set_cons_succ]); (try simp only [List.set_cons_zero])
            refine wpAnyH_ready (rs := [20]) (by kernel_rfl) (by simp) ?_
            refine AllReadyH.cons (o := ⟨(some 37), (.call { callee := (.value (.func 36)), args := #[(.tmp 32), (.tmp 36)], argTypes := #[37, 37] }), 3, "ref.go:159", #[⟨15, .data⟩, ⟨19, .data⟩, ⟨11, .chain⟩, ⟨11, .guard⟩], (some (11, false))⟩) rfl (fun K hK => ?step22x0) ?more22x0
            case more22x0 => exact AllReadyH.nil
            go_simp
            ((refine (HC.out _ (by repeat (first | with_reducible exact Ext.refl _ | with_reducible assumption | with_reducible refine Ext.drew ?_ | with_reducible refine Ext.drewN ?_ _ | with_reducible refine Ext.alloc ?_ _))).mono ?_; rintro e w' ⟨rfl, hb⟩; replace hb : Ext wr w' := Ext.trans (by repeat (first | with_reducible exact Ext.refl _ | with_reducible assumption | with_reducible refine Ext.drew ?_ | with_reducible refine Ext.drewN ?_ _ | with_reducible refine Ext.alloc ?_ _)) hb))
            refine hK.out _ _ ?hS22x0 (fun hHeld22 => ?rest22x0)
            case hS22x0 => first | (exact MKR1.out _ (by repeat (first | with_reducible exact Ext.refl _ | with_reducible assumption | with_reducible refine Ext.drew ?_ | with_reducible refine Ext.drewN ?_ _ | with_reducible refine Ext.alloc ?_ _))) | ((try dsimp only); (exact MKR1.out _ (by repeat (first | with_reducible exact Ext.refl _ | with_reducible assumption | with_reducible refine Ext.drew ?_ | with_reducible refine Ext.drewN ?_ _ | with_reducible refine Ext.alloc ?_ _))))
            clear hK K
            clear hHeld
            (try simp only [Act.put]); (try simp only [List.setIfInBounds_toArray]); (try simp only [List.set_cons_succ]); (try simp only [List.set_cons_zero])
            refine wpAnyH_take (i := 21) (oi := ⟨(some 38), (.binOp .neq 3 (.tmp 37) (.const (.int .i64 0)) 3), 4, "ref.go:159", #[⟨20, .data⟩, ⟨11, .guard⟩], (some (11, false))⟩) (v := ?v23) rfl (by kernel_rfl) (by kernel_rfl) (by kernel_rfl) (fun _ _ _ h => h) (Or.inl ⟨rfl, ?hy23⟩) hHeld22 ?rest23
            case hy23 => (intro w hSw; (try dsimp only at hSw); go_simp <;> first | with_reducible rfl | rw [if_neg (by omega)] | rw [if_pos (by omega)])
            (try simp only [Act.put]); (try simp only [List.setIfInBounds_toArray]); (try simp only [List.set_cons_succ]); (try simp only [List.set_cons_zero])
            refine wpAnyH_take (i := 22) (oi := ⟨(some 39), (.pick (.tmp 28) (.const (.bool true)) (.tmp 38)), 4, "ref.go:159", #[⟨11, .data⟩, ⟨21, .data⟩], none⟩) (v := ?v24) rfl (by kernel_rfl) (by kernel_rfl) (by kernel_rfl) (fun _ _ _ h => h) (Or.inl ⟨rfl, ?hy24⟩) hHeld22 ?rest24
            case hy24 => (intro w hSw; (try dsimp only at hSw); go_simp <;> first | with_reducible rfl | rw [if_neg (by omega)] | rw [if_pos (by omega)])
            (try simp only [Act.put]); (try simp only [List.setIfInBounds_toArray]); (try simp only [List.set_cons_succ]); (try simp only [List.set_cons_zero])
            refine wpAnyH_done (by kernel_rfl) ?_ _
            clear hHeld22
            clear MKR1
            go_wp2_with fail
            go_roundw
            case rel => exact ⟨k + 1, by go_num, by omega, HG2, hE.trans hb⟩
            case measure => simp [intOf]; omega
          · have HB3 := Lib.hid (HB2.out hz)
            clear HG HB2 HBL
            go_upto_region 6 with (fail)
            have MKR2 := Lib.hid (fun V (e : Ext wr V) => (⟨e.cell p1, e.cell p2, e⟩ : V.cell? ⟨ba, oa + k, none⟩ = some (.slice A' x.length c') ∧ V.cell? ⟨bb, ob + k, none⟩ = some (.slice B' y.length d') ∧ Ext wr V))
            refine wp_region_held_drew (S := (fun V => V.cell? ⟨ba, oa + k, none⟩ = some (.slice A' x.length c') ∧ V.cell? ⟨bb, ob + k, none⟩ = some (.slice B' y.length d') ∧ Ext wr V)) (by kernel_rfl) ?hs25 (fun hHeld => ?go25)
            case hs25 => (exact MKR2.out _ (by repeat (first | with_reducible exact Ext.refl _ | with_reducible assumption | with_reducible refine Ext.drew ?_ | with_reducible refine Ext.drewN ?_ _ | with_reducible refine Ext.alloc ?_ _)))
            refine wpAnyH_take (i := 0) (oi := ⟨(some 17), (.move (.tmp 0)), 23, "ref.go:159", #[], none⟩) (v := ?v26) rfl (by kernel_rfl) (by kernel_rfl) (by kernel_rfl) (fun _ _ _ h => h) (Or.inl ⟨rfl, ?hy26⟩) hHeld ?rest26
            case hy26 => (intro w hSw; (try dsimp only at hSw); go_simp <;> first | with_reducible rfl | rw [if_neg (by omega)] | rw [if_pos (by omega)])
            (try simp only [Act.put]); (try simp only [List.setIfInBounds_toArray]); (try simp only [List.set_cons_succ]); (try simp only [List.set_cons_zero])
            refine wpAnyH_take (i := 1) (oi := ⟨(some 18), (.move (.tmp 5)), 3, "ref.go:159", #[], none⟩) (v := ?v27) rfl (by kernel_rfl) (by kernel_rfl) (by kernel_rfl) (fun _ _ _ h => h) (Or.inl ⟨rfl, ?hy27⟩) hHeld ?rest27
            case hy27 => (intro w hSw; (try dsimp only at hSw); go_simp <;> first | with_reducible rfl | rw [if_neg (by omega)] | rw [if_pos (by omega)])
            (try simp only [Act.put]); (try simp only [List.setIfInBounds_toArray]); (try simp only [List.set_cons_succ]); (try simp only [List.set_cons_zero])
            refine wpAnyH_take (i := 2) (oi := ⟨(some 19), (.indexAddr 23 (.tmp 17) (.tmp 18)), 0, "ref.go:159", #[⟨0, .data⟩, ⟨1, .data⟩], none⟩) (v := ?v28) rfl (by kernel_rfl) (by kernel_rfl) (by kernel_rfl) (fun _ _ _ h => h) (Or.inl ⟨rfl, ?hy28⟩) hHeld ?rest28
            case hy28 => (intro w hSw; (try dsimp only at hSw); go_simp <;> first | with_reducible rfl | rw [if_neg (by omega)] | rw [if_pos (by omega)])
            (try simp only [Act.put]); (try simp only [List.setIfInBounds_toArray]); (try simp only [List.set_cons_succ]); (try simp only [List.set_cons_zero])
            refine wpAnyH_take (i := 3) (oi := ⟨(some 20), (.load 37 (.tmp 19)), 37, "ref.go:159", #[⟨2, .data⟩], none⟩) (v := ?v29) rfl (by kernel_rfl) (by kernel_rfl) (by kernel_rfl) (fun _ _ _ h => h) (Or.inl ⟨rfl, ?hy29⟩) hHeld ?rest29
            case hy29 => (intro w hSw; (try dsimp only at hSw); go_simp <;> first | with_reducible rfl | rw [if_neg (by omega)] | rw [if_pos (by omega)])
            (try simp only [Act.put]); (try simp only [List.setIfInBounds_toArray]); (try simp only [List.set_cons_succ]); (try simp only [List.set_cons_zero])
            refine wpAnyH_take (i := 4) (oi := ⟨(some 21), (.call { callee := (.builtin .len), args := #[(.tmp 20)], argTypes := #[37] }), 3, "ref.go:159", #[⟨3, .data⟩], none⟩) (v := ?v30) rfl (by kernel_rfl) (by kernel_rfl) (by kernel_rfl) (fun _ _ _ h => h) (Or.inl ⟨rfl, ?hy30⟩) hHeld ?rest30
            case hy30 => (intro w hSw; (try dsimp only at hSw); go_simp <;> first | with_reducible rfl | rw [if_neg (by omega)] | rw [if_pos (by omega)])
            (try simp only [Act.put]); (try simp only [List.setIfInBounds_toArray]); (try simp only [List.set_cons_succ]); (try simp only [List.set_cons_zero])
            refine wpAnyH_take (i := 5) (oi := ⟨(some 22), (.move (.tmp 1)), 23, "ref.go:159", #[], none⟩) (v := ?v31) rfl (by kernel_rfl) (by kernel_rfl) (by kernel_rfl) (fun _ _ _ h => h) (Or.inl ⟨rfl, ?hy31⟩) hHeld ?rest31
            case hy31 => (intro w hSw; (try dsimp only at hSw); go_simp <;> first | with_reducible rfl | rw [if_neg (by omega)] | rw [if_pos (by omega)])
            (try simp only [Act.put]); (try simp only [List.setIfInBounds_toArray]); (try simp only [List.set_cons_succ]); (try simp only [List.set_cons_zero])
            refine wpAnyH_take (i := 6) (oi := ⟨(some 23), (.move (.tmp 5)), 3, "ref.go:159", #[], none⟩) (v := ?v32) rfl (by kernel_rfl) (by kernel_rfl) (by kernel_rfl) (fun _ _ _ h => h) (Or.inl ⟨rfl, ?hy32⟩) hHeld ?rest32
            case hy32 => (intro w hSw; (try dsimp only at hSw); go_simp <;> first | with_reducible rfl | rw [if_neg (by omega)] | rw [if_pos (by omega)])
            (try simp only [Act.put]); (try simp only [List.setIfInBounds_toArray]); (try simp only [List.set_cons_succ]); (try simp only [List.set_cons_zero])
            refine wpAnyH_take (i := 7) (oi := ⟨(some 24), (.indexAddr 23 (.tmp 22) (.tmp 23)), 0, "ref.go:159", #[⟨5, .data⟩, ⟨6, .data⟩], none⟩) (v := ?v33) rfl (by kernel_rfl) (by kernel_rfl) (by kernel_rfl) (fun _ _ _ h => h) (Or.inl ⟨rfl, ?hy33⟩) hHeld ?rest33
            case hy33 => (intro w hSw; (try dsimp only at hSw); go_simp <;> first | with_reducible rfl | rw [if_neg (by omega)] | rw [if_pos (by omega)])
            (try simp only [Act.put]); (try simp only [List.setIfInBounds_toArray]); (try simp only [List.set_cons_succ]); (try simp only [List.set_cons_zero])
            refine wpAnyH_take (i := 8) (oi := ⟨(some 25), (.load 37 (.tmp 24)), 37, "ref.go:159", #[⟨7, .data⟩], none⟩) (v := ?v34) rfl (by kernel_rfl) (by kernel_rfl) (by kernel_rfl) (fun _ _ _ h => h) (Or.inl ⟨rfl, ?hy34⟩) hHeld ?rest34
            case hy34 => (intro w hSw; (try dsimp only at hSw); go_simp <;> first | with_reducible rfl | rw [if_neg (by omega)] | rw [if_pos (by omega)])
            (try simp only [Act.put]); (try simp only [List.setIfInBounds_toArray]); (try simp only [List.set_cons_succ]); (try simp only [List.set_cons_zero])
            refine wpAnyH_take (i := 9) (oi := ⟨(some 26), (.call { callee := (.builtin .len), args := #[(.tmp 25)], argTypes := #[37] }), 3, "ref.go:159", #[⟨8, .data⟩], none⟩) (v := ?v35) rfl (by kernel_rfl) (by kernel_rfl) (by kernel_rfl) (fun _ _ _ h => h) (Or.inl ⟨rfl, ?hy35⟩) hHeld ?rest35
            case hy35 => (intro w hSw; (try dsimp only at hSw); go_simp <;> first | with_reducible rfl | rw [if_neg (by omega)] | rw [if_pos (by omega)])
            (try simp only [Act.put]); (try simp only [List.setIfInBounds_toArray]); (try simp only [List.set_cons_succ]); (try simp only [List.set_cons_zero])
            refine wpAnyH_take (i := 10) (oi := ⟨(some 27), (.binOp .neq 3 (.tmp 21) (.tmp 26) 3), 4, "ref.go:159", #[⟨4, .data⟩, ⟨9, .data⟩], none⟩) (v := ?v36) rfl (by kernel_rfl) (by kernel_rfl) (by kernel_rfl) (fun _ _ _ h => h) (Or.inl ⟨rfl, ?hy36⟩) hHeld ?rest36
            case hy36 => (intro w hSw; (try dsimp only at hSw); go_simp <;> first | with_reducible rfl | rw [if_neg (by omega)] | rw [if_pos (by omega)])
            (try simp only [Act.put]); (try simp only [List.setIfInBounds_toArray]); (try simp only [List.set_cons_succ]); (try simp only [List.set_cons_zero])
            refine wpAnyH_take (i := 11) (oi := ⟨(some 28), (.move (.tmp 27)), 4, "ref.go:159", #[⟨10, .data⟩], none⟩) (v := ?v37) rfl (by kernel_rfl) (by kernel_rfl) (by kernel_rfl) (fun _ _ _ h => h) (Or.inl ⟨rfl, ?hy37⟩) hHeld ?rest37
            case hy37 => (intro w hSw; (try dsimp only at hSw); go_simp <;> first | with_reducible rfl | rw [if_neg (by omega)] | rw [if_pos (by omega)])
            (try simp only [Act.put]); (try simp only [List.setIfInBounds_toArray]); (try simp only [List.set_cons_succ]); (try simp only [List.set_cons_zero])
            refine wpAnyH_take (i := 12) (oi := ⟨(some 29), (.move (.tmp 0)), 23, "ref.go:159", #[⟨11, .guard⟩], (some (11, false))⟩) (v := ?v38) rfl (by kernel_rfl) (by kernel_rfl) (by kernel_rfl) (fun _ _ _ h => h) (Or.inl ⟨rfl, ?hy38⟩) hHeld ?rest38
            case hy38 => (intro w hSw; (try dsimp only at hSw); go_simp <;> first | with_reducible rfl | rw [if_neg (by omega)] | rw [if_pos (by omega)])
            (try simp only [Act.put]); (try simp only [List.setIfInBounds_toArray]); (try simp only [List.set_cons_succ]); (try simp only [List.set_cons_zero])
            refine wpAnyH_take (i := 13) (oi := ⟨(some 30), (.move (.tmp 5)), 3, "ref.go:159", #[⟨11, .guard⟩], (some (11, false))⟩) (v := ?v39) rfl (by kernel_rfl) (by kernel_rfl) (by kernel_rfl) (fun _ _ _ h => h) (Or.inl ⟨rfl, ?hy39⟩) hHeld ?rest39
            case hy39 => (intro w hSw; (try dsimp only at hSw); go_simp <;> first | with_reducible rfl | rw [if_neg (by omega)] | rw [if_pos (by omega)])
            (try simp only [Act.put]); (try simp only [List.setIfInBounds_toArray]); (try simp only [List.set_cons_succ]); (try simp only [List.set_cons_zero])
            refine wpAnyH_take (i := 14) (oi := ⟨(some 31), (.indexAddr 23 (.tmp 29) (.tmp 30)), 0, "ref.go:159", #[⟨12, .data⟩, ⟨13, .data⟩, ⟨11, .guard⟩], (some (11, false))⟩) (v := ?v40) rfl (by kernel_rfl) (by kernel_rfl) (by kernel_rfl) (fun _ _ _ h => h) (Or.inl ⟨rfl, ?hy40⟩) hHeld ?rest40
            case hy40 => (intro w hSw; (try dsimp only at hSw); go_simp <;> first | with_reducible rfl | rw [if_neg (by omega)] | rw [if_pos (by omega)])
            (try simp only [Act.put]); (try simp only [List.setIfInBounds_toArray]); (try simp only [List.set_cons_succ]); (try simp only [List.set_cons_zero])
            refine wpAnyH_take (i := 15) (oi := ⟨(some 32), (.load 37 (.tmp 31)), 37, "ref.go:159", #[⟨14, .data⟩, ⟨11, .guard⟩], (some (11, false))⟩) (v := ?v41) rfl (by kernel_rfl) (by kernel_rfl) (by kernel_rfl) (fun _ _ _ h => h) (Or.inl ⟨rfl, ?hy41⟩) hHeld ?rest41
            case hy41 => (intro w hSw; (try dsimp only at hSw); go_simp <;> first | with_reducible rfl | rw [if_neg (by omega)] | rw [if_pos (by omega)])
            (try simp only [Act.put]); (try simp only [List.setIfInBounds_toArray]); (try simp only [List.set_cons_succ]); (try simp only [List.set_cons_zero])
            refine wpAnyH_take (i := 16) (oi := ⟨(some 33), (.move (.tmp 1)), 23, "ref.go:159", #[⟨11, .guard⟩], (some (11, false))⟩) (v := ?v42) rfl (by kernel_rfl) (by kernel_rfl) (by kernel_rfl) (fun _ _ _ h => h) (Or.inl ⟨rfl, ?hy42⟩) hHeld ?rest42
            case hy42 => (intro w hSw; (try dsimp only at hSw); go_simp <;> first | with_reducible rfl | rw [if_neg (by omega)] | rw [if_pos (by omega)])
            (try simp only [Act.put]); (try simp only [List.setIfInBounds_toArray]); (try simp only [List.set_cons_succ]); (try simp only [List.set_cons_zero])
            refine wpAnyH_take (i := 17) (oi := ⟨(some 34), (.move (.tmp 5)), 3, "ref.go:159", #[⟨11, .guard⟩], (some (11, false))⟩) (v := ?v43) rfl (by kernel_rfl) (by kernel_rfl) (by kernel_rfl) (fun _ _ _ h => h) (Or.inl ⟨rfl, ?hy43⟩) hHeld ?rest43
            case hy43 => (intro w hSw; (try dsimp only at hSw); go_simp <;> first | with_reducible rfl | rw [if_neg (by omega)] | rw [if_pos (by omega)])
            (try simp only [Act.put]); (try simp only [List.setIfInBounds_toArray]); (try simp only [List.set_cons_succ]); (try simp only [List.set_cons_zero])
            refine wpAnyH_take (i := 18) (oi := ⟨(some 35), (.indexAddr 23 (.tmp 33) (.tmp 34)), 0, "ref.go:159", #[⟨16, .data⟩, ⟨17, .data⟩, ⟨11, .guard⟩], (some (11, false))⟩) (v := ?v44) rfl (by kernel_rfl) (by kernel_rfl) (by kernel_rfl) (fun _ _ _ h => h) (Or.inl ⟨rfl, ?hy44⟩) hHeld ?rest44
            case hy44 => (intro w hSw; (try dsimp only at hSw); go_simp <;> first | with_reducible rfl | rw [if_neg (by omega)] | rw [if_pos (by omega)])
            (try simp only [Act.put]); (try simp only [List.setIfInBounds_toArray]); (try simp only [List.set_cons_succ]); (try simp only [List.set_cons_zero])
            refine wpAnyH_take (i := 19) (oi := ⟨(some 36), (.load 37 (.tmp 35)), 37, "ref.go:159", #[⟨18, .data⟩, ⟨11, .guard⟩], (some (11, false))⟩) (v := ?v45) rfl (by kernel_rfl) (by kernel_rfl) (by kernel_rfl) (fun _ _ _ h => h) (Or.inl ⟨rfl, ?hy45⟩) hHeld ?rest45
            case hy45 => (intro w hSw; (try dsimp only at hSw); go_simp <;> first | with_reducible rfl | rw [if_neg (by omega)] | rw [if_pos (by omega)])
            (try simp only [Act.put]); (try simp only [List.setIfInBounds_toArray]); (try simp only [List.set_cons_succ]); (try simp only [List.set_cons_zero])
            refine wpAnyH_ready (rs := [20]) (by kernel_rfl) (by simp) ?_
            refine AllReadyH.cons (o := ⟨(some 37), (.call { callee := (.value (.func 36)), args := #[(.tmp 32), (.tmp 36)], argTypes := #[37, 37] }), 3, "ref.go:159", #[⟨15, .data⟩, ⟨19, .data⟩, ⟨11, .chain⟩, ⟨11, .guard⟩], (some (11, false))⟩) rfl (fun K hK => ?step46x0) ?more46x0
            case more46x0 => exact AllReadyH.nil
            go_simp
            ((refine (HC.out _ (by repeat (first | with_reducible exact Ext.refl _ | with_reducible assumption | with_reducible refine Ext.drew ?_ | with_reducible refine Ext.drewN ?_ _ | with_reducible refine Ext.alloc ?_ _))).mono ?_; rintro e w' ⟨rfl, hb⟩; replace hb : Ext wr w' := Ext.trans (by repeat (first | with_reducible exact Ext.refl _ | with_reducible assumption | with_reducible refine Ext.drew ?_ | with_reducible refine Ext.drewN ?_ _ | with_reducible refine Ext.alloc ?_ _)) hb))
            refine hK.out _ _ ?hS46x0 (fun hHeld46 => ?rest46x0)
            case hS46x0 => first | (exact MKR2.out _ (by repeat (first | with_reducible exact Ext.refl _ | with_reducible assumption | with_reducible refine Ext.drew ?_ | with_reducible refine Ext.drewN ?_ _ | with_reducible refine Ext.alloc ?_ _))) | ((try dsimp only); (exact MKR2.out _ (by repeat (first | with_reducible exact Ext.refl _ | with_reducible assumption | with_reducible refine Ext.drew ?_ | with_reducible refine Ext.drewN ?_ _ | with_reducible refine Ext.alloc ?_ _))))
            clear hK K
            clear hHeld
            (try simp only [Act.put]); (try simp only [List.setIfInBounds_toArray]); (try simp only [List.set_cons_succ]); (try simp only [List.set_cons_zero])
            refine wpAnyH_take (i := 21) (oi := ⟨(some 38), (.binOp .neq 3 (.tmp 37) (.const (.int .i64 0)) 3), 4, "ref.go:159", #[⟨20, .data⟩, ⟨11, .guard⟩], (some (11, false))⟩) (v := ?v47) rfl (by kernel_rfl) (by kernel_rfl) (by kernel_rfl) (fun _ _ _ h => h) (Or.inl ⟨rfl, ?hy47⟩) hHeld46 ?rest47
            case hy47 => (intro w hSw; (try dsimp only at hSw); go_simp <;> first | with_reducible rfl | rw [if_neg (by omega)] | rw [if_pos (by omega)])
            (try simp only [Act.put]); (try simp only [List.setIfInBounds_toArray]); (try simp only [List.set_cons_succ]); (try simp only [List.set_cons_zero])
            refine wpAnyH_take (i := 22) (oi := ⟨(some 39), (.pick (.tmp 28) (.const (.bool true)) (.tmp 38)), 4, "ref.go:159", #[⟨11, .data⟩, ⟨21, .data⟩], none⟩) (v := ?v48) rfl (by kernel_rfl) (by kernel_rfl) (by kernel_rfl) (fun _ _ _ h => h) (Or.inl ⟨rfl, ?hy48⟩) hHeld46 ?rest48
            case hy48 => (intro w hSw; (try dsimp only at hSw); go_simp <;> first | with_reducible rfl | rw [if_neg (by omega)] | rw [if_pos (by omega)])
            (try simp only [Act.put]); (try simp only [List.setIfInBounds_toArray]); (try simp only [List.set_cons_succ]); (try simp only [List.set_cons_zero])
            refine wpAnyH_done (by kernel_rfl) ?_ _
            clear hHeld46
            clear MKR2
            go_wp2_with fail
            go_ret
            exact ⟨ret_bool HB3.out.symm, hE.trans hb⟩
        · have HB3 := Lib.hid (HBL.out hxl)
          have hxl2 : (((x.length : Int) != (y.length : Int))) = true := by simp; omega
          clear HG HB2 hxl HBL
          go_upto_region 6 with (fail)
          have MKR3 := Lib.hid (fun V (e : Ext wr V) => (⟨e.cell p1, e.cell p2, e⟩ : V.cell? ⟨ba, oa + k, none⟩ = some (.slice A' x.length c') ∧ V.cell? ⟨bb, ob + k, none⟩ = some (.slice B' y.length d') ∧ Ext wr V))
          refine wp_region_held_drew (S := (fun V => V.cell? ⟨ba, oa + k, none⟩ = some (.slice A' x.length c') ∧ V.cell? ⟨bb, ob + k, none⟩ = some (.slice B' y.length d') ∧ Ext wr V)) (by kernel_rfl) ?hs49 (fun hHeld => ?go49)
          case hs49 => (exact MKR3.out _ (by repeat (first | with_reducible exact Ext.refl _ | with_reducible assumption | with_reducible refine Ext.drew ?_ | with_reducible refine Ext.drewN ?_ _ | with_reducible refine Ext.alloc ?_ _)))
          refine wpAnyH_take (i := 0) (oi := ⟨(some 17), (.move (.tmp 0)), 23, "ref.go:159", #[], none⟩) (v := ?v50) rfl (by kernel_rfl) (by kernel_rfl) (by kernel_rfl) (fun _ _ _ h => h) (Or.inl ⟨rfl, ?hy50⟩) hHeld ?rest50
          case hy50 => (intro w hSw; (try dsimp only at hSw); go_simp <;> first | with_reducible rfl | rw [if_neg (by omega)] | rw [if_pos (by omega)])
          (try simp only [Act.put]); (try simp only [List.setIfInBounds_toArray]); (try simp only [List.set_cons_succ]); (try simp only [List.set_cons_zero])
          refine wpAnyH_take (i := 1) (oi := ⟨(some 18), (.move (.tmp 5)), 3, "ref.go:159", #[], none⟩) (v := ?v51) rfl (by kernel_rfl) (by kernel_rfl) (by kernel_rfl) (fun _ _ _ h => h) (Or.inl ⟨rfl, ?hy51⟩) hHeld ?rest51
          case hy51 => (intro w hSw; (try dsimp only at hSw); go_simp <;> first | with_reducible rfl | rw [if_neg (by omega)] | rw [if_pos (by omega)])
          (try simp only [Act.put]); (try simp only [List.setIfInBounds_toArray]); (try simp only [List.set_cons_succ]); (try simp only [List.set_cons_zero])
          refine wpAnyH_take (i := 2) (oi := ⟨(some 19), (.indexAddr 23 (.tmp 17) (.tmp 18)), 0, "ref.go:159", #[⟨0, .data⟩, ⟨1, .data⟩], none⟩) (v := ?v52) rfl (by kernel_rfl) (by kernel_rfl) (by kernel_rfl) (fun _ _ _ h => h) (Or.inl ⟨rfl, ?hy52⟩) hHeld ?rest52
          case hy52 => (intro w hSw; (try dsimp only at hSw); go_simp <;> first | with_reducible rfl | rw [if_neg (by omega)] | rw [if_pos (by omega)])
          (try simp only [Act.put]); (try simp only [List.setIfInBounds_toArray]); (try simp only [List.set_cons_succ]); (try simp only [List.set_cons_zero])
          refine wpAnyH_take (i := 3) (oi := ⟨(some 20), (.load 37 (.tmp 19)), 37, "ref.go:159", #[⟨2, .data⟩], none⟩) (v := ?v53) rfl (by kernel_rfl) (by kernel_rfl) (by kernel_rfl) (fun _ _ _ h => h) (Or.inl ⟨rfl, ?hy53⟩) hHeld ?rest53
          case hy53 => (intro w hSw; (try dsimp only at hSw); go_simp <;> first | with_reducible rfl | rw [if_neg (by omega)] | rw [if_pos (by omega)])
          (try simp only [Act.put]); (try simp only [List.setIfInBounds_toArray]); (try simp only [List.set_cons_succ]); (try simp only [List.set_cons_zero])
          refine wpAnyH_take (i := 4) (oi := ⟨(some 21), (.call { callee := (.builtin .len), args := #[(.tmp 20)], argTypes := #[37] }), 3, "ref.go:159", #[⟨3, .data⟩], none⟩) (v := ?v54) rfl (by kernel_rfl) (by kernel_rfl) (by kernel_rfl) (fun _ _ _ h => h) (Or.inl ⟨rfl, ?hy54⟩) hHeld ?rest54
          case hy54 => (intro w hSw; (try dsimp only at hSw); go_simp <;> first | with_reducible rfl | rw [if_neg (by omega)] | rw [if_pos (by omega)])
          (try simp only [Act.put]); (try simp only [List.setIfInBounds_toArray]); (try simp only [List.set_cons_succ]); (try simp only [List.set_cons_zero])
          refine wpAnyH_take (i := 5) (oi := ⟨(some 22), (.move (.tmp 1)), 23, "ref.go:159", #[], none⟩) (v := ?v55) rfl (by kernel_rfl) (by kernel_rfl) (by kernel_rfl) (fun _ _ _ h => h) (Or.inl ⟨rfl, ?hy55⟩) hHeld ?rest55
          case hy55 => (intro w hSw; (try dsimp only at hSw); go_simp <;> first | with_reducible rfl | rw [if_neg (by omega)] | rw [if_pos (by omega)])
          (try simp only [Act.put]); (try simp only [List.setIfInBounds_toArray]); (try simp only [List.set_cons_succ]); (try simp only [List.set_cons_zero])
          refine wpAnyH_take (i := 6) (oi := ⟨(some 23), (.move (.tmp 5)), 3, "ref.go:159", #[], none⟩) (v := ?v56) rfl (by kernel_rfl) (by kernel_rfl) (by kernel_rfl) (fun _ _ _ h => h) (Or.inl ⟨rfl, ?hy56⟩) hHeld ?rest56
          case hy56 => (intro w hSw; (try dsimp only at hSw); go_simp <;> first | with_reducible rfl | rw [if_neg (by omega)] | rw [if_pos (by omega)])
          (try simp only [Act.put]); (try simp only [List.setIfInBounds_toArray]); (try simp only [List.set_cons_succ]); (try simp only [List.set_cons_zero])
          refine wpAnyH_take (i := 7) (oi := ⟨(some 24), (.indexAddr 23 (.tmp 22) (.tmp 23)), 0, "ref.go:159", #[⟨5, .data⟩, ⟨6, .data⟩], none⟩) (v := ?v57) rfl (by kernel_rfl) (by kernel_rfl) (by kernel_rfl) (fun _ _ _ h => h) (Or.inl ⟨rfl, ?hy57⟩) hHeld ?rest57
          case hy57 => (intro w hSw; (try dsimp only at hSw); go_simp <;> first | with_reducible rfl | rw [if_neg (by omega)] | rw [if_pos (by omega)])
          (try simp only [Act.put]); (try simp only [List.setIfInBounds_toArray]); (try simp only [List.set_cons_succ]); (try simp only [List.set_cons_zero])
          refine wpAnyH_take (i := 8) (oi := ⟨(some 25), (.load 37 (.tmp 24)), 37, "ref.go:159", #[⟨7, .data⟩], none⟩) (v := ?v58) rfl (by kernel_rfl) (by kernel_rfl) (by kernel_rfl) (fun _ _ _ h => h) (Or.inl ⟨rfl, ?hy58⟩) hHeld ?rest58
          case hy58 => (intro w hSw; (try dsimp only at hSw); go_simp <;> first | with_reducible rfl | rw [if_neg (by omega)] | rw [if_pos (by omega)])
          (try simp only [Act.put]); (try simp only [List.setIfInBounds_toArray]); (try simp only [List.set_cons_succ]); (try simp only [List.set_cons_zero])
          refine wpAnyH_take (i := 9) (oi := ⟨(some 26), (.call { callee := (.builtin .len), args := #[(.tmp 25)], argTypes := #[37] }), 3, "ref.go:159", #[⟨8, .data⟩], none⟩) (v := ?v59) rfl (by kernel_rfl) (by kernel_rfl) (by kernel_rfl) (fun _ _ _ h => h) (Or.inl ⟨rfl, ?hy59⟩) hHeld ?rest59
          case hy59 => (intro w hSw; (try dsimp only at hSw); go_simp <;> first | with_reducible rfl | rw [if_neg (by omega)] | rw [if_pos (by omega)])
          (try simp only [Act.put]); (try simp only [List.setIfInBounds_toArray]); (try simp only [List.set_cons_succ]); (try simp only [List.set_cons_zero])
          refine wpAnyH_take (i := 10) (oi := ⟨(some 27), (.binOp .neq 3 (.tmp 21) (.tmp 26) 3), 4, "ref.go:159", #[⟨4, .data⟩, ⟨9, .data⟩], none⟩) (v := ?v60) rfl (by kernel_rfl) (by kernel_rfl) (by kernel_rfl) (fun _ _ _ h => h) (Or.inl ⟨rfl, ?hy60⟩) hHeld ?rest60
          case hy60 => (intro w hSw; (try dsimp only at hSw); go_simp <;> first | with_reducible rfl | rw [if_neg (by omega)] | rw [if_pos (by omega)])
          (try simp only [Act.put]); (try simp only [List.setIfInBounds_toArray]); (try simp only [List.set_cons_succ]); (try simp only [List.set_cons_zero])
          refine wpAnyH_take (i := 11) (oi := ⟨(some 28), (.move (.tmp 27)), 4, "ref.go:159", #[⟨10, .data⟩], none⟩) (v := ?v61) rfl (by kernel_rfl) (by kernel_rfl) (by kernel_rfl) (fun _ _ _ h => h) (Or.inl ⟨rfl, ?hy61⟩) hHeld ?rest61
          case hy61 => (intro w hSw; (try dsimp only at hSw); go_simp <;> first | with_reducible rfl | rw [if_neg (by omega)] | rw [if_pos (by omega)])
          (try simp only [Act.put]); (try simp only [List.setIfInBounds_toArray]); (try simp only [List.set_cons_succ]); (try simp only [List.set_cons_zero])
          refine wpAnyH_take (i := 12) (oi := ⟨(some 29), (.move (.tmp 0)), 23, "ref.go:159", #[⟨11, .guard⟩], (some (11, false))⟩) (v := undef) rfl (by kernel_rfl) (by kernel_rfl) (by kernel_rfl) (fun _ _ _ h => h) (Or.inr ⟨rfl, rfl⟩) hHeld ?rest62
          (try simp only [Act.put]); (try simp only [List.setIfInBounds_toArray]); (try simp only [List.set_cons_succ]); (try simp only [List.set_cons_zero])
          refine wpAnyH_take (i := 13) (oi := ⟨(some 30), (.move (.tmp 5)), 3, "ref.go:159", #[⟨11, .guard⟩], (some (11, false))⟩) (v := undef) rfl (by kernel_rfl) (by kernel_rfl) (by kernel_rfl) (fun _ _ _ h => h) (Or.inr ⟨rfl, rfl⟩) hHeld ?rest63
          (try simp only [Act.put]); (try simp only [List.setIfInBounds_toArray]); (try simp only [List.set_cons_succ]); (try simp only [List.set_cons_zero])
          refine wpAnyH_take (i := 14) (oi := ⟨(some 31), (.indexAddr 23 (.tmp 29) (.tmp 30)), 0, "ref.go:159", #[⟨12, .data⟩, ⟨13, .data⟩, ⟨11, .guard⟩], (some (11, false))⟩) (v := undef) rfl (by kernel_rfl) (by kernel_rfl) (by kernel_rfl) (fun _ _ _ h => h) (Or.inr ⟨rfl, rfl⟩) hHeld ?rest64
          (try simp only [Act.put]); (try simp only [List.setIfInBounds_toArray]); (try simp only [List.set_cons_succ]); (try simp only [List.set_cons_zero])
          refine wpAnyH_take (i := 15) (oi := ⟨(some 32), (.load 37 (.tmp 31)), 37, "ref.go:159", #[⟨14, .data⟩, ⟨11, .guard⟩], (some (11, false))⟩) (v := undef) rfl (by kernel_rfl) (by kernel_rfl) (by kernel_rfl) (fun _ _ _ h => h) (Or.inr ⟨rfl, rfl⟩) hHeld ?rest65
          (try simp only [Act.put]); (try simp only [List.setIfInBounds_toArray]); (try simp only [List.set_cons_succ]); (try simp only [List.set_cons_zero])
          refine wpAnyH_take (i := 16) (oi := ⟨(some 33), (.move (.tmp 1)), 23, "ref.go:159", #[⟨11, .guard⟩], (some (11, false))⟩) (v := undef) rfl (by kernel_rfl) (by kernel_rfl) (by kernel_rfl) (fun _ _ _ h => h) (Or.inr ⟨rfl, rfl⟩) hHeld ?rest66
          (try simp only [Act.put]); (try simp only [List.setIfInBounds_toArray]); (try simp only [List.set_cons_succ]); (try simp only [List.set_cons_zero])
          refine wpAnyH_take (i := 17) (oi := ⟨(some 34), (.move (.tmp 5)), 3, "ref.go:159", #[⟨11, .guard⟩], (some (11, false))⟩) (v := undef) rfl (by kernel_rfl) (by kernel_rfl) (by kernel_rfl) (fun _ _ _ h => h) (Or.inr ⟨rfl, rfl⟩) hHeld ?rest67
          (try simp only [Act.put]); (try simp only [List.setIfInBounds_toArray]); (try simp only [List.set_cons_succ]); (try simp only [List.set_cons_zero])
          refine wpAnyH_take (i := 18) (oi := ⟨(some 35), (.indexAddr 23 (.tmp 33) (.tmp 34)), 0, "ref.go:159", #[⟨16, .data⟩, ⟨17, .data⟩, ⟨11, .guard⟩], (some (11, false))⟩) (v := undef) rfl (by kernel_rfl) (by kernel_rfl) (by kernel_rfl) (fun _ _ _ h => h) (Or.inr ⟨rfl, rfl⟩) hHeld ?rest68
          (try simp only [Act.put]); (try simp only [List.setIfInBounds_toArray]); (try simp only [List.set_cons_succ]); (try simp only [List.set_cons_zero])
          refine wpAnyH_take (i := 19) (oi := ⟨(some 36), (.load 37 (.tmp 35)), 37, "ref.go:159", #[⟨18, .data⟩, ⟨11, .guard⟩], (some (11, false))⟩) (v := undef) rfl (by kernel_rfl) (by kernel_rfl) (by kernel_rfl) (fun _ _ _ h => h) (Or.inr ⟨rfl, rfl⟩) hHeld ?rest69
          (try simp only [Act.put]); (try simp only [List.setIfInBounds_toArray]); (try simp only [List.set_cons_succ]); (try simp only [List.set_cons_zero])
          refine wpAnyH_take (i := 20) (oi := ⟨(some 37), (.call { callee := (.value (.func 36)), args := #[(.tmp 32), (.tmp 36)], argTypes := #[37, 37] }), 3, "ref.go:159", #[⟨15, .data⟩, ⟨19, .data⟩, ⟨11, .chain⟩, ⟨11, .guard⟩], (some (11, false))⟩) (v := undef) rfl (by kernel_rfl) (by kernel_rfl) (by kernel_rfl) (fun _ _ _ h => h) (Or.inr ⟨rfl, rfl⟩) hHeld ?rest70
          (try simp only [Act.put]); (try simp only [List.setIfInBounds_toArray]); (try simp only [List.set_cons_succ]); (try simp only [List.set_cons_zero])
          refine wpAnyH_take (i := 21) (oi := ⟨(some 38), (.binOp .neq 3 (.tmp 37) (.const (.int .i64 0)) 3), 4, "ref.go:159", #[⟨20, .data⟩, ⟨11, .guard⟩], (some (11, false))⟩) (v := undef) rfl (by kernel_rfl) (by kernel_rfl) (by kernel_rfl) (fun _ _ _ h => h) (Or.inr ⟨rfl, rfl⟩) hHeld ?rest71
          (try simp only [Act.put]); (try simp only [List.setIfInBounds_toArray]); (try simp only [List.set_cons_succ]); (try simp only [List.set_cons_zero])
          refine wpAnyH_take (i := 22) (oi := ⟨(some 39), (.pick (.tmp 28) (.const (.bool true)) (.tmp 38)), 4, "ref.go:159", #[⟨11, .data⟩, ⟨21, .data⟩], none⟩) (v := ?v72) rfl (by kernel_rfl) (by kernel_rfl) (by kernel_rfl) (fun _ _ _ h => h) (Or.inl ⟨rfl, ?hy72⟩) hHeld ?rest72
          case hy72 => (intro w hSw; (try dsimp only at hSw); go_simp <;> first | with_reducible rfl | rw [if_neg (by omega)] | rw [if_pos (by omega)])
          (try simp only [Act.put]); (try simp only [List.setIfInBounds_toArray]); (try simp only [List.set_cons_succ]); (try simp only [List.set_cons_zero])
          refine wpAnyH_done (by kernel_rfl) ?_ _
          clear hHeld
          clear MKR3
          go_wp2_with fail
          go_ret
          exact ⟨ret_bool HB3.out.symm, hE.drew⟩
      · have HF := Lib.hid (HY.out (fun i h1 h2 => hgd.out i h1 h2 (by omega)))
        go_wp2_with fail
        go_ret
        exact ⟨ret_bool HF.out.symm, hE⟩
  · have hl0 : (((a.length : Int) != (b.length : Int))) = true := by simp; omega
    have HF := Lib.hid (show decide (a = b) = false from decide_eq_false (fun e => hl (by rw [e])))
    clear hl
    go_enter Tryz.func26, Tryz.ntmps26
    go_wp2_with fail
    go_ret
    exact ⟨ret_bool HF.out.symm, Ext.refl _⟩
def sameT (t u : Tab) : Bool := decide (t.cols = u.cols) && decide (t.rows = u.rows)
set_option maxRecDepth 100000 in
set_option maxHeartbeats 1600000 in
theorem r_Same (t u : Tab) (ok ok' : Nat → Prop) (A B A' B' : Option Addr) (c d c' d' : Nat) (w : World) (ha : TabAt w ok A B t) (hb : TabAt w ok' A' B' u) (hza : ∀ r ∈ t.rows, szL r) (hzb : ∀ r ∈ u.rows, szL r) :
    Calls Tryz.prog 14 #[.agg #[.slice A t.cols.length c, .slice B t.rows.length d], .agg #[.slice A' u.cols.length c', .slice B' u.rows.length d']] w fun e w' => e = .returned (.bool (sameT t u)) ∧ Ext w w' := by
  obtain ⟨q, w2, hq, hw2, q0, q1, p0, p1, hxw⟩ := box_tab2 w A B A' B' t.cols.length c t.rows.length d u.cols.length c' u.rows.length d' 25 25
  have hla := ha.cols.len
  have hlb := hb.cols.len
  have HA := Lib.hid (ha.cols.ext hxw)
  have HB := Lib.hid (hb.cols.ext hxw)
  have HS := Lib.hid (fun W (e : Ext w2 W) => r_SameRows t.rows u.rows ok ok' B B' d d' W (ha.rows.ext (hxw.trans e)) (hb.rows.ext (hxw.trans e)) hza hzb)
  have HW2 := Lib.hid hw2
  have HG := Lib.hid hq
  clear ha hb hza hzb hw2 hq
  obtain ⟨R, hR⟩ : ∃ R, R = sameT t u := ⟨_, rfl⟩
  have HRE := Lib.hid (show R = (decide (t.cols = u.cols) && decide (t.rows = u.rows)) from hR)
  rw [← hR]
  clear hR
  generalize decide (t.rows = u.rows) = z at *
  generalize t.cols = l at *
  generalize u.cols = m at *
  generalize t.rows.length = n1 at *
  generalize u.rows.length = n2 at *
  by_cases hl : l.length = m.length
  · have hl1 : l.length ≤ m.length := by omega
    have hl2 : m.length ≤ l.length := by omega
    have hl0 : (((l.length : Int) != (m.length : Int))) = false := by simp; omega
    have HY := Lib.hid (fun (h : ∀ i (h1 : i < l.length) (h2 : i < m.length), l[i] = m[i]) => (by rw [HRE.out, decide_eq_true (List.ext_getElem hl h), Bool.true_and] : R = z))
    have HN := Lib.hid (fun i (h1 : i < l.length) (h2 : i < m.length) (h : l[i] ≠ m[i]) => (by rw [HRE.out, decide_eq_false (fun e => h (by subst e; rfl)), Bool.false_and] : R = false))
    clear hl HRE
    go_enter Tryz.func14, Tryz.ntmps14
    go_upto_region 1 with (fail)
    rw [← HW2.out, ← HG.out]
    clear HW2 HG
    go_wp2_with fail
    clear hl0
    go_loopw [5] (fun v W => ∃ k : Nat, v = .int .i64 k ∧ k ≤ l.length ∧ Hid (∀ i (h1 : i < l.length) (h2 : i < m.length), i < k → l[i] = m[i]) ∧ Ext w2 W) (fun v _ => l.length - (intOf v).toNat)
    case atStart => exact ⟨0, rfl, Nat.zero_le _, Lib.hid (fun i _ _ hi => absurd hi (Nat.not_lt_zero _)), Ext.refl _⟩
    case round =>
      obtain ⟨k, rfl, hk, hgd, hE⟩ := hrel
      have s0 := hE.cell q0
      have s1 := hE.cell q1
      have t0 := hE.cell p0
      have t1 := hE.cell p1
      by_cases hlt : k < l.length
      · have hltb : k < m.length := by omega
        obtain ⟨ba, oa, rfl, hca⟩ := HA.out.2 (by omega)
        obtain ⟨bb, ob, rfl, hcb⟩ := HB.out.2 (by omega)
        have hc1 := (hca k hlt).2
        have hc2 := (hcb k hltb).2
        rw [Nat.mul_one] at hc1 hc2
        have d1 := hE.cell hc1
        have d2 := hE.cell hc2
        have HG2 := Lib.hid (fun (h : l[k] = m[k]) => (fun i h1 h2 hi => if e : i = k then by subst e; exact h else hgd.out i h1 h2 (by omega) : ∀ i (h1 : i < l.length) (h2 : i < m.length), i < k + 1 → l[i] = m[i]))
        have HB2 := Lib.hid (fun (h : l[k] ≠ m[k]) => HN.out k hlt hltb h)
        clear hc1 hc2 hca hcb
        generalize l[k] = x at *
        generalize m[k] = y at *
        go_upto_region 6 with (fail)
        by_cases hxy : x = y
        · have HG3 := Lib.hid (HG2.out hxy)
          have hq2 := str_eq hxy
          clear hxy HG2 HB2
          (have MKR4 := Lib.hid (fun V (e : Ext wr V) => (⟨e.cell s0, e.cell t0, e.cell d1, e.cell d2, e⟩ : V.cell? ⟨q, 0, none⟩ = some (.slice (some ⟨ba, oa, none⟩) l.length c) ∧ V.cell? ⟨q + 1, 0, none⟩ = some (.slice (some ⟨bb, ob, none⟩) m.length c') ∧ V.cell? ⟨ba, oa + k, none⟩ = some (.string x) ∧ V.cell? ⟨bb, ob + k, none⟩ = some (.string y) ∧ Ext wr V)); go_region_held3 (fun V => V.cell? ⟨q, 0, none⟩ = some (.slice (some ⟨ba, oa, none⟩) l.length c) ∧ V.cell? ⟨q + 1, 0, none⟩ = some (.slice (some ⟨bb, ob, none⟩) m.length c') ∧ V.cell? ⟨ba, oa + k, none⟩ = some (.string x) ∧ V.cell? ⟨bb, ob + k, none⟩ = some (.string y) ∧ Ext wr V) ((exact MKR4.out _ (by repeat (first | with_reducible exact Ext.refl _ | with_reducible assumption | with_reducible refine Ext.drew ?_ | with_reducible refine Ext.drewN ?_ _ | with_reducible refine Ext.alloc ?_ _)))) ((fail)); clear MKR4)
          go_wp2_with fail
          go_roundw
          case rel => exact ⟨k + 1, by go_num, by omega, HG3, hE.drew⟩
          case measure => simp [intOf]; omega
        · have HG3 := Lib.hid (HB2.out hxy)
          have hq2 := str_ne hxy
          clear hxy HG2 HB2
          (have MKR5 := Lib.hid (fun V (e : Ext wr V) => (⟨e.cell s0, e.cell t0, e.cell d1, e.cell d2, e⟩ : V.cell? ⟨q, 0, none⟩ = some (.slice (some ⟨ba, oa, none⟩) l.length c) ∧ V.cell? ⟨q + 1, 0, none⟩ = some (.slice (some ⟨bb, ob, none⟩) m.length c') ∧ V.cell? ⟨ba, oa + k, none⟩ = some (.string x) ∧ V.cell? ⟨bb, ob + k, none⟩ = some (.string y) ∧ Ext wr V)); go_region_held3 (fun V => V.cell? ⟨q, 0, none⟩ = some (.slice (some ⟨ba, oa, none⟩) l.length c) ∧ V.cell? ⟨q + 1, 0, none⟩ = some (.slice (some ⟨bb, ob, none⟩) m.length c') ∧ V.cell? ⟨ba, oa + k, none⟩ = some (.string x) ∧ V.cell? ⟨bb, ob + k, none⟩ = some (.string y) ∧ Ext wr V) ((exact MKR5.out _ (by repeat (first | with_reducible exact Ext.refl _ | with_reducible assumption | with_reducible refine Ext.drew ?_ | with_reducible refine Ext.drewN ?_ _ | with_reducible refine Ext.alloc ?_ _)))) ((fail)); clear MKR5)
          go_wp2_with fail
          go_ret
          exact ⟨ret_bool HG3.out.symm, hxw.trans hE.drew⟩
      · have HX := Lib.hid (HY.out (fun i h1 h2 => hgd.out i h1 h2 (by omega)))
        go_wp2_with (go_at_call 26; ((with_reducible refine (HS.out _ hE).mono ?_); rintro e w4 ⟨rfl, hx4⟩))
        go_ret
        exact ⟨ret_bool HX.out.symm, hxw.trans (hE.trans hx4)⟩
  · have hl0 : (((l.length : Int) != (m.length : Int))) = true := by simp; omega
    have HF := Lib.hid (show R = false by rw [HRE.out, decide_eq_false (fun e => hl (by rw [e])), Bool.false_and])
    clear hl
    go_enter Tryz.func14, Tryz.ntmps14
    go_upto_region 1 with (fail)
    rw [← HW2.out, ← HG.out]
    clear HW2 HG
    go_wp2_with fail
    go_ret
    exact ⟨ret_bool HF.out.symm, hxw⟩
end Go.Proofs.YtbjddimafilflaaGreatDoor

/- THE WALKS over the law's num and small; rows, strings and tables that are written out. -/
namespace Go.Proofs.YtbjddimafilflaaGreatDoor
open Go.RowKit Go.Sort
def numV (n : Int) : Val := .mk 2 n 0 ByteArray.empty []
def numC (n : Int) : List Value := [.int .i64 2, .int .i64 n, .int .i64 0, .string ByteArray.empty, .slice none 0 0]
set_option maxRecDepth 100000 in
theorem l_num (n : Int) (w : World) : Calls Tryz.prog 29 #[.int .i64 n] w fun e w' => e = .returned (.agg #[.int .i64 2, .int .i64 n, .int .i64 0, .string ByteArray.empty, .slice none 0 0]) ∧ Ext w w' := by
  obtain ⟨g, w1, hg, hw1, ⟨p0, p1, p2, p3, p4⟩, hx, -⟩ := box_val w (.mk 2 n 0 ByteArray.empty []) none 0 40
  change w1 = w.alloc (.cells #[.int .i64 2, .int .i64 n, .int .i64 0, .string ⟨#[]⟩, .slice none 0 0] 40) at hw1
  have HW1 := Lib.hid hw1
  have HG := Lib.hid hg
  clear hw1 hg
  go_enter Tryz.func29, Tryz.ntmps29
  go_wp2_with fail
  rw [← HW1.out, ← HG.out]
  exact bodyPost_ret (v := .agg #[.int .i64 2, .int .i64 n, .int .i64 0, .string ByteArray.empty, .slice none 0 0]) (by simp [results, Tryz.results29, go_sem, show w1.cell? ⟨g, 0, none⟩ = some (.int .i64 2) from p0, show w1.cell? ⟨g, 1, none⟩ = some (.int .i64 n) from p1, show w1.cell? ⟨g, 2, none⟩ = some (.int .i64 0) from p2, show w1.cell? ⟨g, 3, none⟩ = some (.string ByteArray.empty) from p3, show w1.cell? ⟨g, 4, none⟩ = some (.slice none 0 0) from p4] <;> rfl) rfl ⟨rfl, hx⟩
/-- a table that the laws look at closely -/
def Sm (t : Tab) : Prop := t.cols.length ≤ 10 ∧ wtR t.rows ≤ 300 ∧ t.rows.length ≤ 40
theorem Sm.fit {t : Tab} (h : Sm t) (hs : ∀ r ∈ t.rows, szL r) : TabFit t := ⟨by have := h.1; omega, by have := h.2.2; omega, fun r hr => ⟨hs r hr, by have := wtR_mem hr; have := h.2.1; omega⟩⟩
def SmallR (t : Tab) (w : World) (e : Ending) (w' : World) : Prop := ∃ s : Bool, e = .returned (.bool s) ∧ (s = true → Sm t) ∧ Ext w w'
set_option maxRecDepth 100000 in
set_option maxHeartbeats 1600000 in
theorem l_small (t : Tab) (ok : Nat → Prop) (A B : Option Addr) (c d : Nat) (w : World) (hv : TabAt w ok A B t) (hs : ∀ r ∈ t.rows, szL r) :
    Calls Tryz.prog 9 #[.agg #[.slice A t.cols.length c, .slice B t.rows.length d]] w (SmallR t w) := by
  obtain ⟨q, w1, hq, hw1, q0, q1, hx⟩ := box_tab w A B t.cols.length c t.rows.length d 25
  have hm1 := hv.cols.len
  have hm2 := hv.rows.len
  have HL := Lib.hid (r4_Light t.rows ok B d w1 (hv.rows.ext hx) hs)
  have HS := Lib.hid (show ∀ (h1 : t.cols.length ≤ 10) (h2 : wtR t.rows ≤ 300) (h3 : t.rows.length ≤ 40), Sm t from fun h1 h2 h3 => ⟨h1, h2, h3⟩)
  have HW1 := Lib.hid hw1
  have HG := Lib.hid hq
  clear hv hs hw1 hq
  generalize t.cols.length = n at *
  generalize t.rows.length = m at *
  go_enter Tryz.func9, Tryz.ntmps9
  go_upto_region 1 with (fail)
  rw [← HW1.out, ← HG.out]
  clear HW1 HG
  by_cases hn : n ≤ 10
  · by_cases hmm : m ≤ 40
    · go_wp2_with (go_at_call 27; ((with_reducible refine (HL.out).mono ?_); rintro e w2 ⟨s, rfl, hs2, hx2⟩; have HS2 := Lib.hid hs2; clear hs2; have q1' := hx2.cell q1; cases s))
      · go_ret
        exact ⟨_, rfl, fun h => absurd h Bool.false_ne_true, hx.trans hx2⟩
      · go_ret
        exact ⟨_, rfl, fun _ => HS.out hn (by first | exact HS2.out rfl | exact HS2.out trivial) hmm, hx.trans hx2⟩
    · go_wp2_with (go_at_call 27; ((with_reducible refine (HL.out).mono ?_); rintro e w2 ⟨s, rfl, hs2, hx2⟩; have HS2 := Lib.hid hs2; clear hs2; have q1' := hx2.cell q1; cases s))
      · go_ret
        exact ⟨_, rfl, fun h => absurd h Bool.false_ne_true, hx.trans hx2⟩
      · go_ret
        exact ⟨_, rfl, fun h => absurd (of_decide_eq_true h) (by omega), hx.trans hx2⟩
  · go_wp2_with fail
    go_ret
    exact ⟨false, rfl, fun h => absurd h Bool.false_ne_true, hx⟩
theorem numC_len (n : Int) : (numC n).length = 5 := rfl
theorem row_lit (W : World) (l : List Int) (hl : l.length ≤ 1000) : ∃ g W', g = W.heap.size ∧ W' = W.alloc (.cells (l.flatMap numC).toArray 40) ∧ Vals W' (fun _ => True) (some ⟨g, 0, none⟩) (l.map numV) ∧ Ext W W' := by
  refine ⟨_, _, rfl, rfl, ⟨by rw [List.length_map]; omega, fun _ => ⟨W.heap.size, 0, rfl, fun k hk => ?_⟩⟩, (Ext.refl _).alloc _⟩
  rw [List.length_map] at hk
  have hc : ∀ j, j < 5 → (W.alloc (.cells (l.flatMap numC).toArray 40)).cell? ⟨W.heap.size, 0 + k * 5 + j, none⟩ = (numC l[k])[j]? := fun j hj => by
    rw [cell_of_row _ _ _ _ _ _ (heap_alloc_new W _), Nat.zero_add]
    simp only [List.getElem?_toArray]
    exact flat_get numC 5 numC_len l k j hk hj
  rw [List.getElem_map]
  exact VCells.iff.2 ⟨trivial, none, 0, ⟨hc 0 (by decide), hc 1 (by decide), hc 2 (by decide), hc 3 (by decide), hc 4 (by decide)⟩, Nat.le_refl _, SliceR.nil _ _ _⟩
theorem rows_lit (W : World) (A1 A2 : Option Addr) (c1 c2 : Nat) (r1 r2 : List Val) (h1 : Vals W (fun _ => True) A1 r1) (h2 : Vals W (fun _ => True) A2 r2) (k1 : r1.length ≤ c1) (k2 : r2.length ≤ c2) : ∃ g W', g = W.heap.size ∧ W' = W.alloc (.cells #[.slice A1 r1.length c1, .slice A2 r2.length c2] 37) ∧ Rows W' (fun _ => True) (some ⟨g, 0, none⟩) [r1, r2] ∧ Ext W W' := by
  refine ⟨_, _, rfl, rfl, ⟨by simp, fun _ => ⟨W.heap.size, 0, rfl, fun k hk => ?_⟩⟩, (Ext.refl _).alloc _⟩
  match k, hk with
  | 0, _ => exact ⟨trivial, A1, c1, by rw [cell_of_row _ _ _ _ _ _ (heap_alloc_new W _)]; rfl, k1, h1.ext ((Ext.refl _).alloc _)⟩
  | 1, _ => exact ⟨trivial, A2, c2, by rw [cell_of_row _ _ _ _ _ _ (heap_alloc_new W _)]; rfl, k2, h2.ext ((Ext.refl _).alloc _)⟩
theorem strs_lit (W : World) (l : List ByteArray) (hl : l.length ≤ 1000) : ∃ g W', g = W.heap.size ∧ W' = W.alloc (.cells (l.map Value.string).toArray 9) ∧ Strs W' (fun _ => True) (some ⟨g, 0, none⟩) l ∧ Ext W W' := by
  refine ⟨_, _, rfl, rfl, ⟨by omega, fun _ => ⟨W.heap.size, 0, rfl, fun k hk => ⟨trivial, ?_⟩⟩⟩, (Ext.refl _).alloc _⟩
  rw [cell_of_row _ _ _ _ _ _ (heap_alloc_new W _), Nat.zero_add, Nat.mul_one]
  simp [hk]
def xS : ByteArray := ⟨#[120]⟩
def yS : ByteArray := ⟨#[121]⟩
def zS : ByteArray := ⟨#[122]⟩
def tA : Tab := ⟨[xS, yS], [[numV 1, numV 2], [numV 1, numV 3]]⟩
def tB : Tab := ⟨[yS, zS], [[numV 2, numV 5], [numV 2, numV 6]]⟩
theorem err_AB : errJ tA tB = 0 := by decide
theorem nat_AB : natT tA tB = ⟨[xS, yS, zS], [[numV 1, numV 2, numV 5], [numV 1, numV 2, numV 6]]⟩ := by
  have h : natR tA tB = [[numV 1, numV 2, numV 5], [numV 1, numV 2, numV 6]] := by decide
  unfold natT
  rw [if_pos err_AB, h, show colsJ tA.cols tB.cols = [xS, yS, zS] by decide, show sortO ordL [[numV 1, numV 2, numV 5], [numV 1, numV 2, numV 6]] = [[numV 1, numV 2, numV 5], [numV 1, numV 2, numV 6]] by decide]
theorem left_AB : (leftT tA tB).rows.length = 3 := by
  unfold leftT
  rw [if_pos err_AB]
  show (sortO ordL (leftR tA tB)).length = 3
  rw [sortO_len TotC.row]
  decide
theorem wt_num (n : Int) : wtV (numV n) = 1 := by unfold wtV; show 1 + wtL [] = 1; rw [wtL]
theorem fit_A : TabFit tA := ⟨by decide, by decide, fun r hr => by
  simp only [tA, List.mem_cons, List.not_mem_nil, or_false] at hr
  rcases hr with rfl | rfl <;> exact ⟨szL_of (fun v hv => by simp only [List.mem_cons, List.not_mem_nil, or_false] at hv; rcases hv with rfl | rfl <;> exact szV_iff.2 ⟨by decide, trivial⟩), by rw [wtL_cons, wtL_cons, wt_num, wt_num, wtL]; decide⟩⟩
theorem fit_B : TabFit tB := ⟨by decide, by decide, fun r hr => by
  simp only [tB, List.mem_cons, List.not_mem_nil, or_false] at hr
  rcases hr with rfl | rfl <;> exact ⟨szL_of (fun v hv => by simp only [List.mem_cons, List.not_mem_nil, or_false] at hv; rcases hv with rfl | rfl <;> exact szV_iff.2 ⟨by decide, trivial⟩), by rw [wtL_cons, wtL_cons, wt_num, wt_num, wtL]; decide⟩⟩
theorem cols_A : ∀ s ∈ tA.cols, s.size ≤ maxLen := by decide
theorem cols_B : ∀ s ∈ tB.cols, s.size ≤ maxLen := by decide
end Go.Proofs.YtbjddimafilflaaGreatDoor
