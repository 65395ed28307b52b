/- PARTS OF THE WALKS, joined: SortG, Rg, Rh, Ja. -/
import Derived.Test.YtbjddimafilflaaGreatDoorV11
import Derived.Test.YtbjddimafilflaaGreatDoorV10
import Derived.Deep.RegionHeld3
/- THE WALK over value.SortRows. -/
namespace Go.Proofs.YtbjddimafilflaaGreatDoor
open Go.RowKit Go.Sort
theorem eg_OrderRows (args : Array Value) (w : World) : (callFunc 62 args).run Tryz.prog w = .ok (.enter 62 args) w :=
  run_enter (c := Tryz.f62.body.get!) Tryz.func62 (by kernel_rfl) (by kernel_rfl) args w
theorem ZeroAt.grown {w w' : World} {g : Nat} (h : ZeroAt w) (hg : w.grownBy w' (some g)) (hne : 0 ≠ g) : ZeroAt w' :=
  ⟨hg.cell h.1 (fun e => hne (Option.some.inj e)), hg.cell h.2.1 (fun e => hne (Option.some.inj e)), Nat.lt_of_lt_of_le h.2.2 hg.size⟩
/-- rows of values in a block of its own, sorted by value.OrderRows -/
theorem sort_OrderRows (w : World) (B g cap : Nat) (ok : Nat → Prop) (d : Array (RowE w ok)) (hz : ZeroAt w) (hzg : 0 ≠ g) (hne : ∀ b, ok b → b ≠ g) (hsz : d.size ≤ 8000000)
    (hown : w.ownsRow B 37 1 (.slice (some ⟨g, 0, none⟩) d.size cap) d.size (d.toList.map (encS hdE))) :
    Calls Tryz.prog 65 #[.slice (some ⟨g, 0, none⟩) d.size cap, .func (.func 62) #[] #[]] w fun e w' => e = .returned (.tuple #[]) ∧ w.grownBy w' (some g) ∧ ∀ ok' : Nat → Prop, (∀ b, ok b → ok' b) → ok' g → Rows w' ok' (some ⟨g, 0, none⟩) (sortO ordL (d.toList.map rowE)) := by
  refine (sw_sortStable w B g cap hdE (cfE ordL) 62 #[] d w eg_OrderRows ?_ (swo_of (fun x y => ordL_anti _ _) (fun x y z => ordL_trans _ _ _)) (SortW.start hown) hsz).mono ?_
  · intro W hg x y
    rw [encE, encE]
    exact v_OrderRows (rowE x) (rowE y) ok ok _ _ _ _ W (hz.grown hg hzg) ((goodE x).2.grown hg hne) ((goodE y).2.grown hg hne)
  · rintro e w' ⟨rfl, d', hs, hp, hso⟩
    refine ⟨rfl, hs.gr, fun ok' h1 h2 => ?_⟩
    have hz' := hp.1
    rw [← sortO_eq TotC.row ((permIn_whole hp).map rowE) (sorted_rise (by rw [hz']; exact hso) ordL_anti)]
    exact hs.rows hne h1 h2 (by omega)
theorem made_nil (n : Nat) : (madeCells #[Value.slice none 0 0] n).toList = (List.replicate n ((⟨none, 0, 0⟩, []) : HeadS × List Val)).map (encS Prod.fst) := by
  unfold madeCells
  rw [Array.toList_map, List.map_replicate]
  refine List.ext_getElem (by simp) (fun i h1 h2 => ?_)
  simp [encS, Nat.mod_one]
theorem run_make_rows (n : Nat) (hn : n ≤ 8000000) (W : World) : (Instr.makeSlice 23 (.int .i64 (n : Int)) (.int .i64 (n : Int))).run Tryz.prog W = .ok (.slice (some ⟨W.heap.size, 0, none⟩) n n) (W.alloc (.cells (madeCells #[.slice none 0 0] n) 37)) := by
  obtain ⟨i, hi, h0, h1, h2⟩ := info_parts (show (Tryz.prog.info? 37).map (fun i => (i.zero, i.size, i.bytes)) = some (some (.slice none 0 0), 1, 24) by kernel_rfl)
  have h := run_make (P := Tryz.prog) W 23 37 i (.slice none 0 0) Tryz.underlying23 hi h0 .i64 .i64 n n (by omega) (by omega) (by rw [h2]; omega) (by omega)
  rw [h1] at h
  simp only [Int.toNat_natCast, Nat.mul_one] at h
  exact h
theorem made_own (w : World) (n : Nat) (hn : n ≤ 8000000) : (w.alloc (.cells (madeCells #[.slice none 0 0] n) 37)).ownsRow w.heap.size 37 1 (.slice (some ⟨w.heap.size, 0, none⟩) n n) n ((List.replicate n ((⟨none, 0, 0⟩, []) : HeadS × List Val)).map (encS Prod.fst)) := by
  have h1 := heap_alloc_new w (.cells (madeCells #[.slice none 0 0] n) 37)
  refine Blk.own (cs := (madeCells #[.slice none 0 0] n).toList) (by unfold Blk; rw [Array.toArray_toList]; exact h1) (Nat.le_refl _) (Nat.le_refl _) (by unfold maxLen; omega) (by rw [Array.length_toList, size_madeCells, Nat.mul_one]) ?_
  rw [made_nil, List.take_of_length_le (by simp)]
set_option maxRecDepth 100000 in
set_option maxHeartbeats 3200000 in
theorem v_SortRows (l : List (List Val)) (ok : Nat → Prop) (A : Option Addr) (c : Nat) (w : World) (hz : ZeroAt w) (hl : l.length ≤ 8000000) (hwt : ∀ r ∈ l, wtL r ≤ 8000000) (hv : Rows w ok A l) :
    Calls Tryz.prog 51 #[.slice A l.length c] w fun e w' => ∃ A' c', e = .returned (.slice A' l.length c') ∧ l.length ≤ c' ∧ Rows w' (fun b => w.heap.size ≤ b) A' (sortO ordL l) ∧ Ext w w' := by
  obtain ⟨g, hg⟩ : ∃ g, g = w.heap.size := ⟨_, rfl⟩
  have hmk := run_make_rows l.length hl
  have HO := Lib.hid (made_own w l.length hl)
  have HZ := Lib.hid hz
  have HW := Lib.hid hwt
  have HV := Lib.hid hv
  have HG := Lib.hid hg
  clear hz hwt hv
  go_enter Tryz.func51, Tryz.ntmps51
  go_wp2_with fail
  rw [← hg] at HO ⊢
  clear hg hmk
  go_loopw [11] (fun u W => ∃ (k : Nat) (d : Array (HeadS × List Val)), u = .int .i64 k ∧ k ≤ l.length ∧ Hid (W.ownsRow g 37 1 (.slice (some ⟨g, 0, none⟩) l.length l.length) l.length (d.toList.map (encS Prod.fst))) ∧ Hid (d.size = l.length) ∧ Hid (∀ j (h : j < k), GoodRow W (fun b => g ≤ b ∧ b ≠ g) d[j]! ∧ d[j]!.2 = l[j]!) ∧ Hid (Ext w W)) (fun u _ => l.length - (intOf u).toNat)
  case atStart => exact ⟨0, (List.replicate l.length (⟨none, 0, 0⟩, [])).toArray, rfl, Nat.zero_le _, HO, Lib.hid (by simp), Lib.hid (fun j h => absurd h (by omega)), Lib.hid ((Ext.refl _).alloc _)⟩
  case round =>
    clear HO
    obtain ⟨k, d, rfl, hk, hown, hdz, hgd, hE⟩ := hrel
    by_cases hlt : k < l.length
    · obtain ⟨b, o, rfl, hrows⟩ := HV.out.2 (by omega)
      obtain ⟨-, Ak, ck, hcell, hle, hvals⟩ := hrows k hlt
      rw [Nat.mul_one] at hcell
      have p1 := hE.out.cell hcell
      have HC := Lib.hid (fun W (h : Ext wr W) => v_copied l[k] ok Ak ck W (HW.out _ (List.getElem_mem hlt)) (hvals.ext (hE.out.trans h)))
      have c1 := hown.out.cellAt k (by omega)
      rw [List.getElem?_map, Array.getElem?_toList, Array.getElem?_eq_getElem (show k < d.size by rw [hdz.out]; exact hlt)] at c1
      have c2 : wr.cell? ⟨g, k, none⟩ = some (.slice (d[k]'(by rw [hdz.out]; exact hlt)).1.A (d[k]'(by rw [hdz.out]; exact hlt)).1.n (d[k]'(by rw [hdz.out]; exact hlt)).1.c) := c1
      generalize (d[k]'(by rw [hdz.out]; exact hlt)).1 = old at c2
      have HK := Lib.hid (by rw [getElem!_pos l k hlt] : l[k]! = l[k])
      clear c1 hcell hvals hle hrows
      generalize l[k] = x at *
      go_wp2_with fail
      refine (HC.out wr (Ext.refl _)).mono ?_
      rintro e w6 ⟨A2, c3, rfl, hl2, hV2, h6⟩
      have own6 := own_ext hown.out h6
      have hfr := own6.frozenAt k
      have hgl := (hown.out.lt g rfl).2
      have q4 := h6.cell c2
      have hS := (own6.stored k (.slice A2 x.length c3)).1
      rw [show (Value.slice A2 x.length c3) = encS Prod.fst ((⟨A2, x.length, c3⟩, x) : HeadS × List Val) from rfl, map_set] at hS
      have hcell : ∀ b o y, b ≠ g → w6.cell? ⟨b, o, none⟩ = some y → (w6.setCell ⟨g, k, none⟩ (.slice A2 x.length c3)).cell? ⟨b, o, none⟩ = some y := fun b o y hb hc => by
        rw [World.cell?_setCell_other _ _ _ _ (fun e => hb (by injection e with e1; exact e1.symm))]; exact hc
      have hN : ∀ j (h : j < k + 1), GoodRow (w6.setCell ⟨g, k, none⟩ (.slice A2 x.length c3)) (fun b => g ≤ b ∧ b ≠ g) (d.setIfInBounds k (⟨A2, x.length, c3⟩, x))[j]! ∧ (d.setIfInBounds k (⟨A2, x.length, c3⟩, x))[j]!.2 = l[j]! := fun j hj => by
        have hj2 : j < d.size := by rw [hdz.out]; omega
        rw [getElem!_pos _ j (by rw [Array.size_setIfInBounds]; exact hj2), Array.getElem_setIfInBounds hj2]
        by_cases e : k = j
        · rw [if_pos e]
          subst e
          exact ⟨⟨rfl, hl2, hV2.keep (fun b o y hb hc => hcell b o y (Nat.ne_of_gt (Nat.lt_of_lt_of_le hgl hb)) hc) (fun b hb => ⟨by omega, by omega⟩)⟩, HK.out.symm⟩
        · rw [if_neg e]
          have := hgd.out j (by omega)
          rw [getElem!_pos d j hj2] at this
          exact ⟨this.1.keep (fun b o y hb hc => hcell b o y hb.2 (h6.cell hc)) (fun _ h => h), this.2⟩
      have hES : Ext w (w6.setCell ⟨g, k, none⟩ (.slice A2 x.length c3)) := (hE.out.trans h6).setCell (by rw [← HG.out]; exact Nat.le_refl _) _
      have HL := Lib.hid hl2
      obtain ⟨wS, hwS⟩ : ∃ wS, wS = w6.setCell ⟨g, k, none⟩ (.slice A2 x.length c3) := ⟨_, rfl⟩
      change (w6.setCell ⟨g, k, none⟩ (.slice A2 x.length c3)).ownsRow _ _ _ _ _ _ at hS
      rw [← hwS] at hS hN hES
      have HS := Lib.hid hS
      have HN := Lib.hid hN
      have HES := Lib.hid hES
      have HWS := Lib.hid hwS
      clear hwS hV2 hcell own6 HC p1 c2 hS hN hES hl2 h6 hgl hgd hown hE
      go_upto_region 6 with (fail)
      rw [← HWS.out]
      clear HWS q4 hfr
      go_wp2_with fail
      go_roundw
      case rel => exact ⟨k + 1, _, by go_num, by omega, HS, Lib.hid (by rw [Array.size_setIfInBounds]; exact hdz.out), HN, HES⟩
      case measure => simp [intOf]; omega
    · have hk' : k = l.length := by omega
      obtain ⟨D, hD1, hD2, hD3⟩ := elems_of (w := wr) (ok := fun b => g ≤ b ∧ b ≠ g) d.toList (fun p hp => by
        obtain ⟨j, hj, rfl⟩ := List.mem_iff_getElem.1 hp
        rw [Array.length_toList] at hj
        have := hgd.out j (by rw [hk', ← hdz.out]; exact hj)
        rw [getElem!_pos d j hj] at this
        rw [Array.getElem_toList]; exact this.1)
      have hDl : d.toList.map Prod.snd = l := List.ext_getElem (by rw [List.length_map, Array.length_toList, hdz.out]) (fun j h1 h2 => by
        rw [List.getElem_map, Array.getElem_toList]
        have h3 : j < d.size := by rw [hdz.out]; exact h2
        have := (hgd.out j (by rw [hk']; exact h2)).2
        rw [getElem!_pos d j h3, getElem!_pos l j h2] at this
        exact this)
      rw [Array.length_toList, hdz.out] at hD3
      have HC := Lib.hid (sort_OrderRows wr g g l.length (fun b => g ≤ b ∧ b ≠ g) D (HZ.out.ext hE.out) (by have := HZ.out.2.2; rw [HG.out]; omega) (fun b h => h.2) (by rw [hD3]; exact hl) (by rw [hD3, hD2]; exact hown.out))
      rw [hD3, hD1, hDl] at HC
      have HQ := Lib.hid (fun w' (h : wr.grownBy w' (some g)) => (hE.out.grown h (fun k e => by injection e with e; rw [← e, ← HG.out]; exact Nat.le_refl _) : Ext w w'))
      clear hD1 hD2 hD3 hDl hown hgd
      go_wp2_with (go_at_call 65; ((with_reducible refine (HC.out).mono ?_); rintro e w1 ⟨rfl, hg1, hr1⟩))
      go_ret
      exact ⟨_, _, rfl, Nat.le_refl _, hr1 _ (fun b h => by rw [← HG.out]; exact h.1) (by rw [← HG.out]; exact Nat.le_refl _), HQ.out _ hg1⟩
end Go.Proofs.YtbjddimafilflaaGreatDoor

/- THE WALK over the reference's SortRows. -/
namespace Go.Proofs.YtbjddimafilflaaGreatDoor
open Go.RowKit Go.Sort
abbrev HRow := HeadS × List Val
def cfP (p q : HRow) : Int := ordL p.2 q.2
def encP (p : HRow) : Value := .slice p.1.A p.1.n p.1.c
theorem swoP : SWO (ltC cfP) := swo_of (fun _ _ => ordL_anti _ _) (fun _ _ _ => ordL_trans _ _ _)
theorem arr_ext {α : Type} [Inhabited α] {a b : Array α} (hs : a.size = b.size) (h : ∀ m, m < a.size → a[m]! = b[m]!) : a = b :=
  Array.ext hs (fun i h1 h2 => by have := h i h1; rw [getElem!_pos a i h1, getElem!_pos b i h2] at this; exact this)
theorem set_at {α : Type} [Inhabited α] (e : Array α) (j m : Nat) (x : α) (hm : m < e.size) : (e.setIfInBounds j x)[m]! = if j = m then x else e[m]! := by
  rw [getElem!_pos _ m (by rw [Array.size_setIfInBounds]; exact hm), Array.getElem_setIfInBounds hm, getElem!_pos e m hm]
theorem push_at {α : Type} [Inhabited α] (d : Array α) (x : α) (m : Nat) (hm : m ≤ d.size) : (d.push x)[m]! = if m = d.size then x else d[m]! := by
  rw [getElem!_pos _ m (by rw [Array.size_push]; omega), Array.getElem_push]
  by_cases h : m < d.size
  · rw [dif_pos h, if_neg (by omega), getElem!_pos d m h]
  · rw [dif_neg h, if_pos (by omega)]
/-- a hole at j: V is e with p in the hole -/
structure Hole (e V : Array HRow) (j n : Nat) (p : HRow) : Prop where
  s1 : e.size = n
  s2 : V.size = n
  jn : j < n
  other : ∀ m, m < n → m ≠ j → V[m]! = e[m]!
  here : V[j]! = p
theorem Hole.step {e V : Array HRow} {j n : Nat} {p : HRow} (h : Hole e V (j + 1) n p) : Hole (e.setIfInBounds (j + 1) e[j]!) (swp V (j + 1) j) j n p := by
  have h3 := h.jn
  have h1 := h.s1
  have h2 := h.s2
  have g := swp_get V (show j + 1 < V.size by omega) (show j < V.size by omega)
  refine ⟨by rw [Array.size_setIfInBounds]; exact h1, by rw [swp_size]; exact h2, by omega, fun m hm hj => ?_, ?_⟩
  · rw [g, set_at _ _ _ _ (by omega), if_neg hj]
    by_cases e1 : m = j + 1
    · rw [if_pos e1, if_pos e1.symm, h.other j (by omega) (by omega)]
    · rw [if_neg e1, if_neg (fun h => e1 h.symm), h.other m hm e1]
  · rw [g, if_pos rfl, h.here]
theorem Hole.fill {e V : Array HRow} {j n : Nat} {p : HRow} (h : Hole e V j n p) : e.setIfInBounds j p = V := by
  refine arr_ext (by rw [Array.size_setIfInBounds, h.s1, h.s2]) (fun m hm => ?_)
  rw [Array.size_setIfInBounds] at hm
  rw [set_at _ _ _ _ hm]
  by_cases e1 : j = m
  · rw [if_pos e1, ← e1, h.here]
  · rw [if_neg e1, h.other m (by rw [← h.s1]; exact hm) (fun h => e1 h.symm)]
theorem Hole.start (d : Array HRow) (p : HRow) : Hole (d.push p) (d.push p) d.size (d.size + 1) p :=
  ⟨by rw [Array.size_push], by rw [Array.size_push], by omega, fun _ _ _ => rfl, by rw [push_at _ _ _ (Nat.le_refl _), if_pos rfl]⟩
theorem ins_start {d : Array HRow} {p : HRow} (h : SortedIn (ltC cfP) 0 d.size d) : Ins (ltC cfP) 0 d.size d.size (d.push p) :=
  ⟨fun a b h0 h1 h2 h3 h4 => by
    rw [push_at d p a (by omega), push_at d p b h2, if_neg h4, if_neg h3]
    exact h a b h0 h1 (by omega), fun q h1 h2 => by omega⟩
theorem sortedP {d : Array HRow} (h : SortedIn (ltC cfP) 0 d.size d) : (d.toList.map Prod.snd).Pairwise (fun x y => ordL x y ≤ 0) := by
  rw [List.pairwise_map, List.pairwise_iff_getElem]
  intro i j hi hj hij
  rw [Array.length_toList] at hi hj
  have := h i j (Nat.zero_le _) hij hj
  rw [getElem!_pos d i hi, getElem!_pos d j hj] at this
  unfold ltC cfP at this
  have h1 := of_decide_eq_false this
  rw [Array.getElem_toList, Array.getElem_toList]
  have h2 := ordL_anti d[i].2 d[j].2
  omega
/-- rows in memory, from heads -/
theorem rows_of {W : World} {B g cap : Nat} {ok ok' : Nat → Prop} {d : Array HRow} (h : W.ownsRow B 37 1 (.slice (some ⟨g, 0, none⟩) d.size cap) d.size (d.toList.map encP)) (hgd : ∀ m, m < d.size → GoodRow W ok d[m]!) (hok : ∀ b, ok b → ok' b) (hg : ok' g) (hm : d.size ≤ 140737488355328) :
    Rows W ok' (some ⟨g, 0, none⟩) (d.toList.map Prod.snd) := by
  refine ⟨by rw [List.length_map, Array.length_toList]; exact hm, fun _ => ⟨g, 0, rfl, fun k hk => ?_⟩⟩
  rw [List.length_map, Array.length_toList] at hk
  have hc := h.cellAt k (by omega)
  rw [List.getElem?_map, Array.getElem?_toList, Array.getElem?_eq_getElem hk] at hc
  obtain ⟨h1, h2, h3⟩ := hgd k hk
  rw [getElem!_pos d k hk] at h1 h2 h3
  rw [List.getElem_map, Array.getElem_toList]
  refine ⟨hg, d[k].1.A, d[k].1.c, ?_, h2, h3.to hok⟩
  rw [Nat.zero_add, Nat.mul_one, hc, ← h1]; rfl
theorem own_cap {w : World} {base e size n : Nat} {A : Option Addr} {c : Nat} {xs : List Value} (h : w.ownsRow base e size (.slice A n c) n xs) : n ≤ c := by
  rcases h.2 with ⟨_, h0⟩ | ⟨g, cap, cur, hv, _, _, hc, _⟩
  · omega
  · injection hv with _ _ h3; omega
set_option maxRecDepth 100000 in
set_option maxHeartbeats 3200000 in
theorem r4_SortRows (l : List (List Val)) (ok : Nat → Prop) (A : Option Addr) (c : Nat) (w : World) (hl : l.length ≤ 8000000) (hwt : ∀ r ∈ l, wtL r ≤ 8000000 ∧ szL r) (hv : Rows w ok A l) :
    Calls Tryz.prog 15 #[.slice A l.length c] w fun e w' => ∃ A' c', e = .returned (.slice A' l.length c') ∧ l.length ≤ c' ∧ Rows w' (fun b => w.heap.size ≤ b) A' (sortO ordL l) ∧ Ext w w' := by
  have HV := Lib.hid hv
  have HW := Lib.hid hwt
  clear hv hwt
  go_enter Tryz.func15, Tryz.ntmps15
  go_wp2_with fail
  go_loopw [3, 4] (fun v u W => ∃ (k : Nat) (d : Array HRow), u = .int .i64 k ∧ k ≤ l.length ∧ Hid (W.ownsRow w.heap.size 37 1 v k (d.toList.map encP)) ∧ Hid (d.size = k) ∧ Hid (∀ m, m < d.size → GoodRow W (okB w.heap.size v) d[m]!) ∧ Hid (SortedIn (ltC cfP) 0 d.size d) ∧ Hid ((d.toList.map Prod.snd).Perm (l.take k)) ∧ Hid (Ext w W)) (fun _ u _ => l.length - (intOf u).toNat)
  case atStart => exact ⟨0, #[], rfl, Nat.zero_le _, Lib.hid (World.ownsRow_nil _ _ _ _), Lib.hid rfl, Lib.hid (fun m h => absurd h (Nat.not_lt_zero _)), Lib.hid (fun _ _ _ _ h => absurd h (Nat.not_lt_zero _)), Lib.hid (by simp), Lib.hid (Ext.refl _)⟩
  case round =>
    obtain ⟨k, d, rfl, hk, hown, hdz, hgd, hso, hpe, hE⟩ := hrel
    by_cases hlt : k < l.length
    · obtain ⟨b, o, rfl, hrows⟩ := HV.out.2 (by omega)
      obtain ⟨-, Ak, ck, hcell, hle, hvals⟩ := hrows k hlt
      rw [Nat.mul_one] at hcell
      have p1 := hE.out.cell hcell
      have HC := Lib.hid (fun W (h : Ext wr W) => r4_Copy l[k] ok Ak ck W (HW.out _ (List.getElem_mem hlt)).1 (hvals.ext (hE.out.trans h)))
      have HZ := Lib.hid (HW.out _ (List.getElem_mem hlt)).2
      have HT := Lib.hid (show l.take (k + 1) = l.take k ++ [l[k]] by rw [List.take_add_one, List.getElem?_eq_getElem hlt]; rfl)
      obtain ⟨A0, c0, hform⟩ := own_form hown.out
      clear hcell hvals hle hrows
      generalize l[k] = x at *
      subst hform
      go_wp2_with fail
      refine (HC.out wr (Ext.refl _)).mono ?_
      rintro e w6 ⟨A2, c3, rfl, hl2, hV2, h6⟩
      have own6 := own_ext hown.out h6
      have hE6 := hE.out.trans h6
      have hkb : k + 1 ≤ 8388608 := by omega
      have HL2 := Lib.hid hl2
      have HVals := Lib.hid hV2
      have H6 := Lib.hid h6
      clear hl2 hV2 h6 p1 HC
      go_wp2_with (at_builtin; refine own_pushF T_row rfl (.tmp 20) (.tmp 22) rfl w w6 _ k _ [.slice A2 x.length c3] rfl own6 hE6 rfl rfl rfl (by intro u hu; rw [List.mem_singleton] at hu; subst hu; rfl) hkb (by decide) ?_; intro v2 w9 hown2 hE9 hF9)
      obtain ⟨g, cap, hvv, hgb, hgl⟩ := World.ownsRow.form hown2 (Nat.succ_pos _)
      subst hvv
      obtain ⟨px, hpx⟩ : ∃ px : HRow, px = (⟨A2, x.length, c3⟩, x) := ⟨_, rfl⟩
      have HPX := Lib.hid (show encP px = .slice A2 x.length c3 by rw [hpx]; rfl)
      have HPX2 := Lib.hid (show px.2 = x by rw [hpx])
      obtain ⟨D, hD⟩ : ∃ D, D = d.push px := ⟨_, rfl⟩
      have HDZ := Lib.hid (show D.size = k + 1 by rw [hD, Array.size_push, hdz.out])
      have HDL := Lib.hid (show D.toList.map Prod.snd = d.toList.map Prod.snd ++ [x] by rw [hD, Array.toList_push, List.map_append, ← HPX2.out]; rfl)
      have HOD := Lib.hid (show w9.ownsRow w.heap.size 37 1 (.slice (some ⟨g, 0, none⟩) (k + 1) cap) (k + 1) (D.toList.map encP) by rw [hD, Array.toList_push, List.map_append, List.map_singleton, HPX.out]; exact hown2)
      have HH := Lib.hid (show Hole D D k (k + 1) px by have := Hole.start d px; rw [hdz.out] at this; rw [hD]; exact this)
      have HI0 := Lib.hid (show Ins (ltC cfP) 0 k k D by have := ins_start (p := px) hso.out; rw [hdz.out] at this; rw [hD]; exact this)
      have HGX := Lib.hid (show GoodRow w9 (fun b => w.heap.size ≤ b ∧ b ≠ g) px by
        rw [hpx]
        refine ⟨rfl, HL2.out, HVals.out.keep' (fun b o y hb hc => ?_)⟩
        have hb' : wr.heap.size ≤ b := hb
        have hn : some b ≠ (Value.slice A0 k c0).ownBlock := fun e => by have := (hown.out.lt b e.symm).2; omega
        exact ⟨hF9.cell b o y hn hc, Nat.le_trans hE.out.le hb', fun e => hF9.own b (block_lt_of_cell hc) hn (by rw [e]; rfl)⟩)
      have HGD := Lib.hid (show ∀ m, m < D.size → GoodRow w9 (fun b => w.heap.size ≤ b ∧ b ≠ g) D[m]! from fun m hm => by
        rw [hD, push_at d px m (by rw [hD, Array.size_push] at hm; omega)]
        by_cases hm2 : m = d.size
        · rw [if_pos hm2]; exact HGX.out
        · rw [if_neg hm2]
          obtain ⟨g1, g2, g3⟩ := hgd.out m (by rw [hD, Array.size_push] at hm; omega)
          exact ⟨g1, g2, (g3.keep (fun _ _ _ _ hc => H6.out.cell hc) (fun _ h => h)).keep' (fun b o y hb hc => ⟨hF9.cell b o y hb.2 hc, hb.1, fun e => hF9.own b (block_lt_of_cell hc) hb.2 (by rw [e]; rfl)⟩)⟩)
      have HGB := Lib.hid hgb
      have OKB := Lib.hid (show ∀ b, (w.heap.size ≤ b ∧ b ≠ g) → okB w.heap.size (.slice (some ⟨g, 0, none⟩) (k + 1) cap) b from fun b h => ⟨h.1, fun e => h.2 (by injection e)⟩)
      have HE9 := Lib.hid hE9
      have HZX := Lib.hid (show szL px.2 by rw [HPX2.out]; exact HZ.out)
      have HZD := Lib.hid (show ∀ m, m < D.size → szL D[m]!.2 from fun m hm => by
        have hmem : D[m]!.2 ∈ l.take (k + 1) := by
          rw [HT.out]
          refine (hpe.out.append_right [x]).mem_iff.1 ?_
          rw [← HDL.out, getElem!_pos D m hm]
          exact List.mem_map.2 ⟨D[m], by simp, rfl⟩
        exact (HW.out _ (List.mem_of_mem_take hmem)).2)
      clear hown2 hgb hE9 hF9 hgd hown own6 hE6 HVals H6 hE hso hpx hD HZ HL2
      go_loopw [5] (fun u W => ∃ (j : Nat) (e V : Array HRow), u = .int .i64 j ∧ j ≤ k ∧ Hid (W.ownsRow w.heap.size 37 1 (.slice (some ⟨g, 0, none⟩) (k + 1) cap) (k + 1) (e.toList.map encP)) ∧ Hid (Hole e V j (k + 1) px) ∧ Hid (∀ m, m < e.size → GoodRow W (fun b => w.heap.size ≤ b ∧ b ≠ g) e[m]!) ∧ Hid (GoodRow W (fun b => w.heap.size ≤ b ∧ b ≠ g) px) ∧ Hid (Ins (ltC cfP) 0 j k V) ∧ Hid (PermIn 0 (k + 1) D V) ∧ Hid (Ext w W)) (fun u _ => (intOf u).toNat)
      case atStart => exact ⟨k, D, D, rfl, Nat.le_refl _, HOD, HH, HGD, HGX, HI0, Lib.hid (permIn_refl _ _ _), HE9⟩
      case round =>
        clear HOD HH HGD HGX HI0 HE9
        obtain ⟨j, e, V, rfl, hjk, hown2, hhole, hge, hgp, hins, hper, hE2⟩ := hrel
        rcases Nat.eq_zero_or_pos j with hj0 | hj0
        · subst hj0
          have HSO := Lib.hid (hins.out.stop swoP (.inl (Nat.le_refl _)))
          have HV2 := Lib.hid hhole.out.fill
          have HVS := Lib.hid hhole.out.s2
          have c2 := hown2.out.cellAt 0 (by have := hhole.out.s1; omega)
          rw [List.getElem?_map, Array.getElem?_toList, Array.getElem?_eq_getElem (show 0 < e.size by rw [hhole.out.s1]; omega)] at c2
          replace c2 : wr.cell? ⟨g, 0, none⟩ = some (.slice (e[0]'(by rw [hhole.out.s1]; omega)).1.A (e[0]'(by rw [hhole.out.s1]; omega)).1.n (e[0]'(by rw [hhole.out.s1]; omega)).1.c) := c2
          generalize (e[0]'(by rw [hhole.out.s1]; omega)).1 = old at c2
          have HOWN := Lib.hid (fun W (h : Ext wr W) => (by
            have h1 := ((own_ext hown2.out h).stored 0 (.slice A2 x.length c3)).1
            rw [show (Value.slice A2 x.length c3) = encP px from HPX.out.symm, map_set, HV2.out] at h1
            rw [HPX.out] at h1
            exact h1 : (W.setCell ⟨g, 0, none⟩ (.slice A2 x.length c3)).ownsRow w.heap.size 37 1 (.slice (some ⟨g, 0, none⟩) (k + 1) cap) (k + 1) (V.toList.map encP)))
          have HGOOD := Lib.hid (fun W (h : Ext wr W) => (by
            intro m hm
            have hk1 : ∀ b o y, (w.heap.size ≤ b ∧ b ≠ g) → wr.cell? ⟨b, o, none⟩ = some y → (W.setCell ⟨g, 0, none⟩ (.slice A2 x.length c3)).cell? ⟨b, o, none⟩ = some y := fun b o y hb hc => by
              rw [World.cell?_setCell_other _ _ _ _ (fun e => hb.2 (by injection e with e1; exact e1.symm))]; exact h.cell hc
            by_cases hj : m = 0
            · rw [hj, hhole.out.here]; exact hgp.out.keep hk1 OKB.out
            · rw [hhole.out.other m (by rw [← HVS.out]; exact hm) hj]
              exact (hge.out m (by rw [hhole.out.s1, ← HVS.out]; exact hm)).keep hk1 OKB.out : ∀ m, m < V.size → GoodRow (W.setCell ⟨g, 0, none⟩ (.slice A2 x.length c3)) (okB w.heap.size (.slice (some ⟨g, 0, none⟩) (k + 1) cap)) V[m]!))
          have HES := Lib.hid (fun W (h : Ext wr W) => ((hE2.out.trans h).setCell (p := ⟨g, 0, none⟩) HGB.out (.slice A2 x.length c3) : Ext w (W.setCell ⟨g, 0, none⟩ (.slice A2 x.length c3))))
          have HPE := Lib.hid (show (V.toList.map Prod.snd).Perm (l.take (k + 1)) by
            rw [HT.out]
            refine ((permIn_whole (by rw [HDZ.out]; exact hper.out)).map Prod.snd).trans ?_
            rw [HDL.out]
            exact hpe.out.append_right _)
          have HFR := Lib.hid (fun W (h : Ext wr W) => (own_ext hown2.out h).frozenAt 0)
          clear hins hhole hown2 hge hgp hE2
          have f2 := HFR.out wr (Ext.refl _)
          go_wp2_with fail
          go_roundw
          case rel => exact ⟨k + 1, V, congrArg (Value.int .i64) (by omega), by omega, Lib.hid (HOWN.out _ (Ext.refl _)), HVS, Lib.hid (HGOOD.out _ (Ext.refl _)), Lib.hid (by rw [HVS.out]; exact HSO.out), HPE, Lib.hid (HES.out _ (Ext.refl _))⟩
          case measure => simp [intOf]; omega
        · obtain ⟨jp, rfl⟩ : ∃ jp, j = jp + 1 := ⟨j - 1, by omega⟩
          have hjz : decide ((jp : Int) + 1 > 0) = true := decide_eq_true (by omega)
          have HG1 := Lib.hid (hge.out jp (by rw [hhole.out.s1]; omega))
          have c1 := hown2.out.cellAt jp (by omega)
          rw [List.getElem?_map, Array.getElem?_toList, Array.getElem?_eq_getElem (show jp < e.size by rw [hhole.out.s1]; omega)] at c1
          replace c1 : wr.cell? ⟨g, jp, none⟩ = some (.slice e[jp]!.1.A e[jp]!.2.length e[jp]!.1.c) := by
            rw [← HG1.out.1, getElem!_pos e jp (show jp < e.size by rw [hhole.out.s1]; omega)]; exact c1
          have HZ1 := Lib.hid (show szL e[jp]!.2 by
            rw [← hhole.out.other jp (by omega) (by omega)]
            exact permIn_all D V 0 D.size (fun p => szL p.2) (Nat.le_refl _) (by rw [HDZ.out]; exact hper.out) (fun i _ hi => HZD.out i hi) jp (Nat.zero_le _) (by rw [HDZ.out]; omega))
          have HEV := Lib.hid (show V[jp]! = e[jp]! from hhole.out.other jp (by omega) (by omega))
          have HC := Lib.hid (fun W (h : Ext wr W) => r4_OrderRows e[jp]!.2 px.2 _ _ e[jp]!.1.A A2 e[jp]!.1.c c3 W (HG1.out.2.2.ext h) (by have := hgp.out.2.2.ext h; rw [show px.1.A = A2 by have := HPX.out; unfold encP at this; injection this] at this; exact this) HZ1.out HZX.out)
          rw [show px.2.length = x.length by rw [HPX2.out]] at HC
          have HLT := Lib.hid (show cfP V[jp + 1]! V[jp]! = - ordL e[jp]!.2 px.2 by rw [hhole.out.here, HEV.out]; exact ordL_anti _ _)
          have HK := Lib.hid hhole.out.step
          have HKP := Lib.hid (show encP e[jp]! = .slice e[jp]!.1.A e[jp]!.2.length e[jp]!.1.c by unfold encP; rw [HG1.out.1])
          generalize hzq : ordL e[jp]!.2 px.2 = z at *
          have wI : IntKind.i64.wrap (jp : Int) = (jp : Int) := by rw [IntKind.wrap_i64]; omega
          have b1 : (jp : Int) < ((k + 1 : Nat) : Int) := by omega
          have b2 : (jp : Int) + 1 < ((k + 1 : Nat) : Int) := by omega
          by_cases hz : z > 0
          · have HIS := Lib.hid (hins.out.step (by unfold ltC; rw [HLT.out]; exact decide_eq_true (by omega)) (Nat.zero_le _) (by rw [hhole.out.s2]; omega))
            have HPS := Lib.hid (permIn_trans _ _ _ 0 (k + 1) hper.out (swp_permIn V 0 (k + 1) (jp + 1) jp (Nat.zero_le _) (by omega) (Nat.zero_le _) (by omega) (by rw [hhole.out.s2]; exact Nat.le_refl _)))
            have c2 := hown2.out.cellAt (jp + 1) (by omega)
            rw [List.getElem?_map, Array.getElem?_toList, Array.getElem?_eq_getElem (show jp + 1 < e.size by rw [hhole.out.s1]; omega)] at c2
            replace c2 : wr.cell? ⟨g, jp + 1, none⟩ = some (.slice (e[jp + 1]'(by rw [hhole.out.s1]; omega)).1.A (e[jp + 1]'(by rw [hhole.out.s1]; omega)).1.n (e[jp + 1]'(by rw [hhole.out.s1]; omega)).1.c) := c2
            generalize (e[jp + 1]'(by rw [hhole.out.s1]; omega)).1 = old at c2
            have HOWN := Lib.hid (fun W (h : Ext wr W) => (by
              have h1 := ((own_ext hown2.out h).stored (jp + 1) (.slice e[jp]!.1.A e[jp]!.2.length e[jp]!.1.c)).1
              rw [← HKP.out, map_set] at h1
              rw [HKP.out] at h1
              exact h1 : (W.setCell ⟨g, jp + 1, none⟩ (.slice e[jp]!.1.A e[jp]!.2.length e[jp]!.1.c)).ownsRow w.heap.size 37 1 (.slice (some ⟨g, 0, none⟩) (k + 1) cap) (k + 1) ((e.setIfInBounds (jp + 1) e[jp]!).toList.map encP)))
            have HK1 := Lib.hid (fun W (h : Ext wr W) (v : Value) => (fun b o y hb hc => by
              rw [World.cell?_setCell_other _ _ _ _ (fun e => hb.2 (by injection e with e1; exact e1.symm))]; exact h.cell hc : ∀ b o y, (w.heap.size ≤ b ∧ b ≠ g) → wr.cell? ⟨b, o, none⟩ = some y → (W.setCell ⟨g, jp + 1, none⟩ v).cell? ⟨b, o, none⟩ = some y))
            have HGOOD := Lib.hid (fun W (h : Ext wr W) v => (by
              intro m hm
              rw [Array.size_setIfInBounds] at hm
              rw [set_at _ _ _ _ hm]
              split
              · exact HG1.out.keep (HK1.out W h v) (fun _ h => h)
              · exact (hge.out m hm).keep (HK1.out W h v) (fun _ h => h) : ∀ m, m < (e.setIfInBounds (jp + 1) e[jp]!).size → GoodRow (W.setCell ⟨g, jp + 1, none⟩ v) (fun b => w.heap.size ≤ b ∧ b ≠ g) (e.setIfInBounds (jp + 1) e[jp]!)[m]!))
            have HGP := Lib.hid (fun W (h : Ext wr W) v => hgp.out.keep (HK1.out W h v) (fun _ h => h))
            have HES := Lib.hid (fun W (h : Ext wr W) v => ((hE2.out.trans h).setCell (p := ⟨g, jp + 1, none⟩) HGB.out v : Ext w (W.setCell ⟨g, jp + 1, none⟩ v)))
            have HFR := Lib.hid (fun W (h : Ext wr W) => (own_ext hown2.out h).frozenAt (jp + 1))
            have hzt : decide (z > 0) = true := decide_eq_true hz
            clear hge hgp hins hper hE2 hown2 hhole HG1 HK1 HEV HLT HKP hzq hz hj0
            generalize e[jp]!.1 = y1 at *
            generalize e[jp]!.2 = y2 at *
            go_wp2_with (go_at_call 36; ((with_reducible refine (HC.out wr (Ext.refl _)).mono ?_); rintro e' w7 ⟨rfl, h7⟩; have q2 := h7.cell c2; have q1 := h7.cell c1; have f2 := HFR.out w7 h7))
            go_roundw
            case rel => exact ⟨jp, _, _, congrArg (Value.int .i64) (by omega), by omega, Lib.hid (HOWN.out _ h7), HK, Lib.hid (HGOOD.out _ h7 _), Lib.hid (HGP.out _ h7 _), HIS, HPS, Lib.hid (HES.out _ h7 _)⟩
            case measure => simp [intOf]
          · have STOP : jp + 1 ≤ 0 ∨ ltC cfP V[jp + 1]! V[jp + 1 - 1]! = false := .inr (by rw [Nat.add_sub_cancel]; unfold ltC; rw [HLT.out]; exact decide_eq_false (by omega))
            have hzf : decide (z > 0) = false := decide_eq_false hz
            have HSO := Lib.hid (hins.out.stop swoP STOP)
            have HV2 := Lib.hid hhole.out.fill
            have HVS := Lib.hid hhole.out.s2
            have c2 := hown2.out.cellAt (jp + 1) (by have := hhole.out.s1; omega)
            rw [List.getElem?_map, Array.getElem?_toList, Array.getElem?_eq_getElem (show (jp + 1) < e.size by rw [hhole.out.s1]; omega)] at c2
            replace c2 : wr.cell? ⟨g, (jp + 1), none⟩ = some (.slice (e[(jp + 1)]'(by rw [hhole.out.s1]; omega)).1.A (e[(jp + 1)]'(by rw [hhole.out.s1]; omega)).1.n (e[(jp + 1)]'(by rw [hhole.out.s1]; omega)).1.c) := c2
            generalize (e[(jp + 1)]'(by rw [hhole.out.s1]; omega)).1 = old at c2
            have HOWN := Lib.hid (fun W (h : Ext wr W) => (by
              have h1 := ((own_ext hown2.out h).stored (jp + 1) (.slice A2 x.length c3)).1
              rw [show (Value.slice A2 x.length c3) = encP px from HPX.out.symm, map_set, HV2.out] at h1
              rw [HPX.out] at h1
              exact h1 : (W.setCell ⟨g, (jp + 1), none⟩ (.slice A2 x.length c3)).ownsRow w.heap.size 37 1 (.slice (some ⟨g, 0, none⟩) (k + 1) cap) (k + 1) (V.toList.map encP)))
            have HGOOD := Lib.hid (fun W (h : Ext wr W) => (by
              intro m hm
              have hk1 : ∀ b o y, (w.heap.size ≤ b ∧ b ≠ g) → wr.cell? ⟨b, o, none⟩ = some y → (W.setCell ⟨g, (jp + 1), none⟩ (.slice A2 x.length c3)).cell? ⟨b, o, none⟩ = some y := fun b o y hb hc => by
                rw [World.cell?_setCell_other _ _ _ _ (fun e => hb.2 (by injection e with e1; exact e1.symm))]; exact h.cell hc
              by_cases hj : m = (jp + 1)
              · rw [hj, hhole.out.here]; exact hgp.out.keep hk1 OKB.out
              · rw [hhole.out.other m (by rw [← HVS.out]; exact hm) hj]
                exact (hge.out m (by rw [hhole.out.s1, ← HVS.out]; exact hm)).keep hk1 OKB.out : ∀ m, m < V.size → GoodRow (W.setCell ⟨g, (jp + 1), none⟩ (.slice A2 x.length c3)) (okB w.heap.size (.slice (some ⟨g, 0, none⟩) (k + 1) cap)) V[m]!))
            have HES := Lib.hid (fun W (h : Ext wr W) => ((hE2.out.trans h).setCell (p := ⟨g, (jp + 1), none⟩) HGB.out (.slice A2 x.length c3) : Ext w (W.setCell ⟨g, (jp + 1), none⟩ (.slice A2 x.length c3))))
            have HPE := Lib.hid (show (V.toList.map Prod.snd).Perm (l.take (k + 1)) by
              rw [HT.out]
              refine ((permIn_whole (by rw [HDZ.out]; exact hper.out)).map Prod.snd).trans ?_
              rw [HDL.out]
              exact hpe.out.append_right _)
            have HFR := Lib.hid (fun W (h : Ext wr W) => (own_ext hown2.out h).frozenAt (jp + 1))
            clear hins hhole hown2 hge hgp hE2
            clear HG1 HZ1 HEV HLT HK HKP hzq hz STOP
            generalize e[jp]!.1 = y1 at *
            generalize e[jp]!.2 = y2 at *
            go_wp2_with (go_at_call 36; ((with_reducible refine (HC.out wr (Ext.refl _)).mono ?_); rintro e' w7 ⟨rfl, h7⟩; have q2 := h7.cell c2; have f2 := HFR.out w7 h7))
            go_roundw
            case rel => exact ⟨k + 1, V, congrArg (Value.int .i64) (by omega), by omega, Lib.hid (HOWN.out _ h7), HVS, Lib.hid (HGOOD.out _ h7), Lib.hid (by rw [HVS.out]; exact HSO.out), HPE, Lib.hid (HES.out _ h7)⟩
            case measure => simp [intOf]; omega
    · have hk' : k = l.length := by omega
      rw [show l.take k = l by rw [hk', List.take_length]] at hpe
      have HQ := Lib.hid (sortO_eq TotC.row hpe.out (sortedP hso.out))
      obtain ⟨A9, c9, rfl⟩ := own_form hown.out
      have HF := Lib.hid (show l.length ≤ c9 ∧ Rows wr (fun b => w.heap.size ≤ b) A9 (sortO ordL l) by
        rw [← HQ.out]
        rcases Nat.eq_zero_or_pos k with h0 | h0
        · have hd0 : d.toList = [] := List.eq_nil_of_length_eq_zero (by rw [Array.length_toList, hdz.out, h0])
          rw [hd0]
          exact ⟨by omega, SliceR.nil _ _ _⟩
        · obtain ⟨g, cap, hvv, hgb, hgl⟩ := World.ownsRow.form hown.out h0
          injection hvv with h1 h2 h3
          subst h1 h3
          have hcap := own_cap hown.out
          refine ⟨by omega, ?_⟩
          have hr := hown.out
          rw [← hdz.out] at hr
          have hr2 := hgd.out
          rw [hdz.out] at hr2
          refine rows_of (ok := okB w.heap.size (.slice (some ⟨g, 0, none⟩) k c9)) hr (by rw [hdz.out]; exact hr2) (fun b h => h.1) hgb (by rw [hdz.out]; omega))
      clear hown hgd hso hpe
      go_wp2_with fail
      go_ret
      rw [hk']
      exact ⟨_, _, rfl, HF.out.1, HF.out.2, hE.out⟩
end Go.Proofs.YtbjddimafilflaaGreatDoor

/- THE WALKS over the reference's Weigh, Light, SameRows, SameBag, Null; value.Null. -/
namespace Go.Proofs.YtbjddimafilflaaGreatDoor
open Go.RowKit Go.Sort
instance : DecidableEq Val := fun a b => decidable_of_iff (ordV a b = 0) (ordV_zero a b)
theorem wtL_append : ∀ (a b : List Val), wtL (a ++ b) = wtL a + wtL b
  | [], b => by rw [List.nil_append, wtL]; omega
  | x :: a, b => by rw [List.cons_append, wtL_cons, wtL_cons, wtL_append a b]; omega
theorem wtL_one (v : Val) : wtL [v] = wtV v := by rw [wtL_cons, wtL]; omega
def WeighR (v : Val) (left : Int) (w : World) (e : Ending) (w' : World) : Prop := ∃ r : Int, e = .returned (.int .i64 r) ∧ r < left ∧ -3000000000000 ≤ r ∧ (0 ≤ r → (wtV v : Int) ≤ left - r) ∧ Ext w w'
set_option maxRecDepth 100000 in
set_option maxHeartbeats 3200000 in
theorem r4_WeighStep (v : Val) (ok : Nat → Prop) (A : Option Addr) (c : Nat) (left deep : Int) (w : World) (hv : Vals w ok A v.l) (hsz : szV v) (h0 : 0 ≤ left) (h1 : left ≤ 1000) (h2 : 0 ≤ deep) (h3 : deep ≤ 12)
    (ih : ∀ x ∈ v.l, ∀ (Ax : Option Addr) (cx : Nat) (lf dp : Int) (W : World), Vals W ok Ax x.l → 0 ≤ lf → lf ≤ 1000 → 0 ≤ dp → dp ≤ 12 → Calls Tryz.prog 48 #[.agg #[.int .i64 x.kind, .int .i64 x.n, .int .i64 x.d, .string x.s, .slice Ax x.l.length cx], .int .i64 lf, .int .i64 dp] W (WeighR x lf W)) :
    Calls Tryz.prog 48 #[.agg #[.int .i64 v.kind, .int .i64 v.n, .int .i64 v.d, .string v.s, .slice A v.l.length c], .int .i64 left, .int .i64 deep] w (WeighR v left w) := by
  obtain ⟨g, w1, hg, hw1, ⟨p0, p1, p2, p3, p4⟩, hx, -⟩ := box_val w v A c 40
  have HW1 := Lib.hid hw1
  have HG := Lib.hid hg
  have HV := Lib.hid hv
  have HI := Lib.hid ih
  have hss := (szV_iff.1 hsz).1
  have hll := hv.len
  clear hw1 hg hv ih hsz
  have HWT := Lib.hid (show wtV v = 1 + wtL v.l from rfl)
  have hq1 : v.s.size / 50 ≤ 2814749767106 := by omega
  have hqq : Int.tdiv (v.s.size : Int) 50 = ((v.s.size / 50 : Nat) : Int) := by rw [Int.tdiv_eq_ediv_of_nonneg (by omega)]; omega
  by_cases hd : deep < 1
  · have hdt : decide (deep < 1) = true := decide_eq_true hd
    go_enter Tryz.func48, Tryz.ntmps48
    go_upto_region 1 with (fail)
    rw [← HW1.out, ← HG.out]
    clear HW1 HG
    go_wp2_with fail
    go_ret
    exact ⟨-1, rfl, by omega, by omega, fun h => absurd h (by omega), hx⟩
  · have hdf : decide (deep < 1) = false := decide_eq_false hd
    go_enter Tryz.func48, Tryz.ntmps48
    go_upto_region 1 with (fail)
    rw [← HW1.out, ← HG.out]
    clear HW1 HG
    go_wp2_with fail
    clear hdf hqq
    go_loopw [1, 7] (fun u x W => ∃ (r : Int) (i : Nat), u = .int .i64 r ∧ x = .int .i64 i ∧ i ≤ v.l.length ∧ r < left ∧ -3000000000000 ≤ r ∧ Hid (0 ≤ r → 1 + (wtL (v.l.take i) : Int) ≤ left - r) ∧ Ext w1 W) (fun _ x _ => v.l.length - (intOf x).toNat)
    case atStart => exact ⟨_, 0, rfl, rfl, Nat.zero_le _, by omega, by omega, Lib.hid (fun h => by rw [List.take_zero, wtL]; omega), Ext.refl _⟩
    case round =>
      obtain ⟨r, i, rfl, rfl, hi, hr1, hr2, hr3, hE⟩ := hrel
      replace p3 := hE.cell p3
      replace p4 := hE.cell p4
      by_cases hlt : i < v.l.length
      · by_cases hr : r ≥ 0
        · obtain ⟨b, o, rfl, hc⟩ := HV.out.2 (by omega)
          obtain ⟨-, A', c', h5, -, hv'⟩ := VCells.iff.1 (hc i hlt)
          obtain ⟨d0, d1, d2, d3, d4⟩ := h5.ext (hx.trans hE)
          have HC := Lib.hid (fun W (h : Ext wr W) => HI.out v.l[i] (List.getElem_mem hlt) A' c' r (deep - 1) W (hv'.ext ((hx.trans hE).trans h)) (by omega) (by omega) (by omega) (by omega))
          have HT := Lib.hid (fun (r' : Int) (h1 : r' < r) (h2 : 0 ≤ r' → (wtV v.l[i] : Int) ≤ r - r') => (fun h => by
            have h3 := hr3.out hr
            have h4 := h2 h
            rw [List.take_add_one, List.getElem?_eq_getElem hlt, Option.toList_some, wtL_append, wtL_one]
            omega : 0 ≤ r' → 1 + (wtL (v.l.take (i + 1)) : Int) ≤ left - r'))
          clear hc h5 hv' hr3
          generalize v.l[i] = x at *
          go_wp2_with (go_at_call 48; ((with_reducible refine (HC.out wr (Ext.refl _)).mono ?_); rintro e w' ⟨r', rfl, hr1', hr2', hr3', hb⟩; have HT2 := Lib.hid (HT.out r' hr1' hr3')))
          go_roundw
          case rel => exact ⟨r', i + 1, rfl, by go_num, by omega, by omega, hr2', HT2, hE.trans hb⟩
          case measure => simp [intOf]; omega
        · have hrf : decide (r ≥ 0) = false := decide_eq_false hr
          go_wp2_with fail
          go_ret
          exact ⟨r, rfl, hr1, hr2, fun h => absurd h (by omega), hx.trans hE⟩
      · have hi' : i = v.l.length := by omega
        have HF := Lib.hid (show 0 ≤ r → (wtV v : Int) ≤ left - r from fun h => by
          have := hr3.out h
          rw [hi', List.take_length] at this
          rw [HWT.out]; omega)
        clear hi'
        go_wp2_with fail
        go_ret
        exact ⟨r, rfl, hr1, hr2, HF.out, hx.trans hE⟩
theorem r4_WeighN : ∀ (N : Nat) (v : Val) (ok : Nat → Prop) (A : Option Addr) (c : Nat) (left deep : Int) (w : World), wtV v ≤ N → Vals w ok A v.l → szV v → 0 ≤ left → left ≤ 1000 → 0 ≤ deep → deep ≤ 12 →
    Calls Tryz.prog 48 #[.agg #[.int .i64 v.kind, .int .i64 v.n, .int .i64 v.d, .string v.s, .slice A v.l.length c], .int .i64 left, .int .i64 deep] w (WeighR v left w)
  | 0, v, _, _, _, _, _, _, h, _, _, _, _, _, _ => by unfold wtV at h; omega
  | N + 1, v, ok, A, c, left, deep, w, h, hv, hsz, h0, h1, h2, h3 => r4_WeighStep v ok A c left deep w hv hsz h0 h1 h2 h3 (fun x hx Ax cx lf dp W hV g0 g1 g2 g3 =>
      r4_WeighN N x ok Ax cx lf dp W (by have := wtL_mem hx; unfold wtV at h; omega) hV (szL_mem (szV_iff.1 hsz).2 hx) g0 g1 g2 g3)
theorem r4_Weigh (v : Val) (ok : Nat → Prop) (A : Option Addr) (c : Nat) (left deep : Int) (w : World) (hv : Vals w ok A v.l) (hsz : szV v) (h0 : 0 ≤ left) (h1 : left ≤ 1000) (h2 : 0 ≤ deep) (h3 : deep ≤ 12) :
    Calls Tryz.prog 48 #[.agg #[.int .i64 v.kind, .int .i64 v.n, .int .i64 v.d, .string v.s, .slice A v.l.length c], .int .i64 left, .int .i64 deep] w (WeighR v left w) :=
  r4_WeighN (wtV v) v ok A c left deep w (Nat.le_refl _) hv hsz h0 h1 h2 h3
/-- rows, each with what it weighs -/
def wtR : List (List Val) → Nat
  | [] => 0
  | r :: rs => 1 + wtL r + wtR rs
theorem wtR_snoc (a : List (List Val)) (r : List Val) : wtR (a ++ [r]) = wtR a + 1 + wtL r := by
  induction a with
  | nil => simp [wtR]
  | cons x a ih => rw [List.cons_append, wtR, wtR, ih]; omega
theorem wtR_mem {l : List (List Val)} {r : List Val} (h : r ∈ l) : wtL r ≤ wtR l := by
  induction l with
  | nil => cases h
  | cons x l ih =>
    rw [wtR]
    rcases List.mem_cons.1 h with e | e
    · subst e; omega
    · have := ih e; omega
def LightR (l : List (List Val)) (w : World) (e : Ending) (w' : World) : Prop := ∃ q : Bool, e = .returned (.bool q) ∧ (q = true → wtR l ≤ 300) ∧ Ext w w'
set_option maxRecDepth 100000 in
set_option maxHeartbeats 3200000 in
theorem r4_Light (l : List (List Val)) (ok : Nat → Prop) (A : Option Addr) (c : Nat) (w : World) (hv : Rows w ok A l) (hsz : ∀ r ∈ l, szL r) :
    Calls Tryz.prog 27 #[.slice A l.length c, .int .i64 300] w (LightR l w) := by
  have HV := Lib.hid hv
  have HZ := Lib.hid hsz
  have hll := hv.len
  clear hv hsz
  go_enter Tryz.func27, Tryz.ntmps27
  go_wp2_with fail
  go_loopw [1, 5] (fun u x W => ∃ (r : Int) (i : Nat), u = .int .i64 r ∧ x = .int .i64 i ∧ i ≤ l.length ∧ r ≤ 300 ∧ -3000000000000 ≤ r ∧ Hid (0 ≤ r → (wtR (l.take i) : Int) ≤ 300 - r) ∧ Ext w W) (fun _ x _ => l.length - (intOf x).toNat)
  case atStart => exact ⟨300, 0, rfl, rfl, Nat.zero_le _, by omega, by omega, Lib.hid (fun _ => by rw [List.take_zero, wtR]; omega), Ext.refl _⟩
  case round =>
    obtain ⟨r, i, rfl, rfl, hi, hr1, hr2, hr3, hE⟩ := hrel
    by_cases hlt : i < l.length
    · by_cases hr : r ≥ 0
      · obtain ⟨b, o, rfl, hrows⟩ := HV.out.2 (by omega)
        obtain ⟨-, Ak, ck, hcell, hle, hvals⟩ := hrows i hlt
        rw [Nat.mul_one] at hcell
        have p1 := hE.cell hcell
        have HVals := Lib.hid (hvals.ext hE)
        have HZX := Lib.hid (HZ.out _ (List.getElem_mem hlt))
        have hxl := hvals.len
        have HT := Lib.hid (fun (r' : Int) (h1 : 0 ≤ r' → (wtL l[i] : Int) ≤ r - 1 - r') => (fun h => by
          have h3 := hr3.out hr
          have h4 := h1 h
          rw [List.take_add_one, List.getElem?_eq_getElem hlt, Option.toList_some, wtR_snoc]
          omega : 0 ≤ r' → (wtR (l.take (i + 1)) : Int) ≤ 300 - r'))
        clear hcell hvals hle hrows hr3
        generalize l[i] = x at *
        go_wp2_with fail
        go_loopw [1, 6] (fun u y W => ∃ (r2 : Int) (k : Nat), u = .int .i64 r2 ∧ y = .int .i64 k ∧ k ≤ x.length ∧ r2 ≤ r - 1 ∧ -3000000000000 ≤ r2 ∧ Hid (0 ≤ r2 → (wtL (x.take k) : Int) ≤ r - 1 - r2) ∧ Ext wr W) (fun _ y _ => x.length - (intOf y).toNat)
        case atStart => exact ⟨r - 1, 0, rfl, rfl, Nat.zero_le _, by omega, by omega, Lib.hid (fun _ => by rw [List.take_zero, wtL]; omega), Ext.refl _⟩
        case round =>
          obtain ⟨r2, k, rfl, rfl, hk, hs1, hs2, hs3, hE2⟩ := hrel
          replace p1 := hE2.cell p1
          by_cases hlt2 : k < x.length
          · by_cases hr' : r2 ≥ 0
            · obtain ⟨b2, o2, rfl, hc⟩ := HVals.out.2 (by omega)
              obtain ⟨-, A', c', h5, -, hv'⟩ := VCells.iff.1 (hc k hlt2)
              obtain ⟨d0, d1, d2, d3, d4⟩ := h5.ext hE2
              have HC := Lib.hid (r4_Weigh x[k] ok A' c' r2 12 wr (hv'.ext hE2) (szL_mem HZX.out (List.getElem_mem hlt2)) (by omega) (by omega) (by omega) (by omega))
              have HT2 := Lib.hid (fun (r' : Int) (h1 : r' < r2) (h2 : 0 ≤ r' → (wtV x[k] : Int) ≤ r2 - r') => (fun h => by
                have h3 := hs3.out hr'
                have h4 := h2 h
                rw [List.take_add_one, List.getElem?_eq_getElem hlt2, Option.toList_some, wtL_append, wtL_one]
                omega : 0 ≤ r' → (wtL (x.take (k + 1)) : Int) ≤ r - 1 - r'))
              clear hc h5 hv' hs3
              generalize x[k] = y at *
              go_wp2_with (go_at_call 48; ((with_reducible refine (HC.out).mono ?_); rintro e w' ⟨r', rfl, hr1', hr2', hr3', hb⟩; have HT3 := Lib.hid (HT2.out r' hr1' hr3')))
              go_roundw
              case rel => exact ⟨r', k + 1, rfl, by go_num, by omega, by omega, hr2', HT3, hE2.trans hb⟩
              case measure => simp [intOf]; omega
            · have hrf : decide (r2 ≥ 0) = false := decide_eq_false hr'
              have HT4 := Lib.hid (HT.out r2 (fun h => absurd h (by omega)))
              clear hs3
              go_wp2_with fail
              go_roundw
              case rel => exact ⟨r2, i + 1, rfl, by go_num, by omega, by omega, hs2, HT4, hE.trans hE2⟩
              case measure => simp [intOf]; omega
          · have hk' : k = x.length := by omega
            have HT4 := Lib.hid (HT.out r2 (fun h => by have := hs3.out h; rw [hk', List.take_length] at this; exact this))
            clear hs3 hk'
            go_wp2_with fail
            go_roundw
            case rel => exact ⟨r2, i + 1, rfl, by go_num, by omega, by omega, hs2, HT4, hE.trans hE2⟩
            case measure => simp [intOf]; omega
      · have hrf : decide (r ≥ 0) = false := decide_eq_false hr
        go_wp2_with fail
        go_ret
        exact ⟨false, rfl, (fun h => by cases h), hE⟩
    · have HF := Lib.hid (show decide (r ≥ 0) = true → wtR l ≤ 300 from fun h => by
        have := hr3.out (of_decide_eq_true h)
        rw [show i = l.length by omega, List.take_length] at this
        have := of_decide_eq_true h
        omega)
      clear hr3
      go_wp2_with fail
      go_ret
      exact ⟨_, rfl, HF.out, hE⟩
set_option maxRecDepth 100000 in
theorem r4_SameRows (a b : List (List Val)) (ok ok' : Nat → Prop) (A B : Option Addr) (c d : Nat) (w : World) (ha : Rows w ok A a) (hb : Rows w ok' B b) (hza : ∀ r ∈ a, szL r) (hzb : ∀ r ∈ b, szL r) :
    Calls Tryz.prog 47 #[.slice A a.length c, .slice B b.length d] w fun e w' => e = .returned (.bool (decide (a = b))) ∧ Ext w w' := by
  have HA := Lib.hid ha
  have HB := Lib.hid hb
  have HQ := Lib.hid (And.intro hza hzb)
  have hla := ha.len
  have hlb := hb.len
  clear ha hb hza hzb
  by_cases hl : a.length = b.length
  · have hla1 : a.length ≤ b.length := by omega
    have hla2 : b.length ≤ a.length := by omega
    have hl0 : (((a.length : Int) != (b.length : Int))) = false := by simp; omega
    obtain ⟨R, hR⟩ : ∃ R, R = decide (a = b) := ⟨_, rfl⟩
    have HY := Lib.hid (fun (h : ∀ i (h1 : i < a.length) (h2 : i < b.length), a[i] = b[i]) => (by rw [hR]; exact decide_eq_true (List.ext_getElem hl h) : R = true))
    have HN := Lib.hid (fun i (h1 : i < a.length) (h2 : i < b.length) (h : a[i] ≠ b[i]) => (by rw [hR]; exact decide_eq_false (fun e => h (by subst e; rfl)) : R = false))
    rw [← hR]
    clear hR hl
    go_enter Tryz.func47, Tryz.ntmps47
    go_wp2_with fail
    clear hl0
    go_loopw [5] (fun u W => ∃ k : Nat, u = .int .i64 k ∧ k ≤ a.length ∧ Hid (∀ i (h1 : i < a.length) (h2 : i < b.length), i < k → a[i] = b[i]) ∧ Ext w W) (fun u _ => a.length - (intOf u).toNat)
    case atStart => exact ⟨0, rfl, Nat.zero_le _, Lib.hid (fun i _ _ hi => absurd hi (Nat.not_lt_zero _)), Ext.refl _⟩
    case round =>
      obtain ⟨k, rfl, hk, hgd, hE⟩ := hrel
      by_cases hlt : k < a.length
      · have hltb : k < b.length := by omega
        obtain ⟨ba, oa, rfl, hca⟩ := HA.out.2 (by omega)
        obtain ⟨bb, ob, rfl, hcb⟩ := HB.out.2 (by omega)
        obtain ⟨-, A', c', hc1, -, hv1⟩ := hca k hlt
        obtain ⟨-, B', d', hc2, -, hv2⟩ := hcb k hltb
        rw [Nat.mul_one] at hc1 hc2
        have p1 := hE.cell hc1
        have p2 := hE.cell hc2
        have HC := Lib.hid (fun W (h : Ext wr W) => r4_OrderRows a[k] b[k] ok ok' A' B' c' d' W (hv1.ext (hE.trans h)) (hv2.ext (hE.trans h)) (HQ.out.1 _ (List.getElem_mem hlt)) (HQ.out.2 _ (List.getElem_mem hltb)))
        have MK := Lib.hid (fun V (e : Ext wr V) => (⟨e.cell p1, e.cell p2, e⟩ : V.cell? ⟨ba, oa + k, none⟩ = some (Value.slice A' a[k].length c') ∧ V.cell? ⟨bb, ob + k, none⟩ = some (Value.slice B' b[k].length d') ∧ Ext wr V))
        have HG := Lib.hid (fun (h : ordL a[k] b[k] = 0) => (fun i h1 h2 hi => if e : i = k then by subst e; exact (ordL_zero _ _).1 h else hgd.out i h1 h2 (by omega) : ∀ i (h1 : i < a.length) (h2 : i < b.length), i < k + 1 → a[i] = b[i]))
        have HB2 := Lib.hid (fun (h : ordL a[k] b[k] ≠ 0) => HN.out k hlt hltb (fun e => h ((ordL_zero _ _).2 e)))
        clear hc1 hc2 hv1 hv2 hca hcb p1 p2
        generalize ordL a[k] b[k] = z at *
        generalize a[k] = x at *
        generalize b[k] = y at *
        by_cases hz : z = 0
        · subst hz
          have HG2 := Lib.hid (HG.out rfl)
          clear HG HB2
          go_wp2_with fail
          go_region_held3 (fun V => V.cell? ⟨ba, oa + k, none⟩ = some (Value.slice A' x.length c') ∧ V.cell? ⟨bb, ob + k, none⟩ = some (Value.slice B' y.length d') ∧ Ext wr V) ((exact MK.out _ (by repeat (first | with_reducible exact Ext.refl _ | with_reducible assumption | with_reducible refine Ext.drew ?_ | with_reducible refine Ext.drewN ?_ _ | with_reducible refine Ext.alloc ?_ _)))) ((refine (HC.out _ (by repeat (first | with_reducible exact Ext.refl _ | with_reducible assumption | with_reducible refine Ext.drew ?_ | with_reducible refine Ext.drewN ?_ _ | with_reducible refine Ext.alloc ?_ _))).mono ?_; rintro e w' ⟨rfl, hb⟩; replace hb : Ext wr w' := Ext.trans (by repeat (first | with_reducible exact Ext.refl _ | with_reducible assumption | with_reducible refine Ext.drew ?_ | with_reducible refine Ext.drewN ?_ _ | with_reducible refine Ext.alloc ?_ _)) hb))
          clear MK HC
          go_wp2_with fail
          go_roundw
          case rel => exact ⟨k + 1, by go_num, by omega, HG2, hE.trans hb⟩
          case measure => simp [intOf]; omega
        · have HB3 := Lib.hid (HB2.out hz)
          have hzt : (z != 0) = true := by simpa using hz
          clear HG HB2 hz
          go_wp2_with fail
          go_region_held3 (fun V => V.cell? ⟨ba, oa + k, none⟩ = some (Value.slice A' x.length c') ∧ V.cell? ⟨bb, ob + k, none⟩ = some (Value.slice B' y.length d') ∧ Ext wr V) ((exact MK.out _ (by repeat (first | with_reducible exact Ext.refl _ | with_reducible assumption | with_reducible refine Ext.drew ?_ | with_reducible refine Ext.drewN ?_ _ | with_reducible refine Ext.alloc ?_ _)))) ((refine (HC.out _ (by repeat (first | with_reducible exact Ext.refl _ | with_reducible assumption | with_reducible refine Ext.drew ?_ | with_reducible refine Ext.drewN ?_ _ | with_reducible refine Ext.alloc ?_ _))).mono ?_; rintro e w' ⟨rfl, hb⟩; replace hb : Ext wr w' := Ext.trans (by repeat (first | with_reducible exact Ext.refl _ | with_reducible assumption | with_reducible refine Ext.drew ?_ | with_reducible refine Ext.drewN ?_ _ | with_reducible refine Ext.alloc ?_ _)) hb))
          clear MK HC
          go_wp2_with fail
          go_ret
          exact ⟨ret_bool HB3.out.symm, hE.trans hb⟩
      · have HF := Lib.hid (HY.out (fun i h1 h2 => hgd.out i h1 h2 (by omega)))
        go_wp2_with fail
        go_ret
        exact ⟨ret_bool HF.out.symm, hE⟩
  · have hl0 : (((a.length : Int) != (b.length : Int))) = true := by simp; omega
    have HF := Lib.hid (show decide (a = b) = false from decide_eq_false (fun e => hl (by rw [e])))
    clear hl
    go_enter Tryz.func47, Tryz.ntmps47
    go_wp2_with fail
    go_ret
    exact ⟨ret_bool HF.out.symm, Ext.refl _⟩
/-- what a sorted row holds, the row held -/
theorem sortO_mem {l : List (List Val)} {r : List Val} (h : r ∈ sortO ordL l) : r ∈ l := (sortO_perm TotC.row l).mem_iff.1 h
set_option maxRecDepth 100000 in
theorem r4_SameBag (a b : List (List Val)) (ok ok' : Nat → Prop) (A B : Option Addr) (c d : Nat) (w : World) (ha : Rows w ok A a) (hb : Rows w ok' B b) (hla : a.length ≤ 8000000) (hlb : b.length ≤ 8000000) (hza : ∀ r ∈ a, wtL r ≤ 8000000 ∧ szL r) (hzb : ∀ r ∈ b, wtL r ≤ 8000000 ∧ szL r) :
    Calls Tryz.prog 25 #[.slice A a.length c, .slice B b.length d] w fun e w' => e = .returned (.bool (decide (sortO ordL a = sortO ordL b))) ∧ Ext w w' := by
  have H1 := Lib.hid (r4_SortRows a ok A c w hla hza ha)
  have H2 := Lib.hid (fun W (h : Ext w W) => r4_SortRows b ok' B d W hlb hzb (hb.ext h))
  have H3 := Lib.hid (fun (ok1 ok2 : Nat → Prop) A' B' c' d' W (h1 : Rows W ok1 A' (sortO ordL a)) (h2 : Rows W ok2 B' (sortO ordL b)) => (by
    have := r4_SameRows (sortO ordL a) (sortO ordL b) ok1 ok2 A' B' c' d' W h1 h2 (fun r h => (hza r (sortO_mem h)).2) (fun r h => (hzb r (sortO_mem h)).2)
    rw [sortO_len TotC.row, sortO_len TotC.row] at this
    exact this : Calls Tryz.prog 47 #[.slice A' a.length c', .slice B' b.length d'] W fun e w' => e = .returned (.bool (decide (sortO ordL a = sortO ordL b))) ∧ Ext W w'))
  clear hza hzb ha hb
  go_enter Tryz.func25, Tryz.ntmps25
  go_wp2_with (first | (go_at_call 15; ((with_reducible refine (H1.out).mono ?_); rintro e w1 ⟨A1, c1, rfl, -, hr1, hx1⟩)) | (go_at_call 15; ((with_reducible refine (H2.out w1 hx1).mono ?_); rintro e w2 ⟨A2, c2, rfl, -, hr2, hx2⟩)) | (go_at_call 47; ((with_reducible refine (H3.out _ _ A1 A2 c1 c2 w2 (hr1.ext hx2) hr2).mono ?_); rintro e w3 ⟨rfl, hx3⟩)))
  go_ret
  exact ⟨rfl, hx1.trans (hx2.trans hx3)⟩
theorem nul_str : (⟨#[]⟩ : ByteArray) = ByteArray.empty := rfl
set_option maxRecDepth 100000 in
theorem v_Null (w : World) : Calls Tryz.prog 73 #[] w fun e w' => e = .returned (.agg #[.int .i64 0, .int .i64 0, .int .i64 0, .string ByteArray.empty, .slice none 0 0]) ∧ Ext w w' := by
  obtain ⟨g, w1, hg, hw1, ⟨p0, p1, p2, p3, p4⟩, hx, -⟩ := box_val w (.mk 0 0 0 ByteArray.empty []) none 0 40
  change w1 = w.alloc (.cells #[.int .i64 0, .int .i64 0, .int .i64 0, .string ⟨#[]⟩, .slice none 0 0] 40) at hw1
  change w1.cell? ⟨g, 0, none⟩ = some (.int .i64 0) at p0
  change w1.cell? ⟨g, 1, none⟩ = some (.int .i64 0) at p1
  change w1.cell? ⟨g, 2, none⟩ = some (.int .i64 0) at p2
  change w1.cell? ⟨g, 3, none⟩ = some (.string ⟨#[]⟩) at p3
  change w1.cell? ⟨g, 4, none⟩ = some (.slice none 0 0) at p4
  have HW1 := Lib.hid hw1
  have HG := Lib.hid hg
  clear hw1 hg
  go_enter Tryz.func73, Tryz.ntmps73
  go_wp2_with fail
  rw [← HW1.out, ← HG.out]
  exact bodyPost_ret (v := .agg #[.int .i64 0, .int .i64 0, .int .i64 0, .string ByteArray.empty, .slice none 0 0]) (by simp [results, Tryz.results73, go_sem, p0, p1, p2, p3, p4, nul_str]) rfl ⟨rfl, hx⟩
end Go.Proofs.YtbjddimafilflaaGreatDoor

/- THE WALKS over join.part, join.void and what they call; slices.IndexFunc and ContainsFunc at values and rows. -/
namespace Go.Proofs.YtbjddimafilflaaGreatDoor
open Go.RowKit Go.Sort
def nullV : Val := .mk 0 0 0 ByteArray.empty []
instance : Inhabited Val := ⟨nullV⟩
/-- the values of a row at some positions -/
def partJ (r : List Val) (at_ : List Nat) : List Val := at_.map (fun i => r[i]!)
def ints (l : List Nat) : List Int := l.map (fun (i : Nat) => (i : Int))
theorem ints_len (l : List Nat) : (ints l).length = l.length := by simp [ints]
theorem ints_get (l : List Nat) (k : Nat) (h : k < (ints l).length) (h' : k < l.length) : (ints l)[k] = ((l[k] : Nat) : Int) := by simp [ints]
theorem T_rowV : ElT Tryz.prog 37 40 5 64 :=
  ⟨Tryz.underlying37, ⟨.agg #[.int .i64 0, .int .i64 0, .int .i64 0, .string ⟨#[]⟩, .slice none 0 0], by kernel_rfl, rfl⟩, by decide⟩
theorem CopyTo.any {w : World} {ok : Nat → Prop} {base : Nat} {v : Value} {l : List Val} {cs : List (List Value)} (h : CopyTo w ok l cs) (hown : w.ownsRow base 40 5 v l.length cs.flatten) (hl : cs.length = l.length) (hm : l.length ≤ 140737488355328) :
    ∃ A c, v = .slice A l.length c ∧ l.length ≤ c ∧ Vals w (fun _ => True) A l := by
  refine own_sliceR hown rfl hl h.size hm (fun g hg _ k hk hk' hcell => ?_)
  obtain ⟨h', A, c, e, h2, h3⟩ := h k hk'
  rw [e] at hcell
  refine VCells.iff.2 ⟨trivial, A, c, ⟨?_, ?_, ?_, ?_, ?_⟩, h2, h3.to (fun _ _ => trivial)⟩
  · exact hcell 0 _ rfl
  · exact hcell 1 _ rfl
  · exact hcell 2 _ rfl
  · exact hcell 3 _ rfl
  · exact hcell 4 _ rfl
set_option maxRecDepth 100000 in
set_option maxHeartbeats 3200000 in
theorem j_part (r : List Val) (at_ : List Nat) (ok ok' : Nat → Prop) (A B : Option Addr) (c d : Nat) (w : World) (hv : Vals w ok A r) (hn : Nums w ok' B (ints at_)) (hat : ∀ i ∈ at_, i < r.length) (hl : at_.length ≤ 8000000) :
    Calls Tryz.prog 55 #[.slice A r.length c, .slice B at_.length d] w fun e w' => ∃ A' c', e = .returned (.slice A' (partJ r at_).length c') ∧ (partJ r at_).length ≤ c' ∧ Vals w' (fun _ => True) A' (partJ r at_) ∧ Ext w w' := by
  have HV := Lib.hid hv
  have HN := Lib.hid hn
  have HA := Lib.hid hat
  have hrl := hv.len
  have HPL := Lib.hid (show (partJ r at_).length = at_.length by unfold partJ; rw [List.length_map])
  clear hv hn hat
  go_enter Tryz.func55, Tryz.ntmps55
  go_wp2_with fail
  go_loopw [5, 10] (fun v u W => ∃ (k : Nat) (cs : List (List Value)), u = .int .i64 k ∧ k ≤ at_.length ∧ Hid (W.ownsRow w.heap.size 40 5 v k cs.flatten) ∧ Hid (cs.length = k) ∧ Hid (CopyTo w ok (partJ r at_) cs) ∧ Hid (Ext w W)) (fun _ u _ => at_.length - (intOf u).toNat)
  case atStart => exact ⟨0, [], rfl, Nat.zero_le _, Lib.hid (World.ownsRow_nil _ _ _ _), Lib.hid rfl, Lib.hid (CopyTo.nil _ _ _), Lib.hid (Ext.refl _)⟩
  case round =>
    obtain ⟨k, cs, rfl, hk, hown, hcl, hct, hE⟩ := hrel
    by_cases hlt : k < at_.length
    · obtain ⟨b2, o2, rfl, hnc⟩ := HN.out.2 (by rw [ints_len]; omega)
      have hk1 : k < (ints at_).length := by rw [ints_len]; exact hlt
      have q1 := hE.out.cell (hnc k hk1).2
      rw [Nat.mul_one, ints_get at_ k hk1 hlt] at q1
      have hp := HA.out at_[k] (List.getElem_mem hlt)
      have hx : (partJ r at_)[k]'(by rw [HPL.out]; exact hlt) = r[at_[k]] := by unfold partJ; rw [List.getElem_map, getElem!_pos r _ hp]
      obtain ⟨b, o, rfl, hc⟩ := HV.out.2 (by omega)
      obtain ⟨-, A', c', h5, hle, hv'⟩ := VCells.iff.1 (hc at_[k] hp)
      obtain ⟨d0, d1, d2, d3, d4⟩ := h5.ext hE.out
      have HP := Lib.hid (show CopyTo w ok (partJ r at_) (cs ++ [(r[at_[k]]).cells A' c']) by
        have hk' := hcl.out
        subst hk'
        rw [← hx]
        exact hct.out.push (by rw [HPL.out]; exact hlt) (by rw [hx]; exact hle) (by rw [hx]; exact hv'))
      have hpi : (at_[k] : Int) < (r.length : Int) := by omega
      clear hc h5 hv' hnc hk1 hx hle
      generalize r[at_[k]] = x at *
      generalize at_[k] = p at *
      have hown' := hown.out
      have hE' := hE.out
      have hkb : k + 1 ≤ 8388608 := by omega
      go_wp2_with (at_builtin; refine own_pushF T_rowV rfl (.tmp 14) (.tmp 19) rfl w wr _ k _ (x.cells A' c') rfl hown' hE' rfl rfl rfl (Val.cells_one _ _ _) hkb (by decide) ?_; intro v2 w9 hown2 hE9 hF9)
      clear hF9
      have HO2 := Lib.hid (show w9.ownsRow w.heap.size 40 5 v2 (k + 1) (cs ++ [x.cells A' c']).flatten by rw [List.flatten_append]; simpa using hown2)
      have HE9 := Lib.hid hE9
      go_roundw
      case rel => exact ⟨k + 1, cs ++ [x.cells A' c'], by go_num, by omega, HO2, Lib.hid (by rw [List.length_append, hcl.out]; rfl), HP, HE9⟩
      case measure => simp [intOf]; omega
    · have HD := Lib.hid ((hct.out.ext hE.out).any (by rw [HPL.out, show at_.length = k by omega]; exact hown.out) (by rw [HPL.out, hcl.out]; omega) (by rw [HPL.out]; omega))
      have HE := Lib.hid hE.out
      clear hown hct hcl hE
      go_wp2_with fail
      obtain ⟨A9, c9, e9, h9, hV9⟩ := HD.out
      subst e9
      go_ret
      exact ⟨A9, c9, rfl, h9, hV9, HE.out⟩
/-- the first place whose element is told, or -1 -/
def idxF {α : Type} (p : α → Bool) (l : List α) : Int := match l.findIdx? p with | some i => (i : Int) | none => -1
theorem idxF_none {α : Type} {p : α → Bool} {l : List α} (h : ∀ i (hi : i < l.length), p l[i] = false) : idxF p l = -1 := by
  have : l.findIdx? p = none := List.findIdx?_eq_none_iff.2 (fun x hx => by obtain ⟨i, hi, rfl⟩ := List.getElem_of_mem hx; exact h i hi)
  unfold idxF; rw [this]
theorem idxF_at {α : Type} {p : α → Bool} {l : List α} (i : Nat) (hi : i < l.length) (h1 : ∀ j (hj : j < l.length), j < i → p l[j] = false) (h2 : p l[i] = true) : idxF p l = (i : Int) := by
  have : l.findIdx? p = some i := List.findIdx?_eq_some_iff_getElem.2 ⟨hi, h2, fun j hj => by rw [h1 j (by omega) hj]; exact Bool.false_ne_true⟩
  unfold idxF; rw [this]
theorem idxF_any {α : Type} (p : α → Bool) (l : List α) : decide (idxF p l ≥ 0) = l.any p := by
  unfold idxF
  cases h : l.findIdx? p with
  | none => rw [show l.any p = false by rw [List.any_eq_false]; exact fun x hx => by rw [List.findIdx?_eq_none_iff.1 h x hx]; exact Bool.false_ne_true]; rfl
  | some i =>
    obtain ⟨hi, h2, -⟩ := List.findIdx?_eq_some_iff_getElem.1 h
    rw [List.any_eq_true.2 ⟨l[i], List.getElem_mem hi, h2⟩]
    exact decide_eq_true (Int.natCast_nonneg i)
set_option maxRecDepth 100000 in
set_option maxHeartbeats 1600000 in
theorem j_IndexV (l : List Val) (p : Val → Bool) (ok : Nat → Prop) (A : Option Addr) (c : Nat) (f : Nat) (cb : Array Value) (w : World) (hv : Vals w ok A l) (eg : ∀ args w, (callFunc f args).run Tryz.prog w = .ok (.enter f args) w)
    (hf : ∀ x ∈ l, ∀ (Ax : Option Addr) (cx : Nat) (W : World), Ext w W → Vals W ok Ax x.l → x.l.length ≤ cx → Calls Tryz.prog f (#[.agg #[.int .i64 x.kind, .int .i64 x.n, .int .i64 x.d, .string x.s, .slice Ax x.l.length cx]] ++ cb) W fun e W' => e = .returned (.bool (p x)) ∧ Ext W W') :
    Calls Tryz.prog 88 #[.slice A l.length c, .func (.func f) #[] cb] w fun e w' => e = .returned (.int .i64 (idxF p l)) ∧ Ext w w' := by
  have hm := hv.len
  have HV := Lib.hid hv
  have HF := Lib.hid hf
  have HY := Lib.hid (fun h => idxF_none (p := p) (l := l) h)
  have HB := Lib.hid (fun i (hi : i < l.length) h1 h2 => idxF_at (p := p) i hi h1 h2)
  obtain ⟨R, hR⟩ : ∃ R, R = idxF p l := ⟨_, rfl⟩
  rw [← hR] at HY HB ⊢
  clear hv hf hR
  go_enter Tryz.func88, Tryz.ntmps88
  go_wp2_with fail
  go_loopw [8] (fun u W => ∃ k : Nat, u = .int .i64 k ∧ k ≤ l.length ∧ Hid (∀ i (hi : i < l.length), i < k → p l[i] = false) ∧ Ext w W) (fun u _ => l.length - (intOf u).toNat)
  case atStart => exact ⟨0, rfl, Nat.zero_le _, Lib.hid (fun i _ hi => absurd hi (Nat.not_lt_zero _)), Ext.refl _⟩
  case round =>
    obtain ⟨k, rfl, hk, hgd, hE⟩ := hrel
    by_cases hlt : k < l.length
    · obtain ⟨b, o, rfl, hc⟩ := HV.out.2 (by omega)
      obtain ⟨-, A', c', h5, hle, hv'⟩ := VCells.iff.1 (hc k hlt)
      obtain ⟨d0, d1, d2, d3, d4⟩ := h5.ext hE
      clear h5
      have HS := Lib.hid (fun (h : p l[k] = false) i hi (hj : i < k + 1) => (if e : i = k then (by subst e; exact h) else hgd.out i hi (by omega) : p l[i] = false))
      have HB' := Lib.hid (HB.out k hlt hgd.out)
      have C := fun W (e : Ext wr W) => HF.out l[k] (List.getElem_mem hlt) A' c' W (hE.trans e) (hv'.ext (hE.trans e)) hle
      clear hc hv' HB hgd
      generalize l[k] = x at *
      have HC := Lib.hid C
      clear C
      generalize p x = q at *
      cases q
      · have HT := Lib.hid (HS.out rfl)
        go_wp2_with fail
        refine (HC.out wr (Ext.refl _)).mono ?_
        rintro e w' ⟨rfl, hb'⟩
        go_wp2_with fail
        go_roundw
        case rel => exact ⟨k + 1, by go_num, by omega, HT, hE.trans hb'⟩
        case measure => simp [intOf]; omega
      · have HT := Lib.hid (HB'.out rfl)
        go_wp2_with fail
        refine (HC.out wr (Ext.refl _)).mono ?_
        rintro e w' ⟨rfl, hb'⟩
        go_wp2_with fail
        go_ret
        exact ⟨ret_int HT.out.symm, hE.trans hb'⟩
    · have HT := Lib.hid (HY.out (fun i hi => hgd.out i hi (by omega)))
      go_wp2_with fail
      go_ret
      exact ⟨ret_int HT.out.symm, hE⟩
set_option maxRecDepth 100000 in
theorem j_ContainsV (l : List Val) (p : Val → Bool) (ok : Nat → Prop) (A : Option Addr) (c : Nat) (f : Nat) (cb : Array Value) (w : World) (hv : Vals w ok A l) (eg : ∀ args w, (callFunc f args).run Tryz.prog w = .ok (.enter f args) w)
    (hf : ∀ x ∈ l, ∀ (Ax : Option Addr) (cx : Nat) (W : World), Ext w W → Vals W ok Ax x.l → x.l.length ≤ cx → Calls Tryz.prog f (#[.agg #[.int .i64 x.kind, .int .i64 x.n, .int .i64 x.d, .string x.s, .slice Ax x.l.length cx]] ++ cb) W fun e W' => e = .returned (.bool (p x)) ∧ Ext W W') :
    Calls Tryz.prog 70 #[.slice A l.length c, .func (.func f) #[] cb] w fun e w' => e = .returned (.bool (l.any p)) ∧ Ext w w' := by
  have HC := Lib.hid (j_IndexV l p ok A c f cb w hv eg hf)
  have HQ := Lib.hid (idxF_any p l)
  generalize l.any p = q at *
  generalize idxF p l = z at *
  clear hv hf
  go_enter Tryz.func70, Tryz.ntmps70
  go_wp2_with (go_at_call 88; ((with_reducible refine (HC.out).mono ?_); rintro e w' ⟨rfl, hb⟩))
  go_ret
  exact ⟨ret_bool HQ.out, hb⟩
set_option maxRecDepth 100000 in
set_option maxHeartbeats 1600000 in
theorem j_IndexR (l : List (List Val)) (p : (List Val) → Bool) (ok : Nat → Prop) (A : Option Addr) (c : Nat) (f : Nat) (cb : Array Value) (w : World) (hv : Rows w ok A l) (eg : ∀ args w, (callFunc f args).run Tryz.prog w = .ok (.enter f args) w)
    (hf : ∀ x ∈ l, ∀ (Ax : Option Addr) (cx : Nat) (W : World), Ext w W → Vals W ok Ax x → x.length ≤ cx → Calls Tryz.prog f (#[.slice Ax x.length cx] ++ cb) W fun e W' => e = .returned (.bool (p x)) ∧ Ext W W') :
    Calls Tryz.prog 74 #[.slice A l.length c, .func (.func f) #[] cb] w fun e w' => e = .returned (.int .i64 (idxF p l)) ∧ Ext w w' := by
  have hm := hv.len
  have HV := Lib.hid hv
  have HF := Lib.hid hf
  have HY := Lib.hid (fun h => idxF_none (p := p) (l := l) h)
  have HB := Lib.hid (fun i (hi : i < l.length) h1 h2 => idxF_at (p := p) i hi h1 h2)
  obtain ⟨R, hR⟩ : ∃ R, R = idxF p l := ⟨_, rfl⟩
  rw [← hR] at HY HB ⊢
  clear hv hf hR
  go_enter Tryz.func74, Tryz.ntmps74
  go_wp2_with fail
  go_loopw [8] (fun u W => ∃ k : Nat, u = .int .i64 k ∧ k ≤ l.length ∧ Hid (∀ i (hi : i < l.length), i < k → p l[i] = false) ∧ Ext w W) (fun u _ => l.length - (intOf u).toNat)
  case atStart => exact ⟨0, rfl, Nat.zero_le _, Lib.hid (fun i _ hi => absurd hi (Nat.not_lt_zero _)), Ext.refl _⟩
  case round =>
    obtain ⟨k, rfl, hk, hgd, hE⟩ := hrel
    by_cases hlt : k < l.length
    · obtain ⟨b, o, rfl, hc⟩ := HV.out.2 (by omega)
      obtain ⟨-, A', c', h5, hle, hv'⟩ := hc k hlt
      rw [Nat.mul_one] at h5
      have d0 := hE.cell h5
      clear h5
      have HS := Lib.hid (fun (h : p l[k] = false) i hi (hj : i < k + 1) => (if e : i = k then (by subst e; exact h) else hgd.out i hi (by omega) : p l[i] = false))
      have HB' := Lib.hid (HB.out k hlt hgd.out)
      have C := fun W (e : Ext wr W) => HF.out l[k] (List.getElem_mem hlt) A' c' W (hE.trans e) (hv'.ext (hE.trans e)) hle
      clear hc hv' HB hgd
      generalize l[k] = x at *
      have HC := Lib.hid C
      clear C
      generalize p x = q at *
      cases q
      · have HT := Lib.hid (HS.out rfl)
        go_wp2_with fail
        refine (HC.out wr (Ext.refl _)).mono ?_
        rintro e w' ⟨rfl, hb'⟩
        go_wp2_with fail
        go_roundw
        case rel => exact ⟨k + 1, by go_num, by omega, HT, hE.trans hb'⟩
        case measure => simp [intOf]; omega
      · have HT := Lib.hid (HB'.out rfl)
        go_wp2_with fail
        refine (HC.out wr (Ext.refl _)).mono ?_
        rintro e w' ⟨rfl, hb'⟩
        go_wp2_with fail
        go_ret
        exact ⟨ret_int HT.out.symm, hE.trans hb'⟩
    · have HT := Lib.hid (HY.out (fun i hi => hgd.out i hi (by omega)))
      go_wp2_with fail
      go_ret
      exact ⟨ret_int HT.out.symm, hE⟩
set_option maxRecDepth 100000 in
theorem j_ContainsR (l : List (List Val)) (p : (List Val) → Bool) (ok : Nat → Prop) (A : Option Addr) (c : Nat) (f : Nat) (cb : Array Value) (w : World) (hv : Rows w ok A l) (eg : ∀ args w, (callFunc f args).run Tryz.prog w = .ok (.enter f args) w)
    (hf : ∀ x ∈ l, ∀ (Ax : Option Addr) (cx : Nat) (W : World), Ext w W → Vals W ok Ax x → x.length ≤ cx → Calls Tryz.prog f (#[.slice Ax x.length cx] ++ cb) W fun e W' => e = .returned (.bool (p x)) ∧ Ext W W') :
    Calls Tryz.prog 60 #[.slice A l.length c, .func (.func f) #[] cb] w fun e w' => e = .returned (.bool (l.any p)) ∧ Ext w w' := by
  have HC := Lib.hid (j_IndexR l p ok A c f cb w hv eg hf)
  have HQ := Lib.hid (idxF_any p l)
  generalize l.any p = q at *
  generalize idxF p l = z at *
  clear hv hf
  go_enter Tryz.func60, Tryz.ntmps60
  go_wp2_with (go_at_call 74; ((with_reducible refine (HC.out).mono ?_); rintro e w' ⟨rfl, hb⟩))
  go_ret
  exact ⟨ret_bool HQ.out, hb⟩
end Go.Proofs.YtbjddimafilflaaGreatDoor
