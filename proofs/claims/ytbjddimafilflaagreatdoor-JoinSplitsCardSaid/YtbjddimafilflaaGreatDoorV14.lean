/- PARTS OF THE WALKS, joined: Je, Tab, TabB, OwnR. -/
import Derived.Test.YtbjddimafilflaaGreatDoorV13
import Derived.Maps.OwnOps
import Derived.Maps.OwnSet
/- THE WALK over join.sorted; join.part with what it points to. -/
namespace Go.Proofs.YtbjddimafilflaaGreatDoor
open Go.RowKit Go.Sort
theorem sn_ins (A : Option Addr) (c : Nat) (fv : Value) (w : World) : Calls Tryz.prog 95 #[.slice A 0 c, .int .i64 0, .int .i64 0, fv] w fun e w' => e = .returned (.tuple #[]) ∧ Ext w w' := by
  go_enter Tryz.func95, Tryz.ntmps95
  go_wp2_with fail
  go_loopw [8] (fun u W => u = .int .i64 1 ∧ Ext w W) (fun _ _ => 0)
  case atStart => exact ⟨by go_num, Ext.refl _⟩
  case round =>
    obtain ⟨rfl, hE⟩ := hrel
    go_wp2_with fail
    go_end0
    exact ⟨rfl, hE⟩
theorem sn_stable (A : Option Addr) (c : Nat) (fv : Value) (w : World) : Calls Tryz.prog 77 #[.slice A 0 c, .int .i64 0, fv] w fun e w' => e = .returned (.tuple #[]) ∧ Ext w w' := by
  have H := Lib.hid (fun W => sn_ins A c fv W)
  go_enter Tryz.func77, Tryz.ntmps77
  go_wp2_with fail
  go_loopw [7, 8] (fun u v W => u = .int .i64 0 ∧ v = .int .i64 20 ∧ Ext w W) (fun _ _ _ => 0)
  case atStart => exact ⟨rfl, rfl, Ext.refl _⟩
  case round =>
    obtain ⟨rfl, rfl, hE⟩ := hrel
    go_wp2_with (go_at_call 95; ((with_reducible refine (H.out _).mono ?_); rintro e w1 ⟨rfl, hx1⟩))
    replace hE := hE.trans hx1
    go_loopw [6, 7, 8] (fun u v x W => u = .int .i64 20 ∧ Ext w W) (fun _ _ _ _ => 0)
    case atStart => exact ⟨rfl, hE⟩
    case round =>
      obtain ⟨rfl, hE⟩ := hrel
      go_wp2_with fail
      go_end0
      exact ⟨rfl, hE⟩
theorem sn_sort (A : Option Addr) (c : Nat) (fv : Value) (w : World) : Calls Tryz.prog 65 #[.slice A 0 c, fv] w fun e w' => e = .returned (.tuple #[]) ∧ Ext w w' := by
  have H := Lib.hid (fun W => sn_stable A c fv W)
  go_enter Tryz.func65, Tryz.ntmps65
  go_wp2_with (go_at_call 77; ((with_reducible refine (H.out _).mono ?_); rintro e w1 ⟨rfl, hx1⟩))
  go_end0
  exact ⟨rfl, hx1⟩
theorem sn_delete (f : Nat) (cb : Array Value) (w : World) (eg : ∀ args w, (callFunc f args).run Tryz.prog w = .ok (.enter f args) w) :
    Calls Tryz.prog 78 #[.slice none 0 0, .func (.func f) #[] cb] w fun e w' => e = .returned (.slice none 0 0) ∧ Ext w w' := by
  have HI := Lib.hid (show Calls Tryz.prog 74 #[.slice none 0 0, .func (.func f) #[] cb] w (fun e w' => e = .returned (.int .i64 (-1)) ∧ Ext w w') from j_IndexR [] (fun _ => false) (fun _ => True) none 0 f cb w (SliceR.nil _ _ _) eg (fun r hr => absurd hr (by simp)))
  go_enter Tryz.func78, Tryz.ntmps78
  go_wp2_with (go_at_call 74; ((with_reducible refine (HI.out).mono ?_); rintro e w' ⟨rfl, hx⟩))
  go_ret
  exact ⟨rfl, hx⟩
/-- a predicate on blocks, of blocks that are there -/
def okN (ok : Nat → Prop) (w : World) (b : Nat) : Prop := ok b ∧ b < w.heap.size
theorem Vals.bnd {w : World} {ok : Nat → Prop} {A : Option Addr} {l : List Val} (h : Vals w ok A l) : Vals w (okN ok w) A l := h.keep' (fun _ _ _ hb hc => ⟨hc, hb, block_lt_of_cell hc⟩)
theorem Rows.bnd {w : World} {ok : Nat → Prop} {A : Option Addr} {l : List (List Val)} (h : Rows w ok A l) : Rows w (okN ok w) A l :=
  SliceR.mono h (fun b o x _ hx => by
    obtain ⟨h0, A, c, h1, h2, h3⟩ := hx
    exact ⟨⟨h0, block_lt_of_cell h1⟩, A, c, h1, h2, h3.bnd⟩)
theorem Rows.to {w : World} {ok ok' : Nat → Prop} {A : Option Addr} {l : List (List Val)} (h : Rows w ok A l) (ho : ∀ b, ok b → ok' b) : Rows w ok' A l := h.keep (fun _ _ _ _ hc => hc) ho
/-- the heads of rows that lie in memory -/
theorem Rows.flat {w : World} {ok : Nat → Prop} {A : Option Addr} {l : List (List Val)} (h : Rows w ok A l) : ∃ ps : List HRow, ps.map Prod.snd = l ∧ (∀ p ∈ ps, GoodRow w ok p) ∧ (∀ ad, A = some ad → ∀ j u, (ps.map encP)[j]? = some u → w.cell? (ad.add j) = some u) := by
  rcases Nat.eq_zero_or_pos l.length with h0 | h0
  · have : l = [] := List.eq_nil_of_length_eq_zero h0
    subst this
    exact ⟨[], rfl, fun p hp => absurd hp (by simp), fun _ _ j u hu => by simp at hu⟩
  · obtain ⟨b, o, rfl, hc⟩ := h.2 h0
    have hch : ∀ k (hk : k < l.length), ∃ p : HRow, p.2 = l[k] ∧ GoodRow w ok p ∧ w.cell? ⟨b, o + k, none⟩ = some (encP p) := fun k hk => by
      obtain ⟨-, A, c, h1, h2, h3⟩ := hc k hk
      rw [Nat.mul_one] at h1
      exact ⟨(⟨A, l[k].length, c⟩, l[k]), rfl, ⟨rfl, h2, h3⟩, h1⟩
    have hx : ∀ n, n ≤ l.length → ∃ ps : List HRow, ps.map Prod.snd = l.take n ∧ (∀ p ∈ ps, GoodRow w ok p) ∧ ∀ j u, (ps.map encP)[j]? = some u → w.cell? ⟨b, o + j, none⟩ = some u := fun n => by
      induction n with
      | zero => exact fun _ => ⟨[], by simp, fun p hp => absurd hp (by simp), fun j u hu => by simp at hu⟩
      | succ n ih =>
        intro hn
        obtain ⟨ps, e1, e2, e3⟩ := ih (by omega)
        obtain ⟨p, f1, f2, f3⟩ := hch n (by omega)
        have hlen : ps.length = n := by have := congrArg List.length e1; simp at this; omega
        refine ⟨ps ++ [p], ?_, ?_, ?_⟩
        · rw [List.map_append, e1, List.take_succ_eq_append_getElem (by omega)]
          simp [f1]
        · intro q hq
          rcases List.mem_append.1 hq with h1 | h1
          · exact e2 q h1
          · rw [List.mem_singleton.1 h1]; exact f2
        · intro j u hu
          rw [List.map_append] at hu
          rcases Nat.lt_or_ge j n with h1 | h1
          · rw [List.getElem?_append_left (by simp; omega)] at hu
            exact e3 j u hu
          · rw [List.getElem?_append_right (by simp; omega)] at hu
            simp only [List.length_map, hlen, List.map_cons, List.map_nil] at hu
            rcases Nat.eq_zero_or_pos (j - n) with h2 | h2
            · rw [h2] at hu
              simp at hu
              rw [← hu, show j = n by omega]; exact f3
            · rw [List.getElem?_eq_none (by simp; omega)] at hu; cases hu
    obtain ⟨ps, e1, e2, e3⟩ := hx l.length (Nat.le_refl _)
    rw [List.take_length] at e1
    refine ⟨ps, e1, e2, fun ad e j u hu => ?_⟩
    injection e with e
    subst e
    rw [Addr.add_mid]; exact e3 j u hu
theorem eg_sorted1 (args : Array Value) (w : World) : (callFunc 80 args).run Tryz.prog w = .ok (.enter 80 args) w :=
  run_enter (c := Tryz.f80.body.get!) Tryz.func80 (by kernel_rfl) (by kernel_rfl) args w
theorem eg_sorted2 (args : Array Value) (w : World) : (callFunc 81 args).run Tryz.prog w = .ok (.enter 81 args) w :=
  run_enter (c := Tryz.f81.body.get!) Tryz.func81 (by kernel_rfl) (by kernel_rfl) args w
def keyC (at_ : List Nat) (r s : List Val) : Int := ordL (partJ r at_) (partJ s at_)
/-- rows in a block of its own: those with null at some positions dropped, the others sorted by these -/
theorem j_sort2 (w3 : World) (B g cap q d : Nat) (ok ok' : Nat → Prop) (at_ : List Nat) (Bt : Option Addr) (fs : List HRow) (hz : ZeroAt w3) (hzg : 0 ≠ g) (hne : ∀ b, ok b → b ≠ g) (hne' : ∀ b, ok' b → b ≠ g) (hqg : q ≠ g)
    (hq : w3.cell? ⟨q, 0, none⟩ = some (.slice Bt at_.length d)) (hn : Nums w3 ok' Bt (ints at_)) (hgd : ∀ p ∈ fs, GoodRow w3 ok p) (hat : ∀ p ∈ fs, ∀ i ∈ at_, i < p.2.length) (hla : at_.length ≤ 8000000) (hl : fs.length ≤ 8000000)
    (hown : w3.ownsRow B 37 1 (.slice (some ⟨g, 0, none⟩) fs.length cap) fs.length (fs.map encP)) :
    Calls Tryz.prog 65 #[.slice (some ⟨g, 0, none⟩) fs.length cap, .func (.func 81) #[] #[.pointer (some ⟨q, 0, none⟩)]] w3 fun e w' => e = .returned (.tuple #[]) ∧ w3.grownBy w' (some g) ∧ ∃ L : List (List Val), L.length = fs.length ∧ L.Perm (fs.map Prod.snd) ∧ L.Pairwise (fun r s => keyC at_ r s ≤ 0) ∧ ∀ ok2 : Nat → Prop, (∀ b, ok b → ok2 b) → ok2 g → Rows w' ok2 (some ⟨g, 0, none⟩) L := by
  by_cases hfe : fs = []
  · subst hfe
    refine (sn_sort (some ⟨g, 0, none⟩) cap _ w3).mono ?_
    rintro e w' ⟨rfl, hx⟩
    exact ⟨rfl, hx.grownBy _, [], rfl, List.Perm.refl _, List.Pairwise.nil, fun _ _ _ => SliceR.nil _ _ _⟩
  · obtain ⟨p0, hp0⟩ := List.exists_mem_of_ne_nil fs hfe
    have : Inhabited {p : HRow // p ∈ fs} := ⟨⟨p0, hp0⟩⟩
    have hds : fs.attach.toArray.size = fs.length := by rw [List.size_toArray, List.length_attach]
    have hen : fs.attach.toArray.toList.map (encS fun x : {p : HRow // p ∈ fs} => x.1.1) = fs.map encP := by
      rw [List.toList_toArray]
      exact List.attach_map_val (f := encP)
    have hsn : (fs.attach.toArray.toList.map (fun x : {p : HRow // p ∈ fs} => x.1.2)) = fs.map Prod.snd := by
      rw [List.toList_toArray]
      exact List.attach_map_val (f := Prod.snd)
    have hswo : SWO (ltC (fun x y : {p : HRow // p ∈ fs} => keyC at_ x.1.2 y.1.2)) := swo_of (fun x y => ordL_anti _ _) (fun x y z => ordL_trans _ _ _)
    have hst : SortW w3 B g cap 37 (encS fun x : {p : HRow // p ∈ fs} => x.1.1) fs.attach.toArray w3 := SortW.start (by rw [hds, hen]; exact hown)
    have h := sw_sortStable w3 B g cap (fun x : {p : HRow // p ∈ fs} => x.1.1) (fun x y => keyC at_ x.1.2 y.1.2) 81 #[.pointer (some ⟨q, 0, none⟩)] fs.attach.toArray w3 eg_sorted2 (fun W hg x y => by
      have g1 := hgd x.1 x.2
      have g2 := hgd y.1 y.2
      rw [show encS (fun x : {p : HRow // p ∈ fs} => x.1.1) x = .slice x.1.1.A x.1.2.length x.1.1.c by unfold encS; rw [g1.1], show encS (fun x : {p : HRow // p ∈ fs} => x.1.1) y = .slice y.1.1.A y.1.2.length y.1.1.c by unfold encS; rw [g2.1]]
      exact j_sorted2 x.1.2 y.1.2 at_ ok ok ok' _ _ Bt _ _ d q W (hz.grown hg hzg) (hg.cell hq (fun e => hqg (Option.some.inj e))) (g1.2.2.grown hg hne) (g2.2.2.grown hg hne) (SliceR.mono hn (fun b o x _ hx => ⟨hx.1, hg.cell hx.2 (fun e => hne' b hx.1 (Option.some.inj e))⟩)) (hat x.1 x.2) (hat y.1 y.2) hla) hswo hst (by rw [hds]; exact hl)
    rw [hds] at h
    refine h.mono ?_
    rintro e w' ⟨rfl, d', hs, hp, hso⟩
    rw [← hds] at hp hso
    have hp1 : d'.size = fs.attach.toArray.size := hp.1
    have hpw := permIn_whole hp
    refine ⟨rfl, hs.gr, d'.toList.map (fun x => x.1.2), by rw [List.length_map, Array.length_toList, hp1, hds], ?_, ?_, fun ok2 h1 h2 => ?_⟩
    · rw [← hsn]; exact hpw.map _
    · rw [List.pairwise_map, List.pairwise_iff_getElem]
      intro i j hi hj hij
      rw [Array.length_toList] at hi hj
      have := hso i j (Nat.zero_le _) hij (by omega)
      rw [getElem!_pos d' i hi, getElem!_pos d' j hj] at this
      have h1 : ¬ keyC at_ d'[j].1.2 d'[i].1.2 < 0 := of_decide_eq_false this
      rw [Array.getElem_toList, Array.getElem_toList]
      have h2 : keyC at_ d'[j].1.2 d'[i].1.2 = - keyC at_ d'[i].1.2 d'[j].1.2 := ordL_anti _ _
      omega
    · have ho := hs.own
      have hr := rows_of (W := w') (B := B) (g := g) (cap := cap) (ok := ok) (ok' := ok2) (d := (d'.toList.map (·.1)).toArray) (by
        simp only [List.size_toArray, List.length_map, Array.length_toList, List.map_map]
        exact ho) (fun m hm => ?_) h1 h2 (by simp; omega)
      · rw [show d'.toList.map (fun x => x.1.2) = (d'.toList.map (·.1)).map Prod.snd by rw [List.map_map]; rfl]
        simpa only [List.toList_toArray] using hr
      · rw [getElem!_pos _ m hm]
        have hm' : m < d'.size := by simpa using hm
        have := hgd (d'[m]).1 (d'[m]).2
        simp only [List.getElem_toArray, List.getElem_map, Array.getElem_toList]
        exact this.keep (fun b o x hb hc => hs.gr.cell hc (fun e => hne b hb (Option.some.inj e))) (fun _ h => h)
theorem Nums.bnd {w : World} {ok : Nat → Prop} {A : Option Addr} {l : List Int} (h : Nums w ok A l) : Nums w (okN ok w) A l := SliceR.mono h (fun _ _ _ _ hx => ⟨⟨hx.1, block_lt_of_cell hx.2⟩, hx.2⟩)
theorem Nums.grown {w w' : World} {g : Nat} {ok : Nat → Prop} {A : Option Addr} {l : List Int} (h : Nums w ok A l) (hg : w.grownBy w' (some g)) (hne : ∀ b, ok b → b ≠ g) : Nums w' ok A l :=
  SliceR.mono h (fun b _ _ _ hx => ⟨hx.1, hg.cell hx.2 (fun e => hne b hx.1 (Option.some.inj e))⟩)
set_option maxRecDepth 100000 in
set_option maxHeartbeats 600000 in
theorem j_sorted (l : List (List Val)) (at_ : List Nat) (ok ok' : Nat → Prop) (A B : Option Addr) (c d : Nat) (w : World) (hz : ZeroAt w) (hv : Rows w ok A l) (hn : Nums w ok' B (ints at_)) (hat : ∀ r ∈ l, ∀ i ∈ at_, i < r.length) (hl : l.length ≤ 8000000) (hla : at_.length ≤ 8000000) :
    Calls Tryz.prog 66 #[.slice A l.length c, .slice B at_.length d] w fun e w' => ∃ A' c' L, e = .returned (.slice A' L.length c') ∧ L.length ≤ c' ∧ Rows w' (fun b => ok b ∨ w.heap.size ≤ b) A' L ∧ L.Perm (l.filter (fun r => !voidJ (partJ r at_))) ∧ L.Pairwise (fun r s => keyC at_ r s ≤ 0) ∧ Ext w w' := by
  obtain ⟨ps, e1, e2, e3⟩ := hv.bnd.flat
  have hpl : ps.length = l.length := by rw [← e1, List.length_map]
  obtain ⟨q, hq⟩ : ∃ q, q = w.heap.size := ⟨_, rfl⟩
  obtain ⟨w1, hw1⟩ : ∃ w1, w1 = w.alloc (.cells #[.slice B at_.length d] 61) := ⟨_, rfl⟩
  have hx1 : Ext w w1 := by rw [hw1]; exact (Ext.refl _).alloc _
  have hqc : w1.cell? ⟨q, 0, none⟩ = some (.slice B at_.length d) := by rw [hw1, hq]; exact cell_one_new w _ _ 0 _ rfl
  have HW1 := Lib.hid hw1
  have HG := Lib.hid hq
  have H1 := Lib.hid (c_Clone_row l.length A c (ps.map encP) w1 (fun e => hv.none_ e) (by simp [hpl]) (fun ad e j u hu => hx1.cell (e3 ad e j u hu)) (fun u hu => by obtain ⟨p, -, rfl⟩ := List.mem_map.1 hu; rfl) hl)
  have hsz : q < w1.heap.size := block_lt_of_cell hqc
  have hle := hx1.le
  have HQ := Lib.hid hqc
  have HNIL := Lib.hid (show l.length = 0 → l = [] from List.eq_nil_of_length_eq_zero)
  obtain ⟨n, hnl⟩ : ∃ n, n = l.length := ⟨_, rfl⟩
  obtain ⟨m, hml⟩ : ∃ m, m = at_.length := ⟨_, rfl⟩
  have HN := Lib.hid hnl
  have HM := Lib.hid hml
  rw [← hnl] at H1 HNIL ⊢
  rw [← hml] at HW1 ⊢
  clear hnl hml hw1 hqc hq
  go_enter Tryz.func66, Tryz.ntmps66
  go_upto_region 1 with (fail)
  rw [← HW1.out, ← HG.out]
  clear HW1 HG
  go_wp2_with fail
  refine (H1.out).mono ?_
  rintro e w2 ⟨v, rfl, hO2, hx2⟩
  clear H1
  rcases hO2.2 with ⟨rfl, hn0⟩ | ⟨g, cap, cur, rfl, hbg, -, hnc, -⟩
  · go_wp2_with fail
    refine (sn_delete _ _ w2 eg_sorted1).mono ?_
    rintro e w3 ⟨rfl, hx3⟩
    go_wp2_with fail
    refine (sn_sort none 0 _ w3).mono ?_
    rintro e w4 ⟨rfl, hx4⟩
    go_wp2_with fail
    go_ret
    have hl0 := HNIL.out hn0
    exact ⟨none, 0, [], rfl, Nat.le_refl _, SliceR.nil _ _ _, by rw [hl0]; exact List.Perm.refl _, List.Pairwise.nil, hx1.trans (hx2.trans (hx3.trans hx4))⟩
  · have hgw : w.heap.size ≤ g := Nat.le_trans hle hbg
    have hx12 := hx1.trans hx2
    have HB := Lib.hid (show ∀ b, okN ok w b → b ≠ g from fun b hb => by have := hb.2; omega)
    have HB' := Lib.hid (show ∀ b, okN ok' w b → b ≠ g from fun b hb => by have := hb.2; omega)
    have hzg : 0 ≠ g := by have := hz.2.2; omega
    have hqg : q ≠ g := by omega
    have HR := Lib.hid (fun r (hr : r ∈ ps.map Prod.snd) => hat r (by rw [e1] at hr; exact hr))
    have HD := Lib.hid (d_Delete ps (fun r => voidJ (partJ r at_)) w1.heap.size g cap (okN ok w) 80 #[.pointer (some ⟨q, 0, none⟩)] w2 eg_sorted1 (by rw [hpl, ← HN.out]; exact hO2) (fun p hp => (e2 p hp).keep (fun b o x _ hc => hx12.cell hc) (fun _ h => h)) HB.out (by rw [hpl]; exact hl)
      (fun W hg r hr ok2 A2 c2 hv2 hc2 => j_sorted1 r at_ ok2 (okN ok' w) A2 B c2 d q W ((hz.ext hx12).grown hg hzg) (hg.cell (hx2.cell HQ.out) (fun e => hqg (Option.some.inj e))) hv2 ((hn.bnd.ext hx12).grown hg HB'.out) (HR.out r hr) hla))
    rw [hpl, ← HN.out] at HD
    have HS := Lib.hid (fun w3 (hg : w2.grownBy w3 (some g)) fs (hfs : fs = ps.filter (fun p => !voidJ (partJ p.2 at_))) ho => j_sort2 w3 w1.heap.size g cap q d (okN ok w) (okN ok' w) at_ B fs ((hz.ext hx12).grown hg hzg) hzg HB.out HB'.out hqg (hg.cell (hx2.cell HQ.out) (fun e => hqg (Option.some.inj e))) ((hn.bnd.ext hx12).grown hg HB'.out)
      (fun p hp => ((e2 p (by rw [hfs] at hp; exact (List.mem_filter.1 hp).1)).keep (ok' := okN ok w) (fun b o x _ hc => hx12.cell hc) (fun _ h => h)).keep (fun b o x hb hc => hg.cell hc (fun e => HB.out b hb (Option.some.inj e))) (fun _ h => h))
      (fun p hp => HR.out p.2 (List.mem_map_of_mem (by rw [hfs] at hp; exact (List.mem_filter.1 hp).1))) hla (by rw [hfs]; exact Nat.le_trans (List.length_filter_le _ _) (by rw [hpl]; exact hl)) ho)
    have HP := Lib.hid (show (ps.filter (fun p => !voidJ (partJ p.2 at_))).map Prod.snd = l.filter (fun r => !voidJ (partJ r at_)) by rw [← e1, List.filter_map]; rfl)
    clear hv hn hat e1 e2 e3 hz HR hO2 HN HM hpl
    go_wp2_with fail
    refine (HD.out).mono ?_
    rintro e w3 ⟨fs, hfs, rfl, hg3, ho3⟩
    have HFS := Lib.hid hfs
    clear hfs
    go_wp2_with fail
    refine (HS.out w3 hg3 fs HFS.out ho3).mono ?_
    rintro e w4 ⟨rfl, hg4, L, hL1, hL2, hL3, hL4⟩
    have hLc : L.length ≤ cap := by have := own_cap ho3; omega
    rw [← hL1]
    clear hL1 ho3
    go_wp2_with fail
    go_ret
    exact ⟨_, cap, L, rfl, hLc, hL4 _ (fun b hb => .inl hb.1) (.inr hgw), by rw [← HP.out, ← HFS.out]; exact hL2, hL3, (hx12.grown hg3 (fun k hk => by cases hk; exact hgw)).grown hg4 (fun k hk => by cases hk; exact hgw)⟩
end Go.Proofs.YtbjddimafilflaaGreatDoor

/- TABLES IN MEMORY, and what their check says. -/
namespace Go.Proofs.YtbjddimafilflaaGreatDoor
open Go.RowKit Go.Sort
structure TabAt (w : World) (ok : Nat → Prop) (A B : Option Addr) (t : Tab) : Prop where
  cols : Strs w ok A t.cols
  rows : Rows w ok B t.rows
theorem TabAt.ext {w w' : World} {ok : Nat → Prop} {A B : Option Addr} {t : Tab} (h : TabAt w ok A B t) (e : Ext w w') : TabAt w' ok A B t := ⟨h.cols.ext e, h.rows.ext e⟩
def chkT (t : Tab) : Int := if t.cols.Nodup then (if ∀ r ∈ t.rows, r.length = t.cols.length then 0 else 1) else 7
theorem chkT_twice {t : Tab} (h : ¬ t.cols.Nodup) : chkT t = 7 := by unfold chkT; rw [if_neg h]
theorem chkT_arg {t : Tab} (h : t.cols.Nodup) {r : List Val} (hr : r ∈ t.rows) (h2 : r.length ≠ t.cols.length) : chkT t = 1 := by
  unfold chkT; rw [if_pos h, if_neg (fun h3 => h2 (h3 r hr))]
theorem chkT_ok {t : Tab} (h : t.cols.Nodup) (h2 : ∀ r ∈ t.rows, r.length = t.cols.length) : chkT t = 0 := by
  unfold chkT; rw [if_pos h, if_pos h2]
theorem chkT_zero {t : Tab} (h : chkT t = 0) : t.cols.Nodup ∧ ∀ r ∈ t.rows, r.length = t.cols.length := by
  unfold chkT at h
  split at h
  · rename_i h1
    split at h
    · rename_i h2; exact ⟨h1, h2⟩
    · cases h
  · cases h
/-- how many different ones a list has -/
theorem same_str (a b : List UInt8) : (Lit.string a).sameKey (Lit.string b) = decide (a = b) := by
  unfold Lit.sameKey
  rw [Bool.eq_iff_iff]; simp
theorem addKeys (l : List (List UInt8)) : ∀ acc : List (List UInt8), ((l.map Lit.string).foldl Maps.addKey (acc.map Lit.string)).length ≤ acc.length + l.length ∧ (acc.Nodup → ((l.map Lit.string).foldl Maps.addKey (acc.map Lit.string)).length = acc.length + l.length → (acc ++ l).Nodup) ∧ ((acc ++ l).Nodup → ((l.map Lit.string).foldl Maps.addKey (acc.map Lit.string)).length = acc.length + l.length) := by
  induction l with
  | nil => intro acc; simp
  | cons x l ih =>
    intro acc
    rw [List.map_cons, List.foldl_cons]
    have ha : (acc.map Lit.string).any (fun y => y.sameKey (.string x)) = decide (x ∈ acc) := by
      rw [List.any_map, Bool.eq_iff_iff, List.any_eq_true]
      simp [same_str]
    by_cases hx : x ∈ acc
    · rw [show Maps.addKey (acc.map Lit.string) (.string x) = acc.map Lit.string by unfold Maps.addKey; rw [ha, if_pos (decide_eq_true hx)]]
      obtain ⟨h1, -, -⟩ := ih acc
      refine ⟨by simp; omega, fun _ h => ?_, fun h => ?_⟩
      · simp at h; omega
      · rw [List.nodup_append] at h
        exact absurd rfl (h.2.2 x hx x (by simp))
    · rw [show Maps.addKey (acc.map Lit.string) (.string x) = (acc ++ [x]).map Lit.string by unfold Maps.addKey; rw [ha, if_neg (by simp [hx])]; simp]
      obtain ⟨h1, h2, h3⟩ := ih (acc ++ [x])
      rw [List.length_append] at h1 h2 h3
      simp only [List.length_cons, List.length_nil, Nat.zero_add] at h1 h2 h3 ⊢
      rw [List.append_assoc, List.singleton_append] at h2 h3
      refine ⟨by omega, fun hn h => h2 ?_ (by omega), fun h => by have := h3 h; omega⟩
      rw [List.nodup_append]
      refine ⟨hn, by simp, fun a ha b hb => ?_⟩
      rw [List.mem_singleton.1 hb]
      exact fun e => hx (e ▸ ha)
def lit (s : ByteArray) : Lit := .string s.data.toList
theorem data_inj : Function.Injective (fun s : ByteArray => s.data.toList) := fun _ _ h => ByteArray.ext (Array.toList_inj.1 h)
theorem nodup_map {α β : Type} {f : α → β} (hf : Function.Injective f) (l : List α) : (l.map f).Nodup ↔ l.Nodup := by
  induction l with
  | nil => simp
  | cons a l ih =>
    rw [List.map_cons, List.nodup_cons, List.nodup_cons, ih, List.mem_map]
    refine and_congr_left fun _ => not_congr ⟨fun ⟨b, hb, e⟩ => hf e ▸ hb, fun h => ⟨a, h, rfl⟩⟩
theorem set_size (u : DataW Unit) (l : List ByteArray) : (Maps.size (Maps.setOf u (l.map lit)) < l.length ↔ ¬ l.Nodup) ∧ Maps.size (Maps.setOf u (l.map lit)) ≤ l.length := by
  have hl : l.map lit = (l.map (fun s : ByteArray => s.data.toList)).map Lit.string := by rw [List.map_map]; rfl
  rw [Maps.size_setOf u _ (fun x hx => by obtain ⟨s, -, rfl⟩ := List.mem_map.1 hx; trivial), hl]
  obtain ⟨h1, h2, h3⟩ := addKeys (l.map (fun s : ByteArray => s.data.toList)) []
  simp only [List.map_nil, List.nil_append, List.length_nil, Nat.zero_add, List.length_map] at h1 h2 h3
  rw [nodup_map data_inj] at h2 h3
  refine ⟨⟨fun h hn => ?_, fun h => ?_⟩, h1⟩
  · have := h3 hn; omega
  · rcases Nat.lt_or_eq_of_le h1 with h4 | h4
    · exact h4
    · exact absurd (h2 List.nodup_nil h4) h
end Go.Proofs.YtbjddimafilflaaGreatDoor

/- TABLES AS ARGUMENTS: the boxes that a function lays for them. -/
namespace Go.Proofs.YtbjddimafilflaaGreatDoor
open Go.RowKit
theorem box_tab (w : World) (A B : Option Addr) (n c m d : Nat) (t : TypeId) : ∃ (q : Nat) (w1 : World), q = w.heap.size ∧ w1 = w.alloc (.cells #[.slice A n c, .slice B m d] t) ∧ w1.cell? ⟨q, 0, none⟩ = some (.slice A n c) ∧ w1.cell? ⟨q, 1, none⟩ = some (.slice B m d) ∧ Ext w w1 :=
  ⟨_, _, rfl, rfl, by rw [cell_of_row _ _ _ _ _ _ (heap_alloc_new w _)]; rfl, by rw [cell_of_row _ _ _ _ _ _ (heap_alloc_new w _)]; rfl, (Ext.refl _).alloc _⟩
theorem box_tab2 (w : World) (A B A' B' : Option Addr) (n c m d n' c' m' d' : Nat) (t t' : TypeId) : ∃ (q : Nat) (w2 : World), q = w.heap.size ∧ w2 = (w.alloc (.cells #[.slice A n c, .slice B m d] t)).alloc (.cells #[.slice A' n' c', .slice B' m' d'] t') ∧
    w2.cell? ⟨q, 0, none⟩ = some (.slice A n c) ∧ w2.cell? ⟨q, 1, none⟩ = some (.slice B m d) ∧ w2.cell? ⟨q + 1, 0, none⟩ = some (.slice A' n' c') ∧ w2.cell? ⟨q + 1, 1, none⟩ = some (.slice B' m' d') ∧ Ext w w2 := by
  obtain ⟨q, w1, hq, hw1, h0, h1, hx⟩ := box_tab w A B n c m d t
  obtain ⟨q', w2, hq', hw2, h2, h3, hx2⟩ := box_tab w1 A' B' n' c' m' d' t'
  have e : q' = q + 1 := by rw [hq', hq, hw1]; simp
  subst e
  exact ⟨q, w2, hq, by rw [hw2, hw1], hx2.cell h0, hx2.cell h1, h2, h3, hx.trans hx2⟩
end Go.Proofs.YtbjddimafilflaaGreatDoor

/- ROWS THAT A CALL COLLECTS: an own row of heads, each leading to a row outside of it. -/
namespace Go.Proofs.YtbjddimafilflaaGreatDoor
open Go.RowKit Go.Sort
/-- the call's own row v holds the rows acc; their elements lie outside v's block, in blocks of the kind ok0 -/
def OwnRows (W : World) (base : Nat) (ok0 : Nat → Prop) (v : Value) (acc : List (List Val)) : Prop :=
  ∃ ps : List HRow, ps.map Prod.snd = acc ∧ W.ownsRow base 37 1 v ps.length (ps.map encP) ∧ ∀ p ∈ ps, GoodRow W (fun b => ok0 b ∧ some b ≠ v.ownBlock) p
theorem OwnRows.nil (W : World) (base : Nat) (ok0 : Nat → Prop) : OwnRows W base ok0 (.slice none 0 0) [] := ⟨[], rfl, World.ownsRow_nil _ _ _ _, fun p hp => absurd hp (by simp)⟩
theorem GoodRow.keep' {w w' : World} {ok ok' : Nat → Prop} {p : HRow} (h : GoodRow w ok p) (hk : ∀ b o x, ok b → w.cell? ⟨b, o, none⟩ = some x → w'.cell? ⟨b, o, none⟩ = some x ∧ ok' b) : GoodRow w' ok' p := ⟨h.1, h.2.1, h.2.2.keep' hk⟩
theorem OwnRows.ext {W W' : World} {base : Nat} {ok0 : Nat → Prop} {v : Value} {acc : List (List Val)} (h : OwnRows W base ok0 v acc) (e : Ext W W') : OwnRows W' base ok0 v acc := by
  obtain ⟨ps, h1, h2, h3⟩ := h
  exact ⟨ps, h1, own_ext h2 e, fun p hp => (h3 p hp).keep (fun _ _ _ _ hc => e.cell hc) (fun _ h => h)⟩
theorem OwnRows.mono {W : World} {base base' : Nat} {ok0 : Nat → Prop} {v : Value} {acc : List (List Val)} (h : OwnRows W base ok0 v acc) (e : base' ≤ base) : OwnRows W base' ok0 v acc := by
  obtain ⟨ps, h1, h2, h3⟩ := h
  exact ⟨ps, h1, own_mono h2 e, h3⟩
theorem OwnRows.lt {W : World} {base : Nat} {ok0 : Nat → Prop} {v : Value} {acc : List (List Val)} (h : OwnRows W base ok0 v acc) {g : Nat} (hg : v.ownBlock = some g) : base ≤ g ∧ g < W.heap.size := by
  obtain ⟨ps, h1, h2, h3⟩ := h
  exact h2.lt g hg
theorem OwnRows.form {W : World} {base : Nat} {ok0 : Nat → Prop} {v : Value} {acc : List (List Val)} (h : OwnRows W base ok0 v acc) : ∃ A c, v = .slice A acc.length c := by
  obtain ⟨ps, h1, h2, -⟩ := h
  obtain ⟨A, c, e⟩ := own_form h2
  exact ⟨A, c, by rw [e, ← h1, List.length_map]⟩
theorem OwnRows.rows {W : World} {base : Nat} {ok0 : Nat → Prop} {v : Value} {acc : List (List Val)} (h : OwnRows W base ok0 v acc) (hm : acc.length ≤ 8000000) : ∃ A c, v = .slice A acc.length c ∧ acc.length ≤ c ∧ Rows W (fun b => ok0 b ∨ base ≤ b) A acc := by
  obtain ⟨ps, rfl, h2, h3⟩ := h
  rw [List.length_map] at hm ⊢
  rcases h2.2 with ⟨rfl, hn⟩ | ⟨g, cap, cur, rfl, hB, hg, hnc, hcm, -⟩
  · have : ps = [] := List.eq_nil_of_length_eq_zero hn
    subst this
    exact ⟨none, 0, rfl, Nat.le_refl _, SliceR.nil _ _ _⟩
  · refine ⟨_, cap, rfl, hnc, ?_⟩
    have h1 := rows_of (W := W) (B := base) (g := g) (cap := cap) (ok := fun b => ok0 b ∧ some b ≠ (Value.slice (some ⟨g, 0, none⟩) ps.length cap).ownBlock) (ok' := fun b => ok0 b ∨ base ≤ b) (d := ps.toArray) (by simpa using h2) (fun m hm => by
      rw [getElem!_pos ps.toArray m hm]
      exact h3 _ (by simp)) (fun _ h => .inl h.1) (.inr hB) (by simp; omega)
    simpa using h1
theorem own_pushR {ops : Array Oper} {rest : List Oper} {o : Oper} {a : Act} {Q : Exit → Act → World → Prop} {w : World} (hgd : o.guard = none) (s x : Operand)
    (ho : o.op = .call { callee := .builtin .append, args := #[s, x], argTypes := #[23, 23] }) (base : Nat) (ok0 : Nat → Prop) (w0 : World) (v : Value) (acc : List (List Val)) (r : List Val) (A : Option Addr) (c : Nat) (hs : a.eval s = v) (hown : OwnRows w0 base ok0 v acc) (hb : base ≤ w0.heap.size)
    (hw : w = w0.alloc (.cells #[.slice A r.length c] 37)) (hx : a.eval x = .slice (some ⟨w0.heap.size, 0, none⟩) 1 1) (hrc : r.length ≤ c) (hp : Vals w0 (fun b => ok0 b ∧ some b ≠ v.ownBlock) A r)
    (h63 : acc.length ≤ 8000000)
    (h : ∀ v' w', OwnRows w' base ok0 v' (acc ++ [r]) → w0.grownBy w' v.ownBlock → wpList Tryz.prog ops Q rest (a.put o.dst v') w') : wpList Tryz.prog ops Q (o :: rest) a w := by
  obtain ⟨ps, h1, h2, h3⟩ := hown
  obtain ⟨z, hz, hzc⟩ := T_row.hi
  obtain ⟨i, hi, hz0, hz1, hz2⟩ := info_parts hz
  have hpl : ps.length = acc.length := by rw [← h1, List.length_map]
  subst hw
  refine wpList_append_own_at _ hgd s x 23 ho base 37 i z 1 24 T_row.ht hi hz0 hz1 hz2 hzc T_row.hs v ps.length (ps.map encP) hs (h2.alloc _) ⟨w0.heap.size, 0, none⟩ 1 1 [.slice A r.length c] hx rfl ?_ (fun u hu => by rw [List.mem_singleton.1 hu]; rfl) (by unfold maxLen; omega) ?_ (Nat.le_trans hb (by simp)) ?_
  · intro j u hj
    rw [Addr.add_mid, cell_of_row _ _ _ _ _ _ (heap_alloc_new w0 _)]
    simpa using hj
  · omega
  · intro v' w' k2 k3 _ k5
    have hcell : ∀ b o x, (some b ≠ v.ownBlock) → w0.cell? ⟨b, o, none⟩ = some x → w'.cell? ⟨b, o, none⟩ = some x ∧ some b ≠ v'.ownBlock := fun b o x hb hc => by
      have hlt : b < w0.heap.size := block_lt_of_cell hc
      have hc2 : (w0.alloc (.cells #[.slice A r.length c] 37)).cell? ⟨b, o, none⟩ = some x := (World.cell?_alloc_lt w0 _ ⟨b, o, none⟩ hlt).trans hc
      refine ⟨(World.cell?_of_block (k3.block b (by simp; omega) hb)).trans hc2, ?_⟩
      rcases k5 with e | e
      · rw [e]; exact hb
      · rw [e]
        intro e2
        injection e2 with e2
        simp at e2; omega
    refine h v' w' ⟨ps ++ [(⟨A, r.length, c⟩, r)], by rw [List.map_append, h1]; rfl, ?_, fun p hq => ?_⟩ ?_
    · rw [List.length_append, List.map_append]; exact k2
    · rcases List.mem_append.1 hq with hq | hq
      · exact (h3 p hq).keep' (fun b o x hb hc => ⟨(hcell b o x hb.2 hc).1, hb.1, (hcell b o x hb.2 hc).2⟩)
      · rw [List.mem_singleton.1 hq]
        exact ⟨rfl, hrc, hp.keep' (fun b o x hb hc => ⟨(hcell b o x hb.2 hc).1, hb.1, (hcell b o x hb.2 hc).2⟩)⟩
    · exact ⟨k3.os, k3.tape, k3.output, Nat.le_trans (by simp) k3.size, fun b hb hne => (k3.block b (by simp; omega) hne).trans (((Ext.refl w0).alloc _).block b hb)⟩
theorem T_int : ElT Tryz.prog 61 3 1 8 := ⟨Tryz.underlying61, ⟨.int .i64 0, by kernel_rfl, rfl⟩, by decide⟩
/-- strings and numbers that a call collects -/
theorem flat_one {α : Type} (f : α → Value) : ∀ l : List α, (l.map (fun x => [f x])).flatten = l.map f
  | [] => rfl
  | a :: l => by rw [List.map_cons, List.flatten_cons, flat_one f l]; rfl
theorem own_strs {w : World} {base : Nat} {v : Value} {l : List ByteArray} (h : w.ownsRow base 9 1 v l.length (l.map Value.string)) (hm : l.length ≤ 140737488355328) : ∃ A c, v = .slice A l.length c ∧ l.length ≤ c ∧ Strs w (fun b => base ≤ b) A l :=
  own_sliceR (cs := l.map (fun s => [Value.string s])) (by rw [flat_one]; exact h) rfl (by simp) (fun x hx => by obtain ⟨s, -, rfl⟩ := List.mem_map.1 hx; rfl) hm (fun g hg _ k hk hk' hcell => ⟨hg, by rw [List.getElem_map] at hcell; exact hcell 0 _ rfl⟩)
theorem own_nums {w : World} {base : Nat} {v : Value} {l : List Int} (h : w.ownsRow base 3 1 v l.length (l.map (Value.int .i64))) (hm : l.length ≤ 140737488355328) : ∃ A c, v = .slice A l.length c ∧ l.length ≤ c ∧ Nums w (fun b => base ≤ b) A l :=
  own_sliceR (cs := l.map (fun s => [Value.int .i64 s])) (by rw [flat_one]; exact h) rfl (by simp) (fun x hx => by obtain ⟨s, -, rfl⟩ := List.mem_map.1 hx; rfl) hm (fun g hg _ k hk hk' hcell => ⟨hg, by rw [List.getElem_map] at hcell; exact hcell 0 _ rfl⟩)
theorem Strs.news {w : World} {ok : Nat → Prop} {A : Option Addr} {l : List ByteArray} (h : Strs w ok A l) : ∀ ad, A = some ad → ∀ j u, (l.map Value.string)[j]? = some u → w.cell? (ad.add j) = some u := fun ad e j u hu => by
  rw [List.getElem?_map] at hu
  rcases Nat.lt_or_ge j l.length with hj | hj
  · obtain ⟨b, o, e2, hc⟩ := h.2 (by omega)
    rw [e] at e2
    injection e2 with e2
    subst e2
    rw [List.getElem?_eq_getElem hj] at hu
    simp at hu
    have := (hc j hj).2
    rw [Nat.mul_one] at this
    rw [Addr.add_mid, ← hu]; exact this
  · rw [List.getElem?_eq_none hj] at hu; cases hu
end Go.Proofs.YtbjddimafilflaaGreatDoor
