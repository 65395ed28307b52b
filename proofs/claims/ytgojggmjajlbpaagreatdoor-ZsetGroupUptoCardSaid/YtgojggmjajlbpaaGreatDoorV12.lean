/- PARTS OF THE WALKS, joined: Zj, Zk, Za, Zl, Zm. -/
import Derived.Test.YtgojggmjajlbpaaGreatDoorV11
import Derived.Test.YtgojggmjajlbpaaGreatDoorV07
import Derived.Laws.StructEq
/- THE WALKS over zset's Add, Neg and Sub (chapter 47). -/
namespace Go.Proofs.YtgojggmjajlbpaaGreatDoor
open Go.RowKit Go.Sort
/-- a bag is returned -/
def Gives (w : World) (z : List Sg) (e : Ending) (w' : World) : Prop := ∃ A' c', e = .returned (.slice A' z.length c') ∧ z.length ≤ c' ∧ Bag w' (fun _ => True) A' z ∧ Ext w w'
theorem own_gives {w w' : World} {base : Nat} {ok0 : Nat → Prop} {v : Value} {hs : List HSg} {z : List Sg} (h : OwnZ w' base ok0 v hs) (hm : hs.map HSg.x = z) (hl : hs.length ≤ 8000000) (hE : Ext w w') : Gives w z (.returned v) w' := by
  obtain ⟨A, c, rfl, hle, hb⟩ := OwnZ.bag h hl
  rw [hm] at hb
  have hlen : hs.length = z.length := by rw [← hm, List.length_map]
  exact ⟨A, c, by rw [hlen], by omega, hb.to (fun _ _ => trivial), hE⟩
theorem Gives.ext {w w0 w' : World} {z : List Sg} {e : Ending} (h : Gives w z e w') (x : Ext w0 w) : Gives w0 z e w' := by
  obtain ⟨A, c, h1, h2, h3, h4⟩ := h
  exact ⟨A, c, h1, h2, h3, x.trans h4⟩
theorem ok_app {a b : List Sg} (ha : OkZ a) (hb : OkZ b) : OkZ (a ++ b) := fun x hx => (List.mem_append.1 hx).elim (ha x) (hb x)
theorem ok_sub {a b : List Sg} (h : OkZ a) (hs : ∀ x ∈ b, ∃ y ∈ a, y.1 = x.1) : OkZ b := fun x hx => by
  obtain ⟨y, hy, e⟩ := hs x hx
  rw [← e]; exact h y hy
theorem x_len {hs : List HSg} {z : List Sg} (h : hs.map HSg.x = z) : hs.length = z.length := by rw [← h, List.length_map]
theorem neg_norm_map {hs : List HSg} {z : List Sg} (h : hs.map HSg.x = normP z) : (hs.map (fun h => (⟨h.A, h.c, (h.x.1, wrap64 (-h.x.2))⟩ : HSg))).map HSg.x = negP z := by
  unfold negP negZ
  rw [← h, List.map_map, List.map_map]; rfl
set_option maxRecDepth 100000 in
theorem z_CloneZ (z : List Sg) (ok : Nat → Prop) (A : Option Addr) (c : Nat) (w : World) (hv0 : Bag w ok A z) (hl : z.length ≤ 8000000) :
    Calls Tryz.prog 43 #[.slice A z.length c] w fun e w' => ∃ v hs, e = .returned v ∧ hs.map HSg.x = z ∧ OwnZ w' w.heap.size (fun b => b < w.heap.size) v hs ∧ Ext w w' := by
  have hv := hv0.inb
  clear hv0
  have hq := fun W => Lib.run_eql_slice_nil (P := Tryz.prog) W 22 38 A z.length c 0 0 Tryz.underlying22
  obtain ⟨hs, hm, hlie, hcells⟩ := hv.heads
  have hlen := x_len hm
  have hN := SliceR.none_ hv
  have HM := Lib.hid hm
  cases A with
  | none =>
    have h0 := hN rfl
    have HS := Lib.hid (List.eq_nil_of_length_eq_zero (show hs.length = 0 by omega))
    rw [h0] at hq ⊢
    clear hlie hcells hm hlen h0 hN hl hv
    simp only [Option.isNone_none] at hq
    go_enter Tryz.func43, Tryz.ntmps43
    go_wp2
    go_ret
    exact ⟨_, hs, rfl, HM.out, by rw [HS.out]; exact OwnG.nil _ _ _ _ _, Ext.refl _⟩
  | some ad =>
    have HC := Lib.hid hcells
    have HL := Lib.hid hlie
    have HLN := Lib.hid hlen
    have HO := Lib.hid (OwnG.made KSg 38 w w.heap.size (fun b => b < w.heap.size) (Nat.le_refl _))
    clear hlie hcells hm hlen hN hv
    simp only [Option.isNone_some] at hq
    go_enter Tryz.func43, Tryz.ntmps43
    go_wp2_with (at_builtin; go_loud (refine own_catG (v := .slice (some ⟨w.heap.size, 0, none⟩) 0 0) (hs := ([] : List HSg)) T_sg rfl (.tmp 5) (.tmp 6) rfl rfl HO.out (by simp) (some ad) z.length c hs rfl HLN.out.symm (fun h => by cases h) (fun a e j u hu => ((Ext.refl w).alloc _).cell (HC.out a e j u hu)) (fun p hp => KSg.keep _ _ _ _ _ (fun b o x hb hc => ⟨((Ext.refl w).alloc _).cell hc, hb, fun e => by have h2 : b = w.heap.size := Option.some.inj e; omega⟩) (HL.out p hp)) (by simp <;> omega) (by decide) ?_); intro v5 w5 hO5 hg5 hd5)
    have hE5 : Ext w w5 := ((Ext.refl _).alloc _).grown hg5 (fun b hb => by have h2 : w.heap.size = b := Option.some.inj hb; omega)
    rw [List.nil_append] at hO5
    go_wp2_with fail
    go_ret
    exact ⟨_, hs, rfl, HM.out, hO5, hE5⟩
set_option maxRecDepth 100000 in
set_option maxHeartbeats 1600000 in
theorem z_Add (a b : List Sg) (oka okb : Nat → Prop) (A B : Option Addr) (ca cb : Nat) (w : World) (hw : TabW w) (hz : ZeroAt w) (ha : Bag w oka A a) (hb : Bag w okb B b) (ka : OkZ a) (kb : OkZ b) (ra : RgZ a) (rb : RgZ b) (hl : a.length + b.length ≤ 1000) :
    Calls Tryz.prog 25 #[.slice A a.length ca, .slice B b.length cb] w (Gives w (addP a b)) := by
  have HCL := Lib.hid (z_CloneZ a oka A ca w ha (by omega))
  obtain ⟨hb2, hm2, hlie2, hcells2⟩ := hb.inb.heads
  have HB2 := Lib.hid hlie2
  have HC2 := Lib.hid hcells2
  have HM2 := Lib.hid hm2
  have HN := Lib.hid (SliceR.none_ hb)
  have HLN := Lib.hid (x_len hm2)
  have HF := Lib.hid (fun (A5 : Option Addr) (c5 : Nat) (W : World) (e : Ext w W) (h : Bag W (fun _ => True) A5 (a ++ b)) => (by have := z_NormW (a ++ b) (fun _ => True) A5 c5 W (hw.ext e) (hz.ext e) h (ok_app ka kb) (rg_app ra rb) (by rw [List.length_append]; omega); rwa [List.length_append] at this : Calls Tryz.prog 17 #[.slice A5 (a.length + b.length) c5] W fun e w' => ∃ v', e = .returned v' ∧ (∃ hs, hs.map HSg.x = normP (a ++ b) ∧ OwnZ w' (W.heap.size + 1) (fun b => W.heap.size + 1 ≤ b) v' hs) ∧ Ext W w'))
  clear hw hz ha hb ka kb ra rb hlie2 hcells2 hm2
  go_enter Tryz.func25, Tryz.ntmps25
  go_wp2_with (first | (go_at_call 43; ((with_reducible refine (HCL.out).mono ?_); rintro e w4 ⟨v4, h4, rfl, hm4, hO4, hx4⟩)) | (at_builtin; go_loud (refine own_catG (v := v4) (hs := h4) T_sg rfl (.tmp 6) (.tmp 7) rfl rfl hO4 hx4.le B b.length cb hb2 rfl HLN.out.symm HN.out (fun ad e j u hu => hx4.cell (HC2.out ad e j u hu)) (fun p hp => KSg.keep _ _ _ _ _ (fun b o x hb hc => ⟨hx4.cell hc, hb, fun e => by have h2 := (OwnG.lt hO4 e.symm).1; omega⟩) (HB2.out p hp)) (by have := x_len hm4; omega) (by decide) ?_); intro v5 w5 hO5 hg5 hd5; have hx5 : Ext w w5 := hx4.grown hg5 (fun g hg => (OwnG.lt hO4 hg).1); have hmm : (h4 ++ hb2).map HSg.x = a ++ b := (by rw [List.map_append, hm4, HM2.out]); obtain ⟨A5, c5, hv5, hle5, hB5⟩ := own_gives (w := w5) hO5 hmm (by have := x_len hmm; rw [this, List.length_append]; omega) (Ext.refl _); injection hv5 with hv5; subst hv5) | (go_at_call 17; ((with_reducible refine (HF.out A5 c5 w5 hx5 hB5.1).mono ?_); rintro e w6 ⟨v6, rfl, ⟨h6, hm6, hO6⟩, hx6⟩)))
  go_ret
  exact own_gives hO6 hm6 (by rw [x_len hm6]; have := norm_len (a ++ b); rw [List.length_append] at this; omega) (hx5.trans hx6)
end Go.Proofs.YtgojggmjajlbpaaGreatDoor

/- THE WALKS over zset's Neg, Sub, Distinct and Of (chapter 47). -/
namespace Go.Proofs.YtgojggmjajlbpaaGreatDoor
open Go.RowKit Go.Sort
/-- a list rewritten up to k -/
def mixL {α : Type} (f : α → α) (l : List α) (k : Nat) : List α := (l.take k).map f ++ l.drop k
theorem mixL_zero {α : Type} (f : α → α) (l : List α) : mixL f l 0 = l := by simp [mixL]
theorem mixL_all {α : Type} (f : α → α) (l : List α) : mixL f l l.length = l.map f := by simp [mixL]
theorem mixL_len {α : Type} (f : α → α) (l : List α) (k : Nat) : (mixL f l k).length = l.length := by simp [mixL]; omega
theorem mixL_at {α : Type} {f : α → α} {l : List α} {k : Nat} (hk : k < l.length) (h : k < (mixL f l k).length) : (mixL f l k)[k] = l[k] := by
  have h1 : ((l.take k).map f).length = k := by simp; omega
  have h2 : (mixL f l k)[k]? = some l[k] := by
    unfold mixL
    rw [List.getElem?_append_right (by omega), h1, Nat.sub_self, List.getElem?_drop, Nat.add_zero, List.getElem?_eq_getElem hk]
  rw [List.getElem?_eq_getElem h] at h2
  exact Option.some.inj h2
theorem mixL_set {α : Type} {f : α → α} {l : List α} {k : Nat} (hk : k < l.length) : (mixL f l k).set k (f l[k]) = mixL f l (k + 1) := by
  have h1 : ((l.take k).map f).length = k := by simp; omega
  unfold mixL
  rw [List.set_append_right _ _ (by omega), h1, Nat.sub_self, List.drop_eq_getElem_cons hk, List.set_cons_zero, List.take_succ_eq_append_getElem hk, List.map_append, List.append_assoc]
  rfl
def ngH (h : HSg) : HSg := ⟨h.A, h.c, (h.x.1, wrap64 (-h.x.2))⟩
def oneH (h : HSg) : HSg := ⟨h.A, h.c, (h.x.1, 1)⟩
/-- one multiplicity rewritten -/
theorem mix_step {w W : World} {base : Nat} {ok0 : Nat → Prop} {g n c k : Nat} {hs : List HSg} (f : HSg → HSg) (hf : ∀ h, (f h).A = h.A ∧ (f h).c = h.c ∧ (f h).x.1 = h.x.1) (hO : OwnZ W base ok0 (.slice (some ⟨g, 0, none⟩) n c) (mixL f hs k)) (hk : k < hs.length) (hb : w.heap.size ≤ base) (hE : Ext w W) (m : Int) (hm : m = (f hs[k]).x.2) :
    OwnZ (W.setCell ⟨g, k * 2 + 1, none⟩ (.int .i64 m)) base ok0 (.slice (some ⟨g, 0, none⟩) n c) (mixL f hs (k + 1)) ∧ Ext w (W.setCell ⟨g, k * 2 + 1, none⟩ (.int .i64 m)) := by
  subst hm
  have hk' : k < (mixL f hs k).length := by rw [mixL_len]; exact hk
  have hat := mixL_at (f := f) hk hk'
  obtain ⟨f1, f2, f3⟩ := hf hs[k]
  obtain ⟨h1, h2⟩ := OwnG.stored (K := KSg) hO hk' (j := 1) (by decide) (f hs[k]) (.int .i64 (f hs[k]).x.2) (by
    rw [hat]
    show (HSg.cells _) = (HSg.cells _).set 1 _
    unfold HSg.cells
    rw [f1, f2, f3]; rfl) (by
    have h3 := hO.lies _ (List.getElem_mem hk')
    rw [hat] at h3
    refine ⟨by rw [f2, f3]; exact h3.1, ?_⟩
    rw [f1, f3]; exact h3.2)
  rw [mixL_set hk] at h1
  have hg : base ≤ g := (OwnG.lt hO rfl).1
  exact ⟨h1, hE.setCell (show w.heap.size ≤ g by omega) _⟩
set_option maxRecDepth 100000 in
set_option maxHeartbeats 1600000 in
theorem z_Neg (z : List Sg) (ok : Nat → Prop) (A : Option Addr) (c : Nat) (w : World) (hw : TabW w) (hz : ZeroAt w) (hv : Bag w ok A z) (hk : OkZ z) (hr : RgZ z) (hl : z.length ≤ 1000) :
    Calls Tryz.prog 19 #[.slice A z.length c] w (Gives w (negP z)) := by
  have HN := Lib.hid (z_NormW z ok A c w hw hz hv hk hr hl)
  have hln := norm_len z
  clear hw hz hv hk hr
  go_enter Tryz.func19, Tryz.ntmps19
  go_upto_region 2 with (go_at_call 17; ((with_reducible refine (HN.out).mono ?_); rintro e w4 ⟨v4, rfl, ⟨hs, hm, hO⟩, hx4⟩))
  obtain ⟨A4, c4, rfl⟩ := OwnG.form hO
  have hhl : hs.length ≤ 1000 := by rw [x_len hm]; omega
  have HO := Lib.hid hO
  have HM := Lib.hid hm
  clear hO hm HN
  go_wp2_with fail
  go_loopw [9] (fun u W => ∃ k : Nat, u = .int .i64 k ∧ k ≤ hs.length ∧ Hid (OwnZ W (w.heap.size + 1) (fun b => w.heap.size + 1 ≤ b) (.slice A4 hs.length c4) (mixL ngH hs k)) ∧ Ext w W) (fun u _ => hs.length - (intOf u).toNat)
  case atStart => exact ⟨0, rfl, Nat.zero_le _, Lib.hid (by rw [mixL_zero]; exact HO.out), hx4⟩
  case round =>
    clear HO
    obtain ⟨k, rfl, hk, hO, hE⟩ := hrel
    by_cases hlt : k < hs.length
    · obtain ⟨g, c1, hvv, hg0, hg1⟩ := own_some hO.out (by rw [mixL_len]; omega)
      rw [mixL_len] at hvv
      injection hvv with h1 h2 h3
      subst h1 h3
      have hk' : k < (mixL ngH hs k).length := by rw [mixL_len]; exact hlt
      obtain ⟨-, q1, -, f1⟩ := own_cells2 hO.out hk'
      rw [mixL_at hlt hk'] at q1
      have HS := Lib.hid (mix_step ngH (fun _ => ⟨rfl, rfl, rfl⟩) hO.out hlt (Nat.le_succ _) hE _ rfl)
      have hng : (ngH hs[k]).x.2 = wrap64 (-hs[k].x.2) := rfl
      rw [hng] at HS
      generalize hs[k] = y at *
      have zlt : (k : Int) < (hs.length : Int) := by omega
      clear h2 hO hng
      go_wp2_with fail
      go_roundw
      case rel => exact ⟨k + 1, by go_num, by omega, Lib.hid HS.out.1, HS.out.2⟩
      case measure => simp [intOf]; omega
    · have hke : k = hs.length := by omega
      have HO := Lib.hid (by have := hO.out; rwa [hke, mixL_all] at this : OwnZ wr (w.heap.size + 1) (fun b => w.heap.size + 1 ≤ b) (.slice A4 hs.length c4) (hs.map ngH))
      clear hO
      go_wp2_with fail
      go_ret
      exact own_gives HO.out (neg_norm_map HM.out) (by rw [List.length_map]; omega) hE
theorem z_Sub (a b : List Sg) (oka okb : Nat → Prop) (A B : Option Addr) (ca cb : Nat) (w : World) (hw : TabW w) (hz : ZeroAt w) (ha : Bag w oka A a) (hb : Bag w okb B b) (ka : OkZ a) (kb : OkZ b) (ra : RgZ a) (rb : RgZ b) (hl : a.length + b.length ≤ 1000) :
    Calls Tryz.prog 27 #[.slice A a.length ca, .slice B b.length cb] w (Gives w (subP a b)) := by
  have HN := Lib.hid (z_Neg b okb B cb w hw hz hb kb rb (by omega))
  have HF := Lib.hid (fun (A5 : Option Addr) (c5 : Nat) (W : World) (e : Ext w W) (h : Bag W (fun _ => True) A5 (negP b)) => z_Add a (negP b) oka (fun _ => True) A A5 ca c5 W (hw.ext e) (hz.ext e) (ha.ext e) h ka (ok_sub kb (negP_sub b)) ra (neg_rg _) (by have := neg_len b; omega))
  clear hw hz ha hb ka kb ra rb
  go_enter Tryz.func27, Tryz.ntmps27
  go_wp2_with (first | (go_at_call 19; ((with_reducible refine (HN.out).mono ?_); rintro e w4 ⟨A4, c4, rfl, hle4, hB4, hx4⟩)) | (go_at_call 25; ((with_reducible refine (HF.out A4 c4 w4 hx4 hB4).mono ?_); rintro e w5 ⟨A5, c5, rfl, hle5, hB5, hx5⟩)))
  go_ret
  exact ⟨A5, c5, rfl, hle5, hB5, hx4.trans hx5⟩
theorem z_DeleteO (p : Sg → Bool) (f : Nat) (eg : ∀ args w, (callFunc f args).run Tryz.prog w = .ok (.enter f args) w) (hp : PredZ f p) (hs : List HSg) (base : Nat) (ok0 : Nat → Prop) (v : Value) (w0 w : World) (h : OwnZ w base ok0 v hs) (hl : hs.length ≤ 8000000) (hb : w0.heap.size ≤ base) (hE : Ext w0 w) :
    Calls Tryz.prog 37 #[v, .func (.func f) #[] #[]] w fun e w' => ∃ v' hs', e = .returned v' ∧ hs' = hs.filter (fun x => !p x.x) ∧ OwnZ w' base ok0 v' hs' ∧ Ext w0 w' := by
  rcases h.own.2 with ⟨rfl, h0⟩ | ⟨g, cap, cur, rfl, hg, hh, -⟩
  · have h1 : hs = [] := List.eq_nil_of_length_eq_zero h0
    subst h1
    refine (z_DeleteF0 _ w).mono ?_
    rintro e w' ⟨rfl, hx⟩
    exact ⟨_, [], rfl, rfl, OwnG.nil _ _ _ _ _, hE.trans hx⟩
  · refine (z_DeleteF p f eg hp hs base ok0 g hs.length cap w h rfl hl).mono ?_
    rintro e w' ⟨m, rfl, hO, hG⟩
    exact ⟨_, _, rfl, rfl, hO, hE.grown hG (fun b hb2 => by injection hb2 with hb2; omega)⟩
theorem dist_map {hs : List HSg} {z : List Sg} (hr : RgZ z) (h : hs.map HSg.x = normP z) : ((hs.filter (fun x => !decide (x.x.2 < 0))).map oneH).map HSg.x = distP z := by
  unfold distP
  rw [← h, List.map_map]
  have hnz : ∀ x ∈ hs, x.x.2 ≠ 0 := fun x hx => (norm_good hr).nz x.x (by rw [← h]; exact List.mem_map_of_mem hx)
  clear h
  induction hs with
  | nil => rfl
  | cons x hs ih =>
    have h0 := hnz x (by simp)
    have ih' := ih (fun y hy => hnz y (by simp [hy]))
    rw [List.map_cons, List.filter_cons, List.filter_cons]
    by_cases h1 : x.x.2 < 0
    · rw [if_neg (by simp [h1]), if_neg (by simp; omega)]; exact ih'
    · rw [if_pos (by simp [h1]), if_pos (by simp; omega), List.map_cons, List.map_cons, ih']; rfl
set_option maxRecDepth 100000 in
set_option maxHeartbeats 1600000 in
theorem z_Distinct (z : List Sg) (ok : Nat → Prop) (A : Option Addr) (c : Nat) (w : World) (hw : TabW w) (hz : ZeroAt w) (hv : Bag w ok A z) (hk : OkZ z) (hr : RgZ z) (hl : z.length ≤ 1000) :
    Calls Tryz.prog 21 #[.slice A z.length c] w (Gives w (distP z)) := by
  have HN := Lib.hid (z_NormW z ok A c w hw hz hv hk hr hl)
  have hln := norm_len z
  have HR := Lib.hid hr
  have HD := Lib.hid (fun (hs : List HSg) (v : Value) (W : World) (h : OwnZ W (w.heap.size + 1) (fun b => w.heap.size + 1 ≤ b) v hs) (hl : hs.length ≤ 8000000) (hE : Ext w W) => z_DeleteO (fun x => decide (x.2 < 0)) _ eg_p1 z_pred1 hs _ _ v w W h hl (Nat.le_succ _) hE)
  clear hw hz hv hk hr
  go_enter Tryz.func21, Tryz.ntmps21
  go_upto_region 3 with (first | (go_at_call 17; ((with_reducible refine (HN.out).mono ?_); rintro e w4 ⟨v4, rfl, ⟨h4, hm, hO⟩, hx4⟩)) | (go_at_call 37; ((with_reducible refine (HD.out h4 v4 w4 hO (by rw [x_len hm]; omega) hx4).mono ?_); rintro e w5 ⟨v5, hs, rfl, hhs, hO5, hx5⟩)))
  obtain ⟨A4, c4, rfl⟩ := OwnG.form hO5
  have hhl : hs.length ≤ 1000 := by
    have h1 := List.length_filter_le (fun x : HSg => !decide (x.x.2 < 0)) h4
    have h2 := x_len hm
    rw [hhs]; omega
  have HO := Lib.hid hO5
  have HM := Lib.hid (show (hs.map oneH).map HSg.x = distP z by rw [hhs]; exact dist_map HR.out hm)
  clear hO hm HN HD hhs hO5
  go_wp2_with fail
  go_loopw [11] (fun u W => ∃ k : Nat, u = .int .i64 k ∧ k ≤ hs.length ∧ Hid (OwnZ W (w.heap.size + 1) (fun b => w.heap.size + 1 ≤ b) (.slice A4 hs.length c4) (mixL oneH hs k)) ∧ Ext w W) (fun u _ => hs.length - (intOf u).toNat)
  case atStart => exact ⟨0, rfl, Nat.zero_le _, Lib.hid (by rw [mixL_zero]; exact HO.out), hx5⟩
  case round =>
    clear HO
    obtain ⟨k, rfl, hk, hO, hE⟩ := hrel
    by_cases hlt : k < hs.length
    · obtain ⟨g, c1, hvv, hg0, hg1⟩ := own_some hO.out (by rw [mixL_len]; omega)
      rw [mixL_len] at hvv
      injection hvv with h1 h2 h3
      subst h1 h3
      have hk' : k < (mixL oneH hs k).length := by rw [mixL_len]; exact hlt
      obtain ⟨-, q1, -, f1⟩ := own_cells2 hO.out hk'
      have HS := Lib.hid (mix_step oneH (fun _ => ⟨rfl, rfl, rfl⟩) hO.out hlt (Nat.le_succ _) hE 1 rfl)
      generalize (mixL oneH hs k)[k]'hk' = y at *
      have zlt : (k : Int) < (hs.length : Int) := by omega
      clear h2 hO hk'
      go_wp2_with fail
      go_roundw
      case rel => exact ⟨k + 1, by go_num, by omega, Lib.hid HS.out.1, HS.out.2⟩
      case measure => simp [intOf]; omega
    · have hke : k = hs.length := by omega
      have HO := Lib.hid (by have := hO.out; rwa [hke, mixL_all] at this : OwnZ wr (w.heap.size + 1) (fun b => w.heap.size + 1 ≤ b) (.slice A4 hs.length c4) (hs.map oneH))
      clear hO
      go_wp2_with fail
      go_ret
      exact own_gives HO.out HM.out (by rw [List.length_map]; omega) hE
end Go.Proofs.YtgojggmjajlbpaaGreatDoor

/- THE WALKS over zset.cellOf and zset.identical. -/
namespace Go.Proofs.YtgojggmjajlbpaaGreatDoor
open Go.RowKit
def cellZ (v : Val) : Value := .agg #[.int .i64 v.kind, .int .i64 v.n, .int .i64 v.d, .int .i64 v.l.length, .string v.s]
def sameC (a b : Val) : Bool := decide (a.kind = b.kind) && decide (a.n = b.n) && decide (a.d = b.d) && decide ((a.l.length : Int) = (b.l.length : Int)) && decide (a.s = b.s)
theorem sameC_iff {a b : Val} : sameC a b = true ↔ a.kind = b.kind ∧ a.n = b.n ∧ a.d = b.d ∧ a.l.length = b.l.length ∧ a.s = b.s := by
  unfold sameC
  simp only [Bool.and_eq_true, decide_eq_true_iff]
  exact ⟨fun ⟨⟨⟨⟨a, b⟩, c⟩, d⟩, e⟩ => ⟨a, b, c, by omega, e⟩, fun ⟨a, b, c, d, e⟩ => ⟨⟨⟨⟨a, b⟩, c⟩, by omega⟩, e⟩⟩
theorem eqin_cell (a b : Val) (w : World) : (Op.equalIn 10000 66 (cellZ a) (cellZ b)).run Tryz.prog w = .ok (sameC a b) w := by
  have u3 := Tryz.underlying3
  have u9 := Tryz.underlying9
  have a3 := Tryz.isAgg3
  have a9 := Tryz.isAgg9
  have hS : Tryz.prog.underlying 66 = some (.struct (Tryz.prog.fieldsOf 66)) := by kernel_rfl
  have hp : Tryz.prog.stoodInHeld 66 = false := by kernel_rfl
  unfold cellZ sameC
  rw [show (10000 : Nat) = 9999 + 1 from rfl, run_equalIn_agg w 9999 66 _ _ hS hp]
  generalize a.kind = a1, b.kind = b1, a.n = a2, b.n = b2, a.d = a3', b.d = b3', (a.l.length : Int) = a4, (b.l.length : Int) = b4, a.s = a5, b.s = b5
  simp only [Program.fieldsOf, Tryz.underlying66]
  go_simp
  have y : ∀ p q : ByteArray, (p.toList = q.toList) = (p = q) := fun p q => propext ⟨bytes_eq, fun h => by rw [h]⟩
  simp only [y]
  by_cases h1 : a1 = b1
  · by_cases h2 : a2 = b2
    · by_cases h3 : a3' = b3'
      · by_cases h4 : a4 = b4
        · by_cases h5 : a5 = b5 <;> simp [h1, h2, h3, h4, h5]
        · simp [h1, h2, h3, h4]
      · simp [h1, h2, h3]
    · simp [h1, h2]
  · simp [h1]
theorem neq_cell (a b : Val) (w : World) : (binOp .neq 66 (cellZ a) (cellZ b)).run Tryz.prog w = .ok (.bool (!sameC a b)) w := by
  unfold cellZ
  rw [run_neq_struct]
  have := eqin_cell a b w
  unfold cellZ at this
  rw [this]; rfl
set_option maxRecDepth 100000 in
theorem z_cellOf (v : Val) (A : Option Addr) (c : Nat) (w : World) : Calls Tryz.prog 53 #[.agg #[.int .i64 v.kind, .int .i64 v.n, .int .i64 v.d, .string v.s, .slice A v.l.length c]] w fun e w' => e = .returned (cellZ v) ∧ Ext w w' := by
  go_enter Tryz.func53, Tryz.ntmps53
  go_wp2_with fail
  refine bodyPost_ret (v := cellZ v) (by unfold cellZ; simp [results, Tryz.results53, go_sem]) rfl ?_
  exact ⟨rfl, (by repeat (first | with_reducible exact Ext.refl _ | with_reducible assumption | with_reducible refine Ext.drew ?_ | with_reducible refine Ext.drewN ?_ _ | with_reducible refine Ext.alloc ?_ _ | (with_reducible refine Ext.setCell ?_ (by first | omega | (simp; done) | (simp; omega)) _)))⟩
theorem val_same {a b : Val} (h : sameC a b = true) (h2 : a.l = b.l) : a = b := by
  obtain ⟨h3, h4, h5, -, h6⟩ := sameC_iff.1 h
  exact Val.ext' h3 h4 h5 h6 h2
theorem lst_no {a b : List Val} {k : Nat} (h : a[k]! ≠ b[k]!) : eqL a b = false := eqL_f.2 (fun e => h (by rw [e]))
theorem lst_yes {a b : List Val} (hl : a.length = b.length) (h : ∀ j < a.length, a[j]! = b[j]!) : eqL a b = true :=
  eqL_t.2 (List.ext_getElem hl (fun j h1 h2 => by have := h j h1; rwa [getV h1, getV h2] at this))
set_option maxRecDepth 100000 in
set_option maxHeartbeats 3200000 in
theorem z_identStep (a b : List Val) (ok ok' : Nat → Prop) (A B : Option Addr) (c d : Nat) (w : World) (ha : Vals w ok A a) (hb : Vals w ok' B b)
    (ih : ∀ x ∈ a, ∀ (y : Val) (Ax Bx : Option Addr) (cx dx : Nat) (W : World), Vals W ok Ax x.l → Vals W ok' Bx y.l → Calls Tryz.prog 42 #[.slice Ax x.l.length cx, .slice Bx y.l.length dx] W fun e W' => e = .returned (.bool (eqL x.l y.l)) ∧ Ext W W') :
    Calls Tryz.prog 42 #[.slice A a.length c, .slice B b.length d] w fun e w' => e = .returned (.bool (eqL a b)) ∧ Ext w w' := by
  have hma := ha.len
  have hmb := hb.len
  by_cases hn : a.length = b.length
  · have HA := Lib.hid ha
    have HB := Lib.hid hb
    have HI := Lib.hid ih
    have HNO := Lib.hid (fun k => lst_no (a := a) (b := b) (k := k))
    have HY := Lib.hid (lst_yes hn)
    have HL := Lib.hid hn
    have hne : ((a.length : Int) != (b.length : Int)) = false := by simp [hn]
    clear hn ha hb ih
    go_enter Tryz.func42, Tryz.ntmps42
    go_wp2_with fail
    clear hne
    go_loopw [13] (fun u W => ∃ k : Nat, u = .int .i64 k ∧ k ≤ a.length ∧ Hid (∀ j < k, a[j]! = b[j]!) ∧ Ext w W) (fun u _ => a.length - (intOf u).toNat)
    case atStart => exact ⟨0, rfl, Nat.zero_le _, Lib.hid (fun j hj => absurd hj (by omega)), Ext.refl _⟩
    case round =>
      obtain ⟨k, rfl, hk, hgd, hE⟩ := hrel
      by_cases hlt : k < a.length
      · obtain ⟨b1, o1, rfl, A1, c1, hv1, -, hl1⟩ := HA.out.at5 hlt
        obtain ⟨b2, o2, rfl, A2, c2, hv2, -, hl2⟩ := HB.out.at5 (k := k) (by have := HL.out; omega)
        have hlb : k < b.length := by have := HL.out; omega
        obtain ⟨d0, d1, d2, d3, d4⟩ := hv1.ext hE
        obtain ⟨e0, e1, e2, e3, e4⟩ := hv2.ext hE
        have HM := Lib.hid (show a[k]! ∈ a by rw [getV hlt]; exact List.getElem_mem hlt)
        have HC := Lib.hid (fun W (e : Ext w W) => HI.out a[k]! HM.out b[k]! A1 A2 c1 c2 W (hl1.ext e) (hl2.ext e))
        have HX := Lib.hid (fun (h : a[k]! ≠ b[k]!) => HNO.out k h)
        have HS := Lib.hid (fun (h : a[k]! = b[k]!) j (hj : j < k + 1) => (if e : j = k then (by rw [e]; exact h) else hgd.out j (by omega) : a[j]! = b[j]!))
        clear hv1 hv2 hl1 hl2 HNO
        generalize a[k]! = x at *
        generalize b[k]! = y at *
        have HQ := fun W => neq_cell x y W
        unfold cellZ at HQ
        have HCA := Lib.hid (fun W => z_cellOf x A1 c1 W)
        have HCB := Lib.hid (fun W => z_cellOf y A2 c2 W)
        unfold cellZ at HCA HCB
        cases hs : sameC x y
        · have HT := Lib.hid (HX.out (fun h => by rw [h, sameC_iff.2 ⟨rfl, rfl, rfl, rfl, rfl⟩] at hs; cases hs))
          simp only [hs, Bool.not_false] at HQ
          go_upto_region 6 with (fail)
          have MKR1 := Lib.hid (fun V (e : Ext wr V) => (⟨e.cell d0, e.cell d1, e.cell d2, e.cell d3, e.cell d4, e.cell e0, e.cell e1, e.cell e2, e.cell e3, e.cell e4, e⟩ : V.cell? ⟨b1, o1 + k * 5, none⟩ = some (.int .i64 x.kind) ∧ V.cell? ⟨b1, o1 + k * 5 + 1, none⟩ = some (.int .i64 x.n) ∧ V.cell? ⟨b1, o1 + k * 5 + 2, none⟩ = some (.int .i64 x.d) ∧ V.cell? ⟨b1, o1 + k * 5 + 3, none⟩ = some (.string x.s) ∧ V.cell? ⟨b1, o1 + k * 5 + 4, none⟩ = some (.slice A1 x.l.length c1) ∧ V.cell? ⟨b2, o2 + k * 5, none⟩ = some (.int .i64 y.kind) ∧ V.cell? ⟨b2, o2 + k * 5 + 1, none⟩ = some (.int .i64 y.n) ∧ V.cell? ⟨b2, o2 + k * 5 + 2, none⟩ = some (.int .i64 y.d) ∧ V.cell? ⟨b2, o2 + k * 5 + 3, none⟩ = some (.string y.s) ∧ V.cell? ⟨b2, o2 + k * 5 + 4, none⟩ = some (.slice A2 y.l.length c2) ∧ Ext wr V))
          refine wp_region_held_drew (S := (fun V => V.cell? ⟨b1, o1 + k * 5, none⟩ = some (.int .i64 x.kind) ∧ V.cell? ⟨b1, o1 + k * 5 + 1, none⟩ = some (.int .i64 x.n) ∧ V.cell? ⟨b1, o1 + k * 5 + 2, none⟩ = some (.int .i64 x.d) ∧ V.cell? ⟨b1, o1 + k * 5 + 3, none⟩ = some (.string x.s) ∧ V.cell? ⟨b1, o1 + k * 5 + 4, none⟩ = some (.slice A1 x.l.length c1) ∧ V.cell? ⟨b2, o2 + k * 5, none⟩ = some (.int .i64 y.kind) ∧ V.cell? ⟨b2, o2 + k * 5 + 1, none⟩ = some (.int .i64 y.n) ∧ V.cell? ⟨b2, o2 + k * 5 + 2, none⟩ = some (.int .i64 y.d) ∧ V.cell? ⟨b2, o2 + k * 5 + 3, none⟩ = some (.string y.s) ∧ V.cell? ⟨b2, o2 + k * 5 + 4, none⟩ = some (.slice A2 y.l.length c2) ∧ Ext wr V)) (by kernel_rfl) ?hs1 (fun hHeld => ?go1)
          case hs1 => (exact MKR1.out _ (by with_reducible repeat (first | exact Ext.refl _ | assumption | refine Ext.drew ?_ | refine Ext.drewN ?_ _ | refine Ext.alloc ?_ _)))
          refine wpAnyH_take (i := 0) (oi := ⟨(some 16), (.move (.tmp 0)), 23, "zset.go:27", #[], none⟩) (v := ?v2) rfl (by kernel_rfl) (by kernel_rfl) (by kernel_rfl) (fun _ _ _ h => h) (Or.inl ⟨rfl, ?hy2⟩) hHeld ?rest2
          case hy2 => (intro w _; go_simp <;> rfl)
          (try simp only [PU])
          refine wpAnyH_take (i := 1) (oi := ⟨(some 17), (.move (.tmp 5)), 3, "zset.go:27", #[], none⟩) (v := ?v3) rfl (by kernel_rfl) (by kernel_rfl) (by kernel_rfl) (fun _ _ _ h => h) (Or.inl ⟨rfl, ?hy3⟩) hHeld ?rest3
          case hy3 => (intro w _; go_simp <;> rfl)
          (try simp only [PU])
          refine wpAnyH_take (i := 2) (oi := ⟨(some 18), (.indexAddr 23 (.tmp 16) (.tmp 17)), 0, "zset.go:27", #[⟨0, .data⟩, ⟨1, .data⟩], none⟩) (v := ?v4) rfl (by kernel_rfl) (by kernel_rfl) (by kernel_rfl) (fun _ _ _ h => h) (Or.inl ⟨rfl, ?hy4⟩) hHeld ?rest4
          case hy4 => (intro w _; go_simp <;> first | with_reducible rfl | rw [if_neg (by omega)] | rw [if_pos (by omega)])
          (try simp only [PU])
          refine wpAnyH_take (i := 3) (oi := ⟨(some 19), (.load 56 (.tmp 18)), 56, "zset.go:27", #[⟨2, .data⟩], none⟩) (v := ?v5) rfl (by kernel_rfl) (by kernel_rfl) (by kernel_rfl) (fun _ _ _ h => h) (Or.inl ⟨rfl, ?hy5⟩) hHeld ?rest5
          case hy5 => (intro w hSw; (try dsimp only at hSw); go_simp <;> first | with_reducible rfl | rw [if_neg (by omega)] | rw [if_pos (by omega)])
          (try simp only [PU])
          refine wpAnyH_take (i := 5) (oi := ⟨(some 21), (.move (.tmp 1)), 23, "zset.go:27", #[], none⟩) (v := ?v6) rfl (by kernel_rfl) (by kernel_rfl) (by kernel_rfl) (fun _ _ _ h => h) (Or.inl ⟨rfl, ?hy6⟩) hHeld ?rest6
          case hy6 => (intro w _; go_simp <;> rfl)
          (try simp only [PU])
          refine wpAnyH_take (i := 6) (oi := ⟨(some 22), (.move (.tmp 5)), 3, "zset.go:27", #[], none⟩) (v := ?v7) rfl (by kernel_rfl) (by kernel_rfl) (by kernel_rfl) (fun _ _ _ h => h) (Or.inl ⟨rfl, ?hy7⟩) hHeld ?rest7
          case hy7 => (intro w _; go_simp <;> rfl)
          (try simp only [PU])
          refine wpAnyH_take (i := 7) (oi := ⟨(some 23), (.indexAddr 23 (.tmp 21) (.tmp 22)), 0, "zset.go:27", #[⟨5, .data⟩, ⟨6, .data⟩], none⟩) (v := ?v8) rfl (by kernel_rfl) (by kernel_rfl) (by kernel_rfl) (fun _ _ _ h => h) (Or.inl ⟨rfl, ?hy8⟩) hHeld ?rest8
          case hy8 => (intro w _; go_simp <;> first | with_reducible rfl | rw [if_neg (by omega)] | rw [if_pos (by omega)])
          (try simp only [PU])
          refine wpAnyH_take (i := 8) (oi := ⟨(some 24), (.load 56 (.tmp 23)), 56, "zset.go:27", #[⟨7, .data⟩], none⟩) (v := ?v9) rfl (by kernel_rfl) (by kernel_rfl) (by kernel_rfl) (fun _ _ _ h => h) (Or.inl ⟨rfl, ?hy9⟩) hHeld ?rest9
          case hy9 => (intro w hSw; (try dsimp only at hSw); go_simp <;> first | with_reducible rfl | rw [if_neg (by omega)] | rw [if_pos (by omega)])
          (try simp only [PU])
          refine wpAnyH_ready (rs := [4]) (by kernel_rfl) (by simp) ?_
          refine AllReadyH.cons (o := ⟨(some 20), (.call { callee := (.value (.func 53)), args := #[(.tmp 19)], argTypes := #[56] }), 66, "zset.go:27", #[⟨3, .data⟩], none⟩) rfl (fun K hK => ?step10x0) ?more10x0
          case more10x0 => exact AllReadyH.nil
          go_simp
          (refine (HCA.out _).mono ?_; rintro e w6 ⟨rfl, hx6⟩; replace hx6 : Ext wr w6 := Ext.trans (by with_reducible repeat (first | exact Ext.refl _ | assumption | refine Ext.drew ?_ | refine Ext.drewN ?_ _ | refine Ext.alloc ?_ _)) hx6)
          refine hK.out _ _ ?hS10x0 (fun hHeld10 => ?rest10x0)
          case hS10x0 => first | (exact MKR1.out _ (by with_reducible repeat (first | exact Ext.refl _ | assumption | refine Ext.drew ?_ | refine Ext.drewN ?_ _ | refine Ext.alloc ?_ _))) | ((try dsimp only); (exact MKR1.out _ (by with_reducible repeat (first | exact Ext.refl _ | assumption | refine Ext.drew ?_ | refine Ext.drewN ?_ _ | refine Ext.alloc ?_ _))))
          clear hK K
          clear hHeld
          (try simp only [PU])
          refine wpAnyH_ready (rs := [9]) (by kernel_rfl) (by simp) ?_
          refine AllReadyH.cons (o := ⟨(some 25), (.call { callee := (.value (.func 53)), args := #[(.tmp 24)], argTypes := #[56] }), 66, "zset.go:27", #[⟨8, .data⟩, ⟨4, .chain⟩], none⟩) rfl (fun K hK => ?step11x0) ?more11x0
          case more11x0 => exact AllReadyH.nil
          go_simp
          (refine (HCB.out _).mono ?_; rintro e w7 ⟨rfl, hx7⟩; replace hx7 : Ext wr w7 := Ext.trans (by with_reducible repeat (first | exact Ext.refl _ | assumption | refine Ext.drew ?_ | refine Ext.drewN ?_ _ | refine Ext.alloc ?_ _)) hx7)
          refine hK.out _ _ ?hS11x0 (fun hHeld11 => ?rest11x0)
          case hS11x0 => first | (exact MKR1.out _ (by with_reducible repeat (first | exact Ext.refl _ | assumption | refine Ext.drew ?_ | refine Ext.drewN ?_ _ | refine Ext.alloc ?_ _))) | ((try dsimp only); (exact MKR1.out _ (by with_reducible repeat (first | exact Ext.refl _ | assumption | refine Ext.drew ?_ | refine Ext.drewN ?_ _ | refine Ext.alloc ?_ _))))
          clear hK K
          clear hHeld10
          (try simp only [PU])
          refine wpAnyH_take (i := 10) (oi := ⟨(some 26), (.binOp .neq 66 (.tmp 20) (.tmp 25) 66), 4, "zset.go:27", #[⟨4, .data⟩, ⟨9, .data⟩], none⟩) (v := ?v12) rfl (by kernel_rfl) (by kernel_rfl) (by kernel_rfl) (fun _ _ _ h => h) (Or.inl ⟨rfl, ?hy12⟩) hHeld11 ?rest12
          case hy12 => (intro w _; go_simp <;> first | with_reducible rfl | rw [if_neg (by omega)] | rw [if_pos (by omega)])
          (try simp only [PU])
          refine wpAnyH_take (i := 11) (oi := ⟨(some 27), (.move (.tmp 26)), 4, "zset.go:27", #[⟨10, .data⟩, ⟨9, .chain⟩], none⟩) (v := ?v13) rfl (by kernel_rfl) (by kernel_rfl) (by kernel_rfl) (fun _ _ _ h => h) (Or.inl ⟨rfl, ?hy13⟩) hHeld11 ?rest13
          case hy13 => (intro w _; go_simp <;> rfl)
          (try simp only [PU])
          refine wpAnyH_take (i := 12) (oi := ⟨(some 28), (.move (.tmp 0)), 23, "zset.go:27", #[⟨11, .guard⟩], (some (11, false))⟩) (v := undef) rfl (by kernel_rfl) (by kernel_rfl) (by kernel_rfl) (fun _ _ _ h => h) (Or.inr ⟨rfl, rfl⟩) hHeld11 ?rest14
          (try simp only [PU])
          refine wpAnyH_take (i := 13) (oi := ⟨(some 29), (.move (.tmp 5)), 3, "zset.go:27", #[⟨11, .guard⟩], (some (11, false))⟩) (v := undef) rfl (by kernel_rfl) (by kernel_rfl) (by kernel_rfl) (fun _ _ _ h => h) (Or.inr ⟨rfl, rfl⟩) hHeld11 ?rest15
          (try simp only [PU])
          refine wpAnyH_take (i := 14) (oi := ⟨(some 30), (.indexAddr 23 (.tmp 28) (.tmp 29)), 0, "zset.go:27", #[⟨12, .data⟩, ⟨13, .data⟩, ⟨11, .guard⟩], (some (11, false))⟩) (v := undef) rfl (by kernel_rfl) (by kernel_rfl) (by kernel_rfl) (fun _ _ _ h => h) (Or.inr ⟨rfl, rfl⟩) hHeld11 ?rest16
          (try simp only [PU])
          refine wpAnyH_take (i := 15) (oi := ⟨(some 31), (.fieldAddr 56 (.tmp 30) 4), 0, "zset.go:27", #[⟨14, .data⟩, ⟨11, .guard⟩], (some (11, false))⟩) (v := undef) rfl (by kernel_rfl) (by kernel_rfl) (by kernel_rfl) (fun _ _ _ h => h) (Or.inr ⟨rfl, rfl⟩) hHeld11 ?rest17
          (try simp only [PU])
          refine wpAnyH_take (i := 16) (oi := ⟨(some 32), (.load 23 (.tmp 31)), 23, "zset.go:27", #[⟨15, .data⟩, ⟨11, .guard⟩], (some (11, false))⟩) (v := undef) rfl (by kernel_rfl) (by kernel_rfl) (by kernel_rfl) (fun _ _ _ h => h) (Or.inr ⟨rfl, rfl⟩) hHeld11 ?rest18
          (try simp only [PU])
          refine wpAnyH_take (i := 17) (oi := ⟨(some 33), (.move (.tmp 1)), 23, "zset.go:27", #[⟨11, .guard⟩], (some (11, false))⟩) (v := undef) rfl (by kernel_rfl) (by kernel_rfl) (by kernel_rfl) (fun _ _ _ h => h) (Or.inr ⟨rfl, rfl⟩) hHeld11 ?rest19
          (try simp only [PU])
          refine wpAnyH_take (i := 18) (oi := ⟨(some 34), (.move (.tmp 5)), 3, "zset.go:27", #[⟨11, .guard⟩], (some (11, false))⟩) (v := undef) rfl (by kernel_rfl) (by kernel_rfl) (by kernel_rfl) (fun _ _ _ h => h) (Or.inr ⟨rfl, rfl⟩) hHeld11 ?rest20
          (try simp only [PU])
          refine wpAnyH_take (i := 19) (oi := ⟨(some 35), (.indexAddr 23 (.tmp 33) (.tmp 34)), 0, "zset.go:27", #[⟨17, .data⟩, ⟨18, .data⟩, ⟨11, .guard⟩], (some (11, false))⟩) (v := undef) rfl (by kernel_rfl) (by kernel_rfl) (by kernel_rfl) (fun _ _ _ h => h) (Or.inr ⟨rfl, rfl⟩) hHeld11 ?rest21
          (try simp only [PU])
          refine wpAnyH_take (i := 20) (oi := ⟨(some 36), (.fieldAddr 56 (.tmp 35) 4), 0, "zset.go:27", #[⟨19, .data⟩, ⟨11, .guard⟩], (some (11, false))⟩) (v := undef) rfl (by kernel_rfl) (by kernel_rfl) (by kernel_rfl) (fun _ _ _ h => h) (Or.inr ⟨rfl, rfl⟩) hHeld11 ?rest22
          (try simp only [PU])
          refine wpAnyH_take (i := 21) (oi := ⟨(some 37), (.load 23 (.tmp 36)), 23, "zset.go:27", #[⟨20, .data⟩, ⟨11, .guard⟩], (some (11, false))⟩) (v := undef) rfl (by kernel_rfl) (by kernel_rfl) (by kernel_rfl) (fun _ _ _ h => h) (Or.inr ⟨rfl, rfl⟩) hHeld11 ?rest23
          (try simp only [PU])
          refine wpAnyH_take (i := 22) (oi := ⟨(some 38), (.call { callee := (.value (.func 42)), args := #[(.tmp 32), (.tmp 37)], argTypes := #[23, 23] }), 4, "zset.go:27", #[⟨16, .data⟩, ⟨21, .data⟩, ⟨11, .chain⟩, ⟨11, .guard⟩], (some (11, false))⟩) (v := undef) rfl (by kernel_rfl) (by kernel_rfl) (by kernel_rfl) (fun _ _ _ h => h) (Or.inr ⟨rfl, rfl⟩) hHeld11 ?rest24
          (try simp only [PU])
          refine wpAnyH_take (i := 23) (oi := ⟨(some 39), (.unOp .not 4 (.tmp 38)), 4, "zset.go:27", #[⟨22, .data⟩, ⟨11, .guard⟩], (some (11, false))⟩) (v := undef) rfl (by kernel_rfl) (by kernel_rfl) (by kernel_rfl) (fun _ _ _ h => h) (Or.inr ⟨rfl, rfl⟩) hHeld11 ?rest25
          (try simp only [PU])
          refine wpAnyH_take (i := 24) (oi := ⟨(some 40), (.pick (.tmp 27) (.const (.bool true)) (.tmp 39)), 4, "zset.go:27", #[⟨11, .data⟩, ⟨23, .data⟩], none⟩) (v := ?v26) rfl (by kernel_rfl) (by kernel_rfl) (by kernel_rfl) (fun _ _ _ h => h) (Or.inl ⟨rfl, ?hy26⟩) hHeld11 ?rest26
          case hy26 => (intro w _; go_simp <;> rfl)
          (try simp only [PU])
          refine wpAnyH_done (by kernel_rfl) ?_ _
          clear hHeld11
          clear MKR1
          go_wp2_with fail
          go_ret
          exact ⟨ret_bool HT.out.symm, hE.trans (by with_reducible repeat (first | exact Ext.refl _ | assumption | refine Ext.drew ?_ | refine Ext.drewN ?_ _ | refine Ext.alloc ?_ _))⟩
        · have HLY := Lib.hid (fun h : x.l = y.l => HS.out (val_same hs h))
          have HLN := Lib.hid (fun h : x.l ≠ y.l => HX.out (fun e => h (by rw [e])))
          simp only [hs, Bool.not_true] at HQ
          clear HX HS
          cases hq : eqL x.l y.l
          · have HT := Lib.hid (HLN.out (eqL_f.1 hq))
            simp only [hq] at HC
            go_upto_region 6 with (fail)
            (have MKR2 := Lib.hid (fun V (e : Ext wr V) => (⟨e.cell d0, e.cell d1, e.cell d2, e.cell d3, e.cell d4, e.cell e0, e.cell e1, e.cell e2, e.cell e3, e.cell e4, e⟩ : V.cell? ⟨b1, o1 + k * 5, none⟩ = some (.int .i64 x.kind) ∧ V.cell? ⟨b1, o1 + k * 5 + 1, none⟩ = some (.int .i64 x.n) ∧ V.cell? ⟨b1, o1 + k * 5 + 2, none⟩ = some (.int .i64 x.d) ∧ V.cell? ⟨b1, o1 + k * 5 + 3, none⟩ = some (.string x.s) ∧ V.cell? ⟨b1, o1 + k * 5 + 4, none⟩ = some (.slice A1 x.l.length c1) ∧ V.cell? ⟨b2, o2 + k * 5, none⟩ = some (.int .i64 y.kind) ∧ V.cell? ⟨b2, o2 + k * 5 + 1, none⟩ = some (.int .i64 y.n) ∧ V.cell? ⟨b2, o2 + k * 5 + 2, none⟩ = some (.int .i64 y.d) ∧ V.cell? ⟨b2, o2 + k * 5 + 3, none⟩ = some (.string y.s) ∧ V.cell? ⟨b2, o2 + k * 5 + 4, none⟩ = some (.slice A2 y.l.length c2) ∧ Ext wr V)); go_region_held3 (fun V => V.cell? ⟨b1, o1 + k * 5, none⟩ = some (.int .i64 x.kind) ∧ V.cell? ⟨b1, o1 + k * 5 + 1, none⟩ = some (.int .i64 x.n) ∧ V.cell? ⟨b1, o1 + k * 5 + 2, none⟩ = some (.int .i64 x.d) ∧ V.cell? ⟨b1, o1 + k * 5 + 3, none⟩ = some (.string x.s) ∧ V.cell? ⟨b1, o1 + k * 5 + 4, none⟩ = some (.slice A1 x.l.length c1) ∧ V.cell? ⟨b2, o2 + k * 5, none⟩ = some (.int .i64 y.kind) ∧ V.cell? ⟨b2, o2 + k * 5 + 1, none⟩ = some (.int .i64 y.n) ∧ V.cell? ⟨b2, o2 + k * 5 + 2, none⟩ = some (.int .i64 y.d) ∧ V.cell? ⟨b2, o2 + k * 5 + 3, none⟩ = some (.string y.s) ∧ V.cell? ⟨b2, o2 + k * 5 + 4, none⟩ = some (.slice A2 y.l.length c2) ∧ Ext wr V) ((exact MKR2.out _ (by with_reducible repeat (first | exact Ext.refl _ | assumption | refine Ext.drew ?_ | refine Ext.drewN ?_ _ | refine Ext.alloc ?_ _)))) ((first | (go_at_call 53; first | ((with_reducible refine (HCA.out _).mono ?_); rintro e w6 ⟨rfl, hx6⟩; replace hx6 : Ext wr w6 := Ext.trans (by with_reducible repeat (first | exact Ext.refl _ | assumption | refine Ext.drew ?_ | refine Ext.drewN ?_ _ | refine Ext.alloc ?_ _)) hx6) | ((with_reducible refine (HCB.out _).mono ?_); rintro e w7 ⟨rfl, hx7⟩; replace hx7 : Ext wr w7 := Ext.trans (by with_reducible repeat (first | exact Ext.refl _ | assumption | refine Ext.drew ?_ | refine Ext.drewN ?_ _ | refine Ext.alloc ?_ _)) hx7)) | (go_at_call 42; ((with_reducible refine (HC.out _ (hE.trans (by with_reducible repeat (first | exact Ext.refl _ | assumption | refine Ext.drew ?_ | refine Ext.drewN ?_ _ | refine Ext.alloc ?_ _)))).mono ?_); rintro e w8 ⟨rfl, hx8⟩; replace hx8 : Ext wr w8 := Ext.trans (by with_reducible repeat (first | exact Ext.refl _ | assumption | refine Ext.drew ?_ | refine Ext.drewN ?_ _ | refine Ext.alloc ?_ _)) hx8)))); clear MKR2)
            go_wp2_with fail
            go_ret
            exact ⟨ret_bool HT.out.symm, hE.trans (by with_reducible repeat (first | exact Ext.refl _ | assumption | refine Ext.drew ?_ | refine Ext.drewN ?_ _ | refine Ext.alloc ?_ _))⟩
          · have HT := Lib.hid (HLY.out (eqL_t.1 hq))
            simp only [hq] at HC
            go_upto_region 6 with (fail)
            (have MKR3 := Lib.hid (fun V (e : Ext wr V) => (⟨e.cell d0, e.cell d1, e.cell d2, e.cell d3, e.cell d4, e.cell e0, e.cell e1, e.cell e2, e.cell e3, e.cell e4, e⟩ : V.cell? ⟨b1, o1 + k * 5, none⟩ = some (.int .i64 x.kind) ∧ V.cell? ⟨b1, o1 + k * 5 + 1, none⟩ = some (.int .i64 x.n) ∧ V.cell? ⟨b1, o1 + k * 5 + 2, none⟩ = some (.int .i64 x.d) ∧ V.cell? ⟨b1, o1 + k * 5 + 3, none⟩ = some (.string x.s) ∧ V.cell? ⟨b1, o1 + k * 5 + 4, none⟩ = some (.slice A1 x.l.length c1) ∧ V.cell? ⟨b2, o2 + k * 5, none⟩ = some (.int .i64 y.kind) ∧ V.cell? ⟨b2, o2 + k * 5 + 1, none⟩ = some (.int .i64 y.n) ∧ V.cell? ⟨b2, o2 + k * 5 + 2, none⟩ = some (.int .i64 y.d) ∧ V.cell? ⟨b2, o2 + k * 5 + 3, none⟩ = some (.string y.s) ∧ V.cell? ⟨b2, o2 + k * 5 + 4, none⟩ = some (.slice A2 y.l.length c2) ∧ Ext wr V)); go_region_held3 (fun V => V.cell? ⟨b1, o1 + k * 5, none⟩ = some (.int .i64 x.kind) ∧ V.cell? ⟨b1, o1 + k * 5 + 1, none⟩ = some (.int .i64 x.n) ∧ V.cell? ⟨b1, o1 + k * 5 + 2, none⟩ = some (.int .i64 x.d) ∧ V.cell? ⟨b1, o1 + k * 5 + 3, none⟩ = some (.string x.s) ∧ V.cell? ⟨b1, o1 + k * 5 + 4, none⟩ = some (.slice A1 x.l.length c1) ∧ V.cell? ⟨b2, o2 + k * 5, none⟩ = some (.int .i64 y.kind) ∧ V.cell? ⟨b2, o2 + k * 5 + 1, none⟩ = some (.int .i64 y.n) ∧ V.cell? ⟨b2, o2 + k * 5 + 2, none⟩ = some (.int .i64 y.d) ∧ V.cell? ⟨b2, o2 + k * 5 + 3, none⟩ = some (.string y.s) ∧ V.cell? ⟨b2, o2 + k * 5 + 4, none⟩ = some (.slice A2 y.l.length c2) ∧ Ext wr V) ((exact MKR3.out _ (by with_reducible repeat (first | exact Ext.refl _ | assumption | refine Ext.drew ?_ | refine Ext.drewN ?_ _ | refine Ext.alloc ?_ _)))) ((first | (go_at_call 53; first | ((with_reducible refine (HCA.out _).mono ?_); rintro e w6 ⟨rfl, hx6⟩; replace hx6 : Ext wr w6 := Ext.trans (by with_reducible repeat (first | exact Ext.refl _ | assumption | refine Ext.drew ?_ | refine Ext.drewN ?_ _ | refine Ext.alloc ?_ _)) hx6) | ((with_reducible refine (HCB.out _).mono ?_); rintro e w7 ⟨rfl, hx7⟩; replace hx7 : Ext wr w7 := Ext.trans (by with_reducible repeat (first | exact Ext.refl _ | assumption | refine Ext.drew ?_ | refine Ext.drewN ?_ _ | refine Ext.alloc ?_ _)) hx7)) | (go_at_call 42; ((with_reducible refine (HC.out _ (hE.trans (by with_reducible repeat (first | exact Ext.refl _ | assumption | refine Ext.drew ?_ | refine Ext.drewN ?_ _ | refine Ext.alloc ?_ _)))).mono ?_); rintro e w8 ⟨rfl, hx8⟩; replace hx8 : Ext wr w8 := Ext.trans (by with_reducible repeat (first | exact Ext.refl _ | assumption | refine Ext.drew ?_ | refine Ext.drewN ?_ _ | refine Ext.alloc ?_ _)) hx8)))); clear MKR3)
            go_wp2_with fail
            go_roundw
            case rel => exact ⟨k + 1, by go_num, by omega, HT, hE.trans (by with_reducible repeat (first | exact Ext.refl _ | assumption | refine Ext.drew ?_ | refine Ext.drewN ?_ _ | refine Ext.alloc ?_ _))⟩
            case measure => simp [intOf]; omega
      · have HT := Lib.hid (HY.out (fun j hj => hgd.out j (by omega)))
        go_wp2_with fail
        go_ret
        exact ⟨ret_bool HT.out.symm, hE⟩
  · have hne : ((a.length : Int) != (b.length : Int)) = true := by simp; omega
    have HT := Lib.hid (eqL_f.2 (fun e : a = b => hn (by rw [e])))
    clear hn ha hb ih
    go_enter Tryz.func42, Tryz.ntmps42
    go_wp2_with fail
    go_ret
    exact ⟨ret_bool HT.out.symm, Ext.refl _⟩
theorem z_identN : ∀ (N : Nat) (a b : List Val) (ok ok' : Nat → Prop) (A B : Option Addr) (c d : Nat) (w : World), wtL a ≤ N → Vals w ok A a → Vals w ok' B b →
    Calls Tryz.prog 42 #[.slice A a.length c, .slice B b.length d] w fun e w' => e = .returned (.bool (eqL a b)) ∧ Ext w w'
  | 0, a, b, ok, ok', A, B, c, d, w, hN, ha, hb => z_identStep a b ok ok' A B c d w ha hb (fun x hx => by have := wtL_kids hx; omega)
  | N + 1, a, b, ok, ok', A, B, c, d, w, hN, ha, hb => z_identStep a b ok ok' A B c d w ha hb (fun x hx y Ax Bx cx dx W hx' hy' => by
    have := wtL_kids hx
    exact z_identN N x.l y.l ok ok' Ax Bx cx dx W (by omega) hx' hy')
theorem z_identical (a b : List Val) (ok ok' : Nat → Prop) (A B : Option Addr) (c d : Nat) (w : World) (ha : Vals w ok A a) (hb : Vals w ok' B b) :
    Calls Tryz.prog 42 #[.slice A a.length c, .slice B b.length d] w fun e w' => e = .returned (.bool (eqL a b)) ∧ Ext w w' :=
  z_identN (wtL a) a b ok ok' A B c d w (Nat.le_refl _) ha hb
end Go.Proofs.YtgojggmjajlbpaaGreatDoor

/- THE WALKS over zset's Count and Of (chapter 47). -/
namespace Go.Proofs.YtgojggmjajlbpaaGreatDoor
open Go.RowKit Go.Sort
theorem cnt_take {r : List Val} {z : List Sg} {k : Nat} (h : k < z.length) : cntZ r (z.take (k + 1)) = cntZ r (z.take k) + (if ordL z[k]!.1 r = 0 then z[k]!.2 else 0) := by
  rw [take_snoc h, cntZ_app, cntZ_cons]
  show _ = _
  simp [cntZ]
theorem rowsAt_ {w : World} {ok : Nat → Prop} {A : Option Addr} {l : List (List Val)} (h : Rows w ok A l) {k : Nat} (hk : k < l.length) : ∃ b o, A = some ⟨b, o, none⟩ ∧ ∃ A' c', w.cell? ⟨b, o + k, none⟩ = some (.slice A' l[k]!.length c') ∧ l[k]!.length ≤ c' ∧ Vals w ok A' l[k]! := by
  obtain ⟨b, o, hA, hc⟩ := h.2 (by omega)
  obtain ⟨-, A', c', h5, h6, h7⟩ := hc k hk
  refine ⟨b, o, hA, A', c', ?_⟩
  rw [getElem!_pos l k hk]
  rw [Nat.mul_one] at h5
  exact ⟨h5, h6, h7⟩
theorem Rows.inb {w : World} {ok : Nat → Prop} {A : Option Addr} {l : List (List Val)} (h : Rows w ok A l) : Rows w (fun b => b < w.heap.size) A l :=
  SliceR.mono h (fun b o x _ hx => by
    obtain ⟨h0, A', c', h1, h2, h3⟩ := hx
    exact ⟨block_lt_of_cell h1, A', c', h1, h2, h3.keep' (fun b o y _ hc => ⟨hc, block_lt_of_cell hc⟩)⟩)
/-- the bag of some rows -/
def onesZ (l : List (List Val)) : List Sg := l.map (fun r => (r, 1))
theorem ones_len (l : List (List Val)) : (onesZ l).length = l.length := by unfold onesZ; rw [List.length_map]
theorem ones_rg (l : List (List Val)) : RgZ (onesZ l) := fun x hx => by
  obtain ⟨r, -, rfl⟩ := List.mem_map.1 hx
  exact ⟨by show -9223372036854775808 ≤ (1 : Int); omega, by show (1 : Int) ≤ 9223372036854775807; omega⟩
set_option maxRecDepth 100000 in
set_option maxHeartbeats 1600000 in
theorem z_Count (z : List Sg) (r : List Val) (ok okr : Nat → Prop) (A R : Option Addr) (c cr : Nat) (w : World) (hv : Bag w ok A z) (hr : Vals w okr R r) (hl : z.length ≤ 8000000) :
    Calls Tryz.prog 23 #[.slice A z.length c, .slice R r.length cr] w fun e w' => e = .returned (.int .i64 (wrap64 (cntZ r z))) ∧ Ext w w' := by
  have HV := Lib.hid hv
  have HR := Lib.hid hr
  clear hv hr
  go_enter Tryz.func23, Tryz.ntmps23
  go_wp2_with fail
  go_loopw [5, 10] (fun v u W => ∃ k : Nat, u = .int .i64 k ∧ k ≤ z.length ∧ v = .int .i64 (wrap64 (cntZ r (z.take k))) ∧ Ext w W) (fun _ u _ => z.length - (intOf u).toNat)
  case atStart => exact ⟨0, rfl, Nat.zero_le _, by simp [cntZ, wrap64], Ext.refl _⟩
  case round =>
    obtain ⟨k, rfl, hk, rfl, hE⟩ := hrel
    by_cases hlt : k < z.length
    · obtain ⟨b, o, rfl, A', c', c0, c1, hle5, hl5⟩ := HV.out.at_ hlt
      replace c0 := hE.cell c0
      replace c1 := hE.cell c1
      have hct := cnt_take (r := r) hlt
      obtain ⟨g1, w2, hg1, hw2, p0, p1, hx2⟩ := box_sg wr ⟨A', c', z[k]!⟩ 38
      dsimp only at hw2 p0 p1
      have hE2 := hE.trans hx2
      have hid := z_identical z[k]!.1 r ok okr A' R c' cr w2 (hl5.ext hE2) (HR.out.ext hE2)
      generalize z[k]! = x at *
      have HCT := Lib.hid hct
      clear hl5 hct
      have zlt : (k : Int) < (z.length : Int) := by omega
      generalize cntZ r (z.take k) = s at *
      by_cases he : ordL x.1 r = 0
      · have hid2 : eqL x.1 r = true := eqL_t.2 (ordL_eq.1 he)
        rw [hid2] at hid
        have HID := Lib.hid hid
        have HC2 := Lib.hid (show wrap64 (wrap64 s + x.2) = wrap64 (cntZ r (z.take (k + 1))) by rw [HCT.out, if_pos he, w64_l])
        clear hid hid2 he HCT
        go_upto_region 5 with (fail)
        rw [← hw2, ← hg1]
        clear hw2 hg1 c0 c1
        go_wp2_with (go_at_call 42; ((with_reducible refine (HID.out).mono ?_); rintro e w3 ⟨rfl, hx3⟩; replace p1 := hx3.cell p1))
        go_roundw
        case rel => exact ⟨k + 1, by go_num, by omega, by rw [← HC2.out], hE2.trans hx3⟩
        case measure => simp [intOf]; omega
      · have hid2 : eqL x.1 r = false := eqL_f.2 (fun e => he (ordL_eq.2 e))
        rw [hid2] at hid
        have HID := Lib.hid hid
        have HC2 := Lib.hid (show wrap64 s = wrap64 (cntZ r (z.take (k + 1))) by rw [HCT.out, if_neg he, Int.add_zero])
        clear hid hid2 he HCT
        go_upto_region 5 with (fail)
        rw [← hw2, ← hg1]
        clear hw2 hg1 c0 c1
        go_wp2_with (go_at_call 42; ((with_reducible refine (HID.out).mono ?_); rintro e w3 ⟨rfl, hx3⟩))
        go_roundw
        case rel => exact ⟨k + 1, by go_num, by omega, by rw [← HC2.out], hE2.trans hx3⟩
        case measure => simp [intOf]; omega
    · have hke : k = z.length := by omega
      have HT := Lib.hid (show z.take k = z by rw [hke, List.take_length])
      go_wp2_with fail
      go_ret
      exact ⟨by rw [HT.out]; rfl, hE⟩
set_option maxRecDepth 100000 in
set_option maxHeartbeats 1600000 in
theorem z_Of (l : List (List Val)) (ok : Nat → Prop) (A : Option Addr) (c : Nat) (w : World) (hw : TabW w) (hz : ZeroAt w) (hv : Rows w ok A l) (hk : OkZ (onesZ l)) (hl : l.length ≤ 1000) :
    Calls Tryz.prog 29 #[.slice A l.length c] w (Gives w (normP (onesZ l))) := by
  have HV := Lib.hid hv.inb
  have HS0 := Lib.hid (OwnG.nil KSg 38 w w.heap.size (fun b => b < w.heap.size))
  have HF := Lib.hid (fun (A5 : Option Addr) (c5 : Nat) (W : World) (e : Ext w W) (h : Bag W (fun _ => True) A5 (onesZ l)) => (by have := z_NormW (onesZ l) (fun _ => True) A5 c5 W (hw.ext e) (hz.ext e) h hk (ones_rg l) (by rw [ones_len]; exact hl); rwa [ones_len] at this : Calls Tryz.prog 17 #[.slice A5 l.length c5] W fun e w' => ∃ v', e = .returned v' ∧ (∃ hs, hs.map HSg.x = normP (onesZ l) ∧ OwnZ w' (W.heap.size + 1) (fun b => W.heap.size + 1 ≤ b) v' hs) ∧ Ext W w'))
  clear hw hz hv hk
  go_enter Tryz.func29, Tryz.ntmps29
  go_wp2_with fail
  go_loopw [3, 8] (fun v u W => ∃ (k : Nat) (hs : List HSg), u = .int .i64 k ∧ k ≤ l.length ∧ Hid (OwnZ W w.heap.size (fun b => b < w.heap.size) v hs) ∧ hs.map HSg.x = onesZ (l.take k) ∧ Ext w W) (fun _ u _ => l.length - (intOf u).toNat)
  case atStart => exact ⟨0, [], rfl, Nat.zero_le _, HS0, rfl, Ext.refl _⟩
  case round =>
    clear HS0
    obtain ⟨k, hs, rfl, hk, hO, hm, hE⟩ := hrel
    have hhl : hs.length = k := by rw [x_len hm, ones_len, List.length_take]; omega
    by_cases hlt : k < l.length
    · obtain ⟨b, o, rfl, A', c', c0, hle5, hl5⟩ := rowsAt_ HV.out hlt
      replace c0 := hE.cell c0
      have HTK := Lib.hid (take_snoc hlt)
      obtain ⟨A9, c9, rfl⟩ := OwnG.form hO.out
      have hown := fun g (h : (Value.slice A9 hs.length c9).ownBlock = some g) => (OwnG.lt hO.out h).1
      have HLY := Lib.hid (show KSg.lies wr (fun b => b < w.heap.size ∧ some b ≠ (Value.slice A9 hs.length c9).ownBlock) ⟨A', c', (l[k]!, 1)⟩ from ⟨hle5, (hl5.ext hE).to (fun b hb => ⟨hb, fun e => by have := hown b e.symm; omega⟩)⟩)
      have hlw := hE.le
      generalize l[k]! = x at *
      have zlt : (k : Int) < (l.length : Int) := by omega
      clear hl5 hown
      have hhl2 : hs.length + 1 ≤ 8388608 := by omega
      have HHL := Lib.hid hhl
      clear hhl
      go_wp2_with (at_builtin; go_loud (refine own_pushG (v := .slice A9 hs.length c9) (hs := hs) T_sg rfl (.tmp 12) (.tmp 15) rfl wr rfl hO.out hlw ⟨A', c', (x, 1)⟩ HLY.out rfl _ rfl rfl hhl2 (by decide) ?_); intro v6 w6 hO6 hg6 hd6)
      have hE6 : Ext w w6 := hE.grown hg6 (fun g2 h2 => (OwnG.lt hO.out h2).1)
      go_wp2_with fail
      go_roundw
      case rel => exact ⟨k + 1, _, by go_num, by omega, Lib.hid hO6, by rw [HTK.out, List.map_append, hm]; unfold onesZ; rw [List.map_append]; rfl, hE6⟩
      case measure => simp [intOf]; omega
    · have hke : k = l.length := by omega
      have HM := Lib.hid (show hs.map HSg.x = onesZ l by rw [hm, hke, List.take_length])
      have hh : hs.length = l.length := by omega
      obtain ⟨A5, c5, hv5, hle5, hB5, -⟩ := own_gives (w := wr) hO.out HM.out (by omega) (Ext.refl _)
      injection hv5 with hv5
      subst hv5
      rw [ones_len] at *
      have HNN := Lib.hid (HF.out A5 c5 wr hE hB5)
      clear hB5 hO hm HF
      go_wp2_with (go_at_call 17; ((with_reducible refine (HNN.out).mono ?_); rintro e w6 ⟨v6, rfl, ⟨h6, hm6, hO6⟩, hx6⟩))
      go_ret
      exact own_gives hO6 hm6 (by rw [x_len hm6]; have := norm_len (onesZ l); rw [ones_len] at this; omega) (hE.trans hx6)
end Go.Proofs.YtgojggmjajlbpaaGreatDoor

/- THE WALKS over Valid, zset's and the reference's (chapter 47). -/
namespace Go.Proofs.YtgojggmjajlbpaaGreatDoor
open Go.RowKit Go.Sort
def stepV (z : List Sg) (i : Nat) : Prop := z[i]!.2 ≠ 0 ∧ (i = 0 ∨ ordL z[i - 1]!.1 z[i]!.1 < 0)
theorem validZ_t {z : List Sg} (h : ∀ i < z.length, stepV z i) : validZ z = true := by
  unfold validZ
  rw [Bool.and_eq_true, List.all_eq_true, List.all_eq_true]
  refine ⟨fun x hx => ?_, fun i hi => ?_⟩
  · obtain ⟨i, hi, rfl⟩ := List.getElem_of_mem hx
    have := (h i hi).1
    rw [getElem!_pos z i hi] at this
    simpa using this
  · have hi' := List.mem_range.1 hi
    rw [Bool.or_eq_true, decide_eq_true_iff, decide_eq_true_iff]
    exact (h i hi').2
theorem validZ_f {z : List Sg} {k : Nat} (hk : k < z.length) (h : ¬ stepV z k) : validZ z = false := by
  cases hv : validZ z with
  | false => rfl
  | true =>
    unfold validZ at hv
    rw [Bool.and_eq_true, List.all_eq_true, List.all_eq_true] at hv
    refine absurd ⟨?_, ?_⟩ h
    · have := hv.1 z[k] (List.getElem_mem hk)
      rw [getElem!_pos z k hk]
      simpa using this
    · have := hv.2 k (List.mem_range.2 hk)
      rw [Bool.or_eq_true, decide_eq_true_iff, decide_eq_true_iff] at this
      exact this
set_option maxRecDepth 100000 in
set_option maxHeartbeats 3200000 in
theorem z_Valid (z : List Sg) (ok : Nat → Prop) (A : Option Addr) (c : Nat) (w : World) (hz : ZeroAt w) (hv : Bag w ok A z) (hl : z.length ≤ 8000000) :
    Calls Tryz.prog 14 #[.slice A z.length c] w fun e w' => e = .returned (.bool (validZ z)) ∧ Ext w w' := by
  have HV := Lib.hid hv
  have HZ := Lib.hid hz
  clear hv hz
  go_enter Tryz.func14, Tryz.ntmps14
  go_wp2_with fail
  go_loopw [7] (fun u W => ∃ k : Nat, u = .int .i64 k ∧ k ≤ z.length ∧ Hid (∀ i < k, stepV z i) ∧ Ext w W) (fun u _ => z.length - (intOf u).toNat)
  case atStart => exact ⟨0, rfl, Nat.zero_le _, Lib.hid (fun i hi => absurd hi (Nat.not_lt_zero _)), Ext.refl _⟩
  case round =>
    obtain ⟨k, rfl, hk, hg, hE⟩ := hrel
    by_cases hlt : k < z.length
    · obtain ⟨b, o, hA0, A', c', c0, c1, hle5, hl5⟩ := HV.out.at_ hlt
      replace c0 := hE.cell c0
      replace c1 := hE.cell c1
      obtain ⟨g1, w2, hg1, hw2, p0, p1, hx2⟩ := box_sg wr ⟨A', c', z[k]!⟩ 38
      dsimp only at hw2 p0 p1
      have hE2 := hE.trans hx2
      have zlt : (k : Int) < (z.length : Int) := by omega
      have HBAD := Lib.hid (fun h => validZ_f (z := z) hlt h)
      have HGOOD := Lib.hid (fun (h : stepV z k) i (hi : i < k + 1) => (if e : i = k then (by rw [e]; exact h) else hg.out i (by omega) : stepV z i))
      by_cases hn : z[k]!.2 = 0
      · have HF := Lib.hid (HBAD.out (fun h => h.1 hn))
        subst hA0
        generalize z[k]! = x at *
        rw [hn] at hw2 p1 c1
        clear hl5 HBAD HGOOD
        go_upto_region 4 with (fail)
        rw [← hw2, ← hg1]
        clear hw2 hg1 c0 c1
        have MKR1 := Lib.hid (fun V (e : Ext w2 V) => (⟨e.cell p1, e⟩ : V.cell? ⟨g1, 1, none⟩ = some (.int .i64 0) ∧ Ext w2 V))
        refine wp_region_held_drew (S := (fun V => V.cell? ⟨g1, 1, none⟩ = some (.int .i64 0) ∧ Ext w2 V)) (by kernel_rfl) ?hs1 (fun hHeld => ?go1)
        case hs1 => (exact MKR1.out _ (by with_reducible repeat (first | exact Ext.refl _ | assumption | refine Ext.drew ?_ | refine Ext.drewN ?_ _ | refine Ext.alloc ?_ _)))
        refine wpAnyH_take (i := 0) (oi := ⟨(some 12), (.fieldAddr 38 (.tmp 4) 1), 0, "zset.go:58", #[], none⟩) (v := ?v2) rfl (by kernel_rfl) (by kernel_rfl) (by kernel_rfl) (fun _ _ _ h => h) (Or.inl ⟨rfl, ?hy2⟩) hHeld ?rest2
        case hy2 => (intro w _; go_simp <;> rfl)
        (try simp only [PU])
        refine wpAnyH_take (i := 1) (oi := ⟨(some 13), (.load 3 (.tmp 12)), 3, "zset.go:58", #[⟨0, .data⟩], none⟩) (v := ?v3) rfl (by kernel_rfl) (by kernel_rfl) (by kernel_rfl) (fun _ _ _ h => h) (Or.inl ⟨rfl, ?hy3⟩) hHeld ?rest3
        case hy3 => (intro w hSw; (try dsimp only at hSw); go_simp <;> first | with_reducible rfl | rw [if_neg (by omega)] | rw [if_pos (by omega)])
        (try simp only [PU])
        refine wpAnyH_take (i := 2) (oi := ⟨(some 14), (.binOp .eql 3 (.tmp 13) (.const (.int .i64 0)) 3), 4, "zset.go:58", #[⟨1, .data⟩], none⟩) (v := ?v4) rfl (by kernel_rfl) (by kernel_rfl) (by kernel_rfl) (fun _ _ _ h => h) (Or.inl ⟨rfl, ?hy4⟩) hHeld ?rest4
        case hy4 => (intro w _; go_simp <;> first | with_reducible rfl | rw [if_neg (by omega)] | rw [if_pos (by omega)])
        (try simp only [PU])
        refine wpAnyH_take (i := 3) (oi := ⟨(some 15), (.move (.tmp 14)), 4, "zset.go:58", #[⟨2, .data⟩], none⟩) (v := ?v5) rfl (by kernel_rfl) (by kernel_rfl) (by kernel_rfl) (fun _ _ _ h => h) (Or.inl ⟨rfl, ?hy5⟩) hHeld ?rest5
        case hy5 => (intro w _; go_simp <;> rfl)
        (try simp only [PU])
        refine wpAnyH_take (i := 4) (oi := ⟨(some 16), (.move (.tmp 3)), 3, "zset.go:58", #[⟨3, .guard⟩], (some (3, false))⟩) (v := undef) rfl (by kernel_rfl) (by kernel_rfl) (by kernel_rfl) (fun _ _ _ h => h) (Or.inr ⟨rfl, rfl⟩) hHeld ?rest6
        (try simp only [PU])
        refine wpAnyH_take (i := 5) (oi := ⟨(some 17), (.binOp .gtr 3 (.tmp 16) (.const (.int .i64 0)) 3), 4, "zset.go:58", #[⟨4, .data⟩, ⟨3, .guard⟩], (some (3, false))⟩) (v := undef) rfl (by kernel_rfl) (by kernel_rfl) (by kernel_rfl) (fun _ _ _ h => h) (Or.inr ⟨rfl, rfl⟩) hHeld ?rest7
        (try simp only [PU])
        refine wpAnyH_take (i := 6) (oi := ⟨(some 18), (.move (.tmp 17)), 4, "zset.go:58", #[⟨5, .data⟩, ⟨3, .chain⟩, ⟨3, .guard⟩], (some (3, false))⟩) (v := undef) rfl (by kernel_rfl) (by kernel_rfl) (by kernel_rfl) (fun _ _ _ h => h) (Or.inr ⟨rfl, rfl⟩) hHeld ?rest8
        (try simp only [PU])
        refine wpAnyH_take (i := 7) (oi := ⟨(some 19), (.move (.tmp 0)), 22, "zset.go:58", #[⟨6, .guard⟩], (some (6, true))⟩) (v := undef) rfl (by kernel_rfl) (by kernel_rfl) (by kernel_rfl) (fun _ _ _ h => h) (Or.inr ⟨rfl, rfl⟩) hHeld ?rest9
        (try simp only [PU])
        refine wpAnyH_take (i := 8) (oi := ⟨(some 20), (.move (.tmp 3)), 3, "zset.go:58", #[⟨6, .guard⟩], (some (6, true))⟩) (v := undef) rfl (by kernel_rfl) (by kernel_rfl) (by kernel_rfl) (fun _ _ _ h => h) (Or.inr ⟨rfl, rfl⟩) hHeld ?rest10
        (try simp only [PU])
        refine wpAnyH_take (i := 9) (oi := ⟨(some 21), (.binOp .sub 3 (.tmp 20) (.const (.int .i64 1)) 3), 3, "zset.go:58", #[⟨8, .data⟩, ⟨6, .guard⟩], (some (6, true))⟩) (v := undef) rfl (by kernel_rfl) (by kernel_rfl) (by kernel_rfl) (fun _ _ _ h => h) (Or.inr ⟨rfl, rfl⟩) hHeld ?rest11
        (try simp only [PU])
        refine wpAnyH_take (i := 10) (oi := ⟨(some 22), (.indexAddr 22 (.tmp 19) (.tmp 21)), 0, "zset.go:58", #[⟨7, .data⟩, ⟨9, .data⟩, ⟨6, .guard⟩], (some (6, true))⟩) (v := undef) rfl (by kernel_rfl) (by kernel_rfl) (by kernel_rfl) (fun _ _ _ h => h) (Or.inr ⟨rfl, rfl⟩) hHeld ?rest12
        (try simp only [PU])
        refine wpAnyH_take (i := 11) (oi := ⟨(some 23), (.fieldAddr 38 (.tmp 22) 0), 0, "zset.go:58", #[⟨10, .data⟩, ⟨6, .guard⟩], (some (6, true))⟩) (v := undef) rfl (by kernel_rfl) (by kernel_rfl) (by kernel_rfl) (fun _ _ _ h => h) (Or.inr ⟨rfl, rfl⟩) hHeld ?rest13
        (try simp only [PU])
        refine wpAnyH_take (i := 12) (oi := ⟨(some 24), (.load 24 (.tmp 23)), 24, "zset.go:58", #[⟨11, .data⟩, ⟨6, .guard⟩], (some (6, true))⟩) (v := undef) rfl (by kernel_rfl) (by kernel_rfl) (by kernel_rfl) (fun _ _ _ h => h) (Or.inr ⟨rfl, rfl⟩) hHeld ?rest14
        (try simp only [PU])
        refine wpAnyH_take (i := 13) (oi := ⟨(some 25), (.fieldAddr 38 (.tmp 4) 0), 0, "zset.go:58", #[⟨6, .guard⟩], (some (6, true))⟩) (v := undef) rfl (by kernel_rfl) (by kernel_rfl) (by kernel_rfl) (fun _ _ _ h => h) (Or.inr ⟨rfl, rfl⟩) hHeld ?rest15
        (try simp only [PU])
        refine wpAnyH_take (i := 14) (oi := ⟨(some 26), (.load 24 (.tmp 25)), 24, "zset.go:58", #[⟨13, .data⟩, ⟨6, .guard⟩], (some (6, true))⟩) (v := undef) rfl (by kernel_rfl) (by kernel_rfl) (by kernel_rfl) (fun _ _ _ h => h) (Or.inr ⟨rfl, rfl⟩) hHeld ?rest16
        (try simp only [PU])
        refine wpAnyH_take (i := 15) (oi := ⟨(some 27), (.call { callee := (.value (.func 35)), args := #[(.tmp 24), (.tmp 26)], argTypes := #[24, 24] }), 3, "zset.go:58", #[⟨12, .data⟩, ⟨14, .data⟩, ⟨6, .chain⟩, ⟨6, .guard⟩], (some (6, true))⟩) (v := undef) rfl (by kernel_rfl) (by kernel_rfl) (by kernel_rfl) (fun _ _ _ h => h) (Or.inr ⟨rfl, rfl⟩) hHeld ?rest17
        (try simp only [PU])
        refine wpAnyH_take (i := 16) (oi := ⟨(some 28), (.binOp .geq 3 (.tmp 27) (.const (.int .i64 0)) 3), 4, "zset.go:58", #[⟨15, .data⟩, ⟨6, .guard⟩], (some (6, true))⟩) (v := undef) rfl (by kernel_rfl) (by kernel_rfl) (by kernel_rfl) (fun _ _ _ h => h) (Or.inr ⟨rfl, rfl⟩) hHeld ?rest18
        (try simp only [PU])
        refine wpAnyH_take (i := 17) (oi := ⟨(some 29), (.pick (.tmp 18) (.tmp 28) (.const (.bool false))), 4, "zset.go:58", #[⟨6, .data⟩, ⟨16, .data⟩, ⟨3, .guard⟩], (some (3, false))⟩) (v := undef) rfl (by kernel_rfl) (by kernel_rfl) (by kernel_rfl) (fun _ _ _ h => h) (Or.inr ⟨rfl, rfl⟩) hHeld ?rest19
        (try simp only [PU])
        refine wpAnyH_take (i := 18) (oi := ⟨(some 30), (.pick (.tmp 15) (.const (.bool true)) (.tmp 29)), 4, "zset.go:58", #[⟨3, .data⟩, ⟨17, .data⟩], none⟩) (v := ?v20) rfl (by kernel_rfl) (by kernel_rfl) (by kernel_rfl) (fun _ _ _ h => h) (Or.inl ⟨rfl, ?hy20⟩) hHeld ?rest20
        case hy20 => (intro w _; go_simp <;> rfl)
        (try simp only [PU])
        refine wpAnyH_done (by kernel_rfl) ?_ _
        clear hHeld
        clear MKR1
        go_wp2_with fail
        go_ret
        exact ⟨ret_b HF.out.symm, hE2.trans (by with_reducible repeat (first | exact Ext.refl _ | assumption | refine Ext.drew ?_ | refine Ext.drewN ?_ _ | refine Ext.alloc ?_ _))⟩
      · have hn2 : (z[k]!.2 == 0) = false := beq_eq_false_iff_ne.2 hn
        rcases Nat.eq_zero_or_pos k with h0 | h0
        · have HG := Lib.hid (HGOOD.out ⟨hn, .inl h0⟩)
          have hk0 : ¬ (0 : Int) < (k : Int) := by omega
          have hk1 : decide ((k : Int) > 0) = false := decide_eq_false hk0
          have hk2 : decide (0 < (k : Int)) = false := decide_eq_false hk0
          have hk3 : decide (0 < k) = false := decide_eq_false (by omega)
          clear h0
          subst hA0
          generalize z[k]! = x at *
          clear hl5 HBAD HGOOD
          go_upto_region 4 with (fail)
          rw [← hw2, ← hg1]
          clear hw2 hg1 c0 c1
          have MKR2 := Lib.hid (fun V (e : Ext w2 V) => (⟨e.cell p1, e⟩ : V.cell? ⟨g1, 1, none⟩ = some (.int .i64 x.2) ∧ Ext w2 V))
          refine wp_region_held_drew (S := (fun V => V.cell? ⟨g1, 1, none⟩ = some (.int .i64 x.2) ∧ Ext w2 V)) (by kernel_rfl) ?hs21 (fun hHeld => ?go21)
          case hs21 => (exact MKR2.out _ (by with_reducible repeat (first | exact Ext.refl _ | assumption | refine Ext.drew ?_ | refine Ext.drewN ?_ _ | refine Ext.alloc ?_ _)))
          refine wpAnyH_take (i := 0) (oi := ⟨(some 12), (.fieldAddr 38 (.tmp 4) 1), 0, "zset.go:58", #[], none⟩) (v := ?v22) rfl (by kernel_rfl) (by kernel_rfl) (by kernel_rfl) (fun _ _ _ h => h) (Or.inl ⟨rfl, ?hy22⟩) hHeld ?rest22
          case hy22 => (intro w _; go_simp <;> rfl)
          (try simp only [PU])
          refine wpAnyH_take (i := 1) (oi := ⟨(some 13), (.load 3 (.tmp 12)), 3, "zset.go:58", #[⟨0, .data⟩], none⟩) (v := ?v23) rfl (by kernel_rfl) (by kernel_rfl) (by kernel_rfl) (fun _ _ _ h => h) (Or.inl ⟨rfl, ?hy23⟩) hHeld ?rest23
          case hy23 => (intro w hSw; (try dsimp only at hSw); go_simp <;> first | with_reducible rfl | rw [if_neg (by omega)] | rw [if_pos (by omega)])
          (try simp only [PU])
          refine wpAnyH_take (i := 2) (oi := ⟨(some 14), (.binOp .eql 3 (.tmp 13) (.const (.int .i64 0)) 3), 4, "zset.go:58", #[⟨1, .data⟩], none⟩) (v := ?v24) rfl (by kernel_rfl) (by kernel_rfl) (by kernel_rfl) (fun _ _ _ h => h) (Or.inl ⟨rfl, ?hy24⟩) hHeld ?rest24
          case hy24 => (intro w _; go_simp <;> first | with_reducible rfl | rw [if_neg (by omega)] | rw [if_pos (by omega)])
          (try simp only [PU])
          refine wpAnyH_take (i := 3) (oi := ⟨(some 15), (.move (.tmp 14)), 4, "zset.go:58", #[⟨2, .data⟩], none⟩) (v := ?v25) rfl (by kernel_rfl) (by kernel_rfl) (by kernel_rfl) (fun _ _ _ h => h) (Or.inl ⟨rfl, ?hy25⟩) hHeld ?rest25
          case hy25 => (intro w _; go_simp <;> rfl)
          (try simp only [PU])
          refine wpAnyH_take (i := 4) (oi := ⟨(some 16), (.move (.tmp 3)), 3, "zset.go:58", #[⟨3, .guard⟩], (some (3, false))⟩) (v := ?v26) rfl (by kernel_rfl) (by kernel_rfl) (by kernel_rfl) (fun _ _ _ h => h) (Or.inl ⟨rfl, ?hy26⟩) hHeld ?rest26
          case hy26 => (intro w _; go_simp <;> rfl)
          (try simp only [PU])
          refine wpAnyH_take (i := 5) (oi := ⟨(some 17), (.binOp .gtr 3 (.tmp 16) (.const (.int .i64 0)) 3), 4, "zset.go:58", #[⟨4, .data⟩, ⟨3, .guard⟩], (some (3, false))⟩) (v := ?v27) rfl (by kernel_rfl) (by kernel_rfl) (by kernel_rfl) (fun _ _ _ h => h) (Or.inl ⟨rfl, ?hy27⟩) hHeld ?rest27
          case hy27 => (intro w _; go_simp <;> first | with_reducible rfl | rw [if_neg (by omega)] | rw [if_pos (by omega)])
          (try simp only [PU])
          refine wpAnyH_take (i := 6) (oi := ⟨(some 18), (.move (.tmp 17)), 4, "zset.go:58", #[⟨5, .data⟩, ⟨3, .chain⟩, ⟨3, .guard⟩], (some (3, false))⟩) (v := ?v28) rfl (by kernel_rfl) (by kernel_rfl) (by kernel_rfl) (fun _ _ _ h => h) (Or.inl ⟨rfl, ?hy28⟩) hHeld ?rest28
          case hy28 => (intro w _; go_simp <;> rfl)
          (try simp only [PU])
          refine wpAnyH_take (i := 7) (oi := ⟨(some 19), (.move (.tmp 0)), 22, "zset.go:58", #[⟨6, .guard⟩], (some (6, true))⟩) (v := undef) rfl (by kernel_rfl) (by kernel_rfl) (by kernel_rfl) (fun _ _ _ h => h) (Or.inr ⟨rfl, rfl⟩) hHeld ?rest29
          (try simp only [PU])
          refine wpAnyH_take (i := 8) (oi := ⟨(some 20), (.move (.tmp 3)), 3, "zset.go:58", #[⟨6, .guard⟩], (some (6, true))⟩) (v := undef) rfl (by kernel_rfl) (by kernel_rfl) (by kernel_rfl) (fun _ _ _ h => h) (Or.inr ⟨rfl, rfl⟩) hHeld ?rest30
          (try simp only [PU])
          refine wpAnyH_take (i := 9) (oi := ⟨(some 21), (.binOp .sub 3 (.tmp 20) (.const (.int .i64 1)) 3), 3, "zset.go:58", #[⟨8, .data⟩, ⟨6, .guard⟩], (some (6, true))⟩) (v := undef) rfl (by kernel_rfl) (by kernel_rfl) (by kernel_rfl) (fun _ _ _ h => h) (Or.inr ⟨rfl, rfl⟩) hHeld ?rest31
          (try simp only [PU])
          refine wpAnyH_take (i := 10) (oi := ⟨(some 22), (.indexAddr 22 (.tmp 19) (.tmp 21)), 0, "zset.go:58", #[⟨7, .data⟩, ⟨9, .data⟩, ⟨6, .guard⟩], (some (6, true))⟩) (v := undef) rfl (by kernel_rfl) (by kernel_rfl) (by kernel_rfl) (fun _ _ _ h => h) (Or.inr ⟨rfl, rfl⟩) hHeld ?rest32
          (try simp only [PU])
          refine wpAnyH_take (i := 11) (oi := ⟨(some 23), (.fieldAddr 38 (.tmp 22) 0), 0, "zset.go:58", #[⟨10, .data⟩, ⟨6, .guard⟩], (some (6, true))⟩) (v := undef) rfl (by kernel_rfl) (by kernel_rfl) (by kernel_rfl) (fun _ _ _ h => h) (Or.inr ⟨rfl, rfl⟩) hHeld ?rest33
          (try simp only [PU])
          refine wpAnyH_take (i := 12) (oi := ⟨(some 24), (.load 24 (.tmp 23)), 24, "zset.go:58", #[⟨11, .data⟩, ⟨6, .guard⟩], (some (6, true))⟩) (v := undef) rfl (by kernel_rfl) (by kernel_rfl) (by kernel_rfl) (fun _ _ _ h => h) (Or.inr ⟨rfl, rfl⟩) hHeld ?rest34
          (try simp only [PU])
          refine wpAnyH_take (i := 13) (oi := ⟨(some 25), (.fieldAddr 38 (.tmp 4) 0), 0, "zset.go:58", #[⟨6, .guard⟩], (some (6, true))⟩) (v := undef) rfl (by kernel_rfl) (by kernel_rfl) (by kernel_rfl) (fun _ _ _ h => h) (Or.inr ⟨rfl, rfl⟩) hHeld ?rest35
          (try simp only [PU])
          refine wpAnyH_take (i := 14) (oi := ⟨(some 26), (.load 24 (.tmp 25)), 24, "zset.go:58", #[⟨13, .data⟩, ⟨6, .guard⟩], (some (6, true))⟩) (v := undef) rfl (by kernel_rfl) (by kernel_rfl) (by kernel_rfl) (fun _ _ _ h => h) (Or.inr ⟨rfl, rfl⟩) hHeld ?rest36
          (try simp only [PU])
          refine wpAnyH_take (i := 15) (oi := ⟨(some 27), (.call { callee := (.value (.func 35)), args := #[(.tmp 24), (.tmp 26)], argTypes := #[24, 24] }), 3, "zset.go:58", #[⟨12, .data⟩, ⟨14, .data⟩, ⟨6, .chain⟩, ⟨6, .guard⟩], (some (6, true))⟩) (v := undef) rfl (by kernel_rfl) (by kernel_rfl) (by kernel_rfl) (fun _ _ _ h => h) (Or.inr ⟨rfl, rfl⟩) hHeld ?rest37
          (try simp only [PU])
          refine wpAnyH_take (i := 16) (oi := ⟨(some 28), (.binOp .geq 3 (.tmp 27) (.const (.int .i64 0)) 3), 4, "zset.go:58", #[⟨15, .data⟩, ⟨6, .guard⟩], (some (6, true))⟩) (v := undef) rfl (by kernel_rfl) (by kernel_rfl) (by kernel_rfl) (fun _ _ _ h => h) (Or.inr ⟨rfl, rfl⟩) hHeld ?rest38
          (try simp only [PU])
          refine wpAnyH_take (i := 17) (oi := ⟨(some 29), (.pick (.tmp 18) (.tmp 28) (.const (.bool false))), 4, "zset.go:58", #[⟨6, .data⟩, ⟨16, .data⟩, ⟨3, .guard⟩], (some (3, false))⟩) (v := ?v39) rfl (by kernel_rfl) (by kernel_rfl) (by kernel_rfl) (fun _ _ _ h => h) (Or.inl ⟨rfl, ?hy39⟩) hHeld ?rest39
          case hy39 => (intro w _; go_simp <;> rfl)
          (try simp only [PU])
          refine wpAnyH_take (i := 18) (oi := ⟨(some 30), (.pick (.tmp 15) (.const (.bool true)) (.tmp 29)), 4, "zset.go:58", #[⟨3, .data⟩, ⟨17, .data⟩], none⟩) (v := ?v40) rfl (by kernel_rfl) (by kernel_rfl) (by kernel_rfl) (fun _ _ _ h => h) (Or.inl ⟨rfl, ?hy40⟩) hHeld ?rest40
          case hy40 => (intro w _; go_simp <;> rfl)
          (try simp only [PU])
          refine wpAnyH_done (by kernel_rfl) ?_ _
          clear hHeld
          clear MKR2
          go_wp2_with fail
          go_roundw
          case rel => exact ⟨k + 1, by go_num, by omega, HG, hE2.trans (by with_reducible repeat (first | exact Ext.refl _ | assumption | refine Ext.drew ?_ | refine Ext.drewN ?_ _ | refine Ext.alloc ?_ _))⟩
          case measure => simp [intOf]; omega
        · obtain ⟨j, rfl⟩ : ∃ j, k = j + 1 := ⟨k - 1, by omega⟩
          obtain ⟨b1, o1, hA1, B', d', d0, -, -, hm5⟩ := HV.out.at_ (show j < z.length by omega)
          rw [hA0] at hA1
          injection hA1 with hA1
          injection hA1 with hb1 ho1
          subst hb1 ho1 hA0
          replace d0 := hE2.cell d0
          have HOR := Lib.hid (fun W (e : Ext w2 W) => v_OrderRows z[j]!.1 z[j + 1]!.1 _ _ B' A' d' c' W (HZ.out.ext (hE2.trans e)) (hm5.ext (hE2.trans e)) (hl5.ext (hE2.trans e)))
          have HB := Lib.hid (fun (h : ¬ ordL z[j]!.1 z[j + 1]!.1 < 0) => HBAD.out (fun h2 => h (h2.2.resolve_left (by omega))))
          have HG := Lib.hid (fun (h : ordL z[j]!.1 z[j + 1]!.1 < 0) => HGOOD.out ⟨hn, .inr h⟩)
          have hk0 : (0 : Int) < (j : Int) + 1 := by omega
          have hk1 : decide ((j : Int) + 1 > 0) = true := decide_eq_true hk0
          have hk2 : decide (0 < (j : Int) + 1) = true := decide_eq_true hk0
          generalize z[j + 1]! = x at *
          generalize z[j]! = y at *
          clear hl5 hm5 HBAD HGOOD
          have hjl : j < z.length := by omega
          have hjz : (j : Int) < (z.length : Int) := by omega
          have hwj : IntKind.i64.wrap (j : Int) = (j : Int) := IntWalk.i64_in _ ⟨by omega, by omega⟩
          rcases TotC.row.rng y.1 x.1 with e3 | e3 | e3
          · have HG2 := Lib.hid (HG.out (by omega))
            simp only [e3] at HOR
            clear HB HG
            go_upto_region 4 with (fail)
            rw [← hw2, ← hg1]
            clear hw2 hg1 c0 c1
            have MKR3 := Lib.hid (fun V (e : Ext w2 V) => (⟨e.cell p1, e.cell p0, e.cell d0, e⟩ : V.cell? ⟨g1, 1, none⟩ = some (.int .i64 x.2) ∧ V.cell? ⟨g1, 0, none⟩ = some (.slice A' x.1.length c') ∧ V.cell? ⟨b, o + j * 2, none⟩ = some (.slice B' y.1.length d') ∧ Ext w2 V))
            refine wp_region_held_drew (S := (fun V => V.cell? ⟨g1, 1, none⟩ = some (.int .i64 x.2) ∧ V.cell? ⟨g1, 0, none⟩ = some (.slice A' x.1.length c') ∧ V.cell? ⟨b, o + j * 2, none⟩ = some (.slice B' y.1.length d') ∧ Ext w2 V)) (by kernel_rfl) ?hs41 (fun hHeld => ?go41)
            case hs41 => (exact MKR3.out _ (by with_reducible repeat (first | exact Ext.refl _ | assumption | refine Ext.drew ?_ | refine Ext.drewN ?_ _ | refine Ext.alloc ?_ _)))
            refine wpAnyH_take (i := 0) (oi := ⟨(some 12), (.fieldAddr 38 (.tmp 4) 1), 0, "zset.go:58", #[], none⟩) (v := ?v42) rfl (by kernel_rfl) (by kernel_rfl) (by kernel_rfl) (fun _ _ _ h => h) (Or.inl ⟨rfl, ?hy42⟩) hHeld ?rest42
            case hy42 => (intro w _; go_simp <;> rfl)
            (try simp only [PU])
            refine wpAnyH_take (i := 1) (oi := ⟨(some 13), (.load 3 (.tmp 12)), 3, "zset.go:58", #[⟨0, .data⟩], none⟩) (v := ?v43) rfl (by kernel_rfl) (by kernel_rfl) (by kernel_rfl) (fun _ _ _ h => h) (Or.inl ⟨rfl, ?hy43⟩) hHeld ?rest43
            case hy43 => (intro w hSw; (try dsimp only at hSw); go_simp <;> first | with_reducible rfl | rw [if_neg (by omega)] | rw [if_pos (by omega)])
            (try simp only [PU])
            refine wpAnyH_take (i := 2) (oi := ⟨(some 14), (.binOp .eql 3 (.tmp 13) (.const (.int .i64 0)) 3), 4, "zset.go:58", #[⟨1, .data⟩], none⟩) (v := ?v44) rfl (by kernel_rfl) (by kernel_rfl) (by kernel_rfl) (fun _ _ _ h => h) (Or.inl ⟨rfl, ?hy44⟩) hHeld ?rest44
            case hy44 => (intro w _; go_simp <;> first | with_reducible rfl | rw [if_neg (by omega)] | rw [if_pos (by omega)])
            (try simp only [PU])
            refine wpAnyH_take (i := 3) (oi := ⟨(some 15), (.move (.tmp 14)), 4, "zset.go:58", #[⟨2, .data⟩], none⟩) (v := ?v45) rfl (by kernel_rfl) (by kernel_rfl) (by kernel_rfl) (fun _ _ _ h => h) (Or.inl ⟨rfl, ?hy45⟩) hHeld ?rest45
            case hy45 => (intro w _; go_simp <;> rfl)
            (try simp only [PU])
            refine wpAnyH_take (i := 4) (oi := ⟨(some 16), (.move (.tmp 3)), 3, "zset.go:58", #[⟨3, .guard⟩], (some (3, false))⟩) (v := ?v46) rfl (by kernel_rfl) (by kernel_rfl) (by kernel_rfl) (fun _ _ _ h => h) (Or.inl ⟨rfl, ?hy46⟩) hHeld ?rest46
            case hy46 => (intro w _; go_simp <;> rfl)
            (try simp only [PU])
            refine wpAnyH_take (i := 5) (oi := ⟨(some 17), (.binOp .gtr 3 (.tmp 16) (.const (.int .i64 0)) 3), 4, "zset.go:58", #[⟨4, .data⟩, ⟨3, .guard⟩], (some (3, false))⟩) (v := ?v47) rfl (by kernel_rfl) (by kernel_rfl) (by kernel_rfl) (fun _ _ _ h => h) (Or.inl ⟨rfl, ?hy47⟩) hHeld ?rest47
            case hy47 => (intro w _; go_simp <;> first | with_reducible rfl | rw [if_neg (by omega)] | rw [if_pos (by omega)])
            (try simp only [PU])
            refine wpAnyH_take (i := 6) (oi := ⟨(some 18), (.move (.tmp 17)), 4, "zset.go:58", #[⟨5, .data⟩, ⟨3, .chain⟩, ⟨3, .guard⟩], (some (3, false))⟩) (v := ?v48) rfl (by kernel_rfl) (by kernel_rfl) (by kernel_rfl) (fun _ _ _ h => h) (Or.inl ⟨rfl, ?hy48⟩) hHeld ?rest48
            case hy48 => (intro w _; go_simp <;> rfl)
            (try simp only [PU])
            refine wpAnyH_take (i := 7) (oi := ⟨(some 19), (.move (.tmp 0)), 22, "zset.go:58", #[⟨6, .guard⟩], (some (6, true))⟩) (v := ?v49) rfl (by kernel_rfl) (by kernel_rfl) (by kernel_rfl) (fun _ _ _ h => h) (Or.inl ⟨rfl, ?hy49⟩) hHeld ?rest49
            case hy49 => (intro w _; go_simp <;> rfl)
            (try simp only [PU])
            refine wpAnyH_take (i := 8) (oi := ⟨(some 20), (.move (.tmp 3)), 3, "zset.go:58", #[⟨6, .guard⟩], (some (6, true))⟩) (v := ?v50) rfl (by kernel_rfl) (by kernel_rfl) (by kernel_rfl) (fun _ _ _ h => h) (Or.inl ⟨rfl, ?hy50⟩) hHeld ?rest50
            case hy50 => (intro w _; go_simp <;> rfl)
            (try simp only [PU])
            refine wpAnyH_take (i := 9) (oi := ⟨(some 21), (.binOp .sub 3 (.tmp 20) (.const (.int .i64 1)) 3), 3, "zset.go:58", #[⟨8, .data⟩, ⟨6, .guard⟩], (some (6, true))⟩) (v := ?v51) rfl (by kernel_rfl) (by kernel_rfl) (by kernel_rfl) (fun _ _ _ h => h) (Or.inl ⟨rfl, ?hy51⟩) hHeld ?rest51
            case hy51 => (intro w _; go_simp <;> first | with_reducible rfl | rw [if_neg (by omega)] | rw [if_pos (by omega)])
            (try simp only [PU])
            refine wpAnyH_take (i := 10) (oi := ⟨(some 22), (.indexAddr 22 (.tmp 19) (.tmp 21)), 0, "zset.go:58", #[⟨7, .data⟩, ⟨9, .data⟩, ⟨6, .guard⟩], (some (6, true))⟩) (v := ?v52) rfl (by kernel_rfl) (by kernel_rfl) (by kernel_rfl) (fun _ _ _ h => h) (Or.inl ⟨rfl, ?hy52⟩) hHeld ?rest52
            case hy52 => (intro w _; go_simp <;> first | with_reducible rfl | rw [if_neg (by omega)] | rw [if_pos (by omega)])
            (try simp only [PU])
            refine wpAnyH_take (i := 11) (oi := ⟨(some 23), (.fieldAddr 38 (.tmp 22) 0), 0, "zset.go:58", #[⟨10, .data⟩, ⟨6, .guard⟩], (some (6, true))⟩) (v := ?v53) rfl (by kernel_rfl) (by kernel_rfl) (by kernel_rfl) (fun _ _ _ h => h) (Or.inl ⟨rfl, ?hy53⟩) hHeld ?rest53
            case hy53 => (intro w _; go_simp <;> rfl)
            (try simp only [PU])
            refine wpAnyH_take (i := 12) (oi := ⟨(some 24), (.load 24 (.tmp 23)), 24, "zset.go:58", #[⟨11, .data⟩, ⟨6, .guard⟩], (some (6, true))⟩) (v := ?v54) rfl (by kernel_rfl) (by kernel_rfl) (by kernel_rfl) (fun _ _ _ h => h) (Or.inl ⟨rfl, ?hy54⟩) hHeld ?rest54
            case hy54 => (intro w hSw; (try dsimp only at hSw); go_simp <;> first | with_reducible rfl | rw [if_neg (by omega)] | rw [if_pos (by omega)])
            (try simp only [PU])
            refine wpAnyH_take (i := 13) (oi := ⟨(some 25), (.fieldAddr 38 (.tmp 4) 0), 0, "zset.go:58", #[⟨6, .guard⟩], (some (6, true))⟩) (v := ?v55) rfl (by kernel_rfl) (by kernel_rfl) (by kernel_rfl) (fun _ _ _ h => h) (Or.inl ⟨rfl, ?hy55⟩) hHeld ?rest55
            case hy55 => (intro w _; go_simp <;> rfl)
            (try simp only [PU])
            refine wpAnyH_take (i := 14) (oi := ⟨(some 26), (.load 24 (.tmp 25)), 24, "zset.go:58", #[⟨13, .data⟩, ⟨6, .guard⟩], (some (6, true))⟩) (v := ?v56) rfl (by kernel_rfl) (by kernel_rfl) (by kernel_rfl) (fun _ _ _ h => h) (Or.inl ⟨rfl, ?hy56⟩) hHeld ?rest56
            case hy56 => (intro w hSw; (try dsimp only at hSw); go_simp <;> first | with_reducible rfl | rw [if_neg (by omega)] | rw [if_pos (by omega)])
            (try simp only [PU])
            refine wpAnyH_ready (rs := [15]) (by kernel_rfl) (by simp) ?_
            refine AllReadyH.cons (o := ⟨(some 27), (.call { callee := (.value (.func 35)), args := #[(.tmp 24), (.tmp 26)], argTypes := #[24, 24] }), 3, "zset.go:58", #[⟨12, .data⟩, ⟨14, .data⟩, ⟨6, .chain⟩, ⟨6, .guard⟩], (some (6, true))⟩) rfl (fun K hK => ?step57x0) ?more57x0
            case more57x0 => exact AllReadyH.nil
            go_simp
            (refine (HOR.out _ (by with_reducible repeat (first | exact Ext.refl _ | assumption | refine Ext.drew ?_ | refine Ext.drewN ?_ _ | refine Ext.alloc ?_ _))).mono ?_; rintro e w4 ⟨rfl, hxw4⟩; replace hxw4 : Ext w2 w4 := Ext.trans (by with_reducible repeat (first | exact Ext.refl _ | assumption | refine Ext.drew ?_ | refine Ext.drewN ?_ _ | refine Ext.alloc ?_ _)) hxw4)
            refine hK.out _ _ ?hS57x0 (fun hHeld57 => ?rest57x0)
            case hS57x0 => first | (exact MKR3.out _ (by with_reducible repeat (first | exact Ext.refl _ | assumption | refine Ext.drew ?_ | refine Ext.drewN ?_ _ | refine Ext.alloc ?_ _))) | ((try dsimp only); (exact MKR3.out _ (by with_reducible repeat (first | exact Ext.refl _ | assumption | refine Ext.drew ?_ | refine Ext.drewN ?_ _ | refine Ext.alloc ?_ _))))
            clear hK K
            clear hHeld
            (try simp only [PU])
            refine wpAnyH_take (i := 16) (oi := ⟨(some 28), (.binOp .geq 3 (.tmp 27) (.const (.int .i64 0)) 3), 4, "zset.go:58", #[⟨15, .data⟩, ⟨6, .guard⟩], (some (6, true))⟩) (v := ?v58) rfl (by kernel_rfl) (by kernel_rfl) (by kernel_rfl) (fun _ _ _ h => h) (Or.inl ⟨rfl, ?hy58⟩) hHeld57 ?rest58
            case hy58 => (intro w _; go_simp <;> first | with_reducible rfl | rw [if_neg (by omega)] | rw [if_pos (by omega)])
            (try simp only [PU])
            refine wpAnyH_take (i := 17) (oi := ⟨(some 29), (.pick (.tmp 18) (.tmp 28) (.const (.bool false))), 4, "zset.go:58", #[⟨6, .data⟩, ⟨16, .data⟩, ⟨3, .guard⟩], (some (3, false))⟩) (v := ?v59) rfl (by kernel_rfl) (by kernel_rfl) (by kernel_rfl) (fun _ _ _ h => h) (Or.inl ⟨rfl, ?hy59⟩) hHeld57 ?rest59
            case hy59 => (intro w _; go_simp <;> rfl)
            (try simp only [PU])
            refine wpAnyH_take (i := 18) (oi := ⟨(some 30), (.pick (.tmp 15) (.const (.bool true)) (.tmp 29)), 4, "zset.go:58", #[⟨3, .data⟩, ⟨17, .data⟩], none⟩) (v := ?v60) rfl (by kernel_rfl) (by kernel_rfl) (by kernel_rfl) (fun _ _ _ h => h) (Or.inl ⟨rfl, ?hy60⟩) hHeld57 ?rest60
            case hy60 => (intro w _; go_simp <;> rfl)
            (try simp only [PU])
            refine wpAnyH_done (by kernel_rfl) ?_ _
            clear hHeld57
            clear MKR3
            go_wp2_with fail
            go_roundw
            case rel => exact ⟨j + 1 + 1, by go_num, by omega, HG2, hE2.trans (by with_reducible repeat (first | exact Ext.refl _ | assumption | refine Ext.drew ?_ | refine Ext.drewN ?_ _ | refine Ext.alloc ?_ _))⟩
            case measure => simp [intOf]; omega
          · have HF := Lib.hid (HB.out (by omega))
            simp only [e3] at HOR
            clear HB HG
            go_upto_region 4 with (fail)
            rw [← hw2, ← hg1]
            clear hw2 hg1 c0 c1
            have MKR4 := Lib.hid (fun V (e : Ext w2 V) => (⟨e.cell p1, e.cell p0, e.cell d0, e⟩ : V.cell? ⟨g1, 1, none⟩ = some (.int .i64 x.2) ∧ V.cell? ⟨g1, 0, none⟩ = some (.slice A' x.1.length c') ∧ V.cell? ⟨b, o + j * 2, none⟩ = some (.slice B' y.1.length d') ∧ Ext w2 V))
            refine wp_region_held_drew (S := (fun V => V.cell? ⟨g1, 1, none⟩ = some (.int .i64 x.2) ∧ V.cell? ⟨g1, 0, none⟩ = some (.slice A' x.1.length c') ∧ V.cell? ⟨b, o + j * 2, none⟩ = some (.slice B' y.1.length d') ∧ Ext w2 V)) (by kernel_rfl) ?hs61 (fun hHeld => ?go61)
            case hs61 => (exact MKR4.out _ (by with_reducible repeat (first | exact Ext.refl _ | assumption | refine Ext.drew ?_ | refine Ext.drewN ?_ _ | refine Ext.alloc ?_ _)))
            refine wpAnyH_take (i := 0) (oi := ⟨(some 12), (.fieldAddr 38 (.tmp 4) 1), 0, "zset.go:58", #[], none⟩) (v := ?v62) rfl (by kernel_rfl) (by kernel_rfl) (by kernel_rfl) (fun _ _ _ h => h) (Or.inl ⟨rfl, ?hy62⟩) hHeld ?rest62
            case hy62 => (intro w _; go_simp <;> rfl)
            (try simp only [PU])
            refine wpAnyH_take (i := 1) (oi := ⟨(some 13), (.load 3 (.tmp 12)), 3, "zset.go:58", #[⟨0, .data⟩], none⟩) (v := ?v63) rfl (by kernel_rfl) (by kernel_rfl) (by kernel_rfl) (fun _ _ _ h => h) (Or.inl ⟨rfl, ?hy63⟩) hHeld ?rest63
            case hy63 => (intro w hSw; (try dsimp only at hSw); go_simp <;> first | with_reducible rfl | rw [if_neg (by omega)] | rw [if_pos (by omega)])
            (try simp only [PU])
            refine wpAnyH_take (i := 2) (oi := ⟨(some 14), (.binOp .eql 3 (.tmp 13) (.const (.int .i64 0)) 3), 4, "zset.go:58", #[⟨1, .data⟩], none⟩) (v := ?v64) rfl (by kernel_rfl) (by kernel_rfl) (by kernel_rfl) (fun _ _ _ h => h) (Or.inl ⟨rfl, ?hy64⟩) hHeld ?rest64
            case hy64 => (intro w _; go_simp <;> first | with_reducible rfl | rw [if_neg (by omega)] | rw [if_pos (by omega)])
            (try simp only [PU])
            refine wpAnyH_take (i := 3) (oi := ⟨(some 15), (.move (.tmp 14)), 4, "zset.go:58", #[⟨2, .data⟩], none⟩) (v := ?v65) rfl (by kernel_rfl) (by kernel_rfl) (by kernel_rfl) (fun _ _ _ h => h) (Or.inl ⟨rfl, ?hy65⟩) hHeld ?rest65
            case hy65 => (intro w _; go_simp <;> rfl)
            (try simp only [PU])
            refine wpAnyH_take (i := 4) (oi := ⟨(some 16), (.move (.tmp 3)), 3, "zset.go:58", #[⟨3, .guard⟩], (some (3, false))⟩) (v := ?v66) rfl (by kernel_rfl) (by kernel_rfl) (by kernel_rfl) (fun _ _ _ h => h) (Or.inl ⟨rfl, ?hy66⟩) hHeld ?rest66
            case hy66 => (intro w _; go_simp <;> rfl)
            (try simp only [PU])
            refine wpAnyH_take (i := 5) (oi := ⟨(some 17), (.binOp .gtr 3 (.tmp 16) (.const (.int .i64 0)) 3), 4, "zset.go:58", #[⟨4, .data⟩, ⟨3, .guard⟩], (some (3, false))⟩) (v := ?v67) rfl (by kernel_rfl) (by kernel_rfl) (by kernel_rfl) (fun _ _ _ h => h) (Or.inl ⟨rfl, ?hy67⟩) hHeld ?rest67
            case hy67 => (intro w _; go_simp <;> first | with_reducible rfl | rw [if_neg (by omega)] | rw [if_pos (by omega)])
            (try simp only [PU])
            refine wpAnyH_take (i := 6) (oi := ⟨(some 18), (.move (.tmp 17)), 4, "zset.go:58", #[⟨5, .data⟩, ⟨3, .chain⟩, ⟨3, .guard⟩], (some (3, false))⟩) (v := ?v68) rfl (by kernel_rfl) (by kernel_rfl) (by kernel_rfl) (fun _ _ _ h => h) (Or.inl ⟨rfl, ?hy68⟩) hHeld ?rest68
            case hy68 => (intro w _; go_simp <;> rfl)
            (try simp only [PU])
            refine wpAnyH_take (i := 7) (oi := ⟨(some 19), (.move (.tmp 0)), 22, "zset.go:58", #[⟨6, .guard⟩], (some (6, true))⟩) (v := ?v69) rfl (by kernel_rfl) (by kernel_rfl) (by kernel_rfl) (fun _ _ _ h => h) (Or.inl ⟨rfl, ?hy69⟩) hHeld ?rest69
            case hy69 => (intro w _; go_simp <;> rfl)
            (try simp only [PU])
            refine wpAnyH_take (i := 8) (oi := ⟨(some 20), (.move (.tmp 3)), 3, "zset.go:58", #[⟨6, .guard⟩], (some (6, true))⟩) (v := ?v70) rfl (by kernel_rfl) (by kernel_rfl) (by kernel_rfl) (fun _ _ _ h => h) (Or.inl ⟨rfl, ?hy70⟩) hHeld ?rest70
            case hy70 => (intro w _; go_simp <;> rfl)
            (try simp only [PU])
            refine wpAnyH_take (i := 9) (oi := ⟨(some 21), (.binOp .sub 3 (.tmp 20) (.const (.int .i64 1)) 3), 3, "zset.go:58", #[⟨8, .data⟩, ⟨6, .guard⟩], (some (6, true))⟩) (v := ?v71) rfl (by kernel_rfl) (by kernel_rfl) (by kernel_rfl) (fun _ _ _ h => h) (Or.inl ⟨rfl, ?hy71⟩) hHeld ?rest71
            case hy71 => (intro w _; go_simp <;> first | with_reducible rfl | rw [if_neg (by omega)] | rw [if_pos (by omega)])
            (try simp only [PU])
            refine wpAnyH_take (i := 10) (oi := ⟨(some 22), (.indexAddr 22 (.tmp 19) (.tmp 21)), 0, "zset.go:58", #[⟨7, .data⟩, ⟨9, .data⟩, ⟨6, .guard⟩], (some (6, true))⟩) (v := ?v72) rfl (by kernel_rfl) (by kernel_rfl) (by kernel_rfl) (fun _ _ _ h => h) (Or.inl ⟨rfl, ?hy72⟩) hHeld ?rest72
            case hy72 => (intro w _; go_simp <;> first | with_reducible rfl | rw [if_neg (by omega)] | rw [if_pos (by omega)])
            (try simp only [PU])
            refine wpAnyH_take (i := 11) (oi := ⟨(some 23), (.fieldAddr 38 (.tmp 22) 0), 0, "zset.go:58", #[⟨10, .data⟩, ⟨6, .guard⟩], (some (6, true))⟩) (v := ?v73) rfl (by kernel_rfl) (by kernel_rfl) (by kernel_rfl) (fun _ _ _ h => h) (Or.inl ⟨rfl, ?hy73⟩) hHeld ?rest73
            case hy73 => (intro w _; go_simp <;> rfl)
            (try simp only [PU])
            refine wpAnyH_take (i := 12) (oi := ⟨(some 24), (.load 24 (.tmp 23)), 24, "zset.go:58", #[⟨11, .data⟩, ⟨6, .guard⟩], (some (6, true))⟩) (v := ?v74) rfl (by kernel_rfl) (by kernel_rfl) (by kernel_rfl) (fun _ _ _ h => h) (Or.inl ⟨rfl, ?hy74⟩) hHeld ?rest74
            case hy74 => (intro w hSw; (try dsimp only at hSw); go_simp <;> first | with_reducible rfl | rw [if_neg (by omega)] | rw [if_pos (by omega)])
            (try simp only [PU])
            refine wpAnyH_take (i := 13) (oi := ⟨(some 25), (.fieldAddr 38 (.tmp 4) 0), 0, "zset.go:58", #[⟨6, .guard⟩], (some (6, true))⟩) (v := ?v75) rfl (by kernel_rfl) (by kernel_rfl) (by kernel_rfl) (fun _ _ _ h => h) (Or.inl ⟨rfl, ?hy75⟩) hHeld ?rest75
            case hy75 => (intro w _; go_simp <;> rfl)
            (try simp only [PU])
            refine wpAnyH_take (i := 14) (oi := ⟨(some 26), (.load 24 (.tmp 25)), 24, "zset.go:58", #[⟨13, .data⟩, ⟨6, .guard⟩], (some (6, true))⟩) (v := ?v76) rfl (by kernel_rfl) (by kernel_rfl) (by kernel_rfl) (fun _ _ _ h => h) (Or.inl ⟨rfl, ?hy76⟩) hHeld ?rest76
            case hy76 => (intro w hSw; (try dsimp only at hSw); go_simp <;> first | with_reducible rfl | rw [if_neg (by omega)] | rw [if_pos (by omega)])
            (try simp only [PU])
            refine wpAnyH_ready (rs := [15]) (by kernel_rfl) (by simp) ?_
            refine AllReadyH.cons (o := ⟨(some 27), (.call { callee := (.value (.func 35)), args := #[(.tmp 24), (.tmp 26)], argTypes := #[24, 24] }), 3, "zset.go:58", #[⟨12, .data⟩, ⟨14, .data⟩, ⟨6, .chain⟩, ⟨6, .guard⟩], (some (6, true))⟩) rfl (fun K hK => ?step77x0) ?more77x0
            case more77x0 => exact AllReadyH.nil
            go_simp
            (refine (HOR.out _ (by with_reducible repeat (first | exact Ext.refl _ | assumption | refine Ext.drew ?_ | refine Ext.drewN ?_ _ | refine Ext.alloc ?_ _))).mono ?_; rintro e w4 ⟨rfl, hxw4⟩; replace hxw4 : Ext w2 w4 := Ext.trans (by with_reducible repeat (first | exact Ext.refl _ | assumption | refine Ext.drew ?_ | refine Ext.drewN ?_ _ | refine Ext.alloc ?_ _)) hxw4)
            refine hK.out _ _ ?hS77x0 (fun hHeld77 => ?rest77x0)
            case hS77x0 => first | (exact MKR4.out _ (by with_reducible repeat (first | exact Ext.refl _ | assumption | refine Ext.drew ?_ | refine Ext.drewN ?_ _ | refine Ext.alloc ?_ _))) | ((try dsimp only); (exact MKR4.out _ (by with_reducible repeat (first | exact Ext.refl _ | assumption | refine Ext.drew ?_ | refine Ext.drewN ?_ _ | refine Ext.alloc ?_ _))))
            clear hK K
            clear hHeld
            (try simp only [PU])
            refine wpAnyH_take (i := 16) (oi := ⟨(some 28), (.binOp .geq 3 (.tmp 27) (.const (.int .i64 0)) 3), 4, "zset.go:58", #[⟨15, .data⟩, ⟨6, .guard⟩], (some (6, true))⟩) (v := ?v78) rfl (by kernel_rfl) (by kernel_rfl) (by kernel_rfl) (fun _ _ _ h => h) (Or.inl ⟨rfl, ?hy78⟩) hHeld77 ?rest78
            case hy78 => (intro w _; go_simp <;> first | with_reducible rfl | rw [if_neg (by omega)] | rw [if_pos (by omega)])
            (try simp only [PU])
            refine wpAnyH_take (i := 17) (oi := ⟨(some 29), (.pick (.tmp 18) (.tmp 28) (.const (.bool false))), 4, "zset.go:58", #[⟨6, .data⟩, ⟨16, .data⟩, ⟨3, .guard⟩], (some (3, false))⟩) (v := ?v79) rfl (by kernel_rfl) (by kernel_rfl) (by kernel_rfl) (fun _ _ _ h => h) (Or.inl ⟨rfl, ?hy79⟩) hHeld77 ?rest79
            case hy79 => (intro w _; go_simp <;> rfl)
            (try simp only [PU])
            refine wpAnyH_take (i := 18) (oi := ⟨(some 30), (.pick (.tmp 15) (.const (.bool true)) (.tmp 29)), 4, "zset.go:58", #[⟨3, .data⟩, ⟨17, .data⟩], none⟩) (v := ?v80) rfl (by kernel_rfl) (by kernel_rfl) (by kernel_rfl) (fun _ _ _ h => h) (Or.inl ⟨rfl, ?hy80⟩) hHeld77 ?rest80
            case hy80 => (intro w _; go_simp <;> rfl)
            (try simp only [PU])
            refine wpAnyH_done (by kernel_rfl) ?_ _
            clear hHeld77
            clear MKR4
            go_wp2_with fail
            go_ret
            exact ⟨ret_b HF.out.symm, hE2.trans (by with_reducible repeat (first | exact Ext.refl _ | assumption | refine Ext.drew ?_ | refine Ext.drewN ?_ _ | refine Ext.alloc ?_ _))⟩
          · have HF := Lib.hid (HB.out (by omega))
            simp only [e3] at HOR
            clear HB HG
            go_upto_region 4 with (fail)
            rw [← hw2, ← hg1]
            clear hw2 hg1 c0 c1
            have MKR5 := Lib.hid (fun V (e : Ext w2 V) => (⟨e.cell p1, e.cell p0, e.cell d0, e⟩ : V.cell? ⟨g1, 1, none⟩ = some (.int .i64 x.2) ∧ V.cell? ⟨g1, 0, none⟩ = some (.slice A' x.1.length c') ∧ V.cell? ⟨b, o + j * 2, none⟩ = some (.slice B' y.1.length d') ∧ Ext w2 V))
            refine wp_region_held_drew (S := (fun V => V.cell? ⟨g1, 1, none⟩ = some (.int .i64 x.2) ∧ V.cell? ⟨g1, 0, none⟩ = some (.slice A' x.1.length c') ∧ V.cell? ⟨b, o + j * 2, none⟩ = some (.slice B' y.1.length d') ∧ Ext w2 V)) (by kernel_rfl) ?hs81 (fun hHeld => ?go81)
            case hs81 => (exact MKR5.out _ (by with_reducible repeat (first | exact Ext.refl _ | assumption | refine Ext.drew ?_ | refine Ext.drewN ?_ _ | refine Ext.alloc ?_ _)))
            refine wpAnyH_take (i := 0) (oi := ⟨(some 12), (.fieldAddr 38 (.tmp 4) 1), 0, "zset.go:58", #[], none⟩) (v := ?v82) rfl (by kernel_rfl) (by kernel_rfl) (by kernel_rfl) (fun _ _ _ h => h) (Or.inl ⟨rfl, ?hy82⟩) hHeld ?rest82
            case hy82 => (intro w _; go_simp <;> rfl)
            (try simp only [PU])
            refine wpAnyH_take (i := 1) (oi := ⟨(some 13), (.load 3 (.tmp 12)), 3, "zset.go:58", #[⟨0, .data⟩], none⟩) (v := ?v83) rfl (by kernel_rfl) (by kernel_rfl) (by kernel_rfl) (fun _ _ _ h => h) (Or.inl ⟨rfl, ?hy83⟩) hHeld ?rest83
            case hy83 => (intro w hSw; (try dsimp only at hSw); go_simp <;> first | with_reducible rfl | rw [if_neg (by omega)] | rw [if_pos (by omega)])
            (try simp only [PU])
            refine wpAnyH_take (i := 2) (oi := ⟨(some 14), (.binOp .eql 3 (.tmp 13) (.const (.int .i64 0)) 3), 4, "zset.go:58", #[⟨1, .data⟩], none⟩) (v := ?v84) rfl (by kernel_rfl) (by kernel_rfl) (by kernel_rfl) (fun _ _ _ h => h) (Or.inl ⟨rfl, ?hy84⟩) hHeld ?rest84
            case hy84 => (intro w _; go_simp <;> first | with_reducible rfl | rw [if_neg (by omega)] | rw [if_pos (by omega)])
            (try simp only [PU])
            refine wpAnyH_take (i := 3) (oi := ⟨(some 15), (.move (.tmp 14)), 4, "zset.go:58", #[⟨2, .data⟩], none⟩) (v := ?v85) rfl (by kernel_rfl) (by kernel_rfl) (by kernel_rfl) (fun _ _ _ h => h) (Or.inl ⟨rfl, ?hy85⟩) hHeld ?rest85
            case hy85 => (intro w _; go_simp <;> rfl)
            (try simp only [PU])
            refine wpAnyH_take (i := 4) (oi := ⟨(some 16), (.move (.tmp 3)), 3, "zset.go:58", #[⟨3, .guard⟩], (some (3, false))⟩) (v := ?v86) rfl (by kernel_rfl) (by kernel_rfl) (by kernel_rfl) (fun _ _ _ h => h) (Or.inl ⟨rfl, ?hy86⟩) hHeld ?rest86
            case hy86 => (intro w _; go_simp <;> rfl)
            (try simp only [PU])
            refine wpAnyH_take (i := 5) (oi := ⟨(some 17), (.binOp .gtr 3 (.tmp 16) (.const (.int .i64 0)) 3), 4, "zset.go:58", #[⟨4, .data⟩, ⟨3, .guard⟩], (some (3, false))⟩) (v := ?v87) rfl (by kernel_rfl) (by kernel_rfl) (by kernel_rfl) (fun _ _ _ h => h) (Or.inl ⟨rfl, ?hy87⟩) hHeld ?rest87
            case hy87 => (intro w _; go_simp <;> first | with_reducible rfl | rw [if_neg (by omega)] | rw [if_pos (by omega)])
            (try simp only [PU])
            refine wpAnyH_take (i := 6) (oi := ⟨(some 18), (.move (.tmp 17)), 4, "zset.go:58", #[⟨5, .data⟩, ⟨3, .chain⟩, ⟨3, .guard⟩], (some (3, false))⟩) (v := ?v88) rfl (by kernel_rfl) (by kernel_rfl) (by kernel_rfl) (fun _ _ _ h => h) (Or.inl ⟨rfl, ?hy88⟩) hHeld ?rest88
            case hy88 => (intro w _; go_simp <;> rfl)
            (try simp only [PU])
            refine wpAnyH_take (i := 7) (oi := ⟨(some 19), (.move (.tmp 0)), 22, "zset.go:58", #[⟨6, .guard⟩], (some (6, true))⟩) (v := ?v89) rfl (by kernel_rfl) (by kernel_rfl) (by kernel_rfl) (fun _ _ _ h => h) (Or.inl ⟨rfl, ?hy89⟩) hHeld ?rest89
            case hy89 => (intro w _; go_simp <;> rfl)
            (try simp only [PU])
            refine wpAnyH_take (i := 8) (oi := ⟨(some 20), (.move (.tmp 3)), 3, "zset.go:58", #[⟨6, .guard⟩], (some (6, true))⟩) (v := ?v90) rfl (by kernel_rfl) (by kernel_rfl) (by kernel_rfl) (fun _ _ _ h => h) (Or.inl ⟨rfl, ?hy90⟩) hHeld ?rest90
            case hy90 => (intro w _; go_simp <;> rfl)
            (try simp only [PU])
            refine wpAnyH_take (i := 9) (oi := ⟨(some 21), (.binOp .sub 3 (.tmp 20) (.const (.int .i64 1)) 3), 3, "zset.go:58", #[⟨8, .data⟩, ⟨6, .guard⟩], (some (6, true))⟩) (v := ?v91) rfl (by kernel_rfl) (by kernel_rfl) (by kernel_rfl) (fun _ _ _ h => h) (Or.inl ⟨rfl, ?hy91⟩) hHeld ?rest91
            case hy91 => (intro w _; go_simp <;> first | with_reducible rfl | rw [if_neg (by omega)] | rw [if_pos (by omega)])
            (try simp only [PU])
            refine wpAnyH_take (i := 10) (oi := ⟨(some 22), (.indexAddr 22 (.tmp 19) (.tmp 21)), 0, "zset.go:58", #[⟨7, .data⟩, ⟨9, .data⟩, ⟨6, .guard⟩], (some (6, true))⟩) (v := ?v92) rfl (by kernel_rfl) (by kernel_rfl) (by kernel_rfl) (fun _ _ _ h => h) (Or.inl ⟨rfl, ?hy92⟩) hHeld ?rest92
            case hy92 => (intro w _; go_simp <;> first | with_reducible rfl | rw [if_neg (by omega)] | rw [if_pos (by omega)])
            (try simp only [PU])
            refine wpAnyH_take (i := 11) (oi := ⟨(some 23), (.fieldAddr 38 (.tmp 22) 0), 0, "zset.go:58", #[⟨10, .data⟩, ⟨6, .guard⟩], (some (6, true))⟩) (v := ?v93) rfl (by kernel_rfl) (by kernel_rfl) (by kernel_rfl) (fun _ _ _ h => h) (Or.inl ⟨rfl, ?hy93⟩) hHeld ?rest93
            case hy93 => (intro w _; go_simp <;> rfl)
            (try simp only [PU])
            refine wpAnyH_take (i := 12) (oi := ⟨(some 24), (.load 24 (.tmp 23)), 24, "zset.go:58", #[⟨11, .data⟩, ⟨6, .guard⟩], (some (6, true))⟩) (v := ?v94) rfl (by kernel_rfl) (by kernel_rfl) (by kernel_rfl) (fun _ _ _ h => h) (Or.inl ⟨rfl, ?hy94⟩) hHeld ?rest94
            case hy94 => (intro w hSw; (try dsimp only at hSw); go_simp <;> first | with_reducible rfl | rw [if_neg (by omega)] | rw [if_pos (by omega)])
            (try simp only [PU])
            refine wpAnyH_take (i := 13) (oi := ⟨(some 25), (.fieldAddr 38 (.tmp 4) 0), 0, "zset.go:58", #[⟨6, .guard⟩], (some (6, true))⟩) (v := ?v95) rfl (by kernel_rfl) (by kernel_rfl) (by kernel_rfl) (fun _ _ _ h => h) (Or.inl ⟨rfl, ?hy95⟩) hHeld ?rest95
            case hy95 => (intro w _; go_simp <;> rfl)
            (try simp only [PU])
            refine wpAnyH_take (i := 14) (oi := ⟨(some 26), (.load 24 (.tmp 25)), 24, "zset.go:58", #[⟨13, .data⟩, ⟨6, .guard⟩], (some (6, true))⟩) (v := ?v96) rfl (by kernel_rfl) (by kernel_rfl) (by kernel_rfl) (fun _ _ _ h => h) (Or.inl ⟨rfl, ?hy96⟩) hHeld ?rest96
            case hy96 => (intro w hSw; (try dsimp only at hSw); go_simp <;> first | with_reducible rfl | rw [if_neg (by omega)] | rw [if_pos (by omega)])
            (try simp only [PU])
            refine wpAnyH_ready (rs := [15]) (by kernel_rfl) (by simp) ?_
            refine AllReadyH.cons (o := ⟨(some 27), (.call { callee := (.value (.func 35)), args := #[(.tmp 24), (.tmp 26)], argTypes := #[24, 24] }), 3, "zset.go:58", #[⟨12, .data⟩, ⟨14, .data⟩, ⟨6, .chain⟩, ⟨6, .guard⟩], (some (6, true))⟩) rfl (fun K hK => ?step97x0) ?more97x0
            case more97x0 => exact AllReadyH.nil
            go_simp
            (refine (HOR.out _ (by with_reducible repeat (first | exact Ext.refl _ | assumption | refine Ext.drew ?_ | refine Ext.drewN ?_ _ | refine Ext.alloc ?_ _))).mono ?_; rintro e w4 ⟨rfl, hxw4⟩; replace hxw4 : Ext w2 w4 := Ext.trans (by with_reducible repeat (first | exact Ext.refl _ | assumption | refine Ext.drew ?_ | refine Ext.drewN ?_ _ | refine Ext.alloc ?_ _)) hxw4)
            refine hK.out _ _ ?hS97x0 (fun hHeld97 => ?rest97x0)
            case hS97x0 => first | (exact MKR5.out _ (by with_reducible repeat (first | exact Ext.refl _ | assumption | refine Ext.drew ?_ | refine Ext.drewN ?_ _ | refine Ext.alloc ?_ _))) | ((try dsimp only); (exact MKR5.out _ (by with_reducible repeat (first | exact Ext.refl _ | assumption | refine Ext.drew ?_ | refine Ext.drewN ?_ _ | refine Ext.alloc ?_ _))))
            clear hK K
            clear hHeld
            (try simp only [PU])
            refine wpAnyH_take (i := 16) (oi := ⟨(some 28), (.binOp .geq 3 (.tmp 27) (.const (.int .i64 0)) 3), 4, "zset.go:58", #[⟨15, .data⟩, ⟨6, .guard⟩], (some (6, true))⟩) (v := ?v98) rfl (by kernel_rfl) (by kernel_rfl) (by kernel_rfl) (fun _ _ _ h => h) (Or.inl ⟨rfl, ?hy98⟩) hHeld97 ?rest98
            case hy98 => (intro w _; go_simp <;> first | with_reducible rfl | rw [if_neg (by omega)] | rw [if_pos (by omega)])
            (try simp only [PU])
            refine wpAnyH_take (i := 17) (oi := ⟨(some 29), (.pick (.tmp 18) (.tmp 28) (.const (.bool false))), 4, "zset.go:58", #[⟨6, .data⟩, ⟨16, .data⟩, ⟨3, .guard⟩], (some (3, false))⟩) (v := ?v99) rfl (by kernel_rfl) (by kernel_rfl) (by kernel_rfl) (fun _ _ _ h => h) (Or.inl ⟨rfl, ?hy99⟩) hHeld97 ?rest99
            case hy99 => (intro w _; go_simp <;> rfl)
            (try simp only [PU])
            refine wpAnyH_take (i := 18) (oi := ⟨(some 30), (.pick (.tmp 15) (.const (.bool true)) (.tmp 29)), 4, "zset.go:58", #[⟨3, .data⟩, ⟨17, .data⟩], none⟩) (v := ?v100) rfl (by kernel_rfl) (by kernel_rfl) (by kernel_rfl) (fun _ _ _ h => h) (Or.inl ⟨rfl, ?hy100⟩) hHeld97 ?rest100
            case hy100 => (intro w _; go_simp <;> rfl)
            (try simp only [PU])
            refine wpAnyH_done (by kernel_rfl) ?_ _
            clear hHeld97
            clear MKR5
            go_wp2_with fail
            go_ret
            exact ⟨ret_b HF.out.symm, hE2.trans (by with_reducible repeat (first | exact Ext.refl _ | assumption | refine Ext.drew ?_ | refine Ext.drewN ?_ _ | refine Ext.alloc ?_ _))⟩
    · have HF := Lib.hid (validZ_t (z := z) (fun i hi => hg.out i (by omega)))
      go_wp2_with fail
      go_ret
      exact ⟨ret_b HF.out.symm, hE⟩
end Go.Proofs.YtgojggmjajlbpaaGreatDoor
