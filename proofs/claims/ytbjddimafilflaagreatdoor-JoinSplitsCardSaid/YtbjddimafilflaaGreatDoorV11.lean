/- PARTS OF THE WALKS, joined: Rf, Clone, Copied, SortF. -/
import Derived.Test.YtbjddimafilflaaGreatDoorV10
import Derived.WalkSpells
import Derived.Deep.Cut
import Derived.Test.YtbjddimafilflaaGreatDoorV02
import Derived.Test.YtbjddimafilflaaGreatDoorV07
import Derived.Laws.MakeOwn
/- THE WALK over the reference's Copy. -/
namespace Go.Proofs.YtbjddimafilflaaGreatDoor
open Go.RowKit
theorem T_val : ElT Tryz.prog 36 40 5 64 :=
  ⟨Tryz.underlying36, ⟨.agg #[.int .i64 0, .int .i64 0, .int .i64 0, .string ⟨#[]⟩, .slice none 0 0], by kernel_rfl, rfl⟩, by decide⟩
/-- the cells of the first k elements of copies: each its element's cells, its list copied into new memory -/
def CopyTo (w : World) (ok : Nat → Prop) (l : List Val) (cs : List (List Value)) : Prop :=
  ∀ i (h : i < cs.length), ∃ (h' : i < l.length) (A : Option Addr) (c : Nat), cs[i] = (l[i]).cells A c ∧ (l[i]).l.length ≤ c ∧ Vals w ok A (l[i]).l
theorem CopyTo.nil (w : World) (ok : Nat → Prop) (l : List Val) : CopyTo w ok l [] := fun i h => absurd h (by simp)
theorem CopyTo.keep {w w' : World} {ok ok' : Nat → Prop} {l : List Val} {cs : List (List Value)} (h : CopyTo w ok l cs) (hk : ∀ b o x, ok b → w.cell? ⟨b, o, none⟩ = some x → w'.cell? ⟨b, o, none⟩ = some x) (ho : ∀ b, ok b → ok' b) : CopyTo w' ok' l cs := fun i hi => by
  obtain ⟨h', A, c, h1, h2, h3⟩ := h i hi
  exact ⟨h', A, c, h1, h2, h3.keep hk ho⟩
theorem CopyTo.keep' {w w' : World} {ok ok' : Nat → Prop} {l : List Val} {cs : List (List Value)} (h : CopyTo w ok l cs) (hk : ∀ b o x, ok b → w.cell? ⟨b, o, none⟩ = some x → w'.cell? ⟨b, o, none⟩ = some x ∧ ok' b) : CopyTo w' ok' l cs := fun i hi => by
  obtain ⟨h', A, c, h1, h2, h3⟩ := h i hi
  exact ⟨h', A, c, h1, h2, h3.keep' hk⟩
/-- where copies may lie: in new memory, outside the row's own block -/
def okB (base : Nat) (v : Value) (b : Nat) : Prop := base ≤ b ∧ some b ≠ v.ownBlock
theorem CopyTo.ext {a w : World} {ok : Nat → Prop} {l : List Val} {cs : List (List Value)} (h : CopyTo a ok l cs) (e : Ext a w) : CopyTo w ok l cs := h.keep (fun _ _ _ _ hc => e.cell hc) (fun _ h => h)
theorem CopyTo.push {w : World} {ok : Nat → Prop} {l : List Val} {cs : List (List Value)} (h : CopyTo w ok l cs) (hl : cs.length < l.length) {A : Option Addr} {c : Nat} (hc : (l[cs.length]).l.length ≤ c) (hv : Vals w ok A (l[cs.length]).l) : CopyTo w ok l (cs ++ [(l[cs.length]).cells A c]) := fun i hi => by
  rcases Nat.lt_or_ge i cs.length with h1 | h1
  · obtain ⟨h', A', c', e1, e2, e3⟩ := h i h1
    exact ⟨h', A', c', by rw [List.getElem_append_left h1]; exact e1, e2, e3⟩
  · have hi' : i = cs.length := by simp at hi; omega
    subst hi'
    exact ⟨hl, A, c, by simp, hc, hv⟩
theorem CopyTo.size {w : World} {ok : Nat → Prop} {l : List Val} {cs : List (List Value)} (h : CopyTo w ok l cs) : ∀ x ∈ cs, x.length = 5 := fun x hx => by
  obtain ⟨i, hi, rfl⟩ := List.getElem_of_mem hx
  obtain ⟨_, A, c, e, _⟩ := h i hi
  rw [e]; rfl
theorem CopyTo.done {w : World} {ok : Nat → Prop} {base : Nat} {v : Value} {l : List Val} {cs : List (List Value)} (h : CopyTo w ok l cs) (hown : w.ownsRow base 40 5 v l.length cs.flatten) (hl : cs.length = l.length) (hm : l.length ≤ 140737488355328) (hok : ∀ b, ok b → base ≤ b) :
    ∃ A c, v = .slice A l.length c ∧ l.length ≤ c ∧ Vals w (fun b => base ≤ b) A l := by
  refine own_sliceR hown rfl hl h.size hm (fun g hg _ k hk hk' hcell => ?_)
  obtain ⟨h', A, c, e, h2, h3⟩ := h k hk'
  rw [e] at hcell
  refine VCells.iff.2 ⟨hg, A, c, ⟨?_, ?_, ?_, ?_, ?_⟩, h2, h3.to hok⟩
  · exact hcell 0 _ rfl
  · exact hcell 1 _ rfl
  · exact hcell 2 _ rfl
  · exact hcell 3 _ rfl
  · exact hcell 4 _ rfl
set_option maxRecDepth 100000 in
set_option maxHeartbeats 6400000 in
theorem r4_CopyStep (l : List Val) (ok : Nat → Prop) (A : Option Addr) (c : Nat) (w : World) (hv : Vals w ok A l) (hl : l.length ≤ 8000000)
    (ih : ∀ x ∈ l, ∀ (Ax : Option Addr) (cx : Nat) (W : World), Vals W ok Ax x.l → Calls Tryz.prog 35 #[.slice Ax x.l.length cx] W fun e W' => ∃ A' c', e = .returned (.slice A' x.l.length c') ∧ x.l.length ≤ c' ∧ Vals W' (fun b => W.heap.size ≤ b) A' x.l ∧ Ext W W') :
    Calls Tryz.prog 35 #[.slice A l.length c] w fun e w' => ∃ A' c', e = .returned (.slice A' l.length c') ∧ l.length ≤ c' ∧ Vals w' (fun b => w.heap.size ≤ b) A' l ∧ Ext w w' := by
  have hm := hv.len
  have HV := Lib.hid hv
  have HI := Lib.hid ih
  clear hv ih
  go_enter Tryz.func35, Tryz.ntmps35
  go_wp2
  go_loopw [3, 4] (fun v u W => ∃ (k : Nat) (cs : List (List Value)), u = .int .i64 k ∧ k ≤ l.length ∧ W.ownsRow w.heap.size 40 5 v k cs.flatten ∧ Hid (cs.length = k) ∧ Hid (CopyTo W (okB w.heap.size v) l cs) ∧ Ext w W) (fun _ u _ => l.length - (intOf u).toNat)
  case atStart => exact ⟨0, [], rfl, Nat.zero_le _, World.ownsRow_nil _ _ _ _, Lib.hid rfl, Lib.hid (CopyTo.nil _ _ _), Ext.refl _⟩
  case round =>
    obtain ⟨k, cs, rfl, hk, hown, hcl, hct, hE⟩ := hrel
    by_cases hlt : k < l.length
    · obtain ⟨b, o, rfl, hc⟩ := HV.out.2 (by omega)
      obtain ⟨-, A', c', h5, -, hv'⟩ := VCells.iff.1 (hc k hlt)
      obtain ⟨d0, d1, d2, d3, d4⟩ := h5.ext hE
      obtain ⟨g, w1, hg, hw1, h6, hx, -⟩ := box_val wr l[k] A' c' 40
      have HB := Lib.hid (show w1.heap[g]? = some (.cells #[.int .i64 (l[k]).kind, .int .i64 (l[k]).n, .int .i64 (l[k]).d, .string (l[k]).s, .slice A' (l[k]).l.length c'] 40) by rw [hw1, hg]; exact heap_alloc_new _ _)
      have HC := Lib.hid (HI.out l[k] (List.getElem_mem hlt) A' c' w1 (hv'.ext (hE.trans hx)))
      have HP := Lib.hid (fun (W : World) (h : CopyTo W (okB w.heap.size u3) l cs) A2 c2 (h1 : (l[k]).l.length ≤ c2) (h2 : Vals W (okB w.heap.size u3) A2 (l[k]).l) => (by
        have hk' := hcl.out
        subst hk'
        exact h.push hlt h1 h2 : CopyTo W (okB w.heap.size u3) l (cs ++ [(l[k]).cells A2 c2])))
      have hle := hE.le
      have hgw : wr.heap.size ≤ g := by omega
      have HG0 := Lib.hid (show g < w1.heap.size from block_lt_of_cell h6.1)
      have HW1 := Lib.hid hw1
      have HG := Lib.hid hg
      obtain ⟨p0, p1, p2, p3, p4⟩ := h6
      clear hc h5 hv' hw1 hg
      generalize l[k] = x at *
      go_upto_region 6 with (fail)
      rw [← HW1.out, ← HG.out]
      clear HW1 HG d0 d1 d2 d3 d4
      go_wp2_with fail
      refine (HC.out).mono ?_
      rintro e w6 ⟨A2, c2, rfl, hle2, hV2, h6⟩
      have hblk := h6.heap HB.out
      have hfr : w6.frozen? ⟨g, 4, none⟩ = false := by simp [World.frozen?, hblk]
      replace p0 := h6.cell p0
      replace p1 := h6.cell p1
      replace p2 := h6.cell p2
      replace p3 := h6.cell p3
      replace p4 := h6.cell p4
      obtain ⟨wS, hwS⟩ : ∃ wS, wS = w6.setCell ⟨g, 4, none⟩ (.slice A2 x.l.length c2) := ⟨_, rfl⟩
      have s0 : wS.cell? ⟨g, 0, none⟩ = some (.int .i64 x.kind) := by rw [hwS]; go_simp
      have s1 : wS.cell? ⟨g, 1, none⟩ = some (.int .i64 x.n) := by rw [hwS]; go_simp
      have s2 : wS.cell? ⟨g, 2, none⟩ = some (.int .i64 x.d) := by rw [hwS]; go_simp
      have s3 : wS.cell? ⟨g, 3, none⟩ = some (.string x.s) := by rw [hwS]; go_simp
      have s4 : wS.cell? ⟨g, 4, none⟩ = some (.slice A2 x.l.length c2) := by rw [hwS]; exact World.cell?_setCell_same' _ _ _ (by rw [p4]; rfl)
      have hES : Ext wr wS := by rw [hwS]; exact (hx.trans h6).setCell hgw _
      have HVS := Lib.hid (show Vals wS (okB w.heap.size u3) A2 x.l by
        rw [hwS]
        refine hV2.keep (fun b o y hb hc => ?_) (fun b hb => ?_)
        · have hne : b ≠ g := by have := HG0.out; omega
          rw [World.cell?_setCell_other _ _ _ _ (fun e => hne (by injection e with e1; exact e1.symm))]; exact hc
        · refine ⟨by have := hx.le; omega, fun e => ?_⟩
          have h1 := (World.ownsRow.lt hown _ e.symm).2
          have h2 := hx.le
          omega)
      have HWS := Lib.hid hwS
      clear hwS hV2 h6 hblk HC HB
      go_upto_region 7 with (fail)
      rw [← HWS.out]
      clear HWS p0 p1 p2 p3 p4 hfr
      have hownS := own_ext hown hES
      have hkb : k + 1 ≤ 8388608 := by omega
      go_wp2_with (at_builtin; refine own_pushF T_val rfl (.tmp 20) (.tmp 22) rfl w wS _ k _ (x.cells A2 c2) rfl hownS (hE.trans hES) rfl rfl rfl (Val.cells_one _ _ _) hkb (by decide) ?_; intro v2 w9 hown2 hE9 hF9)
      have HN := Lib.hid ((HP.out wS (hct.out.ext hES) A2 c2 hle2 HVS.out).keep' (w' := w9) (ok' := okB w.heap.size v2) (fun b o y hb hc => ⟨hF9.cell b o y hb.2 hc, hb.1, hF9.own b (block_lt_of_cell hc) hb.2⟩))
      clear hF9 HP HVS
      go_roundw
      case rel => exact ⟨k + 1, cs ++ [x.cells A2 c2], by go_num, by omega, by (rw [List.flatten_append]; simpa using hown2), Lib.hid (by rw [List.length_append, hcl.out]; rfl), HN, hE9⟩
      case measure => simp [intOf]; omega
    · have hk' : k = l.length := by omega
      have HD := Lib.hid (hct.out.done (by rw [← hk']; exact hown) (hcl.out.trans hk') hm (fun b hb => hb.1))
      go_wp2
      obtain ⟨A9, c9, e9, h9, hV9⟩ := HD.out
      subst e9
      go_ret
      exact ⟨A9, c9, rfl, h9, hV9, hE⟩
theorem r4_CopyN : ∀ (N : Nat) (l : List Val) (ok : Nat → Prop) (A : Option Addr) (c : Nat) (w : World), wtL l ≤ N → wtL l ≤ 8000000 → Vals w ok A l →
    Calls Tryz.prog 35 #[.slice A l.length c] w fun e w' => ∃ A' c', e = .returned (.slice A' l.length c') ∧ l.length ≤ c' ∧ Vals w' (fun b => w.heap.size ≤ b) A' l ∧ Ext w w'
  | 0, l, ok, A, c, w, hN, hm, hv => r4_CopyStep l ok A c w hv (Nat.le_trans (wtL_len l) hm) (fun x hx => by have := wtL_kids hx; omega)
  | N + 1, l, ok, A, c, w, hN, hm, hv => r4_CopyStep l ok A c w hv (Nat.le_trans (wtL_len l) hm) (fun x hx Ax cx W hx' => by
    have := wtL_kids hx
    exact r4_CopyN N x.l ok Ax cx W (by omega) (by omega) hx')
theorem r4_Copy (l : List Val) (ok : Nat → Prop) (A : Option Addr) (c : Nat) (w : World) (hm : wtL l ≤ 8000000) (hv : Vals w ok A l) :
    Calls Tryz.prog 35 #[.slice A l.length c] w fun e w' => ∃ A' c', e = .returned (.slice A' l.length c') ∧ l.length ≤ c' ∧ Vals w' (fun b => w.heap.size ≤ b) A' l ∧ Ext w w' :=
  r4_CopyN (wtL l) l ok A c w (Nat.le_refl _) hm hv
end Go.Proofs.YtbjddimafilflaaGreatDoor

/- THE WALKS over slices.Clone, at each element type; a value slice's cells in one row. -/
namespace Go.Proofs.YtbjddimafilflaaGreatDoor
open Go.RowKit
theorem CopyTo.cons {w : World} {ok : Nat → Prop} {l : List Val} {cs : List (List Value)} (h : CopyTo w ok l cs) (v : Val) {A : Option Addr} {c : Nat} (hc : v.l.length ≤ c) (hv : Vals w ok A v.l) : CopyTo w ok (v :: l) (v.cells A c :: cs) := fun i hi => by
  cases i with
  | zero => exact ⟨by simp, A, c, rfl, hc, hv⟩
  | succ i =>
    obtain ⟨h', A', c', e1, e2, e3⟩ := h i (by simpa using hi)
    exact ⟨by simpa using h', A', c', e1, e2, e3⟩
theorem LCells.flat {w : World} {ok : Nat → Prop} : ∀ {l : List Val} {b o : Nat}, LCells w ok b o l → ∃ cs, cs.length = l.length ∧ CopyTo w ok l cs ∧ ∀ j u, cs.flatten[j]? = some u → w.cell? ⟨b, o + j, none⟩ = some u
  | [], b, o, _ => ⟨[], rfl, CopyTo.nil _ _ _, fun j u h => by simp at h⟩
  | v :: vs, b, o, h => by
    rw [LCells] at h
    obtain ⟨cs, h1, h2, h3⟩ := LCells.flat h.2
    obtain ⟨-, A, c, ⟨c0, c1, c2, c3, c4⟩, hle, hv⟩ := VCells.iff.1 h.1
    refine ⟨v.cells A c :: cs, by simp [h1], h2.cons v hle hv, fun j u hu => ?_⟩
    rw [List.flatten_cons] at hu
    by_cases hj : j < 5
    · rw [List.getElem?_append_left (by simpa [Val.cells] using hj)] at hu
      have hj' : j = 0 ∨ j = 1 ∨ j = 2 ∨ j = 3 ∨ j = 4 := by omega
      rcases hj' with rfl | rfl | rfl | rfl | rfl <;> (simp [Val.cells] at hu; subst hu; assumption)
    · rw [List.getElem?_append_right (by simp [Val.cells]; omega)] at hu
      have := h3 _ u hu
      rw [show o + 5 + (j - (v.cells A c).length) = o + j by simp [Val.cells]; omega] at this
      exact this
theorem Vals.flat {w : World} {ok : Nat → Prop} {A : Option Addr} {l : List Val} (h : Vals w ok A l) : ∃ cs, cs.length = l.length ∧ CopyTo w ok l cs ∧ ∀ ad, A = some ad → ∀ j u, cs.flatten[j]? = some u → w.cell? (ad.add j) = some u := by
  rcases Nat.eq_zero_or_pos l.length with h0 | h0
  · have : l = [] := List.eq_nil_of_length_eq_zero h0
    subst this
    exact ⟨[], rfl, CopyTo.nil _ _ _, fun _ _ j u hu => by simp at hu⟩
  · obtain ⟨b, o, rfl, hc⟩ := h.2 h0
    obtain ⟨cs, h1, h2, h3⟩ := LCells.flat (LCells.iff.2 hc)
    refine ⟨cs, h1, h2, fun ad e j u hu => ?_⟩
    injection e with e
    subst e
    rw [Addr.add_mid]; exact h3 j u hu
theorem flatten_len {cs : List (List Value)} {n : Nat} (h : ∀ x ∈ cs, x.length = n) : cs.flatten.length = cs.length * n := by
  induction cs with
  | nil => simp
  | cons x cs ih => rw [List.flatten_cons, List.length_append, h x (by simp), ih (fun y hy => h y (List.mem_cons_of_mem _ hy)), List.length_cons, Nat.add_mul]; omega
theorem CopyTo.one {w : World} {ok : Nat → Prop} {l : List Val} {cs : List (List Value)} (h : CopyTo w ok l cs) : ∀ u ∈ cs.flatten, u.oneCell' = true := fun u hu => by
  obtain ⟨x, hx, hu⟩ := List.mem_flatten.1 hu
  obtain ⟨i, hi, rfl⟩ := List.getElem_of_mem hx
  obtain ⟨_, A, c, e, _⟩ := h i hi
  rw [e] at hu
  exact Val.cells_one _ _ _ u hu
set_option maxRecDepth 100000 in
theorem c_Clone_val (n : Nat) (A : Option Addr) (c : Nat) (news : List Value) (w : World) (hA : A = none → n = 0) (hl : news.length = n * 5) (hs : ∀ ad, A = some ad → ∀ j u, news[j]? = some u → w.cell? (ad.add j) = some u) (h1 : ∀ u ∈ news, u.oneCell' = true) (hn : n ≤ 8000000) :
    Calls Tryz.prog 76 #[.slice A n c] w fun e w' => ∃ v, e = .returned v ∧ w'.ownsRow w.heap.size 40 5 v n news ∧ Ext w w' := by
  have hq := fun W => Lib.run_eql_slice_nil (P := Tryz.prog) W 36 40 A n c 0 0 Tryz.underlying36
  cases A with
  | none =>
    have h0 := hA rfl
    subst h0
    have HS := Lib.hid (List.eq_nil_of_length_eq_zero (show news.length = 0 by omega))
    clear hA hs hl
    simp only [Option.isNone_none] at hq
    go_enter Tryz.func76, Tryz.ntmps76
    go_wp2
    go_ret
    refine ⟨_, rfl, ?_, Ext.refl _⟩
    rw [HS.out]
    exact World.ownsRow_nil _ _ _ _
  | some ad =>
    have HF := Lib.hid (hs ad rfl)
    have HL := Lib.hid hl
    clear hs hA hl
    simp only [Option.isNone_some] at hq
    go_enter Tryz.func76, Tryz.ntmps76
    go_wp2_with (at_builtin; refine own_append T_val rfl (.tmp 5) (.tmp 6) rfl w _ 0 [] rfl (World.ownsRow_made w #[] 0 (Nat.le_refl _) (by unfold maxLen; omega) rfl) ((Ext.refl _).alloc _) ad n c news rfl HL.out (fun j u hu => ((Ext.refl w).alloc _).cell (HF.out j u hu)) h1 (by omega) (by decide) ?_; intro v' w' hown' hE')
    go_wp2_with fail
    go_ret
    exact ⟨v', rfl, by rw [Nat.zero_add, List.nil_append] at hown'; exact hown', hE'⟩
theorem T_row : ElT Tryz.prog 23 37 1 24 :=
  ⟨Tryz.underlying23, ⟨.slice none 0 0, by kernel_rfl, rfl⟩, by decide⟩
set_option maxRecDepth 100000 in
theorem c_Clone_row (n : Nat) (A : Option Addr) (c : Nat) (news : List Value) (w : World) (hA : A = none → n = 0) (hl : news.length = n * 1) (hs : ∀ ad, A = some ad → ∀ j u, news[j]? = some u → w.cell? (ad.add j) = some u) (h1 : ∀ u ∈ news, u.oneCell' = true) (hn : n ≤ 8000000) :
    Calls Tryz.prog 79 #[.slice A n c] w fun e w' => ∃ v, e = .returned v ∧ w'.ownsRow w.heap.size 37 1 v n news ∧ Ext w w' := by
  have hq := fun W => Lib.run_eql_slice_nil (P := Tryz.prog) W 23 37 A n c 0 0 Tryz.underlying23
  cases A with
  | none =>
    have h0 := hA rfl
    subst h0
    have HS := Lib.hid (List.eq_nil_of_length_eq_zero (show news.length = 0 by omega))
    clear hA hs hl
    simp only [Option.isNone_none] at hq
    go_enter Tryz.func79, Tryz.ntmps79
    go_wp2
    go_ret
    refine ⟨_, rfl, ?_, Ext.refl _⟩
    rw [HS.out]
    exact World.ownsRow_nil _ _ _ _
  | some ad =>
    have HF := Lib.hid (hs ad rfl)
    have HL := Lib.hid hl
    clear hs hA hl
    simp only [Option.isNone_some] at hq
    go_enter Tryz.func79, Tryz.ntmps79
    go_wp2_with (at_builtin; refine own_append T_row rfl (.tmp 5) (.tmp 6) rfl w _ 0 [] rfl (World.ownsRow_made w #[] 0 (Nat.le_refl _) (by unfold maxLen; omega) rfl) ((Ext.refl _).alloc _) ad n c news rfl HL.out (fun j u hu => ((Ext.refl w).alloc _).cell (HF.out j u hu)) h1 (by omega) (by decide) ?_; intro v' w' hown' hE')
    go_wp2_with fail
    go_ret
    exact ⟨v', rfl, by rw [Nat.zero_add, List.nil_append] at hown'; exact hown', hE'⟩
theorem T_str : ElT Tryz.prog 22 9 1 16 :=
  ⟨Tryz.underlying22, ⟨.string ⟨#[]⟩, by kernel_rfl, rfl⟩, by decide⟩
set_option maxRecDepth 100000 in
theorem c_Clone_str (n : Nat) (A : Option Addr) (c : Nat) (news : List Value) (w : World) (hA : A = none → n = 0) (hl : news.length = n * 1) (hs : ∀ ad, A = some ad → ∀ j u, news[j]? = some u → w.cell? (ad.add j) = some u) (h1 : ∀ u ∈ news, u.oneCell' = true) (hn : n ≤ 8000000) :
    Calls Tryz.prog 52 #[.slice A n c] w fun e w' => ∃ v, e = .returned v ∧ w'.ownsRow w.heap.size 9 1 v n news ∧ Ext w w' := by
  have hq := fun W => Lib.run_eql_slice_nil (P := Tryz.prog) W 22 9 A n c 0 0 Tryz.underlying22
  cases A with
  | none =>
    have h0 := hA rfl
    subst h0
    have HS := Lib.hid (List.eq_nil_of_length_eq_zero (show news.length = 0 by omega))
    clear hA hs hl
    simp only [Option.isNone_none] at hq
    go_enter Tryz.func52, Tryz.ntmps52
    go_wp2
    go_ret
    refine ⟨_, rfl, ?_, Ext.refl _⟩
    rw [HS.out]
    exact World.ownsRow_nil _ _ _ _
  | some ad =>
    have HF := Lib.hid (hs ad rfl)
    have HL := Lib.hid hl
    clear hs hA hl
    simp only [Option.isNone_some] at hq
    go_enter Tryz.func52, Tryz.ntmps52
    go_wp2_with (at_builtin; refine own_append T_str rfl (.tmp 5) (.tmp 6) rfl w _ 0 [] rfl (World.ownsRow_made w #[] 0 (Nat.le_refl _) (by unfold maxLen; omega) rfl) ((Ext.refl _).alloc _) ad n c news rfl HL.out (fun j u hu => ((Ext.refl w).alloc _).cell (HF.out j u hu)) h1 (by omega) (by decide) ?_; intro v' w' hown' hE')
    go_wp2_with fail
    go_ret
    exact ⟨v', rfl, by rw [Nat.zero_add, List.nil_append] at hown'; exact hown', hE'⟩
end Go.Proofs.YtbjddimafilflaaGreatDoor

/- THE WALK over value.copied. -/
namespace Go.Proofs.YtbjddimafilflaaGreatDoor
open Go.RowKit
theorem flatten_get {cs : List (List Value)} {n : Nat} (hs : ∀ x ∈ cs, x.length = n) (k j : Nat) (hk : k < cs.length) (hj : j < n) : cs.flatten[k * n + j]? = (cs[k])[j]? := by
  induction cs generalizing k with
  | nil => exact absurd hk (by simp)
  | cons x cs ih =>
    have hx : x.length = n := hs x (by simp)
    cases k with
    | zero => simp only [List.flatten_cons, List.getElem_cons_zero, Nat.zero_mul, Nat.zero_add]; rw [List.getElem?_append_left (by omega)]
    | succ k =>
      simp only [List.flatten_cons, List.getElem_cons_succ]
      rw [List.getElem?_append_right (by rw [hx, Nat.add_mul]; omega), hx, show (k + 1) * n + j - n = k * n + j by rw [Nat.add_mul]; omega]
      exact ih (fun y hy => hs y (List.mem_cons_of_mem _ hy)) k (by simpa using hk)
theorem flatten_set {cs : List (List Value)} {n : Nat} (hs : ∀ x ∈ cs, x.length = n) (k j : Nat) (u : Value) (hk : k < cs.length) (hj : j < n) : cs.flatten.set (k * n + j) u = (cs.set k ((cs[k]).set j u)).flatten := by
  induction cs generalizing k with
  | nil => exact absurd hk (by simp)
  | cons x cs ih =>
    have hx : x.length = n := hs x (by simp)
    cases k with
    | zero =>
      simp only [List.flatten_cons, List.getElem_cons_zero, Nat.zero_mul, Nat.zero_add, List.set_cons_zero]
      rw [List.set_append_left _ _ (by omega)]
    | succ k =>
      simp only [List.flatten_cons, List.getElem_cons_succ, List.set_cons_succ]
      rw [List.set_append_right _ _ (by rw [hx, Nat.add_mul]; omega), hx, show (k + 1) * n + j - n = k * n + j by rw [Nat.add_mul]; omega]
      rw [ih (fun y hy => hs y (List.mem_cons_of_mem _ hy)) k (by simpa using hk)]
/-- a row of cells whose first k elements bear copied lists -/
def MixTo (w : World) (ok ok' : Nat → Prop) (k : Nat) (l : List Val) (cs : List (List Value)) : Prop :=
  ∀ i (h : i < cs.length), ∃ (h' : i < l.length) (A : Option Addr) (c : Nat), cs[i] = (l[i]).cells A c ∧ (l[i]).l.length ≤ c ∧ (i < k → Vals w ok' A (l[i]).l) ∧ (k ≤ i → Vals w ok A (l[i]).l)
theorem MixTo.start {w : World} {ok ok' : Nat → Prop} {l : List Val} {cs : List (List Value)} (h : CopyTo w ok l cs) : MixTo w ok ok' 0 l cs := fun i hi => by
  obtain ⟨h', A, c, e1, e2, e3⟩ := h i hi
  exact ⟨h', A, c, e1, e2, fun h => absurd h (by omega), fun _ => e3⟩
theorem MixTo.done {w : World} {ok ok' : Nat → Prop} {l : List Val} {cs : List (List Value)} (h : MixTo w ok ok' cs.length l cs) : CopyTo w ok' l cs := fun i hi => by
  obtain ⟨h', A, c, e1, e2, e3, _⟩ := h i hi
  exact ⟨h', A, c, e1, e2, e3 hi⟩
theorem MixTo.size {w : World} {ok ok' : Nat → Prop} {k : Nat} {l : List Val} {cs : List (List Value)} (h : MixTo w ok ok' k l cs) : ∀ x ∈ cs, x.length = 5 := fun x hx => by
  obtain ⟨i, hi, rfl⟩ := List.getElem_of_mem hx
  obtain ⟨_, A, c, e, _⟩ := h i hi
  rw [e]; rfl
theorem MixTo.keep {w w' : World} {ok ok' : Nat → Prop} {k : Nat} {l : List Val} {cs : List (List Value)} (h : MixTo w ok ok' k l cs) (hk : ∀ b o x, ok b → w.cell? ⟨b, o, none⟩ = some x → w'.cell? ⟨b, o, none⟩ = some x) (hk' : ∀ b o x, ok' b → w.cell? ⟨b, o, none⟩ = some x → w'.cell? ⟨b, o, none⟩ = some x) : MixTo w' ok ok' k l cs := fun i hi => by
  obtain ⟨h', A, c, e1, e2, e3, e4⟩ := h i hi
  exact ⟨h', A, c, e1, e2, fun q => (e3 q).keep hk' (fun _ h => h), fun q => (e4 q).keep hk (fun _ h => h)⟩
theorem cells_set (v : Val) (A A' : Option Addr) (c c' : Nat) : (v.cells A c).set 4 (.slice A' v.l.length c') = v.cells A' c' := rfl
theorem MixTo.step {w : World} {ok ok' : Nat → Prop} {k : Nat} {l : List Val} {cs : List (List Value)} (h : MixTo w ok ok' k l cs) (hk : k < cs.length) (hl : k < l.length) {A' : Option Addr} {c' : Nat} (hc : (l[k]).l.length ≤ c') (hv : Vals w ok' A' (l[k]).l) : MixTo w ok ok' (k + 1) l (cs.set k ((l[k]).cells A' c')) := fun i hi => by
  have hi' : i < cs.length := by simpa using hi
  by_cases e : i = k
  · subst e
    exact ⟨hl, A', c', by simp, hc, fun _ => hv, fun h => absurd h (by omega)⟩
  · obtain ⟨h', A, c, e1, e2, e3, e4⟩ := h i hi'
    exact ⟨h', A, c, by rw [List.getElem_set_ne (Ne.symm e)]; exact e1, e2, fun q => e3 (by omega), fun q => e4 (by omega)⟩
set_option maxRecDepth 100000 in
set_option maxHeartbeats 6400000 in
theorem v_copiedStep (l : List Val) (ok : Nat → Prop) (A : Option Addr) (c : Nat) (w : World) (hv : Vals w ok A l) (hl : l.length ≤ 8000000)
    (ih : ∀ x ∈ l, ∀ (ok : Nat → Prop) (Ax : Option Addr) (cx : Nat) (W : World), Vals W ok Ax x.l → Calls Tryz.prog 64 #[.slice Ax x.l.length cx] W fun e W' => ∃ A' c', e = .returned (.slice A' x.l.length c') ∧ x.l.length ≤ c' ∧ Vals W' (fun b => W.heap.size ≤ b) A' x.l ∧ Ext W W') :
    Calls Tryz.prog 64 #[.slice A l.length c] w fun e w' => ∃ A' c', e = .returned (.slice A' l.length c') ∧ l.length ≤ c' ∧ Vals w' (fun b => w.heap.size ≤ b) A' l ∧ Ext w w' := by
  have hm := hv.len
  obtain ⟨cs0, hcl0, hct0, hsrc⟩ := hv.flat
  have HCL := Lib.hid (c_Clone_val l.length A c cs0.flatten w hv.none_ (by rw [flatten_len hct0.size, hcl0]) hsrc hct0.one hl)
  have HI := Lib.hid ih
  have HC0 := Lib.hid (hct0.keep' (w' := w) (ok' := fun b => b < w.heap.size) (fun b o x _ hc => ⟨hc, block_lt_of_cell hc⟩))
  have HL0 := Lib.hid hcl0
  clear hv ih hct0 hsrc hcl0
  go_enter Tryz.func64, Tryz.ntmps64
  go_wp2_with fail
  refine (HCL.out).mono ?_
  rintro e w1 ⟨v, rfl, hown, hE1⟩
  obtain ⟨A1, c1, rfl⟩ := own_form hown
  clear HCL
  go_wp2
  go_loopw [9] (fun u W => ∃ (k : Nat) (cs : List (List Value)), u = .int .i64 k ∧ k ≤ l.length ∧ W.ownsRow w.heap.size 40 5 (.slice A1 l.length c1) l.length cs.flatten ∧ Hid (cs.length = l.length) ∧ Hid (MixTo W (fun b => b < w.heap.size) (okB w.heap.size (.slice A1 l.length c1)) k l cs) ∧ Ext w W) (fun u _ => l.length - (intOf u).toNat)
  case atStart => exact ⟨0, cs0, rfl, Nat.zero_le _, hown, HL0, Lib.hid (MixTo.start (HC0.out.ext hE1)), hE1⟩
  case round =>
    clear hown
    obtain ⟨k, cs, rfl, hk, hown, hcl, hct, hE⟩ := hrel
    by_cases hlt : k < l.length
    · obtain ⟨g, cap, hvv, hgb, hgl⟩ := World.ownsRow.form hown (by omega)
      injection hvv with hv1 hv2 hv3
      subst hv1 hv3
      have hkc : k < cs.length := by rw [hcl.out]; exact hlt
      obtain ⟨h', Ak, ck, ek, hle, -, hko⟩ := hct.out k hkc
      have p4 : wr.cell? ⟨g, k * 5 + 4, none⟩ = some (.slice Ak (l[k]).l.length ck) := by
        rw [hown.cellAt _ (by omega), flatten_get hct.out.size k 4 hkc (by omega), ek]; rfl
      have HC := Lib.hid (HI.out l[k] (List.getElem_mem hlt) _ Ak ck wr (hko (Nat.le_refl _)))
      have HP := Lib.hid (fun (W : World) (h : MixTo W (fun b => b < w.heap.size) (okB w.heap.size (.slice (some ⟨g, 0, none⟩) l.length c1)) k l cs) A2 c2 (h1 : (l[k]).l.length ≤ c2) (h2 : Vals W (okB w.heap.size (.slice (some ⟨g, 0, none⟩) l.length c1)) A2 (l[k]).l) => h.step hkc hlt h1 h2)
      have HQ := Lib.hid (fun A2 c2 => (by rw [flatten_set hct.out.size k 4 _ hkc (by omega), ek, cells_set] : cs.flatten.set (k * 5 + 4) (.slice A2 (l[k]).l.length c2) = (cs.set k ((l[k]).cells A2 c2)).flatten))
      have HLS := Lib.hid (fun (y : List Value) => (by rw [List.length_set]; exact hcl.out : (cs.set k y).length = l.length))
      have hle2 := hE.le
      clear ek hle hko hkc hv2
      generalize l[k] = x at *
      go_wp2_with fail
      refine (HC.out).mono ?_
      rintro e w6 ⟨A2, c2, rfl, hl2, hV2, h6⟩
      have own6 := own_ext hown h6
      have hfr := own6.frozenAt (k * 5 + 4)
      have q4 := h6.cell p4
      obtain ⟨hownS, hgr⟩ := own6.stored (k * 5 + 4) (.slice A2 x.l.length c2)
      rw [HQ.out] at hownS
      have hcell : ∀ b o y, b ≠ g → w6.cell? ⟨b, o, none⟩ = some y → (w6.setCell ⟨g, k * 5 + 4, none⟩ (.slice A2 x.l.length c2)).cell? ⟨b, o, none⟩ = some y := fun b o y hb hc => by
        rw [World.cell?_setCell_other _ _ _ _ (fun e => hb (by injection e with e1; exact e1.symm))]; exact hc
      have HN := Lib.hid (HP.out (w6.setCell ⟨g, k * 5 + 4, none⟩ (.slice A2 x.l.length c2)) ((hct.out.keep (fun _ _ _ _ hc => h6.cell hc) (fun _ _ _ _ hc => h6.cell hc)).keep (fun b o y hb hc => hcell b o y (Nat.ne_of_lt (Nat.lt_of_lt_of_le hb hgb)) hc) (fun b o y hb hc => hcell b o y (fun e => hb.2 (by rw [e]; rfl)) hc)) A2 c2 hl2 (hV2.keep (fun b o y hb hc => hcell b o y (Nat.ne_of_gt (Nat.lt_of_lt_of_le hgl hb)) hc) (fun b hb => ⟨Nat.le_trans hle2 hb, fun e => Nat.ne_of_gt (Nat.lt_of_lt_of_le hgl hb) (by injection e)⟩)))
      have hES : Ext w (w6.setCell ⟨g, k * 5 + 4, none⟩ (.slice A2 x.l.length c2)) := (hE.trans h6).setCell hgb _
      obtain ⟨wS, hwS⟩ : ∃ wS, wS = w6.setCell ⟨g, k * 5 + 4, none⟩ (.slice A2 x.l.length c2) := ⟨_, rfl⟩
      rw [← hwS] at hownS HN hES
      have HWS := Lib.hid hwS
      clear hwS hV2 hcell hgr own6 HC HP HQ p4 hct
      go_upto_region 6 with (fail)
      rw [← HWS.out]
      clear HWS q4 hfr
      go_wp2_with fail
      go_roundw
      case rel => exact ⟨k + 1, cs.set k (x.cells A2 c2), by go_num, by omega, hownS, Lib.hid (HLS.out _), HN, hES⟩
      case measure => simp [intOf]; omega
    · have hk' : k = l.length := by omega
      have HD := Lib.hid ((show CopyTo wr (okB w.heap.size (.slice A1 l.length c1)) l cs from MixTo.done (by rw [show cs.length = k from hcl.out.trans hk'.symm]; exact hct.out)).done hown hcl.out hm (fun b hb => hb.1))
      go_wp2
      obtain ⟨A9, c9, e9, h9, hV9⟩ := HD.out
      injection e9 with e1 e2 e3
      subst e1 e3
      go_ret
      exact ⟨_, _, rfl, h9, hV9, hE⟩
theorem v_copiedN : ∀ (N : Nat) (l : List Val) (ok : Nat → Prop) (A : Option Addr) (c : Nat) (w : World), wtL l ≤ N → wtL l ≤ 8000000 → Vals w ok A l →
    Calls Tryz.prog 64 #[.slice A l.length c] w fun e w' => ∃ A' c', e = .returned (.slice A' l.length c') ∧ l.length ≤ c' ∧ Vals w' (fun b => w.heap.size ≤ b) A' l ∧ Ext w w'
  | 0, l, ok, A, c, w, hN, hm, hv => v_copiedStep l ok A c w hv (Nat.le_trans (wtL_len l) hm) (fun x hx => by have := wtL_kids hx; omega)
  | N + 1, l, ok, A, c, w, hN, hm, hv => v_copiedStep l ok A c w hv (Nat.le_trans (wtL_len l) hm) (fun x hx ok' Ax cx W hx' => by
    have := wtL_kids hx
    exact v_copiedN N x.l ok' Ax cx W (by omega) (by omega) hx')
theorem v_copied (l : List Val) (ok : Nat → Prop) (A : Option Addr) (c : Nat) (w : World) (hm : wtL l ≤ 8000000) (hv : Vals w ok A l) :
    Calls Tryz.prog 64 #[.slice A l.length c] w fun e w' => ∃ A' c', e = .returned (.slice A' l.length c') ∧ l.length ≤ c' ∧ Vals w' (fun b => w.heap.size ≤ b) A' l ∧ Ext w w' :=
  v_copiedN (wtL l) l ok A c w (Nat.le_refl _) hm hv
end Go.Proofs.YtbjddimafilflaaGreatDoor

/- ROWS THAT ARE SORTED: the elements are heads of rows of values. -/
namespace Go.Proofs.YtbjddimafilflaaGreatDoor
open Go.RowKit Go.Sort
/-- a head and the values that lie behind it in w, in good blocks -/
def GoodRow (w : World) (ok : Nat → Prop) (p : HeadS × List Val) : Prop := p.1.n = p.2.length ∧ p.2.length ≤ p.1.c ∧ Vals w ok p.1.A p.2
theorem GoodRow.keep {w w' : World} {ok ok' : Nat → Prop} {p : HeadS × List Val} (h : GoodRow w ok p) (hk : ∀ b o x, ok b → w.cell? ⟨b, o, none⟩ = some x → w'.cell? ⟨b, o, none⟩ = some x) (ho : ∀ b, ok b → ok' b) : GoodRow w' ok' p := ⟨h.1, h.2.1, h.2.2.keep hk ho⟩
abbrev RowE (w : World) (ok : Nat → Prop) := {p : HeadS × List Val // GoodRow w ok p}
instance (w : World) (ok : Nat → Prop) : Inhabited (RowE w ok) := ⟨⟨(⟨none, 0, 0⟩, []), rfl, Nat.le_refl _, SliceR.nil _ _ _⟩⟩
section
variable {w : World} {ok : Nat → Prop}
def hdE (x : RowE w ok) : HeadS := x.1.1
def rowE (x : RowE w ok) : List Val := x.1.2
/-- the order of the elements from an order of rows -/
def cfE (k : List Val → List Val → Int) (x y : RowE w ok) : Int := k (rowE x) (rowE y)
theorem encE (x : RowE w ok) : encS hdE x = .slice (hdE x).A (rowE x).length (hdE x).c := by
  obtain ⟨⟨p, l⟩, h1, h2⟩ := x
  show Value.slice p.A p.n p.c = .slice p.A l.length p.c
  rw [show p.n = l.length from h1]
theorem goodE (x : RowE w ok) : (rowE x).length ≤ (hdE x).c ∧ Vals w ok (hdE x).A (rowE x) := x.2.2
end
theorem Vals.grown {w w' : World} {g : Nat} {ok : Nat → Prop} {A : Option Addr} {l : List Val} (h : Vals w ok A l) (hg : w.grownBy w' (some g)) (hne : ∀ b, ok b → b ≠ g) : Vals w' ok A l :=
  h.keep (fun _ _ _ hb hc => hg.cell hc (fun e => hne _ hb (Option.some.inj e))) (fun _ h => h)
theorem run_enter {P : Program} {f : FuncId} {fn : Func} {c : Code} (hf : P.funcs[f]? = some fn) (hname : (fn.name == "runtime.NumGoroutine") = false) (hb : fn.body = some c) (args : Array Value) (w : World) : (callFunc f args).run P w = .ok (.enter f args) w := by
  have h1 : fn.name ≠ "runtime.NumGoroutine" := by simpa using hname
  simp [callFunc, hf, h1, hb]
theorem permIn_whole {α : Type} [Inhabited α] {d d' : Array α} (h : PermIn 0 d.size d d') : d'.toList.Perm d.toList := by
  have h1 := h.2.2
  have h2 : d'.extract 0 d.size = d' := by rw [← h.1]; exact Array.extract_size
  rw [h2, Array.extract_size] at h1
  exact h1
theorem sorted_rise {w : World} {ok : Nat → Prop} {k : List Val → List Val → Int} {d : Array (RowE w ok)} (h : SortedIn (ltC (cfE k)) 0 d.size d) (hk : ∀ x y, k y x = - k x y) : (d.toList.map rowE).Pairwise (fun x y => k x y ≤ 0) := by
  rw [List.pairwise_map]
  rw [List.pairwise_iff_getElem]
  intro i j hi hj hij
  rw [Array.length_toList] at hi hj
  have := h i j (Nat.zero_le _) hij hj
  rw [getElem!_pos d i hi, getElem!_pos d j hj] at this
  unfold ltC cfE at this
  have h1 := of_decide_eq_false this
  rw [Array.getElem_toList, Array.getElem_toList]
  have h2 := hk (rowE d[i]) (rowE d[j])
  omega
theorem swo_of {α : Type} {k : α → α → Int} (ha : ∀ x y, k y x = - k x y) (ht : ∀ x y z, k x y ≤ 0 → k y z ≤ 0 → k x z ≤ 0) : SWO (ltC k) := by
  have hlt : ∀ {x y}, ltC k x y = true ↔ k x y < 0 := fun {x y} => by unfold ltC; exact decide_eq_true_iff
  have hle : ∀ {x y}, ltC k x y = false ↔ k y x ≤ 0 := fun {x y} => by
    unfold ltC; rw [decide_eq_false_iff_not]; have := ha x y; omega
  refine ⟨fun x => ?_, fun x y z h1 h2 => ?_, fun x y z h1 h2 => ?_⟩
  · rw [hle]; have := ha x x; omega
  · rw [hlt] at *
    have := ht x y z (by omega) (by omega)
    have h5 := ha x z
    by_cases h6 : k x z = 0
    · have h7 := ht z x y (by omega) (by omega)
      have h8 := ha y z
      omega
    · omega
  · rw [hle] at *
    exact ht z y x h2 h1
/-- behind the sort: rows in memory -/
theorem SortW.rows {w W : World} {B g cap : Nat} {ok ok' : Nat → Prop} {d : Array (RowE w ok)} (h : SortW w B g cap 37 (encS hdE) d W) (hne : ∀ b, ok b → b ≠ g) (hok : ∀ b, ok b → ok' b) (hg : ok' g) (hm : d.size ≤ 140737488355328) :
    Rows W ok' (some ⟨g, 0, none⟩) (d.toList.map rowE) := by
  refine ⟨by rw [List.length_map, Array.length_toList]; exact hm, fun _ => ⟨g, 0, rfl, fun k hk => ?_⟩⟩
  rw [List.length_map, Array.length_toList] at hk
  have hc := h.cell hk
  rw [getElem!_pos d k hk, encE] at hc
  rw [List.getElem_map, Array.getElem_toList]
  refine ⟨hg, (hdE d[k]).A, (hdE d[k]).c, ?_, (goodE d[k]).1, ((goodE d[k]).2.grown h.gr hne).to hok⟩
  rw [Nat.zero_add, Nat.mul_one]
  exact hc
/-- heads and their rows, as elements -/
theorem elems_of {w : World} {ok : Nat → Prop} (l : List (HeadS × List Val)) (h : ∀ p ∈ l, GoodRow w ok p) : ∃ d : Array (RowE w ok), d.toList.map rowE = l.map Prod.snd ∧ d.toList.map (encS hdE) = l.map (encS Prod.fst) ∧ d.size = l.length := by
  refine ⟨(l.attach.map (fun p => (⟨p.1, h p.1 p.2⟩ : RowE w ok))).toArray, ?_, ?_, by simp⟩
  · show (l.attach.map _).map _ = _
    rw [List.map_map]
    exact (List.attach_map_val (l := l) (f := fun p => p.2) : _)
  · show (l.attach.map _).map _ = _
    rw [List.map_map]
    exact (List.attach_map_val (l := l) (f := fun p => encS Prod.fst p) : _)
end Go.Proofs.YtbjddimafilflaaGreatDoor
