/- PARTS OF THE WALKS, joined: El, Gc, Gd, Ge, LaidG, Gf. -/
import Derived.Test.YtlkpmbkmmfoakaaDoorV05
import Derived.Laws.BitsAllLaws
import Derived.Test.YtlkpmbkmmfoakaaDoorV04
/- ROWS OF STRINGS AND OF NUMBERS that a call owns. -/
namespace Go.Proofs.YtlkpmbkmmfoakaaDoor
open Go.RowKit
theorem El_str : ElT Tryd.prog 35 9 1 16 := ⟨Tryd.underlying35, ⟨.string ByteArray.empty, by kernel_rfl, rfl⟩, by decide⟩
theorem El_int : ElT Tryd.prog 28 3 1 8 := ⟨Tryd.underlying28, ⟨.int .i64 0, by kernel_rfl, rfl⟩, by decide⟩
/-- as own_push, where the walk writes the new block's number in its own way -/
theorem own_pushH {P : Program} {t e size bytes : Nat} (T : ElT P t e size bytes) {ops : Array Oper} {rest : List Oper} {o : Oper} {a : Act} {Q : Exit → Act → World → Prop} {w : World} (hgd : o.guard = none) (s x : Operand)
    (ho : o.op = .call { callee := .builtin .append, args := #[s, x], argTypes := #[t, t] }) (wb w0 : World) (v : Value) (n : Nat) (xs news : List Value) (hs : a.eval s = v) (hown : w0.ownsRow wb.heap.size e size v n xs) (hE : Ext wb w0)
    (hw : w = w0.alloc (.cells news.toArray e)) (H : Nat) (hH : w0.heap.size = H) (hx : a.eval x = .slice (some ⟨H, 0, none⟩) 1 1) (hl : news.length = size) (h1 : ∀ u ∈ news, u.oneCell' = true)
    (h63 : n + 1 ≤ 8388608) (hbytes : bytes ≤ 1000000)
    (h : ∀ v' w', w'.ownsRow wb.heap.size e size v' (n + 1) (xs ++ news) → Ext wb w' → FarBut w0 w' v v' → wpList P ops Q rest (a.put o.dst v') w') : wpList P ops Q (o :: rest) a w := by
  subst hH
  exact own_pushF T hgd s x ho wb w0 v n xs news hs hown hE hw hx hl h1 h63 hbytes h
/-- one element appended to a row of the call's own: the run -/
theorem run_pushK {P : Program} {t e size bytes : Nat} (T : ElT P t e size bytes) (ty : TypeId) {w : World} (base : Nat) (w0 : World) (v : Value) (n : Nat) (xs news : List Value) (hown : w0.ownsRow base e size v n xs) (hb : base ≤ w0.heap.size)
    (hw : w = w0.alloc (.cells news.toArray e)) (hl : news.length = size) (h1 : ∀ u ∈ news, u.oneCell' = true) (h63 : n + 1 ≤ 8388608) (hbytes : bytes ≤ 1000000) :
    ∃ v' w', (Builtin.append_ #[t, t] ty #[v, .slice (some ⟨w0.heap.size, 0, none⟩) 1 1]).run P w = .ok v' w' ∧ w'.ownsRow base e size v' (n + 1) (xs ++ news) ∧ w0.grownBy w' v.ownBlock ∧ (v'.ownBlock = v.ownBlock ∨ v'.ownBlock = some (w0.heap.size + 1)) := by
  obtain ⟨z, hz, hzc⟩ := T.hi
  obtain ⟨i, hi, hz0, hz1, hz2⟩ := info_parts hz
  subst hw
  obtain ⟨v', w', hr, k2, k3, -, k5⟩ := run_append_own_at (P := P) (w0.alloc (.cells news.toArray e)) base t ty e i z size bytes T.ht hi hz0 hz1 hz2 hzc T.hs v n xs (hown.alloc _) ⟨w0.heap.size, 0, none⟩ 1 1 news (by omega) (fun j u hj => by
    rw [Addr.add_mid, cell_of_row _ _ _ _ _ _ (heap_alloc_new w0 _)]
    simpa using hj) h1 (by unfold maxLen; omega) (Nat.le_trans (Nat.mul_le_mul h63 hbytes) (by decide)) (Nat.le_trans hb (by simp))
  refine ⟨v', w', hr, k2, ⟨k3.os, k3.tape, k3.output, Nat.le_trans (by simp) k3.size, fun b hb hne => (k3.block b (by simp; omega) hne).trans (((Ext.refl w0).alloc _).block b hb)⟩, ?_⟩
  rcases k5 with h | h
  · exact .inl h
  · exact .inr (by rw [h]; simp)
/-- .. at a step of a drawn region -/
theorem step_pushK {P : Program} {t e size bytes : Nat} (T : ElT P t e size bytes) {ops : Array Oper} {o : Oper} {a : Act} {w : World} {K : Act → World → Prop} {Q : Exit → Act → World → Prop} {E : Prop} (hg : o.guard = none) (s x : Operand)
    (ho : o.op = .call { callee := .builtin .append, args := #[s, x], argTypes := #[t, t] }) (base : Nat) (w0 : World) (v : Value) (n : Nat) (xs news : List Value) (hs : a.eval s = v) (hown : w0.ownsRow base e size v n xs) (hb : base ≤ w0.heap.size)
    (hw : w = w0.alloc (.cells news.toArray e)) (H : Nat) (hH : w0.heap.size = H) (hx : a.eval x = .slice (some ⟨H, 0, none⟩) 1 1) (hl : news.length = size) (h1 : ∀ u ∈ news, u.oneCell' = true) (h63 : n + 1 ≤ 8388608) (hbytes : bytes ≤ 1000000)
    (hK : ∀ v' w', w'.ownsRow base e size v' (n + 1) (xs ++ news) → w0.grownBy w' v.ownBlock → K (a.put o.dst v') w') : if Region.wanted o (yielded ops a.tmps) = true then Oper.wp P o a w K Q else E := by
  subst hH
  obtain ⟨v', w', hr, h2, h3, -⟩ := run_pushK T o.type base w0 v n xs news hown hb hw hl h1 h63 hbytes
  exact step_append_run' hg s x _ _ ho v _ hs hx hr (hK v' w' h2 h3)
theorem flat1 {α : Type} (f : α → Value) : ∀ l : List α, (l.map (fun x => [f x])).flatten = l.map f
  | [] => rfl
  | x :: l => by rw [List.map_cons, List.flatten_cons, flat1 f l]; rfl
theorem strs_of_own {w : World} {base e : Nat} {v : Value} {n : Nat} {l : List ByteArray} (h : w.ownsRow base e 1 v n (l.map Value.string)) (hn : n = l.length) (hm : l.length ≤ 140737488355328) : ∃ A c, v = .slice A l.length c ∧ l.length ≤ c ∧ Strs w (fun b => base ≤ b) A l :=
  own_sliceR (cs := l.map (fun x => [Value.string x])) (by rw [flat1]; exact h) hn (by simp) (by simp) hm (fun g hg _ k hk h' hu => ⟨hg, by have := hu 0 (.string l[k]) (by simp); simpa using this⟩)
theorem nums_of_own {w : World} {base e : Nat} {v : Value} {n : Nat} {l : List Int} (h : w.ownsRow base e 1 v n (l.map (Value.int .i64))) (hn : n = l.length) (hm : l.length ≤ 140737488355328) : ∃ A c, v = .slice A l.length c ∧ l.length ≤ c ∧ Nums w (fun b => base ≤ b) A l :=
  own_sliceR (cs := l.map (fun x => [Value.int .i64 x])) (by rw [flat1]; exact h) hn (by simp) (by simp) hm (fun g hg _ k hk h' hu => ⟨hg, by have := hu 0 (.int .i64 l[k]) (by simp); simpa using this⟩)
end Go.Proofs.YtlkpmbkmmfoakaaDoor

/- THE WALKS over the keys of properties and over what is wrong with labels and properties. -/
namespace Go.Proofs.YtlkpmbkmmfoakaaDoor
open Go.RowKit
theorem keysP_snoc (l : List PropG) (k : Nat) (h : k < l.length) : (keysP (l.take (k + 1))).map Value.string = (keysP (l.take k)).map Value.string ++ [.string l[k].key] := by
  unfold keysP
  rw [List.take_succ_eq_append_getElem h, List.map_append, List.map_append]; rfl
theorem keysP_len (l : List PropG) : (keysP l).length = l.length := by unfold keysP; rw [List.length_map]
theorem all_prop {l : List PropG} (h : ∀ i (hi : i < l.length), plainV l[i].v = true) : l.all (fun p => plainV p.v) = true := List.all_eq_true.2 (fun x hx => by obtain ⟨i, hi, rfl⟩ := List.getElem_of_mem hx; exact h i hi)
theorem all_prop_no {l : List PropG} (i : Nat) (hi : i < l.length) (h : plainV l[i].v = false) : l.all (fun p => plainV p.v) = false := List.all_eq_false.2 ⟨l[i], List.getElem_mem hi, by rw [h]; exact Bool.false_ne_true⟩
theorem partsE_of {L : List ByteArray} {P : List PropG} (h1 : L.length ≤ 8) (h2 : P.length ≤ 16) : partsE L P = if L.all nameB && (keysP P).all nameB then (if risesB L && risesB (keysP P) then (if P.all (fun p => plainV p.v) then 0 else 8) else 26) else 6 := by
  unfold partsE; rw [if_neg (by omega)]
set_option maxRecDepth 100000 in
set_option maxHeartbeats 1600000 in
theorem gr_parts (L : List ByteArray) (P : List PropG) (ok ok' : Nat → Prop) (A B : Option Addr) (c d : Nat) (w : World) (hv : Strs w ok A L) (hp : Props w ok' B P) :
    Calls Tryd.prog 58 #[.slice A L.length c, .slice B P.length d] w fun e w' => e = .returned (.int .i64 (partsE L P)) ∧ Ext w w' := by
  have hm := hv.len
  have hm2 := hp.len
  by_cases h8 : L.length ≤ 8
  · by_cases h16 : P.length ≤ 16
    · have HP := Lib.hid hp
      have HR := Lib.hid (partsE_of h8 h16)
      have HN1 := Lib.hid (fun W (e : Ext w W) => s_ContainsFS L ok A c W (hv.ext e))
      have HN2 := Lib.hid (fun W A' c' (h : Strs W (fun b => w.heap.size ≤ b) A' (keysP P)) => s_ContainsFS (keysP P) _ A' c' W h)
      have HI1 := Lib.hid (fun W (e : Ext w W) => gr_increasing L ok A c W (hv.ext e))
      have HI2 := Lib.hid (fun W A' c' (h : Strs W (fun b => w.heap.size ≤ b) A' (keysP P)) => gr_increasing (keysP P) _ A' c' W h)
      have HY := Lib.hid (all_prop (l := P))
      have HB := Lib.hid (all_prop_no (l := P))
      have HQ := Lib.hid (fun k (hk : k < P.length) (A' : Option Addr) c' W (h : Vals W ok' A' P[k].v.l) => v_Plain P[k].v ok' A' c' W h)
      have HS0 := Lib.hid (World.ownsRow_nil w w.heap.size 9 1)
      clear hv hp
      generalize partsE L P = R at *
      generalize L.all nameB = n1 at *
      obtain ⟨n2, hn2⟩ : ∃ n2, n2 = (keysP P).all nameB := ⟨_, rfl⟩
      generalize risesB L = i1 at *
      obtain ⟨i2, hi2⟩ : ∃ i2, i2 = risesB (keysP P) := ⟨_, rfl⟩
      rw [← hn2] at HN2 HR
      rw [← hi2] at HI2 HR
      clear hn2 hi2
      generalize P.all (fun p => plainV p.v) = q at *
      go_enter Tryd.func58, Tryd.ntmps58
      go_wp2_with fail
      go_loopw [5, 20] (fun v u W => ∃ k : Nat, u = .int .i64 k ∧ k ≤ P.length ∧ Hid (W.ownsRow w.heap.size 9 1 v k ((keysP (P.take k)).map Value.string)) ∧ Hid (Ext w W)) (fun _ u _ => P.length - (intOf u).toNat)
      case atStart => exact ⟨0, rfl, Nat.zero_le _, HS0, Lib.hid (Ext.refl _)⟩
      case round =>
        clear HS0
        obtain ⟨k, rfl, hk, hown, hE⟩ := hrel
        by_cases hlt : k < P.length
        · obtain ⟨b, o, rfl, hc⟩ := HP.out.2 (by omega)
          have h5 := hE.out.cell (hc k hlt).1
          obtain ⟨-, A', c', h6, -, -⟩ := VCells.iff.1 (hc k hlt).2
          obtain ⟨d0, d1, d2, d3, d4⟩ := h6.ext hE.out
          have HSN := Lib.hid (keysP_snoc P k hlt)
          clear hc h6 HQ HB HY HN1 HN2 HI1 HI2
          generalize P[k] = x at *
          have hown' := hown.out
          have hE' := hE.out
          clear hown hE
          have hkb : k + 1 ≤ 8388608 := by omega
          go_wp2_with (at_builtin; refine own_pushH El_str rfl (.tmp 24) (.tmp 27) rfl w _ _ k _ [.string x.key] rfl (own_ext hown' (by with_reducible repeat (first | exact Ext.refl _ | assumption | refine Ext.drew ?_ | refine Ext.drewN ?_ _ | refine Ext.alloc ?_ _))) (hE'.trans (by with_reducible repeat (first | exact Ext.refl _ | assumption | refine Ext.drew ?_ | refine Ext.drewN ?_ _ | refine Ext.alloc ?_ _))) rfl (wr.heap.size + 1) (by simp) rfl rfl (by simp [Value.oneCell']) hkb (by decide) ?_; intro v2 w9 hown2 hE9 hF9; clear hF9)
          have HO2 := Lib.hid (show w9.ownsRow w.heap.size 9 1 v2 (k + 1) ((keysP (P.take (k + 1))).map Value.string) by rw [HSN.out]; exact hown2)
          have HE9 := Lib.hid hE9
          clear hown2 hE9 hown' hE'
          go_roundw
          case rel => exact ⟨k + 1, by go_num, by omega, HO2, HE9⟩
          case measure => simp [intOf]; omega
        · obtain ⟨A1, c1, rfl, -, hS1⟩ := strs_of_own (l := keysP P) (by have := hown.out; rwa [List.take_of_length_le (by omega)] at this) (by rw [keysP_len]; omega) (by rw [keysP_len]; omega)
          have hx1 := hE.out
          clear hown hE
          generalize keysP P = KS at *
          cases n1
          · clear HY HB HQ HI1 HI2 HN2
            go_wp2_with (first | (go_at_call 82; ((with_reducible refine (HN1.out _ (by with_reducible repeat (first | exact Ext.refl _ | assumption | refine Ext.drew ?_ | refine Ext.drewN ?_ _ | refine Ext.alloc ?_ _))).mono ?_); rintro e w1x ⟨rfl, rfl⟩)) | (go_at_call 82; ((with_reducible refine (HN2.out _ A1 c1 hS1).mono ?_); rintro e w1x ⟨rfl, rfl⟩)) | (go_at_call 84; ((with_reducible refine (HI1.out _ hx1).mono ?_); rintro e w2 ⟨rfl, hx2⟩)) | (go_at_call 84; ((with_reducible refine (HI2.out _ A1 c1 (hS1.ext hx2)).mono ?_); rintro e w3 ⟨rfl, hx3⟩)))
            go_ret
            exact ⟨ret_int (by rw [HR.out]; rfl), hx1⟩
          · cases n2
            · clear HY HB HQ HI1 HI2
              go_wp2_with (first | (go_at_call 82; ((with_reducible refine (HN1.out _ (by with_reducible repeat (first | exact Ext.refl _ | assumption | refine Ext.drew ?_ | refine Ext.drewN ?_ _ | refine Ext.alloc ?_ _))).mono ?_); rintro e w1x ⟨rfl, rfl⟩)) | (go_at_call 82; ((with_reducible refine (HN2.out _ A1 c1 hS1).mono ?_); rintro e w1x ⟨rfl, rfl⟩)) | (go_at_call 84; ((with_reducible refine (HI1.out _ hx1).mono ?_); rintro e w2 ⟨rfl, hx2⟩)) | (go_at_call 84; ((with_reducible refine (HI2.out _ A1 c1 (hS1.ext hx2)).mono ?_); rintro e w3 ⟨rfl, hx3⟩)))
              go_ret
              exact ⟨ret_int (by rw [HR.out]; rfl), hx1⟩
            · cases i1
              · clear HY HB HQ HI2
                go_wp2_with (first | (go_at_call 82; ((with_reducible refine (HN1.out _ (by with_reducible repeat (first | exact Ext.refl _ | assumption | refine Ext.drew ?_ | refine Ext.drewN ?_ _ | refine Ext.alloc ?_ _))).mono ?_); rintro e w1x ⟨rfl, rfl⟩)) | (go_at_call 82; ((with_reducible refine (HN2.out _ A1 c1 hS1).mono ?_); rintro e w1x ⟨rfl, rfl⟩)) | (go_at_call 84; ((with_reducible refine (HI1.out _ hx1).mono ?_); rintro e w2 ⟨rfl, hx2⟩)) | (go_at_call 84; ((with_reducible refine (HI2.out _ A1 c1 (hS1.ext hx2)).mono ?_); rintro e w3 ⟨rfl, hx3⟩)))
                go_ret
                exact ⟨ret_int (by rw [HR.out]; rfl), hx1.trans hx2⟩
              · cases i2
                · clear HY HB HQ
                  go_wp2_with (first | (go_at_call 82; ((with_reducible refine (HN1.out _ (by with_reducible repeat (first | exact Ext.refl _ | assumption | refine Ext.drew ?_ | refine Ext.drewN ?_ _ | refine Ext.alloc ?_ _))).mono ?_); rintro e w1x ⟨rfl, rfl⟩)) | (go_at_call 82; ((with_reducible refine (HN2.out _ A1 c1 hS1).mono ?_); rintro e w1x ⟨rfl, rfl⟩)) | (go_at_call 84; ((with_reducible refine (HI1.out _ hx1).mono ?_); rintro e w2 ⟨rfl, hx2⟩)) | (go_at_call 84; ((with_reducible refine (HI2.out _ A1 c1 (hS1.ext hx2)).mono ?_); rintro e w3 ⟨rfl, hx3⟩)))
                  go_ret
                  exact ⟨ret_int (by rw [HR.out]; rfl), (hx1.trans hx2).trans hx3⟩
                · go_wp2_with (first | (go_at_call 82; ((with_reducible refine (HN1.out _ (by with_reducible repeat (first | exact Ext.refl _ | assumption | refine Ext.drew ?_ | refine Ext.drewN ?_ _ | refine Ext.alloc ?_ _))).mono ?_); rintro e w1x ⟨rfl, rfl⟩)) | (go_at_call 82; ((with_reducible refine (HN2.out _ A1 c1 hS1).mono ?_); rintro e w1x ⟨rfl, rfl⟩)) | (go_at_call 84; ((with_reducible refine (HI1.out _ hx1).mono ?_); rintro e w2 ⟨rfl, hx2⟩)) | (go_at_call 84; ((with_reducible refine (HI2.out _ A1 c1 (hS1.ext hx2)).mono ?_); rintro e w3 ⟨rfl, hx3⟩)))
                  have hE0 := (hx1.trans hx2).trans hx3
                  clear hx1 hx2 hx3 hS1 HN1 HN2 HI1 HI2
                  go_loopw [46] (fun u W => ∃ k : Nat, u = .int .i64 k ∧ k ≤ P.length ∧ Hid (∀ i (hi : i < P.length), i < k → plainV P[i].v = true) ∧ Ext w W) (fun u _ => P.length - (intOf u).toNat)
                  case atStart => exact ⟨0, rfl, Nat.zero_le _, Lib.hid (fun i _ hi => absurd hi (Nat.not_lt_zero _)), hE0⟩
                  case round =>
                    clear hE0
                    obtain ⟨k, rfl, hk, hgd, hE⟩ := hrel
                    by_cases hlt : k < P.length
                    · obtain ⟨b, o, rfl, hc⟩ := HP.out.2 (by omega)
                      have h5 := hE.cell (hc k hlt).1
                      obtain ⟨-, A', c', h6, -, hv'⟩ := VCells.iff.1 (hc k hlt).2
                      obtain ⟨d0, d1, d2, d3, d4⟩ := h6.ext hE
                      have HC := Lib.hid (fun W (e : Ext wr W) => HQ.out k hlt A' c' W (hv'.ext (hE.trans e)))
                      have HS := Lib.hid (fun (h : plainV P[k].v = true) i hi (hj : i < k + 1) => (if e : i = k then (by subst e; exact h) else hgd.out i hi (by omega) : plainV P[i].v = true))
                      have HB' := Lib.hid (HB.out k hlt)
                      clear hc h6 hv' HQ HB HY hgd
                      generalize P[k].key = ky at *
                      generalize P[k].v = x at *
                      generalize plainV x = y at *
                      cases y
                      · have HT := Lib.hid (HB'.out rfl)
                        go_wp2_with (go_at_call 85; ((with_reducible refine (HC.out _ (by with_reducible repeat (first | exact Ext.refl _ | assumption | refine Ext.drew ?_ | refine Ext.drewN ?_ _ | refine Ext.alloc ?_ _))).mono ?_); rintro e w8 ⟨rfl, hx8⟩))
                        go_ret
                        exact ⟨ret_int (by rw [HR.out, HT.out]; rfl), hE.trans (Ext.trans (by with_reducible repeat (first | exact Ext.refl _ | assumption | refine Ext.drew ?_ | refine Ext.drewN ?_ _ | refine Ext.alloc ?_ _)) hx8)⟩
                      · have HT := Lib.hid (HS.out rfl)
                        go_wp2_with (go_at_call 85; ((with_reducible refine (HC.out _ (by with_reducible repeat (first | exact Ext.refl _ | assumption | refine Ext.drew ?_ | refine Ext.drewN ?_ _ | refine Ext.alloc ?_ _))).mono ?_); rintro e w8 ⟨rfl, hx8⟩))
                        go_roundw
                        case rel => exact ⟨k + 1, by go_num, by omega, HT, hE.trans (Ext.trans (by with_reducible repeat (first | exact Ext.refl _ | assumption | refine Ext.drew ?_ | refine Ext.drewN ?_ _ | refine Ext.alloc ?_ _)) hx8)⟩
                        case measure => simp [intOf]; omega
                    · have HT := Lib.hid (HY.out (fun i hi => hgd.out i hi (by omega)))
                      go_wp2_with fail
                      go_ret
                      exact ⟨ret_int (by rw [HR.out, HT.out]; rfl), hE⟩
    · have HR := Lib.hid (show partsE L P = 4 by unfold partsE; rw [if_pos (.inr (by omega))])
      clear hv hp
      go_enter Tryd.func58, Tryd.ntmps58
      go_wp2_with fail
      go_ret
      exact ⟨ret_int HR.out.symm, Ext.refl _⟩
  · have HR := Lib.hid (show partsE L P = 4 by unfold partsE; rw [if_pos (.inl (by omega))])
    clear hv hp
    go_enter Tryd.func58, Tryd.ntmps58
    go_wp2_with fail
    go_ret
    exact ⟨ret_int HR.out.symm, Ext.refl _⟩
end Go.Proofs.YtlkpmbkmmfoakaaDoor

/- THE WALKS over the search for a node by its id: graph.has, the reference's Node; over the types of edges. -/
namespace Go.Proofs.YtlkpmbkmmfoakaaDoor
open Go.RowKit
theorem gr_has1 (n : Int) (A B : Option Addr) (na c nb d : Nat) (m : Int) (w : World) :
    Calls Tryd.prog 87 #[.agg #[.int .i64 n, .slice A na c, .slice B nb d], .int .i64 m] w fun e w' => e = .returned (.int .i64 (Lib.compareInt n m)) ∧ Ext w w' := by
  go_enter Tryd.func87, Tryd.ntmps87
  go_wp2_with (go_at_call 32; ((with_reducible refine (c_cmp_int _ _ _).mono ?_); rintro e w' ⟨rfl, rfl⟩))
  go_ret
  exact ⟨rfl, (Ext.refl _).alloc _⟩
theorem hasN_at {l : List NodeG} {n : Int} (i : Nat) (hi : i < l.length) (h : l[i]!.id = n) : hasN l n = true := by
  unfold hasN
  rw [List.any_eq_true]
  exact ⟨l[i], List.getElem_mem hi, by rw [getElem!_pos l i hi] at h; exact decide_eq_true h⟩
theorem hasN_no {l : List NodeG} {n : Int} (h : ∀ i, i < l.length → l[i]!.id ≠ n) : hasN l n = false := by
  unfold hasN
  rw [List.any_eq_false]
  intro x hx
  obtain ⟨i, hi, rfl⟩ := List.getElem_of_mem hx
  have := h i hi
  rw [getElem!_pos l i hi] at this
  rw [decide_eq_false this]; exact Bool.false_ne_true
theorem cmpI_lt {a b : Int} (h : a < b) : Lib.compareInt a b = -1 := by unfold Lib.compareInt; rw [if_pos h]
theorem cmpI_ge {a b : Int} (h : ¬ a < b) : ¬ Lib.compareInt a b < 0 := by unfold Lib.compareInt; rw [if_neg h]; split <;> omega
theorem cmpI_eq (a : Int) : Lib.compareInt a a = 0 := by unfold Lib.compareInt; rw [if_neg (by omega), if_neg (by omega)]
theorem cmpI_ne {a b : Int} (h : a ≠ b) : Lib.compareInt a b ≠ 0 := by unfold Lib.compareInt; split <;> (try split) <;> omega
set_option maxRecDepth 100000 in
set_option maxHeartbeats 1600000 in
theorem gr_BSF (l : List NodeG) (ok : Nat → Prop) (A : Option Addr) (c : Nat) (n : Int) (w : World) (hv : Nodes w ok A l) (hsort : ∀ i j, i < j → j < l.length → l[i]!.id < l[j]!.id) :
    Calls Tryd.prog 86 #[.slice A l.length c, .int .i64 n, .func (.func 87) #[] #[]] w fun e w' => (∃ i : Int, e = .returned (.tuple #[.int .i64 i, .bool (hasN l n)])) ∧ Ext w w' := by
  have hm := hv.len
  have HV := Lib.hid hv
  have HY := Lib.hid (hasN_at (l := l) (n := n))
  have HN := Lib.hid (hasN_no (l := l) (n := n))
  have HS := Lib.hid hsort
  generalize hasN l n = R at *
  clear hv hsort
  go_enter Tryd.func86, Tryd.ntmps86
  go_wp2_with fail
  go_loopw [9, 10] (fun u v W => ∃ i j : Nat, u = .int .i64 i ∧ v = .int .i64 j ∧ i ≤ j ∧ j ≤ l.length ∧ Hid (∀ t, t < i → l[t]!.id < n) ∧ Hid (∀ t, j ≤ t → t < l.length → n ≤ l[t]!.id) ∧ Ext w W) (fun u v _ => (intOf v - intOf u).toNat)
  case atStart => exact ⟨0, l.length, rfl, rfl, Nat.zero_le _, Nat.le_refl _, Lib.hid (fun t ht => absurd ht (by omega)), Lib.hid (fun t h1 h2 => absurd h1 (by omega)), Ext.refl _⟩
  case round =>
    obtain ⟨i, j, rfl, rfl, hij, hjl, hlo, hhi, hE⟩ := hrel
    by_cases hlt : i < j
    · obtain ⟨b, off, rfl, hc⟩ := HV.out.2 (by omega)
      have hm1 : (i + j) / 2 < l.length := by omega
      obtain ⟨-, d0, A', c', B', d', d1, -, -, d2, -, -⟩ := (hc ((i + j) / 2) hm1).ext hE
      rw [← getElem!_pos l ((i + j) / 2) hm1] at d0 d1 d2
      have HL := Lib.hid (fun (h : l[(i + j) / 2]!.id < n) t (ht : t < (i + j) / 2 + 1) => (if e : t = (i + j) / 2 then (by rw [e]; exact h) else (Int.lt_trans (HS.out t _ (by omega) hm1) h) : l[t]!.id < n))
      have HH := Lib.hid (fun (h : n ≤ l[(i + j) / 2]!.id) t (ht : (i + j) / 2 ≤ t) (htl : t < l.length) => (if e : t = (i + j) / 2 then (by rw [e]; exact h) else (Int.le_trans h (Int.le_of_lt (HS.out _ t (by omega) htl))) : n ≤ l[t]!.id))
      clear hc
      generalize l[(i + j) / 2]! = x at *
      have q1 : (0 : Int) ≤ ((i : Int) + (j : Int)) / 2 := by omega
      have q2 : ((i : Int) + (j : Int)) / 2 < (l.length : Int) := by omega
      have q3 : (((i : Int) + (j : Int)) / 2).toNat = (i + j) / 2 := by omega
      by_cases ho : x.id < n
      · have HX := Lib.hid (HL.out ho)
        have HC := Lib.hid (fun W => gr_has1 x.id A' B' x.labels.length c' x.props.length d' n W)
        rw [cmpI_lt ho] at HC
        clear ho HL HH
        go_wp2_with (go_at_call 87; ((with_reducible refine (HC.out _).mono ?_); rintro e w8 ⟨rfl, hx8⟩))
        go_roundw
        case rel => exact ⟨(i + j) / 2 + 1, j, congrArg (Value.int .i64) (by omega), rfl, by omega, hjl, HX, hhi, hE.trans hx8⟩
        case measure => simp [intOf]; omega
      · have HX := Lib.hid (HH.out (by omega))
        have ho' := cmpI_ge ho
        have HC := Lib.hid (fun W => gr_has1 x.id A' B' x.labels.length c' x.props.length d' n W)
        generalize Lib.compareInt x.id n = z at *
        have ho2 : decide (z < 0) = false := decide_eq_false ho'
        clear ho ho' HL HH
        go_wp2_with (go_at_call 87; ((with_reducible refine (HC.out _).mono ?_); rintro e w8 ⟨rfl, hx8⟩))
        go_roundw
        case rel => exact ⟨i, (i + j) / 2, rfl, congrArg (Value.int .i64) (by omega), by omega, by omega, hlo, HX, hE.trans hx8⟩
        case measure => simp [intOf]; omega
    · obtain rfl : i = j := by omega
      by_cases hin : i < l.length
      · obtain ⟨b, off, rfl, hc⟩ := HV.out.2 (by omega)
        obtain ⟨-, d0, A', c', B', d', d1, -, -, d2, -, -⟩ := (hc i hin).ext hE
        rw [← getElem!_pos l i hin] at d0 d1 d2
        have HX1 := Lib.hid (HY.out i hin)
        have HX2 := Lib.hid (fun (h : l[i]!.id ≠ n) => HN.out (fun t ht => by
          rcases Nat.lt_trichotomy t i with h1 | h1 | h1
          · have := hlo.out t h1; omega
          · rw [h1]; exact h
          · have h2 := hhi.out i (Nat.le_refl _) hin
            have h3 := HS.out i t h1 ht
            omega))
        have HC := Lib.hid (fun W => gr_has1 l[i]!.id A' B' l[i]!.labels.length c' l[i]!.props.length d' n W)
        clear hc HY HN
        generalize l[i]! = x at *
        by_cases he : x.id = n
        · have HT := Lib.hid (HX1.out he)
          rw [he] at d0 HC
          rw [cmpI_eq] at HC
          clear he HX1 HX2
          go_wp2_with (go_at_call 87; ((with_reducible refine (HC.out _).mono ?_); rintro e w8 ⟨rfl, hx8⟩))
          go_ret2
          exact ⟨⟨(i : Int), by rw [HT.out]; rfl⟩, hE.trans hx8⟩
        · have HT := Lib.hid (HX2.out he)
          have hz : (Lib.compareInt x.id n == 0) = false := beq_eq_false_iff_ne.2 (cmpI_ne he)
          generalize Lib.compareInt x.id n = z at *
          clear he HX1 HX2
          go_wp2_with (go_at_call 87; ((with_reducible refine (HC.out _).mono ?_); rintro e w8 ⟨rfl, hx8⟩))
          go_ret2
          exact ⟨⟨(i : Int), by rw [HT.out]; rfl⟩, hE.trans hx8⟩
      · have HT := Lib.hid (HN.out (fun t ht => by have := hlo.out t (by omega); omega))
        go_wp2_with fail
        go_ret2
        exact ⟨⟨(i : Int), by rw [HT.out]; rfl⟩, hE⟩
set_option maxRecDepth 100000 in
theorem gr_has (l : List NodeG) (ok : Nat → Prop) (A : Option Addr) (c : Nat) (n : Int) (w : World) (hv : Nodes w ok A l) (hsort : ∀ i j, i < j → j < l.length → l[i]!.id < l[j]!.id) :
    Calls Tryd.prog 59 #[.slice A l.length c, .int .i64 n] w fun e w' => e = .returned (.bool (hasN l n)) ∧ Ext w w' := by
  have HC := Lib.hid (gr_BSF l ok A c n w hv hsort)
  clear hv hsort
  generalize hasN l n = R at *
  go_enter Tryd.func59, Tryd.ntmps59
  go_wp2_with (go_at_call 86; ((with_reducible refine (HC.out).mono ?_); rintro e w8 ⟨⟨i, rfl⟩, hx8⟩))
  go_ret
  exact ⟨rfl, hx8⟩
theorem box_graph (w : World) (A B : Option Addr) (c d : Nat) (g : GraphG) (t : TypeId) : ∃ (q : Nat) (w1 : World), q = w.heap.size ∧ w1 = w.alloc (.cells #[.slice A g.nodes.length c, .slice B g.edges.length d, .int .i64 g.nn, .int .i64 g.ne] t) ∧ w1.cell? ⟨q, 0, none⟩ = some (.slice A g.nodes.length c) ∧ w1.cell? ⟨q, 1, none⟩ = some (.slice B g.edges.length d) ∧ w1.cell? ⟨q, 2, none⟩ = some (.int .i64 g.nn) ∧ w1.cell? ⟨q, 3, none⟩ = some (.int .i64 g.ne) ∧ Ext w w1 :=
  ⟨_, _, rfl, rfl, by go_simp, by go_simp, by go_simp, by go_simp, (Ext.refl _).alloc _⟩
def typB (types : List ByteArray) (t : ByteArray) : Bool := decide (types.length = 0) || memB t types
set_option maxRecDepth 100000 in
theorem gr_HasType (types : List ByteArray) (x : EdgeG) (ok : Nat → Prop) (A B : Option Addr) (c m d : Nat) (w : World) (hv : Strs w ok A types) :
    Calls Tryd.prog 67 #[.agg #[.int .i64 x.id, .int .i64 x.frm, .int .i64 x.to_, .string x.typ, .slice B m d], .slice A types.length c] w fun e w' => e = .returned (.bool (typB types x.typ)) ∧ Ext w w' := by
  have hm := hv.len
  have HC := Lib.hid (fun W (e : Ext w W) => s_ContainsS types x.typ ok A c W (hv.ext e))
  have HQ := Lib.hid (show typB types x.typ = (decide (types.length = 0) || memB x.typ types) from rfl)
  generalize typB types x.typ = R at *
  generalize memB x.typ types = q at *
  clear hv
  by_cases h0 : types.length = 0
  · have hz : ((types.length : Int) == 0) = true := by rw [h0]; rfl
    go_enter Tryd.func67, Tryd.ntmps67
    go_wp2_with (go_at_call 94; ((with_reducible refine (HC.out _ (by with_reducible repeat (first | exact Ext.refl _ | assumption | refine Ext.drew ?_ | refine Ext.drewN ?_ _ | refine Ext.alloc ?_ _))).mono ?_); rintro e w8 ⟨rfl, rfl⟩))
    go_ret
    exact ⟨ret_bool (by rw [HQ.out, decide_eq_true h0]; rfl), (by with_reducible repeat (first | exact Ext.refl _ | assumption | refine Ext.drew ?_ | refine Ext.drewN ?_ _ | refine Ext.alloc ?_ _))⟩
  · have hz : ((types.length : Int) == 0) = false := beq_eq_false_iff_ne.2 (by omega)
    have HR := Lib.hid (show R = q by rw [HQ.out, decide_eq_false h0]; rfl)
    clear h0 HQ
    go_enter Tryd.func67, Tryd.ntmps67
    go_wp2_with (go_at_call 94; ((with_reducible refine (HC.out _ (by with_reducible repeat (first | exact Ext.refl _ | assumption | refine Ext.drew ?_ | refine Ext.drewN ?_ _ | refine Ext.alloc ?_ _))).mono ?_); rintro e w8 ⟨rfl, rfl⟩))
    go_ret
    exact ⟨ret_bool HR.out.symm, (by with_reducible repeat (first | exact Ext.refl _ | assumption | refine Ext.drew ?_ | refine Ext.drewN ?_ _ | refine Ext.alloc ?_ _))⟩
end Go.Proofs.YtlkpmbkmmfoakaaDoor

/- THE WALKS over the reference's node, edge, Check of a graph. -/
namespace Go.Proofs.YtlkpmbkmmfoakaaDoor
open Go.RowKit
theorem Nodes.at_ {w : World} {ok : Nat → Prop} {A : Option Addr} {l : List NodeG} (h : Nodes w ok A l) {i : Nat} (hi : i < l.length) : ∃ b o, A = some ⟨b, o, none⟩ ∧ ∀ k, k < l.length → NodeC w ok b (o + k * 3) l[k]! := by
  obtain ⟨b, o, hA, hc⟩ := h.2 (by omega)
  exact ⟨b, o, hA, fun k hk => by rw [getElem!_pos l k hk]; exact hc k hk⟩
theorem Edges.at_ {w : World} {ok : Nat → Prop} {A : Option Addr} {l : List EdgeG} (h : Edges w ok A l) {i : Nat} (hi : i < l.length) : ∃ b o, A = some ⟨b, o, none⟩ ∧ ∀ k, k < l.length → EdgeC w ok b (o + k * 5) l[k]! := by
  obtain ⟨b, o, hA, hc⟩ := h.2 (by omega)
  exact ⟨b, o, hA, fun k hk => by rw [getElem!_pos l k hk]; exact hc k hk⟩
theorem box_node (w : World) (n : Int) (A B : Option Addr) (na c nb d : Nat) (t : TypeId) : ∃ (q : Nat) (w1 : World), q = w.heap.size ∧ w1 = w.alloc (.cells #[.int .i64 n, .slice A na c, .slice B nb d] t) ∧ w1.cell? ⟨q, 0, none⟩ = some (.int .i64 n) ∧ w1.cell? ⟨q, 1, none⟩ = some (.slice A na c) ∧ w1.cell? ⟨q, 2, none⟩ = some (.slice B nb d) ∧ Ext w w1 :=
  ⟨_, _, rfl, rfl, by go_simp, by go_simp, by go_simp, (Ext.refl _).alloc _⟩
theorem box_edge (w : World) (e : EdgeG) (B : Option Addr) (d : Nat) (t : TypeId) : ∃ (q : Nat) (w1 : World), q = w.heap.size ∧ w1 = w.alloc (.cells #[.int .i64 e.id, .int .i64 e.frm, .int .i64 e.to_, .string e.typ, .slice B e.props.length d] t) ∧ w1.cell? ⟨q, 0, none⟩ = some (.int .i64 e.id) ∧ w1.cell? ⟨q, 1, none⟩ = some (.int .i64 e.frm) ∧ w1.cell? ⟨q, 2, none⟩ = some (.int .i64 e.to_) ∧ w1.cell? ⟨q, 3, none⟩ = some (.string e.typ) ∧ w1.cell? ⟨q, 4, none⟩ = some (.slice B e.props.length d) ∧ Ext w w1 :=
  ⟨_, _, rfl, rfl, by go_simp, by go_simp, by go_simp, by go_simp, by go_simp, (Ext.refl _).alloc _⟩
/-- what is wrong with a node, piece by piece -/
theorem nodeE_26 {g : GraphG} {i : Nat} (h : 0 < i) (h2 : g.nodes[i]!.id ≤ g.nodes[i - 1]!.id) : nodeE g i = 26 := by unfold nodeE; rw [if_pos ⟨h, h2⟩]
theorem nodeE_1 {g : GraphG} {i : Nat} (h : 0 < i → g.nodes[i - 1]!.id < g.nodes[i]!.id) (h2 : g.nodes[i]!.id < 1 ∨ g.nn ≤ g.nodes[i]!.id) : nodeE g i = 1 := by
  unfold nodeE; rw [if_neg (fun hh => by have := h hh.1; omega), if_pos h2]
theorem nodeE_p {g : GraphG} {i : Nat} (h : 0 < i → g.nodes[i - 1]!.id < g.nodes[i]!.id) (h2 : 1 ≤ g.nodes[i]!.id) (h3 : g.nodes[i]!.id < g.nn) : nodeE g i = partsE g.nodes[i]!.labels g.nodes[i]!.props := by
  unfold nodeE; rw [if_neg (fun hh => by have := h hh.1; omega), if_neg (by omega)]
theorem edgeE_26 {g : GraphG} {i : Nat} (h : 0 < i) (h2 : g.edges[i]!.id ≤ g.edges[i - 1]!.id) : edgeE g i = 26 := by unfold edgeE; rw [if_pos ⟨h, h2⟩]
theorem edgeE_1 {g : GraphG} {i : Nat} (h : 0 < i → g.edges[i - 1]!.id < g.edges[i]!.id) (h2 : g.edges[i]!.id < 1 ∨ g.ne ≤ g.edges[i]!.id) : edgeE g i = 1 := by
  unfold edgeE; rw [if_neg (fun hh => by have := h hh.1; omega), if_pos h2]
theorem edgeE_p {g : GraphG} {i : Nat} (h : 0 < i → g.edges[i - 1]!.id < g.edges[i]!.id) (h2 : 1 ≤ g.edges[i]!.id) (h3 : g.edges[i]!.id < g.ne) : edgeE g i = if hasN g.nodes g.edges[i]!.frm && hasN g.nodes g.edges[i]!.to_ then (if nameB g.edges[i]!.typ then partsE [] g.edges[i]!.props else 6) else 10 := by
  unfold edgeE; rw [if_neg (fun hh => by have := h hh.1; omega), if_neg (by omega)]
end Go.Proofs.YtlkpmbkmmfoakaaDoor

/- GRAPHS THAT COME IN. -/
namespace Go.Proofs.YtlkpmbkmmfoakaaDoor
open Go.ChangeShapes Go.WideShapes Go.ChangeAt Go.RowKit
open Go.ChangeMaps (open_string shut_string)
theorem twoL {α : Type} {l : List α} (h : l.length = 2) : ∃ a b, l = [a, b] := by
  match l, h with
  | [a, b], _ => exact ⟨a, b, rfl⟩
theorem three_L {α : Type} {l : List α} (h : l.length = 3) : ∃ a b c, l = [a, b, c] := by
  match l, h with
  | [a, b, c], _ => exact ⟨a, b, c, rfl⟩
section
variable {H : Type} {enc : TypeId × Value → H} {w : World} {base : Nat} {spare : Nat → Bool} {held : Bool}
end
end Go.Proofs.YtlkpmbkmmfoakaaDoor

/- THE WALKS over the reference's edge and Check of a graph. -/
namespace Go.Proofs.YtlkpmbkmmfoakaaDoor
open Go.RowKit
theorem chkG_head {g : GraphG} (h : headE g ≠ 0) : chkG g = headE g := by unfold chkG; rw [if_neg h]
theorem chkG_nodes {g : GraphG} (h : headE g = 0) {z : Int} (hz : nodesE g = z) (h2 : z ≠ 0) : chkG g = z := by unfold chkG; rw [if_pos h, if_neg (by rw [hz]; exact h2), hz]
theorem chkG_edges {g : GraphG} (h : headE g = 0) (h2 : nodesE g = 0) {z : Int} (hz : edgesE g = z) : chkG g = z := by unfold chkG; rw [if_pos h, if_pos h2, hz]
end Go.Proofs.YtlkpmbkmmfoakaaDoor
