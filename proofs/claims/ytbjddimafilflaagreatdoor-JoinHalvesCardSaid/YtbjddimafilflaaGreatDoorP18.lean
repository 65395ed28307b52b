/- PARTS OF THE WALKS, joined: Jd, Jc, Je. -/
import Derived.Test.YtbjddimafilflaaGreatDoorP17
import Derived.Lib.AppendZerosOnto
/- THE WALKS over slices.Grow and slices.Concat at rows of values; join.part with what it points to. -/
namespace Go.Proofs.YtbjddimafilflaaGreatDoor
open Go.RowKit Go.Sort
theorem run_append_none {P : Program} {w : World} (base : Nat) (t ty e : TypeId) (i : TypeInfo) (size : Nat) (ht : P.underlying t = some (.slice e)) (hi : P.info? e = some i)
    (v : Value) (n c : Nat) (xs : List Value) (hown : w.ownsRow base e size v n xs) :
    (Builtin.append_ #[t, t] ty #[v, .slice none 0 c]).run P w = .ok v w := by
  rcases hown.2 with ⟨rfl, rfl⟩ | ⟨g, cap, cur, rfl, _, _, hnc, _⟩
  · simp [Builtin.append_, run_underlying ht, sizeOf, typeInfo, hi, Builtin.lenOf, Builtin.firstCells]
  · simp [Builtin.append_, run_underlying ht, sizeOf, typeInfo, hi, Builtin.lenOf, Builtin.firstCells, hnc, storeCells]
theorem wpList_append_run' {P : Program} {w : World} {ops : Array Oper} {rest : List Oper} {o : Oper} {a : Act} {Q : Exit → Act → World → Prop} (hgd : o.guard = none) (s x : Operand) (t t' : TypeId)
    (ho : o.op = .call { callee := .builtin .append, args := #[s, x], argTypes := #[t, t'] }) (v u : Value) (hs : a.eval s = v) (hx : a.eval x = u) {v' : Value} {w' : World}
    (hr : ∀ ty, (Builtin.append_ #[t, t'] ty #[v, u]).run P w = .ok v' w') (h : wpList P ops Q rest (a.put o.dst v') w') : wpList P ops Q (o :: rest) a w :=
  wpList_plain hgd fun _ hK => by
    unfold Oper.wp execOp
    simp only [ho, resolve, invoke, builtin, Sem.run_bind, Sem.run_pure, Result.andThen_ok, List.map_toArray, List.map_cons, List.map_nil, hs, hx, hr]
    exact hK _ _ h
theorem own_appendA {P : Program} {t e size bytes : Nat} (T : ElT P t e size bytes) {ops : Array Oper} {rest : List Oper} {o : Oper} {a : Act} {Q : Exit → Act → World → Prop} {w : World} (hgd : o.guard = none) (s x : Operand)
    (ho : o.op = .call { callee := .builtin .append, args := #[s, x], argTypes := #[t, t] }) (wb : World) (v : Value) (n : Nat) (xs : List Value) (hs : a.eval s = v) (hown : w.ownsRow wb.heap.size e size v n xs) (hE : Ext wb w)
    (A : Option Addr) (m c : Nat) (news : List Value) (hx : a.eval x = .slice A m c) (hA : A = none → m = 0) (hl : news.length = m * size) (hnews : ∀ ad, A = some ad → ∀ j u, news[j]? = some u → w.cell? (ad.add j) = some u) (h1 : ∀ u ∈ news, u.oneCell' = true)
    (h63 : n + m ≤ 8388608) (hbytes : bytes ≤ 1000000)
    (h : ∀ v' w', w'.ownsRow wb.heap.size e size v' (n + m) (xs ++ news) → Ext wb w' → wpList P ops Q rest (a.put o.dst v') w') : wpList P ops Q (o :: rest) a w := by
  cases A with
  | some ad => exact own_append T hgd s x ho wb v n xs hs hown hE ad m c news hx hl (hnews ad rfl) h1 h63 hbytes h
  | none =>
    have h0 := hA rfl
    subst h0
    obtain ⟨z, hz, hzc⟩ := T.hi
    obtain ⟨i, hi, hz0, hz1, hz2⟩ := info_parts hz
    have hn : news = [] := List.eq_nil_of_length_eq_zero (by omega)
    subst hn
    have hr := run_append_none (P := P) (w := w) wb.heap.size t o.type e i size T.ht hi v n c xs hown
    refine wpList_plain hgd fun _ hK => ?_
    unfold Oper.wp execOp
    simp only [ho, resolve, invoke, builtin, Sem.run_bind, Sem.run_pure, Result.andThen_ok, List.map_toArray, List.map_cons, List.map_nil, hs, hx, hr]
    exact hK _ _ (h v w (by simpa using hown) hE)
theorem CopyTo.fin {w : World} {ok ok' : Nat → Prop} {base : Nat} {v : Value} {l : List Val} {cs : List (List Value)} (h : CopyTo w ok l cs) (hown : w.ownsRow base 40 5 v l.length cs.flatten) (hl : cs.length = l.length) (hm : l.length ≤ 140737488355328) (h1 : ∀ b, ok b → ok' b) (h2 : ∀ b, base ≤ b → ok' b) :
    ∃ A c, v = .slice A l.length c ∧ l.length ≤ c ∧ Vals w ok' A l := by
  refine own_sliceR hown rfl hl h.size hm (fun g hg _ k hk hk' hcell => ?_)
  obtain ⟨h', A, c, e, h3, h4⟩ := h k hk'
  rw [e] at hcell
  refine VCells.iff.2 ⟨h2 g hg, A, c, ⟨?_, ?_, ?_, ?_, ?_⟩, h3, h4.to h1⟩
  · exact hcell 0 _ rfl
  · exact hcell 1 _ rfl
  · exact hcell 2 _ rfl
  · exact hcell 3 _ rfl
  · exact hcell 4 _ rfl
theorem CopyTo.app {w : World} {ok ok1 ok2 : Nat → Prop} {l l' : List Val} {cs cs' : List (List Value)} (h : CopyTo w ok1 l cs) (h' : CopyTo w ok2 l' cs') (hl : cs.length = l.length) (h1 : ∀ b, ok1 b → ok b) (h2 : ∀ b, ok2 b → ok b) : CopyTo w ok (l ++ l') (cs ++ cs') := fun i hi => by
  rcases Nat.lt_or_ge i cs.length with hlt | hge
  · obtain ⟨q, A, c, e1, e2, e3⟩ := h i hlt
    refine ⟨by rw [List.length_append]; omega, A, c, ?_⟩
    rw [List.getElem_append_left hlt, List.getElem_append_left q]
    exact ⟨e1, e2, e3.to h1⟩
  · have hi' : i - cs.length < cs'.length := by rw [List.length_append] at hi; omega
    obtain ⟨q, A, c, e1, e2, e3⟩ := h' (i - cs.length) hi'
    refine ⟨by rw [List.length_append]; omega, A, c, ?_⟩
    have ea : (l ++ l')[i]'(by rw [List.length_append]; omega) = l'[i - cs.length] := by
      rw [List.getElem_append_right (by omega)]
      congr 1; omega
    rw [List.getElem_append_right hge, ea]
    exact ⟨e1, e2, e3.to h2⟩
set_option maxRecDepth 100000 in
theorem j_Grow (n : Nat) (hn : n ≤ 8000000) (w : World) :
    Calls Tryz.prog 63 #[.slice none 0 0, .int .i64 n] w fun e w' => ∃ v, e = .returned v ∧ w'.ownsRow w.heap.size 40 5 v 0 [] ∧ Ext w w' := by
  rcases Nat.eq_zero_or_pos n with rfl | hp
  · go_enter Tryz.func63, Tryz.ntmps63
    go_wp2_with fail
    go_ret
    exact ⟨_, rfl, World.ownsRow_nil _ _ _ _, Ext.refl _⟩
  · obtain ⟨z, hz, hzc⟩ := T_rowV.hi
    obtain ⟨i, hi, hz0, hz1, hz2⟩ := info_parts hz
    have hcap : Builtin.nextslicecap (0 + n) 0 = n := by unfold Builtin.nextslicecap; simp; omega
    obtain ⟨q, hq⟩ : ∃ q, q = grownCap w (0 + n) 0 40 := ⟨_, rfl⟩
    obtain ⟨W2, hW2⟩ : ∃ W2, W2 = (w.drew.alloc (.cells (#[] ++ Builtin.zeroCells z.cells n ++ Builtin.zeroCells z.cells (grownCap w (0 + n) 0 40 - (0 + n))) 40)) := ⟨_, rfl⟩
    have hap : ∀ ty, (Builtin.append_ #[37, 3] ty #[.slice none 0 0, .int .i64 n]).run Tryz.prog w = .ok (.slice (some ⟨w.heap.size, 0, none⟩) n q) W2 := fun ty => by
      have h := Lib.run_append_grow_zeros (P := Tryz.prog) w 37 3 ty 40 i z .i64 .i64 T_rowV.ht Tryz.underlying3 hi hz0 none 0 0 [] (by simp [Builtin.firstCells]) n hp (by rw [hz1]; decide) (by omega) (by omega) (by rw [hz2]; omega) (by rw [hcap, hz2]; omega)
      rw [hW2, hq, ← Nat.zero_add n]
      simpa using h
    have hge := grownCap_ge w (0 + n) 0 40
    have hle := grownCap_le_maxLen w (0 + n) 0 40 (by unfold maxLen; omega)
    rw [← hq] at hge hle
    have HO := Lib.hid (show W2.ownsRow w.heap.size 40 5 (.slice (some ⟨w.heap.size, 0, none⟩) 0 q) 0 [] by
      refine ⟨rfl, .inr ⟨w.heap.size, q, _, rfl, Nat.le_refl _, by rw [hW2]; exact heap_alloc_new w.drew _, Nat.zero_le _, hle, ?_, by simp⟩⟩
      rw [← hq]
      simp only [Array.size_append, size_zeroCells, hzc]
      simp; omega)
    have HE := Lib.hid (show Ext w W2 by rw [hW2]; exact ((Ext.refl _).drew).alloc _)
    have hnq : n ≤ q := by omega
    clear hW2 hq hcap hz hi hz0 hz1 hz2 hzc hge
    go_enter Tryz.func63, Tryz.ntmps63
    go_wp2_with (at_builtin; refine wpList_append_run' rfl (.tmp 20) (.tmp 21) _ _ rfl _ _ rfl rfl hap ?_)
    go_ret
    exact ⟨_, rfl, HO.out, HE.out⟩
set_option maxRecDepth 100000 in
set_option maxHeartbeats 3200000 in
theorem j_Concat (r s : List Val) (g : Nat) (ok ok' : Nat → Prop) (A B : Option Addr) (c d : Nat) (w : World) (h0 : w.cell? ⟨g, 0, none⟩ = some (.slice A r.length c)) (h1 : w.cell? ⟨g, 1, none⟩ = some (.slice B s.length d)) (hr : Vals w ok A r) (hs : Vals w ok' B s) (hlr : r.length ≤ 4000000) (hls : s.length ≤ 4000000) :
    Calls Tryz.prog 41 #[.slice (some ⟨g, 0, none⟩) 2 2] w fun e w' => ∃ A2 c2, e = .returned (.slice A2 (r ++ s).length c2) ∧ (r ++ s).length ≤ c2 ∧ Vals w' (fun b => (ok b ∨ ok' b) ∨ w.heap.size ≤ b) A2 (r ++ s) ∧ Ext w w' := by
  obtain ⟨cs, hcl, hct, hcc⟩ := hr.flat
  obtain ⟨ds, hdl, hdt, hdc⟩ := hs.flat
  have HC := Lib.hid hcc
  have HD := Lib.hid hdc
  have HT := Lib.hid (hct.app (ok := fun b => ok b ∨ ok' b) hdt hcl (fun _ h => .inl h) (fun _ h => .inr h))
  have HCL := Lib.hid (show cs.flatten.length = r.length * 5 by rw [flatten_len hct.size, hcl])
  have HDL := Lib.hid (show ds.flatten.length = s.length * 5 by rw [flatten_len hdt.size, hdl])
  have HC1 := Lib.hid hct.one
  have HD1 := Lib.hid hdt.one
  have HLL := Lib.hid (show (cs ++ ds).length = (r ++ s).length by rw [List.length_append, List.length_append, hcl, hdl])
  have hA0 := Lib.hid (fun e => hr.none_ e)
  have hB0 := Lib.hid (fun e => hs.none_ e)
  have HRS := Lib.hid (show (r ++ s).length = r.length + s.length from by rw [List.length_append])
  obtain ⟨n, hn⟩ : ∃ n, n = r.length := ⟨_, rfl⟩
  obtain ⟨m, hm⟩ : ∃ m, m = s.length := ⟨_, rfl⟩
  rw [← hn] at h0 HCL hlr HRS hA0
  rw [← hm] at h1 HDL hls HRS hB0
  clear hct hdt hcc hdc hr hs hcl hdl hn hm
  generalize r ++ s = rs at *
  have hG := Lib.hid (fun W => j_Grow (n + m) (by omega) W)
  go_enter Tryz.func41, Tryz.ntmps41
  go_wp2_with fail
  go_loopw [3, 11] (fun t u W => (t = .int .i64 0 ∧ u = .int .i64 0 ∨ t = .int .i64 n ∧ u = .int .i64 1 ∨ t = .int .i64 (n + m) ∧ u = .int .i64 2) ∧ Ext w W) (fun _ u _ => 2 - (intOf u).toNat)
  case atStart => exact ⟨.inl ⟨rfl, rfl⟩, Ext.refl _⟩
  case round =>
    obtain ⟨hrel, hE⟩ := hrel
    have q0 := hE.cell h0
    have q1 := hE.cell h1
    rcases hrel with ⟨rfl, rfl⟩ | ⟨rfl, rfl⟩ | ⟨rfl, rfl⟩
    · go_wp2_with fail
      go_roundw
      case rel => exact ⟨.inr (.inl ⟨by go_num, by go_num⟩), hE⟩
      case measure => simp [intOf]
    · have hw1 : wrap64 ((n : Int) + (m : Int)) = (n : Int) + (m : Int) := by unfold wrap64; omega
      go_wp2_with fail
      go_roundw
      case rel => exact ⟨.inr (.inr ⟨by go_num, by go_num⟩), hE⟩
      case measure => simp [intOf]
    · have hnm : ((n + m : Nat) : Int) = (n : Int) + (m : Int) := by omega
      have hG2 := Lib.hid (hG.out wr)
      rw [hnm] at hG2
      clear hnm hG
      go_wp2_with (go_at_call 63; ((with_reducible refine (hG2.out).mono ?_); rintro e w2 ⟨v2, rfl, hO2, hx2⟩))
      have hO3 := own_mono hO2 hE.le
      replace hE := hE.trans hx2
      clear hO2 hx2 q0 q1 hG2
      go_loopw [6, 27] (fun v u W => ((u = .int .i64 0 ∧ W.ownsRow w.heap.size 40 5 v 0 []) ∨ (u = .int .i64 1 ∧ W.ownsRow w.heap.size 40 5 v n cs.flatten) ∨ (u = .int .i64 2 ∧ W.ownsRow w.heap.size 40 5 v (n + m) (cs.flatten ++ ds.flatten))) ∧ Ext w W) (fun _ u _ => 2 - (intOf u).toNat)
      case atStart => exact ⟨.inl ⟨rfl, hO3⟩, hE⟩
      case round =>
        obtain ⟨hrel, hE⟩ := hrel
        have q0 := hE.cell h0
        have q1 := hE.cell h1
        rcases hrel with ⟨rfl, hown⟩ | ⟨rfl, hown⟩ | ⟨rfl, hown⟩
        · go_wp2_with (at_builtin; refine own_appendA T_rowV rfl (.tmp 31) (.tmp 32) rfl w _ 0 [] rfl hown hE A n c cs.flatten rfl hA0.out HCL.out (fun ad e j u hu => hE.cell (HC.out ad e j u hu)) HC1.out (by omega) (by decide) ?_; intro v2 w9 hown2 hE9)
          go_roundw
          case rel => exact ⟨.inr (.inl ⟨by go_num, by rw [Nat.zero_add, List.nil_append] at hown2; exact hown2⟩), hE9⟩
          case measure => simp [intOf]
        · go_wp2_with (at_builtin; refine own_appendA T_rowV rfl (.tmp 31) (.tmp 32) rfl w _ n cs.flatten rfl hown hE B m d ds.flatten rfl hB0.out HDL.out (fun ad e j u hu => hE.cell (HD.out ad e j u hu)) HD1.out (by omega) (by decide) ?_; intro v2 w9 hown2 hE9)
          go_roundw
          case rel => exact ⟨.inr (.inr ⟨by go_num, hown2⟩), hE9⟩
          case measure => simp [intOf]
        · have HX := Lib.hid ((HT.out.ext hE).fin (ok' := fun b => (ok b ∨ ok' b) ∨ w.heap.size ≤ b) (by rw [HRS.out, List.flatten_append]; exact hown) HLL.out (by rw [HRS.out]; omega) (fun _ h => .inl h) (fun _ h => .inr h))
          clear hown
          go_wp2_with fail
          obtain ⟨A9, c9, e9, h9, hV9⟩ := HX.out
          subst e9
          go_ret
          exact ⟨A9, c9, rfl, h9, hV9, hE⟩
end Go.Proofs.YtbjddimafilflaaGreatDoor

/- THE WALKS over slices.DeleteFunc at rows and over join.sorted. -/
namespace Go.Proofs.YtbjddimafilflaaGreatDoor
open Go.RowKit Go.Sort
/-- what the call's own row holds: some rows, then what is left of the old ones -/
structure DelW (w0 : World) (B g cap n : Nat) (fs mid rest : List HRow) (W : World) : Prop where
  gr : w0.grownBy W (some g)
  own : W.ownsRow B 37 1 (.slice (some ⟨g, 0, none⟩) n cap) n (fs.map encP ++ (mid.map encP ++ rest.map encP))
  len : fs.length + mid.length + rest.length = n
theorem DelW.ext {w0 W W' : World} {B g cap n : Nat} {fs mid rest : List HRow} (h : DelW w0 B g cap n fs mid rest W) (e : Ext W W') : DelW w0 B g cap n fs mid rest W' := ⟨grown_trans h.gr (e.grownBy _), own_ext h.own e, h.len⟩
theorem DelW.at_ {w0 W : World} {B g cap n : Nat} {fs mid rest : List HRow} {p : HRow} (h : DelW w0 B g cap n fs mid (p :: rest) W) : W.cell? ⟨g, fs.length + mid.length, none⟩ = some (encP p) := by
  have hl := h.len
  rw [List.length_cons] at hl
  rw [h.own.cellAt _ (by omega), List.getElem?_append_right (by simp), List.getElem?_append_right (by simp)]
  simp
theorem DelW.at0 {w0 W : World} {B g cap n : Nat} {fs mid rest : List HRow} {m1 : HRow} (h : DelW w0 B g cap n fs (m1 :: mid) rest W) : W.cell? ⟨g, fs.length, none⟩ = some (encP m1) := by
  have hl := h.len
  rw [List.length_cons] at hl
  rw [h.own.cellAt _ (by omega), List.getElem?_append_right (by simp)]
  simp
theorem DelW.skip {w0 W : World} {B g cap n : Nat} {fs mid rest : List HRow} {p : HRow} (h : DelW w0 B g cap n fs mid (p :: rest) W) : DelW w0 B g cap n fs (mid ++ [p]) rest W := by
  refine ⟨h.gr, ?_, by have := h.len; simp at this ⊢; omega⟩
  have := h.own
  simpa using this
theorem DelW.take {w0 W : World} {B g cap n : Nat} {fs mid rest : List HRow} {p q : HRow} (h : DelW w0 B g cap n fs (q :: mid) (p :: rest) W) : DelW w0 B g cap n (fs ++ [p]) (mid ++ [p]) rest (W.setCell ⟨g, fs.length, none⟩ (encP p)) := by
  obtain ⟨h1, h2⟩ := h.own.stored fs.length (encP p)
  refine ⟨grown_trans h.gr h2, ?_, by have := h.len; simp at this ⊢; omega⟩
  rw [List.set_append_right _ _ (by simp)] at h1
  simpa using h1
theorem DelW.frozen {w0 W : World} {B g cap n : Nat} {fs mid rest : List HRow} (h : DelW w0 B g cap n fs mid rest W) (j : Nat) : W.frozen? ⟨g, j, none⟩ = false := h.own.frozenAt j
theorem zeros_row (n : Nat) : (Builtin.zeroCells (Value.slice none 0 0).cells n).size = n ∧ ∀ v ∈ (Builtin.zeroCells (Value.slice none 0 0).cells n).toList, v.oneCell' = true := by
  have h1 : (Value.slice none 0 0).cells = #[.slice none 0 0] := rfl
  refine ⟨by rw [size_zeroCells, h1]; simp, fun v hv => ?_⟩
  unfold Builtin.zeroCells at hv
  rw [h1] at hv
  simp at hv
  obtain ⟨k, -, rfl⟩ := hv
  simp [Nat.mod_one]; rfl
theorem zero_row (w : World) : (zeroValue 37).run Tryz.prog w = .ok (.slice none 0 0) w := by
  kernel_rfl
/-- clearing what is behind the rows that stay -/
theorem DelW.cleared {w0 W : World} {B g cap n : Nat} {fs mid : List HRow} (h : DelW w0 B g cap n fs mid [] W) (hm : 0 < mid.length) : ∃ W', (∀ ty c, (Builtin.clear_ #[23] ty #[.slice (some ⟨g, fs.length, none⟩) mid.length c]).run Tryz.prog W = .ok (.tuple #[]) W') ∧ w0.grownBy W' (some g) ∧ W'.ownsRow B 37 1 (.slice (some ⟨g, 0, none⟩) fs.length cap) fs.length (fs.map encP) := by
  have hl := h.len
  simp only [List.length_nil] at hl
  rcases h.own.2 with ⟨h', _⟩ | ⟨g', cap', cur, h', hB, hg, hnc, hcm, hsz, htake⟩
  · simp at h'
  · simp only [Value.slice.injEq, Option.some.injEq, Addr.mk.injEq, and_true, true_and] at h'
    obtain ⟨rfl, rfl⟩ := h'
    have hblk : Blk W g 37 cur.toList := by unfold Blk; rw [Array.toArray_toList]; exact hg
    have hcl : cur.toList.length = cap := by rw [Array.length_toList, hsz, Nat.mul_one]
    have hz := zeros_row mid.length
    have hz3 : (Builtin.zeroCells (Value.slice none 0 0).cells mid.length).toList.length = mid.length := by rw [Array.length_toList]; exact hz.1
    refine ⟨_, fun ty c => run_clearK (P := Tryz.prog) W 23 ty 37 g fs.length mid.length c (.slice none 0 0) cur.toList 37 Tryz.underlying23 zero_row hm hblk (by rw [hz.1, hcl]; omega) hz.2, ?_, ?_⟩
    · refine grown_trans h.gr ⟨rfl, rfl, rfl, by simp, fun k _ hk => setRow_other W g k _ (fun e => hk (by simp [e]))⟩
    · refine Blk.own (hblk.set _) hB (by omega) hcm ?_ ?_
      · rw [laidAt_len (by rw [hz3, hcl]; omega), hcl, Nat.mul_one]
      · rw [Nat.mul_one, take_laid_lt (by omega) (Nat.le_refl _)]
        have h2 : (cur.toList.take (n * 1)).take fs.length = (fs.map encP ++ (mid.map encP ++ ([] : List HRow).map encP)).take fs.length := by rw [htake]
        rw [List.take_take, Nat.min_eq_left (by omega)] at h2
        rw [h2, List.take_append_of_le_length (by simp), List.take_of_length_le (by simp)]
set_option maxRecDepth 100000 in
set_option maxHeartbeats 1000000 in
theorem d_Delete (ps : List HRow) (q : List Val → Bool) (B g cap : Nat) (ok : Nat → Prop) (f : Nat) (cb : Array Value) (w : World) (eg : ∀ args w, (callFunc f args).run Tryz.prog w = .ok (.enter f args) w)
    (hown : w.ownsRow B 37 1 (.slice (some ⟨g, 0, none⟩) ps.length cap) ps.length (ps.map encP)) (hgd : ∀ p ∈ ps, GoodRow w ok p) (hne : ∀ b, ok b → b ≠ g) (hl : ps.length ≤ 8000000)
    (hf : ∀ W, w.grownBy W (some g) → ∀ r ∈ ps.map Prod.snd, ∀ (ok' : Nat → Prop) (A : Option Addr) (c : Nat), Vals W ok' A r → r.length ≤ c → Calls Tryz.prog f (#[.slice A r.length c] ++ cb) W fun e W' => e = .returned (.bool (q r)) ∧ Ext W W') :
    Calls Tryz.prog 78 #[.slice (some ⟨g, 0, none⟩) ps.length cap, .func (.func f) #[] cb] w fun e w' => ∃ fs : List HRow, fs = ps.filter (fun p => !q p.2) ∧ e = .returned (.slice (some ⟨g, 0, none⟩) fs.length cap) ∧ w.grownBy w' (some g) ∧ w'.ownsRow B 37 1 (.slice (some ⟨g, 0, none⟩) fs.length cap) fs.length (fs.map encP) := by
  have hrows : Rows w (fun b => ok b ∨ b = g) (some ⟨g, 0, none⟩) (ps.map Prod.snd) := by
    have h1 := rows_of (W := w) (B := B) (g := g) (cap := cap) (ok := ok) (ok' := fun b => ok b ∨ b = g) (d := ps.toArray) (by simpa using hown) (fun m hm => by
      have hm' : m < ps.length := by simpa using hm
      rw [getElem!_pos ps.toArray m hm]
      exact hgd _ (by simp)) (fun _ h => .inl h) (.inr rfl) (by simp; omega)
    simpa using h1
  have HI := Lib.hid (j_IndexR (ps.map Prod.snd) q _ _ cap f cb w hrows eg (fun r hr A c W hE hv hc => hf W (hE.grownBy _) r hr _ A c hv hc))
  rw [List.length_map] at HI
  have HG := Lib.hid (fun W (hg : w.grownBy W (some g)) p (hp : p ∈ ps) => (by
    have h := (hgd p hp).keep (ok' := ok) (fun b o x hb hc => hg.cell hc (fun e => hne b hb (Option.some.inj e))) (fun _ h => h)
    rw [h.1]
    exact hf W hg p.2 (List.mem_map_of_mem hp) _ _ _ h.2.2 h.2.1 : Calls Tryz.prog f (#[.slice p.1.A p.1.n p.1.c] ++ cb) W fun e W' => e = .returned (.bool (q p.2)) ∧ Ext W W'))
  have HO := Lib.hid hown
  have EG := Lib.hid eg
  clear hgd hf hown hrows
  cases hx : (ps.map Prod.snd).findIdx? q with
  | none =>
    have HF := Lib.hid (show ps.filter (fun p => !q p.2) = ps by
      rw [List.findIdx?_eq_none_iff] at hx
      exact List.filter_eq_self.2 (fun p hp => by rw [hx p.2 (List.mem_map_of_mem hp)]; rfl))
    rw [show idxF q (ps.map Prod.snd) = -1 by unfold idxF; rw [hx]] at HI
    rw [HF.out]
    clear hx HF HG EG
    obtain ⟨n, hn⟩ : ∃ n, n = ps.length := ⟨_, rfl⟩
    have HN := Lib.hid hn
    rw [← hn] at HI HO hl ⊢
    clear hn
    go_enter Tryz.func78, Tryz.ntmps78
    go_wp2_with (go_at_call 74; ((with_reducible refine (HI.out).mono ?_); rintro e w' ⟨rfl, hx⟩))
    go_ret
    exact ⟨ps, rfl, by rw [← HN.out]; rfl, hx.grownBy _, by rw [← HN.out]; exact own_ext HO.out hx⟩
  | some i =>
    obtain ⟨hi, h2, h3⟩ := List.findIdx?_eq_some_iff_getElem.1 hx
    rw [List.length_map] at hi
    rw [show idxF q (ps.map Prod.snd) = (i : Int) by unfold idxF; rw [hx]] at HI
    have HS := Lib.hid (show ps.take i ++ (ps.drop (i + 1)).filter (fun p => !q p.2) = ps.filter (fun p => !q p.2) by
      have e1 : ps = ps.take i ++ ps[i] :: ps.drop (i + 1) := by rw [← List.drop_eq_getElem_cons hi, List.take_append_drop]
      have e2 : (ps.take i).filter (fun p => !q p.2) = ps.take i := List.filter_eq_self.2 (fun p hp => by
        obtain ⟨j, hj, rfl⟩ := List.getElem_of_mem hp
        rw [List.length_take] at hj
        have := h3 j (by omega)
        rw [List.getElem_map] at this
        rw [List.getElem_take]
        simpa using this)
      rw [List.getElem_map] at h2
      conv => rhs; rw [e1]
      rw [List.filter_append, List.filter_cons_of_neg (by rw [h2]; simp), e2])
    have HM := Lib.hid (show ∀ p ∈ ps.drop (i + 1), p ∈ ps from fun p hp => List.mem_of_mem_drop hp)
    have HD := Lib.hid (show DelW w B g cap ps.length (ps.take i) [ps[i]] (ps.drop (i + 1)) w by
      refine ⟨World.grownBy.refl _ _, ?_, by simp; omega⟩
      have e1 : ps = ps.take i ++ ([ps[i]] ++ ps.drop (i + 1)) := by rw [List.singleton_append, ← List.drop_eq_getElem_cons hi, List.take_append_drop]
      rw [← List.map_append, ← List.map_append, ← e1]
      exact HO.out)
    have HL1 := Lib.hid (show (ps.take i).length = i by simp; omega)
    obtain ⟨n, hn⟩ : ∃ n, n = ps.length := ⟨_, rfl⟩
    have HN := Lib.hid hn
    have hnc : n ≤ cap := by rw [hn]; exact own_cap HO.out
    rw [← hn] at HI HO HD hl hi ⊢
    clear hn hx h2 h3
    generalize ps.take i = fs0 at *
    generalize ps.drop (i + 1) = rest0 at *
    generalize ps[i] = m0 at *
    have hi1 : ((i : Int) == -1) = false := by rw [beq_eq_false_iff_ne]; omega
    go_enter Tryz.func78, Tryz.ntmps78
    go_wp2_with (go_at_call 74; ((with_reducible refine (HI.out).mono ?_); rintro e w1 ⟨rfl, hx1⟩))
    clear HI hi1
    go_loopw [5, 6] (fun t u W => ∃ (k j : Nat) (fs mid rest : List HRow), t = .int .i64 k ∧ u = .int .i64 j ∧ k < j ∧ j ≤ n ∧ Hid (fs.length = k) ∧ Hid (k + mid.length = j) ∧ Hid (DelW w B g cap n fs mid rest W) ∧ Hid (fs ++ rest.filter (fun p => !q p.2) = ps.filter (fun p => !q p.2)) ∧ Hid (∀ p ∈ rest, p ∈ ps)) (fun _ u _ => n - (intOf u).toNat)
    case atStart => exact ⟨i, i + 1, fs0, [m0], rest0, rfl, by go_num, by omega, by omega, HL1, Lib.hid rfl, Lib.hid (HD.out.ext hx1), HS, HM⟩
    case round =>
      obtain ⟨k, j, fs, mid, rest, rfl, rfl, hk, hj, h1, h2, hd, hs, hm⟩ := hrel
      by_cases hlt : j < n
      · cases rest with
        | nil => exact absurd hd.out.len (by have := h1.out; have := h2.out; simp only [List.length_nil]; omega)
        | cons p rest =>
          cases mid with
          | nil => exact absurd h2.out (by simp only [List.length_nil]; omega)
          | cons m1 mid =>
            have d0 := hd.out.at_
            have e0 : fs.length + (m1 :: mid).length = j := by rw [h1.out]; exact h2.out
            rw [e0] at d0
            clear e0
            change wr.cell? _ = some (.slice p.1.A p.1.n p.1.c) at d0
            have HC := Lib.hid (fun W (e : Ext wr W) => HG.out W (grown_trans hd.out.gr (e.grownBy _)) p (hm.out p (by simp)))
            have HF := Lib.hid (hs.out)
            have HR := Lib.hid (fun x (hx : x ∈ rest) => hm.out x (List.mem_cons_of_mem _ hx))
            have HLT := Lib.hid (show fs.length = k from h1.out)
            have HL2 := Lib.hid (show k + mid.length + 1 = j by have := h2.out; simp only [List.length_cons] at this; omega)
            clear h1 h2 hs hm
            cases hq : q p.2
            · rw [hq] at HC
              have HFF := Lib.hid (show (fs ++ [p]) ++ rest.filter (fun p => !q p.2) = ps.filter (fun p => !q p.2) by rw [← HF.out, List.filter_cons_of_pos (by rw [hq]; rfl)]; simp)
              clear hq HF
              go_wp2_with fail
              refine (HC.out wr (Ext.refl _)).mono ?_
              rintro e w2 ⟨rfl, hx2⟩
              have HDT := Lib.hid (hd.out.ext hx2)
              have hfr := HDT.out.frozen k
              have d1 := hx2.cell d0
              have d2 := HDT.out.at0
              rw [HLT.out] at d2
              change w2.cell? _ = some (.slice m1.1.A m1.1.n m1.1.c) at d2
              go_wp2_with fail
              have HT := Lib.hid (show DelW w B g cap n (fs ++ [p]) (mid ++ [p]) rest (w2.setCell ⟨g, k, none⟩ (.slice p.1.A p.1.n p.1.c)) by rw [← HLT.out]; exact HDT.out.take)
              go_roundw
              case rel => exact ⟨k + 1, j + 1, fs ++ [p], mid ++ [p], rest, by go_num, by go_num, by omega, by omega, Lib.hid (by rw [List.length_append, HLT.out]; rfl), Lib.hid (by have := HL2.out; rw [List.length_append]; simp only [List.length_cons, List.length_nil]; omega), HT, HFF, HR⟩
              case measure => simp [intOf]; omega
            · rw [hq] at HC
              have HFF := Lib.hid (show fs ++ rest.filter (fun p => !q p.2) = ps.filter (fun p => !q p.2) by rw [← HF.out, List.filter_cons_of_neg (by rw [hq]; simp)])
              clear hq HF
              go_wp2_with fail
              refine (HC.out wr (Ext.refl _)).mono ?_
              rintro e w2 ⟨rfl, hx2⟩
              have HDT := Lib.hid ((hd.out.ext hx2).skip)
              go_wp2_with fail
              go_roundw
              case rel => exact ⟨k, j + 1, fs, m1 :: mid ++ [p], rest, rfl, by go_num, by omega, by omega, HLT, Lib.hid (by have := HL2.out; rw [List.length_append]; simp only [List.length_cons, List.length_nil]; omega), HDT, HFF, HR⟩
              case measure => simp [intOf]; omega
      · cases rest with
        | cons p rest => exact absurd hd.out.len (by have := h1.out; have := h2.out; simp only [List.length_cons]; omega)
        | nil =>
          obtain ⟨W', hcl, hgr, how⟩ := hd.out.cleared (by have := h2.out; omega)
          rw [h1.out, show mid.length = n - k by have := h2.out; omega] at hcl
          rw [h1.out] at how
          have HW := Lib.hid how
          have HGR := Lib.hid hgr
          have HFS := Lib.hid (show fs = ps.filter (fun p => !q p.2) by rw [← hs.out]; simp)
          have HL := h1
          clear how hgr hd hs hm h1 h2
          go_wp2_with fail
          go_ret
          exact ⟨fs, HFS.out, by rw [HL.out]; rfl, HGR.out, by rw [HL.out]; exact HW.out⟩
end Go.Proofs.YtbjddimafilflaaGreatDoor

/- THE WALK over join.sorted; join.part with what it points to. -/
namespace Go.Proofs.YtbjddimafilflaaGreatDoor
open Go.RowKit Go.Sort
theorem sn_ins (A : Option Addr) (c : Nat) (fv : Value) (w : World) : Calls Tryz.prog 95 #[.slice A 0 c, .int .i64 0, .int .i64 0, fv] w fun e w' => e = .returned (.tuple #[]) ∧ Ext w w' := by
  go_enter Tryz.func95, Tryz.ntmps95
  go_wp2_with fail
  go_loopw [8] (fun u W => u = .int .i64 1 ∧ Ext w W) (fun _ _ => 0)
  case atStart => exact ⟨by go_num, Ext.refl _⟩
  case round =>
    obtain ⟨rfl, hE⟩ := hrel
    go_wp2_with fail
    go_end0
    exact ⟨rfl, hE⟩
theorem sn_stable (A : Option Addr) (c : Nat) (fv : Value) (w : World) : Calls Tryz.prog 77 #[.slice A 0 c, .int .i64 0, fv] w fun e w' => e = .returned (.tuple #[]) ∧ Ext w w' := by
  have H := Lib.hid (fun W => sn_ins A c fv W)
  go_enter Tryz.func77, Tryz.ntmps77
  go_wp2_with fail
  go_loopw [7, 8] (fun u v W => u = .int .i64 0 ∧ v = .int .i64 20 ∧ Ext w W) (fun _ _ _ => 0)
  case atStart => exact ⟨rfl, rfl, Ext.refl _⟩
  case round =>
    obtain ⟨rfl, rfl, hE⟩ := hrel
    go_wp2_with (go_at_call 95; ((with_reducible refine (H.out _).mono ?_); rintro e w1 ⟨rfl, hx1⟩))
    replace hE := hE.trans hx1
    go_loopw [6, 7, 8] (fun u v x W => u = .int .i64 20 ∧ Ext w W) (fun _ _ _ _ => 0)
    case atStart => exact ⟨rfl, hE⟩
    case round =>
      obtain ⟨rfl, hE⟩ := hrel
      go_wp2_with fail
      go_end0
      exact ⟨rfl, hE⟩
theorem sn_sort (A : Option Addr) (c : Nat) (fv : Value) (w : World) : Calls Tryz.prog 65 #[.slice A 0 c, fv] w fun e w' => e = .returned (.tuple #[]) ∧ Ext w w' := by
  have H := Lib.hid (fun W => sn_stable A c fv W)
  go_enter Tryz.func65, Tryz.ntmps65
  go_wp2_with (go_at_call 77; ((with_reducible refine (H.out _).mono ?_); rintro e w1 ⟨rfl, hx1⟩))
  go_end0
  exact ⟨rfl, hx1⟩
theorem sn_delete (f : Nat) (cb : Array Value) (w : World) (eg : ∀ args w, (callFunc f args).run Tryz.prog w = .ok (.enter f args) w) :
    Calls Tryz.prog 78 #[.slice none 0 0, .func (.func f) #[] cb] w fun e w' => e = .returned (.slice none 0 0) ∧ Ext w w' := by
  have HI := Lib.hid (show Calls Tryz.prog 74 #[.slice none 0 0, .func (.func f) #[] cb] w (fun e w' => e = .returned (.int .i64 (-1)) ∧ Ext w w') from j_IndexR [] (fun _ => false) (fun _ => True) none 0 f cb w (SliceR.nil _ _ _) eg (fun r hr => absurd hr (by simp)))
  go_enter Tryz.func78, Tryz.ntmps78
  go_wp2_with (go_at_call 74; ((with_reducible refine (HI.out).mono ?_); rintro e w' ⟨rfl, hx⟩))
  go_ret
  exact ⟨rfl, hx⟩
/-- a predicate on blocks, of blocks that are there -/
def okN (ok : Nat → Prop) (w : World) (b : Nat) : Prop := ok b ∧ b < w.heap.size
theorem Vals.bnd {w : World} {ok : Nat → Prop} {A : Option Addr} {l : List Val} (h : Vals w ok A l) : Vals w (okN ok w) A l := h.keep' (fun _ _ _ hb hc => ⟨hc, hb, block_lt_of_cell hc⟩)
theorem Rows.bnd {w : World} {ok : Nat → Prop} {A : Option Addr} {l : List (List Val)} (h : Rows w ok A l) : Rows w (okN ok w) A l :=
  SliceR.mono h (fun b o x _ hx => by
    obtain ⟨h0, A, c, h1, h2, h3⟩ := hx
    exact ⟨⟨h0, block_lt_of_cell h1⟩, A, c, h1, h2, h3.bnd⟩)
theorem Rows.to {w : World} {ok ok' : Nat → Prop} {A : Option Addr} {l : List (List Val)} (h : Rows w ok A l) (ho : ∀ b, ok b → ok' b) : Rows w ok' A l := h.keep (fun _ _ _ _ hc => hc) ho
/-- the heads of rows that lie in memory -/
theorem Rows.flat {w : World} {ok : Nat → Prop} {A : Option Addr} {l : List (List Val)} (h : Rows w ok A l) : ∃ ps : List HRow, ps.map Prod.snd = l ∧ (∀ p ∈ ps, GoodRow w ok p) ∧ (∀ ad, A = some ad → ∀ j u, (ps.map encP)[j]? = some u → w.cell? (ad.add j) = some u) := by
  rcases Nat.eq_zero_or_pos l.length with h0 | h0
  · have : l = [] := List.eq_nil_of_length_eq_zero h0
    subst this
    exact ⟨[], rfl, fun p hp => absurd hp (by simp), fun _ _ j u hu => by simp at hu⟩
  · obtain ⟨b, o, rfl, hc⟩ := h.2 h0
    have hch : ∀ k (hk : k < l.length), ∃ p : HRow, p.2 = l[k] ∧ GoodRow w ok p ∧ w.cell? ⟨b, o + k, none⟩ = some (encP p) := fun k hk => by
      obtain ⟨-, A, c, h1, h2, h3⟩ := hc k hk
      rw [Nat.mul_one] at h1
      exact ⟨(⟨A, l[k].length, c⟩, l[k]), rfl, ⟨rfl, h2, h3⟩, h1⟩
    have hx : ∀ n, n ≤ l.length → ∃ ps : List HRow, ps.map Prod.snd = l.take n ∧ (∀ p ∈ ps, GoodRow w ok p) ∧ ∀ j u, (ps.map encP)[j]? = some u → w.cell? ⟨b, o + j, none⟩ = some u := fun n => by
      induction n with
      | zero => exact fun _ => ⟨[], by simp, fun p hp => absurd hp (by simp), fun j u hu => by simp at hu⟩
      | succ n ih =>
        intro hn
        obtain ⟨ps, e1, e2, e3⟩ := ih (by omega)
        obtain ⟨p, f1, f2, f3⟩ := hch n (by omega)
        have hlen : ps.length = n := by have := congrArg List.length e1; simp at this; omega
        refine ⟨ps ++ [p], ?_, ?_, ?_⟩
        · rw [List.map_append, e1, List.take_succ_eq_append_getElem (by omega)]
          simp [f1]
        · intro q hq
          rcases List.mem_append.1 hq with h1 | h1
          · exact e2 q h1
          · rw [List.mem_singleton.1 h1]; exact f2
        · intro j u hu
          rw [List.map_append] at hu
          rcases Nat.lt_or_ge j n with h1 | h1
          · rw [List.getElem?_append_left (by simp; omega)] at hu
            exact e3 j u hu
          · rw [List.getElem?_append_right (by simp; omega)] at hu
            simp only [List.length_map, hlen, List.map_cons, List.map_nil] at hu
            rcases Nat.eq_zero_or_pos (j - n) with h2 | h2
            · rw [h2] at hu
              simp at hu
              rw [← hu, show j = n by omega]; exact f3
            · rw [List.getElem?_eq_none (by simp; omega)] at hu; cases hu
    obtain ⟨ps, e1, e2, e3⟩ := hx l.length (Nat.le_refl _)
    rw [List.take_length] at e1
    refine ⟨ps, e1, e2, fun ad e j u hu => ?_⟩
    injection e with e
    subst e
    rw [Addr.add_mid]; exact e3 j u hu
theorem eg_sorted1 (args : Array Value) (w : World) : (callFunc 80 args).run Tryz.prog w = .ok (.enter 80 args) w :=
  run_enter (c := Tryz.f80.body.get!) Tryz.func80 (by kernel_rfl) (by kernel_rfl) args w
theorem eg_sorted2 (args : Array Value) (w : World) : (callFunc 81 args).run Tryz.prog w = .ok (.enter 81 args) w :=
  run_enter (c := Tryz.f81.body.get!) Tryz.func81 (by kernel_rfl) (by kernel_rfl) args w
def keyC (at_ : List Nat) (r s : List Val) : Int := ordL (partJ r at_) (partJ s at_)
/-- rows in a block of its own: those with null at some positions dropped, the others sorted by these -/
theorem j_sort2 (w3 : World) (B g cap q d : Nat) (ok ok' : Nat → Prop) (at_ : List Nat) (Bt : Option Addr) (fs : List HRow) (hz : ZeroAt w3) (hzg : 0 ≠ g) (hne : ∀ b, ok b → b ≠ g) (hne' : ∀ b, ok' b → b ≠ g) (hqg : q ≠ g)
    (hq : w3.cell? ⟨q, 0, none⟩ = some (.slice Bt at_.length d)) (hn : Nums w3 ok' Bt (ints at_)) (hgd : ∀ p ∈ fs, GoodRow w3 ok p) (hat : ∀ p ∈ fs, ∀ i ∈ at_, i < p.2.length) (hla : at_.length ≤ 8000000) (hl : fs.length ≤ 8000000)
    (hown : w3.ownsRow B 37 1 (.slice (some ⟨g, 0, none⟩) fs.length cap) fs.length (fs.map encP)) :
    Calls Tryz.prog 65 #[.slice (some ⟨g, 0, none⟩) fs.length cap, .func (.func 81) #[] #[.pointer (some ⟨q, 0, none⟩)]] w3 fun e w' => e = .returned (.tuple #[]) ∧ w3.grownBy w' (some g) ∧ ∃ L : List (List Val), L.length = fs.length ∧ L.Perm (fs.map Prod.snd) ∧ L.Pairwise (fun r s => keyC at_ r s ≤ 0) ∧ ∀ ok2 : Nat → Prop, (∀ b, ok b → ok2 b) → ok2 g → Rows w' ok2 (some ⟨g, 0, none⟩) L := by
  by_cases hfe : fs = []
  · subst hfe
    refine (sn_sort (some ⟨g, 0, none⟩) cap _ w3).mono ?_
    rintro e w' ⟨rfl, hx⟩
    exact ⟨rfl, hx.grownBy _, [], rfl, List.Perm.refl _, List.Pairwise.nil, fun _ _ _ => SliceR.nil _ _ _⟩
  · obtain ⟨p0, hp0⟩ := List.exists_mem_of_ne_nil fs hfe
    have : Inhabited {p : HRow // p ∈ fs} := ⟨⟨p0, hp0⟩⟩
    have hds : fs.attach.toArray.size = fs.length := by rw [List.size_toArray, List.length_attach]
    have hen : fs.attach.toArray.toList.map (encS fun x : {p : HRow // p ∈ fs} => x.1.1) = fs.map encP := by
      rw [List.toList_toArray]
      exact List.attach_map_val (f := encP)
    have hsn : (fs.attach.toArray.toList.map (fun x : {p : HRow // p ∈ fs} => x.1.2)) = fs.map Prod.snd := by
      rw [List.toList_toArray]
      exact List.attach_map_val (f := Prod.snd)
    have hswo : SWO (ltC (fun x y : {p : HRow // p ∈ fs} => keyC at_ x.1.2 y.1.2)) := swo_of (fun x y => ordL_anti _ _) (fun x y z => ordL_trans _ _ _)
    have hst : SortW w3 B g cap 37 (encS fun x : {p : HRow // p ∈ fs} => x.1.1) fs.attach.toArray w3 := SortW.start (by rw [hds, hen]; exact hown)
    have h := sw_sortStable w3 B g cap (fun x : {p : HRow // p ∈ fs} => x.1.1) (fun x y => keyC at_ x.1.2 y.1.2) 81 #[.pointer (some ⟨q, 0, none⟩)] fs.attach.toArray w3 eg_sorted2 (fun W hg x y => by
      have g1 := hgd x.1 x.2
      have g2 := hgd y.1 y.2
      rw [show encS (fun x : {p : HRow // p ∈ fs} => x.1.1) x = .slice x.1.1.A x.1.2.length x.1.1.c by unfold encS; rw [g1.1], show encS (fun x : {p : HRow // p ∈ fs} => x.1.1) y = .slice y.1.1.A y.1.2.length y.1.1.c by unfold encS; rw [g2.1]]
      exact j_sorted2 x.1.2 y.1.2 at_ ok ok ok' _ _ Bt _ _ d q W (hz.grown hg hzg) (hg.cell hq (fun e => hqg (Option.some.inj e))) (g1.2.2.grown hg hne) (g2.2.2.grown hg hne) (SliceR.mono hn (fun b o x _ hx => ⟨hx.1, hg.cell hx.2 (fun e => hne' b hx.1 (Option.some.inj e))⟩)) (hat x.1 x.2) (hat y.1 y.2) hla) hswo hst (by rw [hds]; exact hl)
    rw [hds] at h
    refine h.mono ?_
    rintro e w' ⟨rfl, d', hs, hp, hso⟩
    rw [← hds] at hp hso
    have hp1 : d'.size = fs.attach.toArray.size := hp.1
    have hpw := permIn_whole hp
    refine ⟨rfl, hs.gr, d'.toList.map (fun x => x.1.2), by rw [List.length_map, Array.length_toList, hp1, hds], ?_, ?_, fun ok2 h1 h2 => ?_⟩
    · rw [← hsn]; exact hpw.map _
    · rw [List.pairwise_map, List.pairwise_iff_getElem]
      intro i j hi hj hij
      rw [Array.length_toList] at hi hj
      have := hso i j (Nat.zero_le _) hij (by omega)
      rw [getElem!_pos d' i hi, getElem!_pos d' j hj] at this
      have h1 : ¬ keyC at_ d'[j].1.2 d'[i].1.2 < 0 := of_decide_eq_false this
      rw [Array.getElem_toList, Array.getElem_toList]
      have h2 : keyC at_ d'[j].1.2 d'[i].1.2 = - keyC at_ d'[i].1.2 d'[j].1.2 := ordL_anti _ _
      omega
    · have ho := hs.own
      have hr := rows_of (W := w') (B := B) (g := g) (cap := cap) (ok := ok) (ok' := ok2) (d := (d'.toList.map (·.1)).toArray) (by
        simp only [List.size_toArray, List.length_map, Array.length_toList, List.map_map]
        exact ho) (fun m hm => ?_) h1 h2 (by simp; omega)
      · rw [show d'.toList.map (fun x => x.1.2) = (d'.toList.map (·.1)).map Prod.snd by rw [List.map_map]; rfl]
        simpa only [List.toList_toArray] using hr
      · rw [getElem!_pos _ m hm]
        have hm' : m < d'.size := by simpa using hm
        have := hgd (d'[m]).1 (d'[m]).2
        simp only [List.getElem_toArray, List.getElem_map, Array.getElem_toList]
        exact this.keep (fun b o x hb hc => hs.gr.cell hc (fun e => hne b hb (Option.some.inj e))) (fun _ h => h)
theorem Nums.bnd {w : World} {ok : Nat → Prop} {A : Option Addr} {l : List Int} (h : Nums w ok A l) : Nums w (okN ok w) A l := SliceR.mono h (fun _ _ _ _ hx => ⟨⟨hx.1, block_lt_of_cell hx.2⟩, hx.2⟩)
theorem Nums.grown {w w' : World} {g : Nat} {ok : Nat → Prop} {A : Option Addr} {l : List Int} (h : Nums w ok A l) (hg : w.grownBy w' (some g)) (hne : ∀ b, ok b → b ≠ g) : Nums w' ok A l :=
  SliceR.mono h (fun b _ _ _ hx => ⟨hx.1, hg.cell hx.2 (fun e => hne b hx.1 (Option.some.inj e))⟩)
set_option maxRecDepth 100000 in
set_option maxHeartbeats 600000 in
theorem j_sorted (l : List (List Val)) (at_ : List Nat) (ok ok' : Nat → Prop) (A B : Option Addr) (c d : Nat) (w : World) (hz : ZeroAt w) (hv : Rows w ok A l) (hn : Nums w ok' B (ints at_)) (hat : ∀ r ∈ l, ∀ i ∈ at_, i < r.length) (hl : l.length ≤ 8000000) (hla : at_.length ≤ 8000000) :
    Calls Tryz.prog 66 #[.slice A l.length c, .slice B at_.length d] w fun e w' => ∃ A' c' L, e = .returned (.slice A' L.length c') ∧ L.length ≤ c' ∧ Rows w' (fun b => ok b ∨ w.heap.size ≤ b) A' L ∧ L.Perm (l.filter (fun r => !voidJ (partJ r at_))) ∧ L.Pairwise (fun r s => keyC at_ r s ≤ 0) ∧ Ext w w' := by
  obtain ⟨ps, e1, e2, e3⟩ := hv.bnd.flat
  have hpl : ps.length = l.length := by rw [← e1, List.length_map]
  obtain ⟨q, hq⟩ : ∃ q, q = w.heap.size := ⟨_, rfl⟩
  obtain ⟨w1, hw1⟩ : ∃ w1, w1 = w.alloc (.cells #[.slice B at_.length d] 61) := ⟨_, rfl⟩
  have hx1 : Ext w w1 := by rw [hw1]; exact (Ext.refl _).alloc _
  have hqc : w1.cell? ⟨q, 0, none⟩ = some (.slice B at_.length d) := by rw [hw1, hq]; exact cell_one_new w _ _ 0 _ rfl
  have HW1 := Lib.hid hw1
  have HG := Lib.hid hq
  have H1 := Lib.hid (c_Clone_row l.length A c (ps.map encP) w1 (fun e => hv.none_ e) (by simp [hpl]) (fun ad e j u hu => hx1.cell (e3 ad e j u hu)) (fun u hu => by obtain ⟨p, -, rfl⟩ := List.mem_map.1 hu; rfl) hl)
  have hsz : q < w1.heap.size := block_lt_of_cell hqc
  have hle := hx1.le
  have HQ := Lib.hid hqc
  have HNIL := Lib.hid (show l.length = 0 → l = [] from List.eq_nil_of_length_eq_zero)
  obtain ⟨n, hnl⟩ : ∃ n, n = l.length := ⟨_, rfl⟩
  obtain ⟨m, hml⟩ : ∃ m, m = at_.length := ⟨_, rfl⟩
  have HN := Lib.hid hnl
  have HM := Lib.hid hml
  rw [← hnl] at H1 HNIL ⊢
  rw [← hml] at HW1 ⊢
  clear hnl hml hw1 hqc hq
  go_enter Tryz.func66, Tryz.ntmps66
  go_upto_region 1 with (fail)
  rw [← HW1.out, ← HG.out]
  clear HW1 HG
  go_wp2_with fail
  refine (H1.out).mono ?_
  rintro e w2 ⟨v, rfl, hO2, hx2⟩
  clear H1
  rcases hO2.2 with ⟨rfl, hn0⟩ | ⟨g, cap, cur, rfl, hbg, -, hnc, -⟩
  · go_wp2_with fail
    refine (sn_delete _ _ w2 eg_sorted1).mono ?_
    rintro e w3 ⟨rfl, hx3⟩
    go_wp2_with fail
    refine (sn_sort none 0 _ w3).mono ?_
    rintro e w4 ⟨rfl, hx4⟩
    go_wp2_with fail
    go_ret
    have hl0 := HNIL.out hn0
    exact ⟨none, 0, [], rfl, Nat.le_refl _, SliceR.nil _ _ _, by rw [hl0]; exact List.Perm.refl _, List.Pairwise.nil, hx1.trans (hx2.trans (hx3.trans hx4))⟩
  · have hgw : w.heap.size ≤ g := Nat.le_trans hle hbg
    have hx12 := hx1.trans hx2
    have HB := Lib.hid (show ∀ b, okN ok w b → b ≠ g from fun b hb => by have := hb.2; omega)
    have HB' := Lib.hid (show ∀ b, okN ok' w b → b ≠ g from fun b hb => by have := hb.2; omega)
    have hzg : 0 ≠ g := by have := hz.2.2; omega
    have hqg : q ≠ g := by omega
    have HR := Lib.hid (fun r (hr : r ∈ ps.map Prod.snd) => hat r (by rw [e1] at hr; exact hr))
    have HD := Lib.hid (d_Delete ps (fun r => voidJ (partJ r at_)) w1.heap.size g cap (okN ok w) 80 #[.pointer (some ⟨q, 0, none⟩)] w2 eg_sorted1 (by rw [hpl, ← HN.out]; exact hO2) (fun p hp => (e2 p hp).keep (fun b o x _ hc => hx12.cell hc) (fun _ h => h)) HB.out (by rw [hpl]; exact hl)
      (fun W hg r hr ok2 A2 c2 hv2 hc2 => j_sorted1 r at_ ok2 (okN ok' w) A2 B c2 d q W ((hz.ext hx12).grown hg hzg) (hg.cell (hx2.cell HQ.out) (fun e => hqg (Option.some.inj e))) hv2 ((hn.bnd.ext hx12).grown hg HB'.out) (HR.out r hr) hla))
    rw [hpl, ← HN.out] at HD
    have HS := Lib.hid (fun w3 (hg : w2.grownBy w3 (some g)) fs (hfs : fs = ps.filter (fun p => !voidJ (partJ p.2 at_))) ho => j_sort2 w3 w1.heap.size g cap q d (okN ok w) (okN ok' w) at_ B fs ((hz.ext hx12).grown hg hzg) hzg HB.out HB'.out hqg (hg.cell (hx2.cell HQ.out) (fun e => hqg (Option.some.inj e))) ((hn.bnd.ext hx12).grown hg HB'.out)
      (fun p hp => ((e2 p (by rw [hfs] at hp; exact (List.mem_filter.1 hp).1)).keep (ok' := okN ok w) (fun b o x _ hc => hx12.cell hc) (fun _ h => h)).keep (fun b o x hb hc => hg.cell hc (fun e => HB.out b hb (Option.some.inj e))) (fun _ h => h))
      (fun p hp => HR.out p.2 (List.mem_map_of_mem (by rw [hfs] at hp; exact (List.mem_filter.1 hp).1))) hla (by rw [hfs]; exact Nat.le_trans (List.length_filter_le _ _) (by rw [hpl]; exact hl)) ho)
    have HP := Lib.hid (show (ps.filter (fun p => !voidJ (partJ p.2 at_))).map Prod.snd = l.filter (fun r => !voidJ (partJ r at_)) by rw [← e1, List.filter_map]; rfl)
    clear hv hn hat e1 e2 e3 hz HR hO2 HN HM hpl
    go_wp2_with fail
    refine (HD.out).mono ?_
    rintro e w3 ⟨fs, hfs, rfl, hg3, ho3⟩
    have HFS := Lib.hid hfs
    clear hfs
    go_wp2_with fail
    refine (HS.out w3 hg3 fs HFS.out ho3).mono ?_
    rintro e w4 ⟨rfl, hg4, L, hL1, hL2, hL3, hL4⟩
    have hLc : L.length ≤ cap := by have := own_cap ho3; omega
    rw [← hL1]
    clear hL1 ho3
    go_wp2_with fail
    go_ret
    exact ⟨_, cap, L, rfl, hLc, hL4 _ (fun b hb => .inl hb.1) (.inr hgw), by rw [← HP.out, ← HFS.out]; exact hL2, hL3, (hx12.grown hg3 (fun k hk => by cases hk; exact hgw)).grown hg4 (fun k hk => by cases hk; exact hgw)⟩
end Go.Proofs.YtbjddimafilflaaGreatDoor
