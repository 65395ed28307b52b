/- THE WALKS over slices.Clone, Insert and Delete of rules. -/
import Derived.Test.YtanclhcoiagcfaaGreatDoorSchO
import Derived.Test.YtanclhcoiagcfaaGreatDoorRow
namespace Go.Proofs.YtanclhcoiagcfaaGreatDoor
open Go.RowKit

abbrev flatR (s : List RuleP) : List Value := s.flatMap RuleP.cells
theorem flatR_len (s : List RuleP) : (flatR s).length = s.length * 6 := flat_len RuleP.cells 6 RuleP.cells_len s
theorem flatR_snoc (s : List RuleP) (r : RuleP) : flatR (s ++ [r]) = flatR s ++ r.cells := by unfold flatR; rw [List.flatMap_append]; simp
theorem flatR_one (s : List RuleP) : ∀ u ∈ flatR s, u.oneCell' = true := by
  intro u hu
  obtain ⟨r, _, h⟩ := List.mem_flatMap.1 hu
  exact RuleP.cells_one r u h
theorem Rules.flat {w : World} {ad : Addr} {s : List RuleP} (h : Rules w (some ad) s) : ∀ j u, (flatR s)[j]? = some u → w.cell? (ad.add j) = some u := by
  intro j u hu
  have hj : j < (flatR s).length := (List.getElem?_eq_some_iff.1 hu).1
  rw [flatR_len] at hj
  obtain ⟨b, off, hA, hc⟩ := h (by omega)
  obtain rfl : ad = ⟨b, off, none⟩ := by injection hA
  have hk : j / 6 < s.length := by omega
  have h6 : j % 6 < 6 := by omega
  have e : j / 6 * 6 + j % 6 = j := by omega
  have h1 := flat_get RuleP.cells 6 RuleP.cells_len s (j / 6) (j % 6) hk h6
  rw [e] at h1
  have hu : s[j / 6].cells[j % 6]? = some u := by rw [← h1]; exact hu
  have hc := hc (j / 6) hk
  rw [getB hk] at hc
  rw [Addr.add_mid, ← e, ← Nat.add_assoc]
  generalize s[j / 6] = r at hc hu
  generalize off + j / 6 * 6 = o at hc
  obtain ⟨c0, c1, c2, c3, c4, c5⟩ := hc
  have hi : j % 6 = 0 ∨ j % 6 = 1 ∨ j % 6 = 2 ∨ j % 6 = 3 ∨ j % 6 = 4 ∨ j % 6 = 5 := by omega
  rcases hi with hi | hi | hi | hi | hi | hi <;> rw [hi] at hu ⊢ <;> simp only [RuleP.cells, List.getElem?_cons_zero, List.getElem?_cons_succ, Option.some.injEq] at hu <;> subst hu <;> assumption

theorem info_rule : ∃ i : TypeInfo, Tryz.prog.info? 23 = some i ∧ i.zero = some (.agg #[.int .i64 0, .int .i64 0, .string ⟨#[]⟩, .string ⟨#[]⟩, .string ⟨#[]⟩, .string ⟨#[]⟩]) ∧ i.size = 6 ∧ i.bytes = 80 :=
  info_parts (show (Tryz.prog.info? 23).map (fun i => (i.zero, i.size, i.bytes)) = some (some (.agg #[.int .i64 0, .int .i64 0, .string ⟨#[]⟩, .string ⟨#[]⟩, .string ⟨#[]⟩, .string ⟨#[]⟩]), 6, 80) by kernel_rfl)
theorem size_rule : (Tryz.prog.info? 23).map (·.size) = some 6 := by obtain ⟨i, h, _, h2, _⟩ := info_rule; rw [h]; simp [h2]
def zeroAgg : Value := .agg #[.int .i64 0, .int .i64 0, .string ⟨#[]⟩, .string ⟨#[]⟩, .string ⟨#[]⟩, .string ⟨#[]⟩]
theorem zero_rule (w : World) : (zeroValue 23).run Tryz.prog w = .ok zeroAgg w := Tryz.zeroValue23 w
theorem zero_len (n : Nat) : (Builtin.zeroCells zeroAgg.cells n).size = n * 6 := by simp [Builtin.zeroCells, zeroAgg, Value.cells]

set_option maxRecDepth 100000 in
set_option maxHeartbeats 800000 in
theorem s_Clone (s : List RuleP) (A : Option Addr) (c : Nat) (w : World) (hs : Rules w A s) (hA : A = none → s.length = 0) (hl : s.length ≤ 1000) :
    Calls Tryz.prog 38 #[.slice A s.length c] w fun e w' => ∃ v, e = .returned v ∧ w'.ownsRow w.heap.size 23 6 v s.length (flatR s) ∧ Ext w w' := by
  have hq := fun W => Lib.run_eql_slice_nil (P := Tryz.prog) W 30 23 A s.length c 0 0 Tryz.underlying30
  cases A with
  | none =>
    have h0 := hA rfl
    have HS := Lib.hid (List.eq_nil_of_length_eq_zero h0)
    clear h0 hA hs
    simp only [Option.isNone_none] at hq
    go_enter Tryz.func38, Tryz.ntmps38
    go_wp2
    go_ret
    refine ⟨_, rfl, ?_, Ext.refl _⟩
    rw [HS.out]
    exact World.ownsRow_nil _ _ _ _
  | some ad =>
    have HF := Lib.hid hs.flat
    simp only [Option.isNone_some] at hq
    go_enter Tryz.func38, Tryz.ntmps38
    go_wp2_with (at_builtin; refine own_append T_rule rfl (.tmp 5) (.tmp 6) rfl w _ 0 [] rfl (World.ownsRow_made w #[] 0 (Nat.le_refl _) (by unfold maxLen; omega) rfl) ((Ext.refl _).alloc _) ad s.length c (flatR s) rfl (flatR_len s) (fun j u hu => ((Ext.refl w).alloc _).cell (HF.out j u hu)) (flatR_one s) (by omega) (by decide) ?_; intro v' w' hown' hE')
    go_wp2_with fail
    go_ret
    exact ⟨v', rfl, by rw [Nat.zero_add, List.nil_append] at hown'; exact hown', hE'⟩

/-- a row and what it holds -/
theorem own_blk {w : World} {base n : Nat} {v : Value} {xs : List Value} (h : w.ownsRow base 23 6 v n xs) (hn : 0 < n) : ∃ g cap cur, v = .slice (some ⟨g, 0, none⟩) n cap ∧ base ≤ g ∧ Blk w g 23 cur ∧ n ≤ cap ∧ cap ≤ maxLen ∧ cur.length = cap * 6 ∧ cur.take (n * 6) = xs := by
  rcases h.2 with ⟨_, h0⟩ | ⟨g, cap, cur, h1, h2, h3, h4, h5, h6, h7⟩
  · omega
  · exact ⟨g, cap, cur.toList, h1, h2, by unfold Blk; simpa using h3, h4, h5, by simpa using h6, h7⟩

set_option maxRecDepth 100000 in
set_option maxHeartbeats 1600000 in
theorem s_Insert_end (wb w : World) (s : List RuleP) (r : RuleP) (v : Value) (vb : Nat) (hown : w.ownsRow wb.heap.size 23 6 v s.length (flatR s)) (hE : Ext wb w) (hv : Blk w vb 23 r.cells) (hl : s.length ≤ 1000) :
    Calls Tryz.prog 37 #[v, .int .i64 (s.length : Int), .slice (some ⟨vb, 0, none⟩) 1 1] w fun e w' => ∃ v', e = .returned v' ∧ w'.ownsRow wb.heap.size 23 6 v' (s.length + 1) (flatR (s ++ [r])) ∧ Ext wb w' := by
  have HN := Lib.hid (fun j u (hj : r.cells[j]? = some u) => (by rw [Addr.add_mid, hv.cell]; simpa using hj : w.cell? ((⟨vb, 0, none⟩ : Addr).add j) = some u))
  have HO := Lib.hid hown
  rcases hown.2 with ⟨rfl, h0⟩ | ⟨g, cap, cur, rfl, -, -, hnc, hcm, -⟩
  · have hl0 : (s.length : Int) = 0 := by omega
    rw [hl0]
    clear hl0
    have HL := Lib.hid h0
    clear h0 hown
    go_enter Tryz.func37, Tryz.ntmps37
    go_wp2_with (at_builtin; refine own_append T_rule rfl (.tmp 23) (.tmp 24) rfl wb _ s.length (flatR s) rfl HO.out hE ⟨vb, 0, none⟩ 1 1 r.cells rfl rfl HN.out (RuleP.cells_one r) (by omega) (by decide) ?_; intro v' w' hown' hE')
    go_wp2_with fail
    go_ret
    exact ⟨v', rfl, by rw [flatR_snoc]; exact hown', hE'⟩
  · unfold maxLen at hcm
    by_cases hcn : cap = s.length
    · subst hcn
      clear hown
      go_enter Tryz.func37, Tryz.ntmps37
      go_wp2_with (at_builtin; refine own_append T_rule rfl (.tmp 23) (.tmp 24) rfl wb _ s.length (flatR s) rfl HO.out hE ⟨vb, 0, none⟩ 1 1 r.cells rfl rfl HN.out (RuleP.cells_one r) (by omega) (by decide) ?_; intro v' w' hown' hE')
      go_wp2_with fail
      go_ret
      exact ⟨v', rfl, by rw [flatR_snoc]; exact hown', hE'⟩
    · clear hown
      go_enter Tryz.func37, Tryz.ntmps37
      go_wp2_with (at_builtin; refine own_append T_rule rfl (.tmp 23) (.tmp 24) rfl wb _ s.length (flatR s) rfl HO.out hE ⟨vb, 0, none⟩ 1 1 r.cells rfl rfl HN.out (RuleP.cells_one r) (by omega) (by decide) ?_; intro v' w' hown' hE')
      go_wp2_with fail
      go_ret
      exact ⟨v', rfl, by rw [flatR_snoc]; exact hown', hE'⟩

theorem flatR_ins (s : List RuleP) (r : RuleP) (i : Nat) : flatR (s.take i ++ r :: s.drop i) = (flatR s).take (i * 6) ++ r.cells ++ (flatR s).drop (i * 6) := by
  unfold flatR
  rw [flat_takeK RuleP.cells 6 RuleP.cells_len, flat_dropK RuleP.cells 6 RuleP.cells_len, List.flatMap_append, List.flatMap_cons, List.append_assoc]

set_option maxRecDepth 100000 in
set_option maxHeartbeats 3200000 in
theorem s_Insert_grow (wb w : World) (s : List RuleP) (r : RuleP) (g vb i : Nat) (hB : Blk w g 23 (flatR s)) (hE : Ext wb w) (hv : Blk w vb 23 r.cells) (hi : i < s.length) (hl : s.length ≤ 1000) :
    Calls Tryz.prog 37 #[.slice (some ⟨g, 0, none⟩) s.length s.length, .int .i64 (i : Int), .slice (some ⟨vb, 0, none⟩) 1 1] w fun e w' => ∃ v', e = .returned v' ∧ w'.ownsRow wb.heap.size 23 6 v' (s.length + 1) (flatR (s.take i ++ r :: s.drop i)) ∧ Ext wb w' := by
  obtain ⟨i0, hi0, hz0, hzs, hzb⟩ := info_rule
  have hvl : vb < w.heap.size := hv.lt
  have hgl : g < w.heap.size := hB.lt
  have hwl := hE.le
  have hfl := flatR_len s
  obtain ⟨n, hn⟩ : ∃ n, n = s.length := ⟨_, rfl⟩
  rw [← hn] at hi hl hfl ⊢
  have hold : (Builtin.firstCells i0.size i (.slice (some ⟨g, 0, none⟩) i n)).run Tryz.prog w.drew = .ok ((flatR s).take (i * 6)).toArray w.drew := by
    rw [hzs]
    exact run_firstCells_some w.drew 6 i ⟨g, 0, none⟩ i n ((flatR s).take (i * 6)) (by rw [List.length_take, hfl]; omega) (fun j v hj => by
      rw [Addr.add_mid]
      show w.cell? _ = _
      rw [hB.cell, Nat.zero_add]
      rw [List.getElem?_take] at hj
      split at hj
      · exact hj
      · cases hj)
  have hap := Lib.run_append_grow_zeros (P := Tryz.prog) w 30 3 30 23 i0 _ .i64 .i64 Tryz.underlying30 Tryz.underlying3 hi0 hz0 (some ⟨g, 0, none⟩) i n _ hold (n + 1 - i) (by omega) (by omega) (by omega) (by omega) (by rw [hzb]; omega) (by rw [hzb]; exact growslice_fits (by omega) (by omega))
  rw [show i + (n + 1 - i) = n + 1 by omega] at hap
  generalize hG : grownCap w (n + 1) n 23 = G at hap
  have hGn : n + 1 ≤ G := by rw [← hG]; exact grownCap_ge w _ _ _
  have hGm : G ≤ maxLen := by rw [← hG]; exact grownCap_le_maxLen w (n + 1) n 23 (by unfold maxLen; omega)
  obtain ⟨ROW, hROW⟩ : ∃ ROW : List Value, ROW = (flatR s).take (i * 6) ++ (Builtin.zeroCells zeroAgg.cells (n + 1 - i)).toList ++ (Builtin.zeroCells zeroAgg.cells (G - (n + 1))).toList := ⟨_, rfl⟩
  have hRl : ROW.length = G * 6 := by
    rw [hROW, List.length_append, List.length_append, List.length_take, hfl, Array.length_toList, Array.length_toList, zero_len, zero_len]
    omega
  have hRt : ROW.take (i * 6) = (flatR s).take (i * 6) := by
    rw [hROW, List.append_assoc, List.take_append_of_le_length (by rw [List.length_take, hfl]; omega), List.take_take, Nat.min_self]
  obtain ⟨W1, hW1⟩ : ∃ W1, W1 = w.drew.alloc (.cells ROW.toArray 23) := ⟨_, rfl⟩
  have hrow : ROW.toArray = ((flatR s).take (i * 6)).toArray ++ Builtin.zeroCells zeroAgg.cells (n + 1 - i) ++ Builtin.zeroCells zeroAgg.cells (G - (n + 1)) := by rw [hROW]; simp
  have hap : (Builtin.append_ #[30, 3] 30 #[.slice (some ⟨g, 0, none⟩) i n, .int .i64 ((n : Int) + 1 - (i : Int))]).run Tryz.prog w = .ok (.slice (some ⟨w.heap.size, 0, none⟩) (n + 1) G) W1 := by
    rw [hW1, hrow, ← show ((n + 1 - i : Nat) : Int) = (n : Int) + 1 - (i : Int) by omega]
    exact hap
  obtain ⟨N, hN⟩ : ∃ N, N = w.heap.size := ⟨_, rfl⟩
  rw [← hN] at hap hvl hgl hwl
  have hB1 : Blk W1 N 23 ROW := by rw [hW1, hN]; exact heap_alloc_new w.drew _
  have hE1 : Ext w W1 := by rw [hW1]; exact ((Ext.refl w).drew).alloc _
  obtain ⟨W2, hW2⟩ : ∃ W2, W2 = W1.setRow N (laidAt ROW (i * 6) r.cells).toArray := ⟨_, rfl⟩
  have hcpA : ∀ ty dc, (Builtin.copy_ #[30, 30] ty #[.slice (some ⟨N, i * 6, none⟩) (n + 1 - i) dc, .slice (some ⟨vb, 0, none⟩) 1 1]).run Tryz.prog W1 = .ok (goInt 1) W2 := fun ty dc => by
    have hm : Nat.min 1 (n + 1 - i) = 1 := Nat.min_eq_left (by omega)
    have h := run_copy_rowK (P := Tryz.prog) W1 30 30 ty 23 6 N (i * 6) (n + 1 - i) dc ⟨vb, 0, none⟩ 1 1 ROW 23 r.cells Tryz.underlying30 size_rule hB1 (by rw [hm]; rfl) (fun j v hj => by rw [Addr.add_mid, (hv.ext hE1).cell, Nat.zero_add]; exact hj) (by rw [hRl]; show i * 6 + 6 ≤ _; omega) (RuleP.cells_one r)
    rw [hm] at h
    rw [hW2]; exact h
  have hB2 : Blk W2 N 23 (laidAt ROW (i * 6) r.cells) := by rw [hW2]; exact hB1.set _
  have hE2 : Ext w W2 := by rw [hW2]; exact hE1.setRow (by omega) _
  have hl2 : (laidAt ROW (i * 6) r.cells).length = G * 6 := by rw [laidAt_len (by rw [hRl]; show i * 6 + 6 ≤ _; omega), hRl]
  obtain ⟨D, hD⟩ : ∃ D, D = (flatR s).drop (i * 6) := ⟨_, rfl⟩
  have hDl : D.length = (n - i) * 6 := by rw [hD, List.length_drop, hfl]; omega
  have hcpB : ∀ ty dl dc sl sc, dl = n - i → sl = n - i → (Builtin.copy_ #[30, 30] ty #[.slice (some ⟨N, (i + 1) * 6, none⟩) dl dc, .slice (some ⟨g, i * 6, none⟩) sl sc]).run Tryz.prog W2.drew = .ok (goInt ((n - i : Nat) : Int)) (W2.drew.setRow N (laidAt (laidAt ROW (i * 6) r.cells) ((i + 1) * 6) D).toArray) := fun ty dl dc sl sc hd hs => by
    subst hd hs
    have hm : Nat.min (n - i) (n - i) = n - i := Nat.min_self _
    have h := run_copy_rowK (P := Tryz.prog) W2.drew 30 30 ty 23 6 N ((i + 1) * 6) (n - i) dc ⟨g, i * 6, none⟩ (n - i) sc _ 23 D Tryz.underlying30 size_rule hB2 (by rw [hDl, hm]) (fun j v hj => by
      rw [Addr.add_mid]
      show W2.cell? _ = _
      rw [(hB.ext hE2).cell]
      rw [hD, List.getElem?_drop] at hj
      exact hj) (by rw [hl2, hDl]; omega) (by intro u hu; rw [hD] at hu; exact flatR_one s u (List.mem_of_mem_drop hu))
    rw [hm] at h
    exact h
  have HF := Lib.hid (show (laidAt (laidAt ROW (i * 6) r.cells) ((i + 1) * 6) D).take ((n + 1) * 6) = flatR (s.take i ++ r :: s.drop i) by
    have h := laid_two (r := r.cells) (D := D) hRt (by rw [hRl]; omega) (by rw [hRl, hDl]; show i * 6 + 6 + _ ≤ _; omega)
    rw [flatR_ins, ← hD, ← h, hDl]
    show List.take _ (laidAt _ ((i + 1) * 6) _) = List.take (i * 6 + 6 + (n - i) * 6) (laidAt _ (i * 6 + 6) _)
    rw [show (i + 1) * 6 = i * 6 + 6 by omega, show (n + 1) * 6 = i * 6 + 6 + (n - i) * 6 by omega])
  have HL := Lib.hid (show (laidAt (laidAt ROW (i * 6) r.cells) ((i + 1) * 6) D).length = G * 6 by rw [laidAt_len (by rw [hl2, hDl]; omega), hl2])
  have HB := Lib.hid (show Blk (W2.drew.setRow N (laidAt (laidAt ROW (i * 6) r.cells) ((i + 1) * 6) D).toArray) N 23 (laidAt (laidAt ROW (i * 6) r.cells) ((i + 1) * 6) D) from Blk.set (w := W2.drew) hB2 _)
  have HE := Lib.hid (show Ext wb (W2.drew.setRow N (laidAt (laidAt ROW (i * 6) r.cells) ((i + 1) * 6) D).toArray) from ((hE.trans hE2).drew).setRow (by omega) _)
  generalize laidAt (laidAt ROW (i * 6) r.cells) ((i + 1) * 6) D = FIN at hcpB HF HL HB HE
  have HG := Lib.hid hGm
  have hGm' : G ≤ 9223372036854775807 := by unfold maxLen at hGm; exact hGm
  have HN := Lib.hid hn
  have hGi : ¬ (G = i) := by omega
  have hGim : ¬ (G = i + 1) := by omega
  have hci : ¬ (n = i) := by omega
  have hw1 : IntKind.i64.wrap ((i : Int) + 1) = (i : Int) + 1 := IntWalk.i64_in _ (by omega)
  have hb1 : (0 : Int) ≤ (i : Int) + 1 := by omega
  have htn : ((i : Int) + 1).toNat = i + 1 := by omega
  have hb3 : (i : Int) ≤ (n : Int) := by omega
  have hz2 : ¬ ((i : Int) = (n : Int)) := by omega
  have hz3 : (n : Int) < (n : Int) + 1 := by omega
  clear hold hROW hRl hRt hrow hB1 hE1 hW2 hE2 hl2 hD hDl hB2 hW1 hi0 hz0 hzs hzb hGm hfl hG hn hN
  go_enter Tryz.func37, Tryz.ntmps37
  go_wp2_with (at_builtin; refine Lib.wpList_append_run _ rfl (.tmp 34) (.tmp 39) 30 3 rfl _ _ rfl rfl _ _ hap ?_)
  go_wp2_with fail
  refine wp_region_held_drew (S := (fun _ => True)) (by kernel_rfl) ?hs1 (fun hHeld => ?go1)
  case hs1 => (exact trivial)
  refine wpAnyH_take (i := 0) (oi := { dst := (some 46), op := (Op.move (Operand.tmp 9)), type := 30, pos := "slices.go:154", after := #[], guard := none }) (v := ?v2) rfl (by kernel_rfl) (by kernel_rfl) (by kernel_rfl) (fun _ _ _ h => h) (Or.inl ⟨rfl, ?hy2⟩) hHeld ?rest2
  case hy2 => (intro w hSw; (try dsimp only at hSw); go_simp <;> with_reducible rfl)
  try simp only [Act.put, List.setIfInBounds_toArray, List.set_cons_zero, List.set_cons_succ]
  refine wpAnyH_take (i := 1) (oi := { dst := (some 47), op := (Op.move (Operand.tmp 1)), type := 3, pos := "slices.go:154", after := #[], guard := none }) (v := ?v3) rfl (by kernel_rfl) (by kernel_rfl) (by kernel_rfl) (fun _ _ _ h => h) (Or.inl ⟨rfl, ?hy3⟩) hHeld ?rest3
  case hy3 => (intro w hSw; (try dsimp only at hSw); go_simp <;> with_reducible rfl)
  try simp only [Act.put, List.setIfInBounds_toArray, List.set_cons_zero, List.set_cons_succ]
  refine wpAnyH_take (i := 2) (oi := { dst := (some 48), op := (Op.move (Operand.tmp 7)), type := 3, pos := "slices.go:154", after := #[], guard := none }) (v := ?v4) rfl (by kernel_rfl) (by kernel_rfl) (by kernel_rfl) (fun _ _ _ h => h) (Or.inl ⟨rfl, ?hy4⟩) hHeld ?rest4
  case hy4 => (intro w hSw; (try dsimp only at hSw); go_simp <;> with_reducible rfl)
  try simp only [Act.put, List.setIfInBounds_toArray, List.set_cons_zero, List.set_cons_succ]
  refine wpAnyH_take (i := 3) (oi := { dst := (some 49), op := (Op.binOp BinOp.add 3 (Operand.tmp 47) (Operand.tmp 48) 3), type := 3, pos := "slices.go:154", after := #[{ on := 1, ground := Ground.data }, { on := 2, ground := Ground.data }], guard := none }) (v := ?v5) rfl (by kernel_rfl) (by kernel_rfl) (by kernel_rfl) (fun _ _ _ h => h) (Or.inl ⟨rfl, ?hy5⟩) hHeld ?rest5
  case hy5 => (intro w hSw; (try dsimp only at hSw); go_simp <;> with_reducible rfl)
  try simp only [Act.put, List.setIfInBounds_toArray, List.set_cons_zero, List.set_cons_succ]
  refine wpAnyH_take (i := 4) (oi := { dst := (some 50), op := (Op.slice 30 (Operand.tmp 46) (some (Operand.tmp 49)) none none), type := 30, pos := "slices.go:154", after := #[{ on := 0, ground := Ground.data }, { on := 3, ground := Ground.data }], guard := none }) (v := ?v6) rfl (by kernel_rfl) (by kernel_rfl) (by kernel_rfl) (fun _ _ _ h => h) (Or.inl ⟨rfl, ?hy6⟩) hHeld ?rest6
  case hy6 => (intro w hSw; (try dsimp only at hSw); go_simp <;> with_reducible rfl)
  try simp only [Act.put, List.setIfInBounds_toArray, List.set_cons_zero, List.set_cons_succ]
  refine wpAnyH_take (i := 5) (oi := { dst := (some 51), op := (Op.move (Operand.tmp 0)), type := 30, pos := "slices.go:154", after := #[], guard := none }) (v := ?v7) rfl (by kernel_rfl) (by kernel_rfl) (by kernel_rfl) (fun _ _ _ h => h) (Or.inl ⟨rfl, ?hy7⟩) hHeld ?rest7
  case hy7 => (intro w hSw; (try dsimp only at hSw); go_simp <;> with_reducible rfl)
  try simp only [Act.put, List.setIfInBounds_toArray, List.set_cons_zero, List.set_cons_succ]
  refine wpAnyH_take (i := 6) (oi := { dst := (some 52), op := (Op.move (Operand.tmp 1)), type := 3, pos := "slices.go:154", after := #[], guard := none }) (v := ?v8) rfl (by kernel_rfl) (by kernel_rfl) (by kernel_rfl) (fun _ _ _ h => h) (Or.inl ⟨rfl, ?hy8⟩) hHeld ?rest8
  case hy8 => (intro w hSw; (try dsimp only at hSw); go_simp <;> with_reducible rfl)
  try simp only [Act.put, List.setIfInBounds_toArray, List.set_cons_zero, List.set_cons_succ]
  refine wpAnyH_take (i := 7) (oi := { dst := (some 53), op := (Op.slice 30 (Operand.tmp 51) (some (Operand.tmp 52)) none none), type := 30, pos := "slices.go:154", after := #[{ on := 5, ground := Ground.data }, { on := 6, ground := Ground.data }], guard := none }) (v := ?v9) rfl (by kernel_rfl) (by kernel_rfl) (by kernel_rfl) (fun _ _ _ h => h) (Or.inl ⟨rfl, ?hy9⟩) hHeld ?rest9
  case hy9 => (intro w hSw; (try dsimp only at hSw); go_simp <;> with_reducible rfl)
  try simp only [Act.put, List.setIfInBounds_toArray, List.set_cons_zero, List.set_cons_succ]
  refine wpAnyH_ready (rs := [8]) (by kernel_rfl) (by simp) ?_
  refine AllReadyH.cons (o := { dst := (some 54), op := (Op.call { callee := (Callee.builtin Builtin.copy), args := #[(Operand.tmp 50), (Operand.tmp 53)], argTypes := #[30, 30] }), type := 3, pos := "slices.go:154", after := #[{ on := 4, ground := Ground.data }, { on := 7, ground := Ground.data }], guard := none }) rfl (fun K hK => ?step10x0) ?more10x0
  case more10x0 => exact AllReadyH.nil
  go_simp
  refine hK.out _ _ ?hS10x0 (fun hHeld10 => ?rest10x0)
  case hS10x0 => first | (exact trivial) | ((try dsimp only); (exact trivial))
  clear hK K
  clear hHeld
  try simp only [Act.put, List.setIfInBounds_toArray, List.set_cons_zero, List.set_cons_succ]
  refine wpAnyH_done (by kernel_rfl) ?_ _
  clear hHeld10
  go_wp2_with fail
  go_ret
  exact ⟨_, rfl, HB.out.own (by omega) (by omega) HG.out HL.out HF.out.symm, HE.out⟩

end Go.Proofs.YtanclhcoiagcfaaGreatDoor
