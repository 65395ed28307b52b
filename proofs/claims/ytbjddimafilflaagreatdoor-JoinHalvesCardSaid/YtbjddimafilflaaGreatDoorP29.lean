/- PARTS OF THE WALKS, joined: JLaid. -/
import Derived.Test.YtbjddimafilflaaGreatDoorCards
import Derived.Test.YtbjddimafilflaaGreatDoorTie
import Derived.Test.YtbjddimafilflaaGreatDoorP28
import Derived.ProofKit
import Derived.Deep.Fields
import Derived.OpenShut
import Derived.LaidMore
import Derived.Deep.DeepHandedRow
import Derived.Deep.DeepWitnessRowRef
import Derived.SizedLaws
import Derived.Deep.Slices
import Derived.Lib.SmallJoins
import Derived.Lay
import Derived.Carry
import Derived.MakeChecks
/- WHAT THE ROWS OF CHAPTER 34 LIST, AND TABLES THAT COME IN. -/
namespace Go.Proofs.YtbjddimafilflaaGreatDoor
open Go.ChangeShapes Go.WideShapes Go.ChangeAt Go.RowKit
open Go.ChangeMaps (open_string shut_string)
theorem own : ownKnob Tryz.prog.godebug = none := by kernel_rfl
theorem gZero : Tryz.prog.globalNamed "graphdb/frac.zero" = some 0 := by kernel_rfl
theorem gZeroType : (Tryz.prog.globals[0]?).map (·.type) = some 94 := by kernel_rfl
theorem cellsFrac : Tryz.prog.cellsOf 94 = 2 := by kernel_rfl
abbrev laidList : List (String × DataW Unit) := Rows.joinTellsRow.laid
theorem zero_of {W : World} (h : laidMetH Tryz.prog laidList W) : ZeroAt W := by
  have h0 : laidMet Tryz.prog laidList W := h
  obtain ⟨ps, ⟨g', t', cs, fuel, p, q, hg', ht', hvar, hd, -, -⟩, -⟩ := h0
  obtain rfl := Option.some.inj (gZero.symm.trans hg')
  obtain rfl := Option.some.inj (gZeroType.symm.trans ht')
  obtain ⟨y0, y1, n, hx, hl, h0, h1⟩ := trod_struct2 Tryz.underlying94 hd
  rw [cellsFrac] at hl
  obtain ⟨c0, c1, rfl⟩ := Joins.array2 (show cs.size = 2 by simpa using hl)
  obtain ⟨a, e0, x0, -⟩ := DataW.trod_int (k := .i64) Tryz.underlying3 h0
  obtain ⟨b, e1, x1, -⟩ := DataW.trod_int (k := .i64) Tryz.underlying3 h1
  rw [x0, x1] at hx
  simp only [Rows.laid_graphdb_frac_zero, Prod.mk.injEq, DataW.agg.injEq, List.cons.injEq, DataW.lit.injEq, Lit.int.injEq] at hx
  have k0 : c0 = .int .i64 a := by simpa [show Tryz.prog.cellsOf 3 = 1 from by kernel_rfl] using e0
  have k1 : c1 = .int .i64 b := by simpa [show Tryz.prog.cellsOf 3 = 1 from by kernel_rfl] using e1
  have ha : (0 : Int) = a := hx.1.1.2
  have hb : (1 : Int) = b := hx.1.2.1.2
  subst ha hb k0 k1
  have z0 := World.var?_cell gZero hvar 0
  have z1 := World.var?_cell gZero hvar 1
  refine ⟨z0, z1, ?_⟩
  unfold World.var? at hvar
  rw [gZero] at hvar
  rcases Nat.lt_or_ge 0 W.heap.size with k | k
  · exact k
  · simp only [Option.bind_some, Array.getElem?_eq_none k] at hvar; cases hvar
theorem laidOut : laidOutB Tryz.prog = true := by kernel_rfl
theorem cellsVal : Tryz.prog.cellsOf 40 = 5 := by kernel_rfl
theorem cellsRow : Tryz.prog.cellsOf 37 = 1 := by kernel_rfl
theorem cellsTab : Tryz.prog.cellsOf 25 = 2 := by kernel_rfl
theorem cellsInt : Tryz.prog.cellsOf 3 = 1 := by kernel_rfl
theorem cellsStr : Tryz.prog.cellsOf 9 = 1 := by kernel_rfl
theorem cellsVals : Tryz.prog.cellsOf 36 = 1 := by kernel_rfl
theorem cellsStrs : Tryz.prog.cellsOf 22 = 1 := by kernel_rfl
theorem cellsRows : Tryz.prog.cellsOf 23 = 1 := by kernel_rfl
theorem spot_of_cell {w : World} {a : Addr} {v : Value} (h : w.cell? a = some v) : a = ⟨a.block, a.off, none⟩ := by
  obtain ⟨b, o, sp⟩ := a
  cases sp with
  | none => rfl
  | some k =>
    exfalso
    unfold World.cell? at h
    split at h
    · simp at h
    · cases h
theorem add_none (b o i j : Nat) : ((⟨b, o, none⟩ : Addr).add i).add j = ⟨b, o + i + j, none⟩ := by
  unfold Addr.add
  by_cases h : i = 0 <;> by_cases k : j = 0 <;> simp [h, k]
theorem list_of {α : Type} (P : Nat → α → Prop) : ∀ n, (∀ i, i < n → ∃ x, P i x) → ∃ l : List α, l.length = n ∧ ∀ i (h : i < l.length), P i l[i]
  | 0, _ => ⟨[], rfl, fun i h => absurd h (Nat.not_lt_zero _)⟩
  | n + 1, h => by
    obtain ⟨l, hl, hp⟩ := list_of P n (fun i hi => h i (by omega))
    obtain ⟨x, hx⟩ := h n (by omega)
    refine ⟨l ++ [x], by simp [hl], fun i hi => ?_⟩
    rcases Nat.lt_or_ge i l.length with h1 | h1
    · rw [List.getElem_append_left h1]; exact hp i h1
    · have : i = l.length := by simp at hi; omega
      subst this
      rw [List.getElem_append_right (by omega)]
      simpa [hl] using hx
section
variable {H : Type} {enc : TypeId × Value → H} {w : World} {base : Nat} {spare : Nat → Bool} {held : Bool}
theorem weightsAll_mem {P : Program} {e : TypeId} : ∀ {l : List (DataW H)} {d : DataW H}, d ∈ l → ∀ n ∈ d.weights P e, n ∈ DataW.weightsAll P e l
  | d0 :: r, d, h, n, hn => by
    simp only [DataW.weightsAll, List.mem_append]
    rcases List.mem_cons.1 h with rfl | h
    · exact .inl hn
    · exact .inr (weightsAll_mem h n hn)
/-- a slice that reads: each element by what its cells are -/
theorem slice_gen {α : Type} {t e size fuel : Nat} {cs : List Value} {x : DataW H × List MemPlace} (ht : Tryz.prog.underlying t = some (.slice e)) (he : Tryz.prog.cellsOf e = size) (hbe : 0 < Tryz.prog.bytesOf e) (hs : 0 < size) (R : Nat → Nat → α → Prop) (Q : α → Prop)
    (hel : ∀ n cs' (y : DataW H × List MemPlace), fuel = n + 1 → (∀ k ∈ y.1.weights Tryz.prog e, k ≤ reachBytes) → DataW.trod enc Tryz.prog w base spare held n e cs' = some y → ∃ v : α, Q v ∧ ∀ b o, (∀ j u, cs'[j]? = some u → w.cell? ⟨b, o + j, none⟩ = some u) → R b o v)
    (hwt : ∀ k ∈ x.1.weights Tryz.prog t, k ≤ reachBytes) (h : DataW.trod enc Tryz.prog w base spare held fuel t cs = some x) : ∃ (l : List α) (A : Option Addr) (c : Nat), cs = [.slice A l.length c] ∧ l.length ≤ c ∧ SliceR R size A l ∧ ∀ v ∈ l, Q v := by
  rcases DataW.trod_slice ht h with ⟨rfl, -⟩ | ⟨a, len, cap, elems, rest, n, hfu, rfl, hxx, -, hl, hm, hlen, hel2, -, -⟩
  · exact ⟨[], none, 0, rfl, Nat.le_refl _, SliceR.nil _ _ _, fun v hv => absurd hv (by simp)⟩
  · rw [hxx] at hwt
    simp only [DataW.weights, ht, List.mem_cons, List.mem_append, List.length_map] at hwt
    have hlen2 : len ≤ 140737488355328 := by
      have h1 := hwt _ (.inl rfl)
      have h2 : (elems.length + rest.length) * 1 ≤ (elems.length + rest.length) * Tryz.prog.bytesOf e := Nat.mul_le_mul_left _ hbe
      have h3 := reachBytes_lt
      omega
    have H : ∀ i, i < len → ∃ v : α, Q v ∧ R a.block (a.off + i * size) v ∧ a = ⟨a.block, a.off, none⟩ := fun i hi => by
      have h1 := hel2 i hi
      rw [he, List.getElem?_eq_getElem (by omega)] at h1
      obtain ⟨cs', hc, ht'⟩ := Option.bind_eq_some_iff.1 h1
      obtain ⟨v, hq, hr⟩ := hel n cs' _ hfu (fun k hk => hwt k (.inr (.inl (weightsAll_mem (List.mem_map_of_mem (List.getElem_mem _)) k hk)))) ht'
      obtain ⟨-, hlen', hat⟩ := World.cells?_some hc
      have hspot : a = ⟨a.block, a.off, none⟩ := by
        have h1' := hel2 0 (by omega)
        rw [he, List.getElem?_eq_getElem (by omega)] at h1'
        obtain ⟨cs0, hc0, -⟩ := Option.bind_eq_some_iff.1 h1'
        obtain ⟨-, hl0, hat0⟩ := World.cells?_some hc0
        have h2 := hat0 0 hs
        rw [Nat.zero_mul] at h2
        obtain ⟨u, hu⟩ : ∃ u, cs0[0]? = some u := ⟨cs0[0]'(by omega), List.getElem?_eq_getElem (by omega)⟩
        rw [hu] at h2
        exact spot_of_cell (v := u) (by simpa [Addr.add] using h2)
      refine ⟨v, hq, hr _ _ (fun j u hu => ?_), hspot⟩
      have hj : j < size := by have := (List.getElem?_eq_some_iff.1 hu).1; omega
      have h2 := hat j hj
      rw [hspot, add_none, hu] at h2
      exact h2
    obtain ⟨l, hll, hp⟩ := list_of (fun i v => Q v ∧ R a.block (a.off + i * size) v ∧ a = ⟨a.block, a.off, none⟩) len H
    refine ⟨l, some a, cap, by rw [hll], by omega, ⟨by omega, fun hpos => ⟨a.block, a.off, congrArg some (hp 0 hpos).2.2, fun k hk => (hp k hk).2.1⟩⟩, fun v hv => ?_⟩
    obtain ⟨i, hi, rfl⟩ := List.getElem_of_mem hv
    exact (hp i hi).1
theorem five {α : Type} {l : List α} (h : l.length = 5) : ∃ a b c d e, l = [a, b, c, d, e] := by
  match l, h with
  | [a, b, c, d, e], _ => exact ⟨a, b, c, d, e, rfl⟩
theorem two {α : Type} {l : List α} (h : l.length = 2) : ∃ a b, l = [a, b] := by
  match l, h with
  | [a, b], _ => exact ⟨a, b, rfl⟩
theorem bytesVal : 0 < Tryz.prog.bytesOf 40 := of_decide_eq_true (by kernel_rfl)
theorem bytesRow : 0 < Tryz.prog.bytesOf 37 := of_decide_eq_true (by kernel_rfl)
theorem bytesStr : 0 < Tryz.prog.bytesOf 9 := of_decide_eq_true (by kernel_rfl)
theorem str_small {s : ByteArray} {p : DataW H × List MemPlace} (hx : p = (.lit (.string s.data.toList), [])) (h : ∀ k ∈ p.1.weights Tryz.prog 9, k ≤ reachBytes) : s.size ≤ 140737488355328 := by
  subst hx
  have h1 := h s.data.toList.length (by simp [DataW.weights])
  have h2 := reachBytes_lt
  rw [Array.length_toList] at h1
  have h3 : s.data.size = s.size := rfl
  omega
set_option maxRecDepth 100000 in
/-- values that read, and lists of values -/
theorem open_both : ∀ fuel : Nat,
    (∀ (cs : List Value) (x : DataW H × List MemPlace), (∀ k ∈ x.1.weights Tryz.prog 40, k ≤ reachBytes) → DataW.trod enc Tryz.prog w base spare held fuel 40 cs = some x → ∃ v : Val, szV v ∧ ∀ b o, (∀ j u, cs[j]? = some u → w.cell? ⟨b, o + j, none⟩ = some u) → VCells w (fun _ => True) b o v) ∧
    (∀ (t : TypeId) (cs : List Value) (x : DataW H × List MemPlace), Tryz.prog.underlying t = some (.slice 40) → (∀ k ∈ x.1.weights Tryz.prog t, k ≤ reachBytes) → DataW.trod enc Tryz.prog w base spare held fuel t cs = some x → ∃ (l : List Val) (A : Option Addr) (c : Nat), cs = [.slice A l.length c] ∧ l.length ≤ c ∧ Vals w (fun _ => True) A l ∧ szL l)
  | 0 => ⟨fun cs x _ h => by simp [DataW.trod] at h, fun t cs x _ _ h => by simp [DataW.trod] at h⟩
  | n + 1 => by
    obtain ⟨ih1, ih2⟩ := open_both n
    refine ⟨fun cs x hwt h => ?_, fun t cs x ht hwt h => ?_⟩
    · obtain ⟨xs, m, hm, rfl, hl, hlen, hg⟩ := DataW.trod_struct Tryz.underlying40 h
      obtain rfl : m = n := by omega
      rw [cellsVal] at hl
      obtain ⟨c0, c1, c2, c3, c4, rfl⟩ := five hl
      obtain ⟨y0, y1, y2, y3, y4, rfl⟩ := five (show xs.length = 5 from hlen)
      have g0 : DataW.trod enc Tryz.prog w base spare held m 3 (([c0, c1, c2, c3, c4].drop 0).take (Tryz.prog.cellsOf 3)) = some y0 := hg 0 _ rfl
      rw [cellsInt] at g0
      have g1 : DataW.trod enc Tryz.prog w base spare held m 3 (([c0, c1, c2, c3, c4].drop 1).take (Tryz.prog.cellsOf 3)) = some y1 := hg 1 _ rfl
      rw [cellsInt] at g1
      have g2 : DataW.trod enc Tryz.prog w base spare held m 3 (([c0, c1, c2, c3, c4].drop 2).take (Tryz.prog.cellsOf 3)) = some y2 := hg 2 _ rfl
      rw [cellsInt] at g2
      have g3 : DataW.trod enc Tryz.prog w base spare held m 9 (([c0, c1, c2, c3, c4].drop 3).take (Tryz.prog.cellsOf 9)) = some y3 := hg 3 _ rfl
      rw [cellsStr] at g3
      have g4 : DataW.trod enc Tryz.prog w base spare held m 36 (([c0, c1, c2, c3, c4].drop 4).take (Tryz.prog.cellsOf 36)) = some y4 := hg 4 _ rfl
      rw [cellsVals] at g4
      have hwe : ∀ k ∈ DataW.weightsEach Tryz.prog [3, 3, 3, 9, 36] [y0.1, y1.1, y2.1, y3.1, y4.1], k ≤ reachBytes := fun k hk => hwt k (by
        simp only [DataW.weights, Tryz.underlying40]
        exact hk)
      obtain ⟨k0, e0, -, -⟩ := DataW.trod_int (k := .i64) Tryz.underlying3 g0
      obtain ⟨k1, e1, -, -⟩ := DataW.trod_int (k := .i64) Tryz.underlying3 g1
      obtain ⟨k2, e2, -, -⟩ := DataW.trod_int (k := .i64) Tryz.underlying3 g2
      obtain ⟨s, e3, x3, -⟩ := DataW.trod_string Tryz.underlying9 g3
      have hsz := str_small x3 (fun k hk => hwe k (DataW.weights_mem_each (j := 3) rfl rfl k hk))
      obtain ⟨l, A, c, e4, hlc, hv, hszl⟩ := ih2 _ _ _ Tryz.underlying36 (fun k hk => hwe k (DataW.weights_mem_each (j := 4) rfl rfl k hk)) g4
      cases e0; cases e1; cases e2; cases e3; cases e4
      refine ⟨.mk k0 k1 k2 s l, szV_iff.2 ⟨hsz, hszl⟩, fun b o hc => VCells.iff.2 ⟨trivial, A, c, ⟨hc 0 _ rfl, hc 1 _ rfl, hc 2 _ rfl, hc 3 _ rfl, hc 4 _ rfl⟩, hlc, hv⟩⟩
    · obtain ⟨l, A, c, e, hlc, hv, hq⟩ := slice_gen (α := Val) ht cellsVal bytesVal (by decide) (VCells w (fun _ => True)) szV (fun m cs' y hm hk hy => by
        obtain rfl : m = n := by omega
        exact ih1 cs' y hk hy) hwt h
      exact ⟨l, A, c, e, hlc, hv, szL_of hq⟩
set_option maxRecDepth 100000 in
/-- a table that reads -/
theorem open_table {r : Reach} {b0 : Nat} {v : Value} {dd : DataW H} {p : List MemPlace} (hv : Value.okWide Tryz.prog w r b0 25 v) (hwt : ∀ k ∈ dd.weights Tryz.prog 25, k ≤ reachBytes) (h : DataW.Trod enc Tryz.prog w base spare held 25 v dd p) :
    ∃ (t : Tab) (A B : Option Addr) (c d : Nat), v = .agg #[.slice A t.cols.length c, .slice B t.rows.length d] ∧ t.cols.length ≤ c ∧ TabAt w (fun _ => True) A B t ∧ (∀ s ∈ t.cols, s.size ≤ maxLen) ∧ ∀ r ∈ t.rows, szL r := by
  obtain ⟨cs, rfl, -⟩ := okWide_struct Tryz.underlying25 hv
  obtain ⟨fuel, hf⟩ := h
  obtain ⟨xs, m, hm, hxx, hl, hlen, hg⟩ := DataW.trod_struct Tryz.underlying25 hf
  obtain ⟨y0, y1, rfl⟩ := two (show xs.length = 2 from hlen)
  have hl2 : cs.size = 2 := by rw [cellsTab] at hl; simpa [Value.cells] using hl
  obtain ⟨c0, c1, rfl⟩ := Joins.array2 hl2
  have h0 : DataW.trod enc Tryz.prog w base spare held m 22 (([c0, c1].drop 0).take (Tryz.prog.cellsOf 22)) = some y0 := hg 0 _ rfl
  rw [cellsStrs] at h0
  have h1 : DataW.trod enc Tryz.prog w base spare held m 23 (([c0, c1].drop 1).take (Tryz.prog.cellsOf 23)) = some y1 := hg 1 _ rfl
  rw [cellsRows] at h1
  have hdd : dd = .agg [y0.1, y1.1] := congrArg Prod.fst hxx
  have hwe : ∀ k ∈ DataW.weightsEach Tryz.prog [22, 23] [y0.1, y1.1], k ≤ reachBytes := fun k hk => hwt k (by
    rw [hdd]
    simp only [DataW.weights, Tryz.underlying25]
    exact hk)
  obtain ⟨ls, A, c, e0, hlc, hs, hq⟩ := slice_gen (α := ByteArray) Tryz.underlying22 cellsStr bytesStr (by decide) (StrC w (fun _ => True)) (fun s => s.size ≤ maxLen) (fun _ cs' y _ _ hy => by
    obtain ⟨s, e, -, hsz⟩ := DataW.trod_string Tryz.underlying9 hy
    subst e
    exact ⟨s, hsz, fun b o hc => ⟨trivial, hc 0 _ rfl⟩⟩) (fun k hk => hwe k (DataW.weights_mem_each (j := 0) rfl rfl k hk)) h0
  obtain ⟨lr, B, d, e1, hld, hr, hqr⟩ := slice_gen (α := List Val) Tryz.underlying23 cellsRow bytesRow (by decide) (RowC w (fun _ => True)) szL (fun m' cs' y _ hk hy => by
    obtain ⟨l, A', c', e, hlc', hv', hsz⟩ := (open_both m').2 _ _ _ Tryz.underlying37 hk hy
    subst e
    exact ⟨l, hsz, fun b o hc => ⟨trivial, A', c', hc 0 _ rfl, hlc', hv'⟩⟩) (fun k hk => hwe k (DataW.weights_mem_each (j := 1) rfl rfl k hk)) h1
  cases e0; cases e1
  exact ⟨⟨ls, lr⟩, A, B, c, d, rfl, hlc, ⟨hs, hr⟩, hq, hqr⟩
end
/-- The laid heap meets the condition. -/
theorem door_met (os : Os) (args : Array Value) : laidMetH Tryz.prog laidList ((World.laidAll Tryz.prog os laidList).forCall (fun _ _ => 0) ⟨#[], args, []⟩).memory := by
  rw [MakeChecks.laidMetH_plain _ _ _ (by kernel_rfl)]
  exact laidMet_laidAll _ (by kernel_rfl) (by kernel_rfl)
section
variable {H : Type} {enc : TypeId × Value → H} {P : Program}
/-- The row's last step where all that was there stands. -/
theorem post_of_below {f : Func} {s : ChangeSpec} {apart fresh handsOn again : Bool} {W W' : World} {args : Array Value} {v : Value} {ds gs : List (DataW H)} {before pa pv : List MemPlace}
    (hW : DataW.Whole enc P f.params.toList s.vars apart W args.toList ds gs before)
    (hres : ∀ (b : Nat) (sp : Nat → Bool) (hd : Bool), DataW.TrodAll enc P W' b sp hd f.resultTypes.toList (v.resultList f.resultTypes.size) (s.fn H (ds ++ gs)).results [])
    (hargs : ∀ sp : Nat → Bool, (∀ p ∈ before, sp p.block = true) → DataW.TrodAll enc P W' 0 sp true f.params.toList args.toList (s.fn H (ds ++ gs)).args pa)
    (hvars : ∀ sp : Nat → Bool, (∀ p ∈ before, sp p.block = true) → DataW.TrodVars enc P W' sp s.vars (s.fn H (ds ++ gs)).vars pv)
    (hps : before = pa ++ pv) (hb : Below W.heap.size W W')
    (hok : ∀ (j : Nat) (t : TypeId) (r : Value), f.resultTypes[j]? = some t → (v.resultList f.resultTypes.size)[j]? = some r → Value.okWide P W' .any 0 t r) :
    s.post enc P f apart fresh handsOn again W args v W' := by
  have hlt : ∀ p ∈ before, p.block < W.heap.size := fun p hp => hW.lt p hp
  have hold : ∀ p ∈ before, (fun b => decide (b < W.heap.size)) p.block = true := fun p hp => by simpa using hlt p hp
  refine ⟨ds, gs, before, [], pa, pv, hW, hres _ _ _, hargs _ hold, hvars _ hold, World.keptBut_mono (fun p hp => ⟨hp, ?_⟩) (hb.frame (· ∈ before)), fun _ => ?_⟩
  · rw [hps, List.mem_append] at hp
    exact Or.inr hp
  · obtain ⟨_, _, _, _, _, hz, hn⟩ := hW
    refine ⟨hok, _, _, ([] ++ pa) ++ pv, ⟨[] ++ pa, pv, trodAll_append (hargs _ (fun _ _ => rfl)) (hres _ _ _), hvars _ (fun _ _ => rfl), rfl, ?_, ?_⟩, ?_⟩
    · intro b off hp
      have hin : MemPlace.cell b off ∈ before := by rw [hps]; simpa using hp
      rw [hb.frozen (hlt _ hin)]
      exact hz b off hin
    · intro ha
      have := hn ha
      rw [hps] at this
      simpa using this
    · intro p hp _
      rw [hps]
      simpa using hp
end
end Go.Proofs.YtbjddimafilflaaGreatDoor
