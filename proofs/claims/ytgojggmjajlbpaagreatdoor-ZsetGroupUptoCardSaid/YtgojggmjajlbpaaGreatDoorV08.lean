/- PARTS OF THE WALKS, joined: Zd, Ze, Drawn, SortK, Merge, SortW. -/
import Derived.Test.YtgojggmjajlbpaaGreatDoorV07
import Derived.Test.YtgojggmjajlbpaaGreatDoorV03
import Derived.WalkKit
import Derived.Calls
import Derived.Test.YtgojggmjajlbpaaGreatDoorV04
import Derived.Shelf.SlSortCmp.WholeK
import Derived.Sort.LotA
import Derived.Test.YtgojggmjajlbpaaGreatDoorV00
/- THE WALKS over slices.IndexFunc and slices.DeleteFunc at rows with multiplicities, any predicate; the predicates and the compare of zset. -/
namespace Go.Proofs.YtgojggmjajlbpaaGreatDoor
open Go.RowKit
theorem box_sg (w : World) (x : HSg) (t : TypeId) : ∃ (g : Nat) (w1 : World), g = w.heap.size ∧ w1 = w.alloc (.cells #[.slice x.A x.x.1.length x.c, .int .i64 x.x.2] t) ∧ w1.cell? ⟨g, 0, none⟩ = some (.slice x.A x.x.1.length x.c) ∧ w1.cell? ⟨g, 1, none⟩ = some (.int .i64 x.x.2) ∧ Ext w w1 :=
  ⟨_, _, rfl, rfl, by go_simp, by go_simp, (Ext.refl _).alloc _⟩
theorem own_cells2 {W : World} {base g n c : Nat} {ok0 : Nat → Prop} {hs : List HSg} (h : OwnZ W base ok0 (.slice (some ⟨g, 0, none⟩) n c) hs) {i : Nat} (hi : i < hs.length) : W.cell? ⟨g, i * 2, none⟩ = some (.slice hs[i].A hs[i].x.1.length hs[i].c) ∧ W.cell? ⟨g, i * 2 + 1, none⟩ = some (.int .i64 hs[i].x.2) ∧
    W.frozen? ⟨g, i * 2, none⟩ = false ∧ W.frozen? ⟨g, i * 2 + 1, none⟩ = false := by
  obtain ⟨g', hg, -, -, -, -, hc⟩ := OwnG.cellAt h hi
  injection hg with hg
  injection hg with hg
  subst hg
  exact ⟨(hc 0 (by decide)).1, (hc 1 (by decide)).1, (hc 0 (by decide)).2, (hc 1 (by decide)).2⟩
def agS (x : HSg) : Value := .agg #[.slice x.A x.x.1.length x.c, .int .i64 x.x.2]
/-- what is asked of a predicate -/
def PredZ (f : Nat) (p : Sg → Bool) : Prop := ∀ (W : World) (x : HSg), Calls Tryz.prog f #[agS x] W fun e w' => e = .returned (.bool (p x.x)) ∧ Ext W w'
set_option maxRecDepth 100000 in
set_option maxHeartbeats 1600000 in
theorem z_IndexF (p : Sg → Bool) (f : Nat) (eg : ∀ args w, (callFunc f args).run Tryz.prog w = .ok (.enter f args) w) (hp : PredZ f p) (hs : List HSg) (base : Nat) (ok0 : Nat → Prop) (g n c : Nat) (w : World) (h : OwnZ w base ok0 (.slice (some ⟨g, 0, none⟩) n c) hs) (hn : n = hs.length) (hl : hs.length ≤ 8000000) :
    Calls Tryz.prog 50 #[.slice (some ⟨g, 0, none⟩) n c, .func (.func f) #[] #[]] w fun e w' => e = .returned (.int .i64 (idxF (fun x => p x.x) hs)) ∧ Ext w w' := by
  have HO := Lib.hid h
  have HP := Lib.hid hp
  have HY := Lib.hid (fun h => idxF_none (p := fun x : HSg => p x.x) (l := hs) h)
  have HB := Lib.hid (fun i (hi : i < hs.length) h1 h2 => idxF_at (p := fun x : HSg => p x.x) i hi h1 h2)
  obtain ⟨R, hR⟩ : ∃ R, R = idxF (fun x : HSg => p x.x) hs := ⟨_, rfl⟩
  rw [← hR] at HY HB ⊢
  have HN := Lib.hid hn
  have hnl : n ≤ 8000000 := by omega
  clear h hR hp hn
  go_enter Tryz.func50, Tryz.ntmps50
  go_wp2_with fail
  go_loopw [8] (fun u W => ∃ k : Nat, u = .int .i64 k ∧ k ≤ n ∧ Hid (∀ i (hi : i < hs.length), i < k → p hs[i].x = false) ∧ Ext w W) (fun u _ => n - (intOf u).toNat)
  case atStart => exact ⟨0, rfl, Nat.zero_le _, Lib.hid (fun i _ hi => absurd hi (Nat.not_lt_zero _)), Ext.refl _⟩
  case round =>
    obtain ⟨k, rfl, hk, hgd, hE⟩ := hrel
    by_cases hlt : k < n
    · have hkl : k < hs.length := by have := HN.out; omega
      obtain ⟨c0, c1, -, -⟩ := own_cells2 (HO.out.ext hE) hkl
      have HS := Lib.hid (fun (h : p hs[k].x = false) i hi (hj : i < k + 1) => (if e : i = k then (by subst e; exact h) else hgd.out i hi (by omega) : p hs[i].x = false))
      have HB' := Lib.hid (HB.out k hkl hgd.out)
      have HC := Lib.hid (fun W => HP.out W hs[k])
      unfold agS at HC
      clear HB hgd
      generalize hs[k] = x at *
      generalize p x.x = q at *
      cases q
      · have HT := Lib.hid (HS.out rfl)
        go_wp2_with (go_at_fn f; ((with_reducible refine (HC.out _).mono ?_); rintro e w7 ⟨rfl, hx7⟩))
        go_roundw
        case rel => exact ⟨k + 1, by go_num, by omega, HT, hE.trans hx7⟩
        case measure => simp [intOf]; omega
      · have HT := Lib.hid (HB'.out rfl)
        go_wp2_with (go_at_fn f; ((with_reducible refine (HC.out _).mono ?_); rintro e w7 ⟨rfl, hx7⟩))
        go_ret
        exact ⟨ret_int HT.out.symm, hE.trans hx7⟩
    · have HT := Lib.hid (HY.out (fun i hi => hgd.out i hi (by have := HN.out; omega)))
      go_wp2_with fail
      go_ret
      exact ⟨ret_int HT.out.symm, hE⟩
set_option maxRecDepth 100000 in
theorem z_IndexF0 (fv : Value) (w : World) : Calls Tryz.prog 50 #[.slice none 0 0, fv] w fun e w' => e = .returned (.int .i64 (-1)) ∧ Ext w w' := by
  go_enter Tryz.func50, Tryz.ntmps50
  go_wp2_with fail
  go_loopw [8] (fun u W => u = .int .i64 0 ∧ Ext w W) (fun _ _ => 0)
  case atStart => exact ⟨rfl, Ext.refl _⟩
  case round =>
    obtain ⟨rfl, hE⟩ := hrel
    go_wp2_with fail
    go_ret
    exact ⟨rfl, hE⟩
end Go.Proofs.YtgojggmjajlbpaaGreatDoor

/- THE WALK over slices.DeleteFunc at rows with multiplicities, any predicate. -/
namespace Go.Proofs.YtgojggmjajlbpaaGreatDoor
open Go.RowKit
/-- a list struck in place: i elements kept of the first j -/
structure Kp {α : Type} (q : α → Bool) (hs L : List α) (i j : Nat) : Prop where
  lt : i < j
  le : j ≤ hs.length
  len : L.length = hs.length
  lo : L.take i = (hs.take j).filter q
  hi : ∀ t, j ≤ t → L[t]? = hs[t]?
section
variable {α : Type} {q : α → Bool} {hs L : List α} {i j : Nat}
theorem fil1_t {x : α} (h : q x = true) : [x].filter q = [x] := by simp [h]
theorem fil1_f {x : α} (h : q x = false) : [x].filter q = [] := by simp [h]
theorem take_next {l : List α} {j : Nat} (h : j < l.length) : l.take (j + 1) = l.take j ++ [l[j]] := by
  rw [List.take_add_one, List.getElem?_eq_getElem h]; rfl
theorem Kp.start (hi : i < hs.length) (h1 : ∀ t (ht : t < hs.length), t < i → q hs[t] = true) (h2 : q hs[i] = false) : Kp q hs hs i (i + 1) := by
  refine ⟨by omega, hi, rfl, ?_, fun _ _ => rfl⟩
  rw [take_next hi, List.filter_append, fil1_f h2, List.append_nil]
  refine (List.filter_eq_self.2 (fun a ha => ?_)).symm
  obtain ⟨t, ht, rfl⟩ := List.getElem_of_mem ha
  rw [List.length_take] at ht
  rw [List.getElem_take]
  exact h1 t (by omega) (by omega)
theorem Kp.skip (h : Kp q hs L i j) (hj : j < hs.length) (hq : q hs[j] = false) : Kp q hs L i (j + 1) := by
  refine ⟨by have := h.lt; omega, hj, h.len, ?_, fun t ht => h.hi t (by omega)⟩
  rw [take_next hj, List.filter_append, fil1_f hq, List.append_nil, h.lo]
theorem Kp.keep (h : Kp q hs L i j) (hj : j < hs.length) (hq : q hs[j] = true) : Kp q hs (L.set i hs[j]) (i + 1) (j + 1) := by
  have h1 := h.lt
  have h2 := h.len
  refine ⟨by omega, hj, by rw [List.length_set]; exact h2, ?_, fun t ht => ?_⟩
  · rw [take_next hj, List.filter_append, fil1_t hq, ← h.lo, take_next (l := L.set i hs[j]) (j := i) (by rw [List.length_set]; omega), List.take_set_of_le (Nat.le_refl _)]
    simp
  · rw [List.getElem?_set_ne (by omega)]; exact h.hi t (by omega)
theorem Kp.done (h : Kp q hs L i hs.length) : L.take i = hs.filter q := by rw [h.lo, List.take_length]
theorem Kp.at_ (h : Kp q hs L i j) (hj : j < hs.length) : ∃ hl : j < L.length, L[j] = hs[j] := by
  have h1 := h.len
  have h2 := h.hi j (Nat.le_refl _)
  rw [List.getElem?_eq_getElem (by omega), List.getElem?_eq_getElem hj] at h2
  exact ⟨by omega, Option.some.inj h2⟩
end
def zSg : Value := .agg #[.slice none 0 0, .int .i64 0]
theorem zero_sg (w : World) : (zeroValue 38).run Tryz.prog w = .ok zSg w := Tryz.zeroValue38 w
set_option maxRecDepth 100000 in
set_option maxHeartbeats 3200000 in
theorem z_DeleteF (p : Sg → Bool) (f : Nat) (eg : ∀ args w, (callFunc f args).run Tryz.prog w = .ok (.enter f args) w) (hp : PredZ f p) (hs : List HSg) (base : Nat) (ok0 : Nat → Prop) (g n c : Nat) (w : World) (h : OwnZ w base ok0 (.slice (some ⟨g, 0, none⟩) n c) hs) (hn : n = hs.length) (hl : hs.length ≤ 8000000) :
    Calls Tryz.prog 37 #[.slice (some ⟨g, 0, none⟩) n c, .func (.func f) #[] #[]] w fun e w' => ∃ m, e = .returned (.slice (some ⟨g, 0, none⟩) m c) ∧ OwnZ w' base ok0 (.slice (some ⟨g, 0, none⟩) m c) (hs.filter (fun x => !p x.x)) ∧ w.grownBy w' (some g) := by
  have HI := Lib.hid (z_IndexF p f eg hp hs base ok0 g n c w h hn hl)
  have HO := Lib.hid h
  have HP := Lib.hid hp
  have hnl : n ≤ 8000000 := by omega
  have hnc : n ≤ c := by
    rcases h.own.2 with ⟨hv, -⟩ | ⟨g', cap', cur, hv, -, -, hcp, -⟩
    · simp at hv
    · simp only [Value.slice.injEq] at hv; omega
  cases hf : hs.findIdx? (fun x => p x.x) with
  | none =>
    have e1 : idxF (fun x : HSg => p x.x) hs = -1 := by unfold idxF; rw [hf]
    have HF := Lib.hid (show hs.filter (fun x => !p x.x) = hs from List.filter_eq_self.2 (fun a ha => by rw [List.findIdx?_eq_none_iff.1 hf a ha]; rfl))
    rw [e1] at HI
    clear h hp hf e1 hn hl
    go_enter Tryz.func37, Tryz.ntmps37
    go_wp2_with (go_at_call 50; ((with_reducible refine (HI.out).mono ?_); rintro e w1 ⟨rfl, hx1⟩))
    go_ret
    exact ⟨_, rfl, by rw [HF.out]; exact HO.out.ext hx1, hx1.gr _⟩
  | some i0 =>
    have e1 : idxF (fun x : HSg => p x.x) hs = (i0 : Int) := by unfold idxF; rw [hf]
    obtain ⟨hi0, hp0, hlo0⟩ := List.findIdx?_eq_some_iff_getElem.1 hf
    have HK0 := Lib.hid (Kp.start (q := fun x : HSg => !p x.x) hi0 (fun t ht hti => by
      have := hlo0 t hti
      cases hpt : p hs[t].x
      · rfl
      · rw [hpt] at this; exact absurd rfl this) (by rw [hp0]; rfl))
    rw [e1] at HI
    have HN := Lib.hid hn
    have hi0n : i0 < n := by omega
    have hne : ((i0 : Int) == -1) = false := beq_eq_false_iff_ne.2 (by omega)
    clear h hp hf e1 hn hl hi0 hp0 hlo0
    go_enter Tryz.func37, Tryz.ntmps37
    go_wp2_with (go_at_call 50; ((with_reducible refine (HI.out).mono ?_); rintro e w1 ⟨rfl, hx1⟩))
    clear hne
    go_loopw [5, 6] (fun u v W => ∃ (i j : Nat) (L : List HSg), u = .int .i64 i ∧ v = .int .i64 j ∧ i < j ∧ j ≤ n ∧ Hid (OwnZ W base ok0 (.slice (some ⟨g, 0, none⟩) n c) L) ∧ Hid (Kp (fun x : HSg => !p x.x) hs L i j) ∧ Hid (w.grownBy W (some g))) (fun _ v _ => n - (intOf v).toNat)
    case atStart => exact ⟨i0, i0 + 1, hs, rfl, by go_num, by omega, by omega, Lib.hid (HO.out.ext hx1), HK0, Lib.hid (hx1.gr _)⟩
    case round =>
      clear HI HK0 hx1
      obtain ⟨i, j, L, rfl, rfl, hij, hj, hown, hkp, hgr⟩ := hrel
      by_cases hlt : j < n
      · have hjh : j < hs.length := by have := HN.out; omega
        obtain ⟨hjL, hjx⟩ := hkp.out.at_ hjh
        have hiL : i < L.length := by omega
        obtain ⟨c0, c1, -, -⟩ := own_cells2 hown.out hjL
        obtain ⟨g1, w2, hg1, hw2, p0, p1, hx2⟩ := box_sg wr L[j] 38
        have HC := Lib.hid (fun W => HP.out W L[j])
        have HLX := Lib.hid (hown.out.lies L[j] (List.getElem_mem hjL))
        have HKS := Lib.hid (fun (h : p L[j].x = true) => hkp.out.skip hjh (by rw [← hjx, h]; rfl))
        have HKK := Lib.hid (fun (h : p L[j].x = false) => (by have := hkp.out.keep hjh (by rw [← hjx, h]; rfl); rwa [← hjx] at this : Kp (fun x : HSg => !p x.x) hs (L.set i L[j]) (i + 1) (j + 1)))
        have HW2 := Lib.hid hw2
        have HG1 := Lib.hid hg1
        have hgb : g < wr.heap.size := (hown.out.lt rfl).2
        have hgg : g1 ≠ g := by omega
        unfold agS at HC
        clear hw2 hg1 hkp hjx
        generalize L[j] = x at *
        cases hq : p x.x
        · rw [hq] at HC
          have HKK' := Lib.hid (HKK.out hq)
          clear HKS HKK hq
          go_upto_region 8 with (fail)
          rw [← HW2.out, ← HG1.out]
          clear HW2 HG1 c0 c1
          go_upto_region 9 with (go_at_fn f; ((with_reducible refine (HC.out _).mono ?_); rintro e w7 ⟨rfl, hx7⟩; replace p0 := hx7.cell p0; replace p1 := hx7.cell p1))
          have hO7 := hown.out.ext (hx2.trans hx7)
          obtain ⟨q0, q1, f0, f1⟩ := own_cells2 hO7 hiL
          obtain ⟨hO8, hG8⟩ := OwnG.put2 (K := KSg) rfl hO7 hiL x (a0 := .slice x.A x.x.1.length x.c) (a1 := .int .i64 x.x.2) rfl (KSg.keep _ _ _ _ _ (fun b o y hb hc => ⟨(hx2.trans hx7).cell hc, hb⟩) HLX.out)
          obtain ⟨W8, hW8⟩ : ∃ W8, W8 = (w7.setCell ⟨g, i * 2, none⟩ (.slice x.A x.x.1.length x.c)).setCell ⟨g, i * 2 + 1, none⟩ (.int .i64 x.x.2) := ⟨_, rfl⟩
          rw [← hW8] at hO8 hG8
          have HO8 := Lib.hid hO8
          have HG8 := Lib.hid (grown_two (grown_two hgr.out ((hx2.trans hx7).gr _)) hG8)
          have HW8 := Lib.hid hW8
          clear hO8 hG8 hW8 hO7 hown hgr HC hx7
          go_upto_region 10 with (fail)
          rw [← HW8.out]
          clear HW8
          go_wp2_with fail
          go_roundw
          case rel => exact ⟨i + 1, j + 1, _, by go_num, by go_num, by omega, by omega, HO8, HKK', HG8⟩
          case measure => simp [intOf]; omega
        · rw [hq] at HC
          have HKS' := Lib.hid (HKS.out hq)
          clear HKS HKK hq
          go_upto_region 8 with (fail)
          rw [← HW2.out, ← HG1.out]
          clear HW2 HG1 c0 c1
          go_wp2_with (go_at_fn f; ((with_reducible refine (HC.out _).mono ?_); rintro e w7 ⟨rfl, hx7⟩))
          go_roundw
          case rel => exact ⟨i, j + 1, L, rfl, by go_num, by omega, by omega, Lib.hid (hown.out.ext (hx2.trans hx7)), HKS', Lib.hid (grown_two hgr.out ((hx2.trans hx7).gr _))⟩
          case measure => simp [intOf]; omega
      · have hjn : j = n := by omega
        subst hjn
        obtain ⟨W9, hcl, hO9, hG9⟩ := OwnG.cleared (P := Tryz.prog) (t := 22) (z := zSg) Tryz.underlying22 zero_sg rfl (by decide) (by decide) hown.out (by have := HN.out; have := hkp.out.len; omega) hij
        have HF := Lib.hid (show L.take i = hs.filter (fun x => !p x.x) by have h1 := hkp.out; have h2 := HN.out; subst h2; exact h1.done)
        have HO9 := Lib.hid hO9
        have HG9 := Lib.hid (grown_two hgr.out hG9)
        have hin : (i : Int) ≤ (j : Int) := by omega
        have hic : (i : Int) ≤ (c : Int) := by omega
        have hin2 : i ≤ j := by omega
        have hic2 : i ≤ c := by omega
        replace hcl : ∀ ty c', (Builtin.clear_ #[22] ty #[.slice (some ⟨g, i * 2, none⟩) (j - i) c']).run Tryz.prog wr = .ok (.tuple #[]) W9 := hcl
        clear hO9 hG9 hown hkp hgr
        go_wp2_with fail
        go_ret
        exact ⟨_, rfl, by rw [← HF.out]; exact HO9.out, HG9.out⟩
end Go.Proofs.YtgojggmjajlbpaaGreatDoor

/- EVERY RUN DRAWS ON: the number of answers drawn never falls. So a contract may tell that too. -/
namespace Go.Proofs.YtgojggmjajlbpaaGreatDoor
def rw_ {α : Type} : Result α → World
  | .ok _ w => w
  | .halt _ w => w
theorem ask_le {α : Type} : ∀ (k : Ask α) (w : World), w.drawn ≤ (w.ask k).2.drawn
  | .done a, w => by rw [World.ask]; exact Nat.le_refl _
  | .ask what range k, w => by
    rw [World.ask]
    split
    · exact ask_le _ w
    · exact Nat.le_trans (Nat.le_succ _) (ask_le _ { w with drawn := w.drawn + 1 })
theorem sys_le (w : World) (c : Sys) : w.drawn ≤ (w.sys c).2.drawn := by
  unfold World.sys
  have h := ask_le (Kernel.perform c w.os) w
  split
  · exact Nat.le_refl _
  · rename_i e
    rw [e] at h; exact h
theorem setCell_dr (w : World) (a : Addr) (v : Value) : (w.setCell a v).drawn = w.drawn := by
  unfold World.setCell
  split <;> rfl
theorem freeze_dr (w : World) (a : Addr) (n : Nat) : (w.freeze a n).drawn = w.drawn := by
  unfold World.freeze
  repeat' split
  all_goals rfl
theorem viewStore_dr {p : Program} {w w' : World} {at_ : Addr} {u : TypeId} {k : Addr} {v : Value} {b : Bool} {l : List Addr} (h : w.viewStore p at_ u k v b = .ok (w', l)) : w'.drawn = w.drawn := by
  unfold World.viewStore at h
  simp only [bind, Except.bind, pure, Except.pure] at h
  repeat' split at h
  all_goals first | (cases h; done) | (injection h with h; injection h with h1 h2; rw [← h1])
theorem farStore_dr {p : Program} {w w' : World} {a : Addr} {v : Value} {b : Bool} {l : List Addr} (h : w.farStore p a v b = .ok (w', l)) : w'.drawn = w.drawn := by
  unfold World.farStore at h
  split at h
  · split at h
    · rename_i r e
      injection h with h
      subst h
      exact viewStore_dr e
    · cases h
  · cases h
theorem run_le {α : Type} (p : Program) : ∀ (s : Sem α) (w : World), w.drawn ≤ (rw_ (s.run p w)).drawn
  | .pure a, w => by rw [Sem.run]; exact Nat.le_refl _
  | .load m a k, w => by
    rw [Sem.run]
    split
    · exact run_le p _ w
    · split
      · exact run_le p _ w
      · exact Nat.le_refl _
  | .store m a v k, w => by
    have key : w.drawn ≤ (rw_ (match w.cell? a with
      | some _ => if w.frozen? a then Result.halt (.unsupported (.unsafePointer "a write to bytes that a string shares")) w else k.run p (w.setCell a v)
      | none => match w.farStore p a v (m == Mode.atomic) with
        | .ok (w, _) => k.run p w
        | .error h => .halt h w)).drawn := by
      split
      · split
        · exact Nat.le_refl _
        · have := run_le p k (w.setCell a v); rw [setCell_dr] at this; exact this
      · split
        · rename_i e
          refine Nat.le_trans ?_ (run_le p k _)
          rw [farStore_dr e]; exact Nat.le_refl _
        · exact Nat.le_refl _
    cases v
    all_goals first | (rw [Sem.run]; exact Nat.le_refl _) | (rw [Sem.run] <;> first | exact key | (intro _ h; cases h))
  | .new o k, w => by rw [Sem.run]; exact run_le p _ { w with heap := w.heap.push o }
  | .shape r k, w => by rw [Sem.run]; exact run_le p _ _
  | .freeze a n k, w => by rw [Sem.run]; have := run_le p k (w.freeze a n); rw [freeze_dr] at this; exact this
  | .frozen a k, w => by rw [Sem.run]; exact run_le p _ _
  | .getObj r k, w => by
    rw [Sem.run]
    split
    · exact Nat.le_refl _
    · exact run_le p _ _
    · exact Nat.le_refl _
  | .setObj r o k, w => by
    rw [Sem.run]
    split
    · exact Nat.le_refl _
    · exact run_le p k { w with heap := w.heap.setIfInBounds r o }
    · exact Nat.le_refl _
  | .choose q k, w => by
    rw [Sem.run]
    split
    · exact run_le p _ _
    · exact Nat.le_trans (Nat.le_succ _) (run_le p _ { w with drawn := w.drawn + 1 })
  | .sys c k, w => by rw [Sem.run]; exact Nat.le_trans (sys_le w c) (run_le p _ _)
  | .program k, w => by rw [Sem.run]; exact run_le p _ _
  | .mark m k, w => by rw [Sem.run]; exact run_le p _ _
  | .halt h, w => by rw [Sem.run]; exact Nat.le_refl _
theorem runT_le {α : Type} (p : Program) : ∀ (s : Sem α) (w : World) (es : Array Event), w.drawn ≤ (rw_ (s.runT p w es).1).drawn
  | .pure a, w, es => by rw [Sem.runT]; exact Nat.le_refl _
  | .load m a k, w, es => by
    rw [Sem.runT]
    split
    · exact runT_le p _ w _
    · split
      · exact runT_le p _ w _
      · exact Nat.le_refl _
  | .store m a v k, w, es => by
    have key : w.drawn ≤ (rw_ (match w.cell? a with
      | some _ => if w.frozen? a then (Result.halt (.unsupported (.unsafePointer "a write to bytes that a string shares")) w, es) else k.runT p (w.setCell a v) (es.push ⟨Loc.cell a, true, m == Mode.atomic⟩)
      | none => match w.farStore p a v (m == Mode.atomic) with
        | .ok (w, touched) => k.runT p w (es ++ touched.toArray.map (fun x => Event.mk (Loc.cell x) true (m == Mode.atomic)))
        | .error h => (.halt h w, es)).1).drawn := by
      split
      · split
        · exact Nat.le_refl _
        · have := runT_le p k (w.setCell a v) (es.push ⟨Loc.cell a, true, m == Mode.atomic⟩); rw [setCell_dr] at this; exact this
      · split
        · rename_i e
          refine Nat.le_trans ?_ (runT_le p k _ _)
          rw [farStore_dr e]; exact Nat.le_refl _
        · exact Nat.le_refl _
    cases v
    all_goals first | (rw [Sem.runT]; exact Nat.le_refl _) | (rw [Sem.runT] <;> first | exact key | (intro _ h; cases h))
  | .new o k, w, es => by rw [Sem.runT]; exact runT_le p _ { w with heap := w.heap.push o } _
  | .shape r k, w, es => by rw [Sem.runT]; exact runT_le p _ _ _
  | .freeze a n k, w, es => by rw [Sem.runT]; have := runT_le p k (w.freeze a n) es; rw [freeze_dr] at this; exact this
  | .frozen a k, w, es => by rw [Sem.runT]; exact runT_le p _ _ _
  | .getObj r k, w, es => by
    rw [Sem.runT]
    split
    · exact Nat.le_refl _
    · exact runT_le p _ _ _
    · exact Nat.le_refl _
  | .setObj r o k, w, es => by
    rw [Sem.runT]
    split
    · exact Nat.le_refl _
    · exact runT_le p k { w with heap := w.heap.setIfInBounds r o } _
    · exact Nat.le_refl _
  | .choose q k, w, es => by
    rw [Sem.runT]
    split
    · exact runT_le p _ _ _
    · exact Nat.le_trans (Nat.le_succ _) (runT_le p _ { w with drawn := w.drawn + 1 } _)
  | .sys c k, w, es => by rw [Sem.runT]; exact Nat.le_trans (sys_le w c) (runT_le p _ _ _)
  | .program k, w, es => by rw [Sem.runT]; exact runT_le p _ _ _
  | .mark m k, w, es => by rw [Sem.runT]; exact runT_le p _ _ _
  | .halt h, w, es => by rw [Sem.runT]; exact Nat.le_refl _
theorem run_okD {α : Type} {p : Program} {s : Sem α} {w w' : World} {a : α} (h : s.run p w = .ok a w') : w.drawn ≤ w'.drawn := by
  have := run_le p s w; rw [h] at this; exact this
theorem run_haltD {α : Type} {p : Program} {s : Sem α} {w w' : World} {a : Halt} (h : s.run p w = .halt a w') : w.drawn ≤ w'.drawn := by
  have := run_le p s w; rw [h] at this; exact this
theorem runT_okD {α : Type} {p : Program} {s : Sem α} {w w' : World} {a : α} {es es' : Array Event} (h : s.runT p w es = (.ok a w', es')) : w.drawn ≤ w'.drawn := by
  have := runT_le p s w es; rw [h] at this; exact this
theorem runT_haltD {α : Type} {p : Program} {s : Sem α} {w w' : World} {a : Halt} {es es' : Array Event} (h : s.runT p w es = (.halt a w', es')) : w.drawn ≤ w'.drawn := by
  have := runT_le p s w es; rw [h] at this; exact this
theorem runT_ok1 {α : Type} {p : Program} {s : Sem α} {w w' : World} {a : α} {es : Array Event} (h : (s.runT p w es).1 = .ok a w') : w.drawn ≤ w'.drawn := by
  have := runT_le p s w es; rw [h] at this; exact this
theorem runT_halt1 {α : Type} {p : Program} {s : Sem α} {w w' : World} {a : Halt} {es : Array Event} (h : (s.runT p w es).1 = .halt a w') : w.drawn ≤ w'.drawn := by
  have := runT_le p s w es; rw [h] at this; exact this
/-- the world of a step -/
def gw : GStep → World
  | .go _ w _ => w
  | .comm _ _ _ _ w _ => w
  | .spawn _ _ w _ => w
  | .count _ w _ => w
  | .timer _ _ w _ => w
  | .alone _ _ w _ => w
  | .newcoro _ _ _ w _ => w
  | .coroswitch _ _ _ w _ => w
  | .collect _ w _ => w
  | .watch _ w _ => w
  | .ended _ w _ => w
theorem gw_after (es : Array Event) (s : GStep) : gw (s.after es) = gw s := by cases s <;> rfl
theorem gw_ite {n : Nat} {c : Prop} [Decidable c] {a b : GStep} (h : n ≤ (gw a).drawn) (k : n ≤ (gw b).drawn) : n ≤ (gw (if c then a else b)).drawn := by split <;> assumption
theorem gw_elim {β : Type} {n : Nat} {o : Option β} {d : GStep} {f : β → GStep} (h : n ≤ (gw d).drawn) (k : ∀ x, n ≤ (gw (f x)).drawn) : n ≤ (gw (o.elim d f)).drawn := by
  cases o
  · exact h
  · exact k _
theorem endThrow_dr (fr : Frame) (m : String) (w : World) : gw (endThrow fr m w) = w := rfl
theorem endPrinting_dr (p : Program) (fr : Frame) (v : Value) (w : World) : gw (endPrinting p fr v w) = w := by
  unfold endPrinting
  dsimp only
  split <;> rfl
theorem endWith_le (w : World) (fd : Nat) (t : ByteArray) (o : Outcome) : w.drawn ≤ (gw (endWith w fd t o)).drawn := by
  unfold endWith
  have h := sys_le w (.write fd t)
  dsimp only
  split
  · rename_i e; rw [e] at h
    split <;> exact h
  · rename_i e; rw [e] at h; exact h
  · rename_i e; rw [e] at h; exact h
theorem endFatal_le (p : Program) (fr : Frame) (cs : List Frame) (d : Option Dying) (m : String) (w : World) : w.drawn ≤ (gw (endFatal p fr cs d m w)).drawn := by
  unfold endFatal
  dsimp only
  split
  · rename_i e; exact run_okD e
  · rename_i e; exact run_haltD e
  · rename_i e; exact run_haltD e
theorem writeOn_le (p : Program) (fr : Frame) (d : Dying) (f : Fatal) (w : World) : w.drawn ≤ (gw (writeOn p fr d f w)).drawn := by
  unfold writeOn
  dsimp only
  split
  · exact Nat.le_refl _
  · split
    all_goals (rename_i e; first | exact runT_okD e | exact runT_haltD e)
theorem die_le (p : Program) (fr : Frame) (d : Dying) (w : World) : w.drawn ≤ (gw (die p fr d w)).drawn := by
  unfold die
  split
  · exact writeOn_le _ _ _ _ _
  · split
    · split
      · exact Nat.le_refl _
      · exact endWith_le _ _ _ _
    · dsimp only
      split
      · exact Nat.le_refl _
      · split
        · rename_i e; exact run_okD e
        · rename_i e; exact run_haltD e
      · rw [gw_after]
        split
        all_goals first
          | exact Nat.le_refl _
          | (rename_i e; exact runT_ok1 e)
          | (rename_i e; exact runT_halt1 e)
          | (rename_i e; rw [endPrinting_dr]; exact runT_halt1 e)
      · exact Nat.le_refl _
theorem doReturn_dr (p : Program) (main : Bool) (fr : Frame) (cs : List Frame) (d : Option Dying) (v : Value) (w : World) : gw (doReturn p main fr cs d v w) = w := by
  unfold doReturn
  repeat' split
  all_goals rfl
theorem callDeferred_le (p : Program) (fr : Frame) (cs : List Frame) (dy : Option Dying) (d : Deferred) (w : World) : w.drawn ≤ (gw (callDeferred p fr cs dy d w)).drawn := by
  unfold callDeferred
  refine gw_ite ?_ ?_
  · exact Nat.le_refl _
  · dsimp only
    rw [gw_after]
    split
    all_goals try (split)
    all_goals first
      | exact runT_ok1 (by assumption)
      | exact runT_halt1 (by assumption)
      | exact Nat.le_trans (runT_halt1 (by assumption)) (endFatal_le _ _ _ _ _ _)
theorem unwind_le (p : Program) (main : Bool) (fr : Frame) (cs : List Frame) (dy : Option Dying) (w : World) : w.drawn ≤ (gw (unwind p main fr cs dy w)).drawn := by
  unfold unwind
  split
  · dsimp only
    rw [gw_after]
    split
    · rename_i e; exact runT_ok1 e
    · rename_i e; exact runT_halt1 e
  · exact callDeferred_le _ _ _ _ _ _
  · split
    · exact Nat.le_refl _
    · split
      · exact Nat.le_refl _
      · split
        · exact Nat.le_refl _
        · split
          · split
            · exact Nat.le_refl _
            · split
              all_goals (rename_i e; first | exact run_okD e | exact run_haltD e)
          · split
            · rw [endPrinting_dr]; exact Nat.le_refl _
            · exact Nat.le_refl _
    · split
      · rw [doReturn_dr]; exact Nat.le_refl _
      · dsimp only
        rw [gw_after]
        split
        · rename_i e; rw [doReturn_dr]; exact runT_ok1 e
        · rename_i e; exact runT_halt1 e
        · rename_i e; exact runT_halt1 e
theorem early_le (p : Program) (fr : Frame) (cs : List Frame) (dy : Option Dying) (g : Nat) (w : World) : w.drawn ≤ (gw (early p fr cs dy g w)).drawn := by
  have notYet : ∀ w1 : World, w.drawn ≤ w1.drawn → w.drawn ≤ (gw (match w1.heap[g]? with
    | some (.pending c elem) => .go { frame := fr, callers := cs, status := .running, dying := dy } { w1 with heap := w1.heap.setIfInBounds g (.cells c elem) }
    | _ => .ended (.stuck "early: the variable does not wait" (fr.pos p)) w1)).drawn := by
    intro w1 h
    split <;> exact h
  unfold early
  dsimp only
  repeat' split
  all_goals first
    | exact Nat.le_refl _
    | (dsimp only [gw]; exact run_okD (by assumption))
    | (dsimp only [gw]; exact run_haltD (by assumption))
theorem apply_le (p : Program) (fr : Frame) (cs : List Frame) (dy : Option Dying) (s : Sem Next) (w : World) (b : Bool) : w.drawn ≤ (gw (stepG.apply p b fr cs dy s w)).drawn := by
  unfold stepG.apply
  dsimp only
  rw [gw_after]
  cases b
  · simp only [Bool.false_eq_true, if_false]
    repeat' split
    all_goals first
      | exact run_okD (by assumption)
      | exact run_haltD (by assumption)
      | exact Nat.le_trans (run_haltD (by assumption)) (endFatal_le _ _ _ _ _ _)
      | exact Nat.le_trans (run_haltD (by assumption)) (early_le _ _ _ _ _ _)
  · simp only [if_true]
    repeat' split
    all_goals first
      | exact runT_ok1 (by assumption)
      | exact runT_halt1 (by assumption)
      | exact Nat.le_trans (runT_halt1 (by assumption)) (endFatal_le _ _ _ _ _ _)
      | exact Nat.le_trans (runT_halt1 (by assumption)) (early_le _ _ _ _ _ _)
theorem oper_le (p : Program) (b : Bool) (fr : Frame) (cs : List Frame) (dy : Option Dying) (w : World) : w.drawn ≤ (gw (stepG.oper p b fr cs dy w)).drawn := by
  unfold stepG.oper
  repeat' split
  all_goals first
    | exact Nat.le_refl _
    | exact apply_le _ _ _ _ _ _ _
theorem exec_le (p : Program) (main b : Bool) (fr : Frame) (cs : List Frame) (dy : Option Dying) (w : World) : w.drawn ≤ (gw (stepG.exec p main b fr cs dy w)).drawn := by
  unfold stepG.exec
  dsimp only
  repeat' split
  all_goals first
    | exact Nat.le_refl _
    | (rw [gw_after, doReturn_dr]; exact runT_ok1 (by assumption))
    | (rw [gw_after]; exact runT_halt1 (by assumption))
    | (rw [gw_after]; exact runT_ok1 (by assumption))
    | (rw [gw_after]; exact Nat.le_trans (runT_ok1 (by assumption)) (apply_le _ _ _ _ _ _ _))
    | exact apply_le _ _ _ _ _ _ _
    | exact oper_le _ _ _ _ _ _
    | exact run_okD (by assumption)
    | exact run_haltD (by assumption)
    | (refine gw_elim ?_ (fun _ => Nat.le_refl _); exact Nat.le_refl _)
    | (refine gw_elim ?_ (fun _ => apply_le _ _ _ _ _ _ _); exact Nat.le_refl _)
    | (refine gw_elim ?_ (fun _ => Nat.le_refl _); rw [gw_after, doReturn_dr]; exact runT_ok1 (by assumption))
    | (refine gw_elim ?_ (fun _ => Nat.le_refl _); rw [gw_after]; exact runT_halt1 (by assumption))
theorem stepG_le (p : Program) (main : Bool) (g : Goroutine) (w : World) (b : Bool) : w.drawn ≤ (gw (stepG p main g w b)).drawn := by
  unfold stepG
  dsimp only
  split
  · exact die_le _ _ _ _
  · exact exec_le _ _ _ _ _ _ _
  · exact unwind_le _ _ _ _ _ _
/-- the machine's world only draws on -/
def Up (n : Nat) : Stepped → Prop
  | .next m => n ≤ m.world.drawn
  | .ended _ _ => True
theorem Up.mono {n k : Nat} {s : Stepped} (h : Up k s) (hn : n ≤ k) : Up n s := by
  cases s
  · exact Nat.le_trans hn h
  · trivial
theorem waitingAt_dr {rest : Rest} {cs : Array CommCase} {w w' : World} (h : waitingAt rest cs w = some w') : w'.drawn = w.drawn := by
  unfold waitingAt at h
  repeat' split at h
  all_goals first | (cases h; done) | (injection h with h; rw [← h])
theorem communicate_up (p : Program) (rest : Rest) (gs : Array Goroutine) (i : Nat) (g : Goroutine) (cases_ : Array CommCase) (bl : Bool) (sh : CommShape) (w : World) : Up w.drawn (communicate p rest gs i g cases_ bl sh w).1 := by
  unfold communicate
  dsimp only
  repeat' split
  all_goals first
    | trivial
    | exact Nat.le_refl _
    | (dsimp only [Up]; exact run_okD (by assumption))
    | (dsimp only [Up]; exact Nat.le_trans (run_okD (by assumption)) (run_haltD (by assumption)))
    | (dsimp only [Up]; exact Nat.le_trans (run_okD (by assumption)) (run_okD (by assumption)))
    | (dsimp only [Up]; exact Nat.le_of_eq (waitingAt_dr (by assumption)).symm)
theorem look_up (p : Program) (gs : Array Goroutine) (rest : Rest) (w : World) : Up w.drawn (look p gs rest w) := by
  unfold look
  dsimp only
  repeat' split
  all_goals first
    | trivial
    | exact Nat.le_refl _
    | (dsimp only [Up]; exact run_okD (by assumption))
theorem drain_dr (w : World) (c : Nat) : (drain w c).2.drawn = w.drawn := by
  unfold drain
  split <;> rfl
theorem retime_dr (m : Machine) (k : Nat) (t : Timer) (a b : Nat) : (retime m k t a b).2.world.drawn = m.world.drawn := by
  unfold retime
  dsimp only
  split
  · exact drain_dr _ _
  · rfl
theorem named_dr {n : Nat} {m : Machine} {var : Addr} {f : Nat → Timer → Value × Machine} (hf : ∀ k t, (f k t).2.world.drawn = n) {v : Value} {m' : Machine} (h : timerOp.named m var f = .ok (v, m')) : m'.world.drawn = n := by
  unfold timerOp.named at h
  split at h
  · injection h with h
    have := hf ‹_› (m.rest.timers.getD ‹_› default)
    rw [h] at this; exact this
  · cases h
theorem opened_dr {m m' : Machine} {var : Addr} (h : timerOp.opened m var = some m') : m'.world.drawn = m.world.drawn := by
  unfold timerOp.opened at h
  repeat' split at h
  all_goals first | (cases h; done) | (injection h with h; rw [← h])
theorem timerOp_dr {m m' : Machine} {op : TimerOp} {v : Value} (h : timerOp m op = .ok (v, m')) : m'.world.drawn = m.world.drawn := by
  unfold timerOp at h
  repeat' split at h
  all_goals first
    | (cases h; done)
    | exact named_dr (fun _ _ => retime_dr _ _ _ _ _) h
    | exact named_dr (fun _ _ => (retime_dr _ _ _ _ _).trans (opened_dr (by assumption))) h
    | (injection h with h; injection h with _ h; rw [← h]; done)
    | (injection h with h; injection h with _ h; rw [← h]; rfl)
theorem serve_up (p : Program) (m : Machine) (k : Nat) : Up m.world.drawn (serve p m k) := by
  unfold serve
  dsimp only
  repeat' split
  all_goals first
    | trivial
    | exact Nat.le_refl _
theorem endThrow_w {fr : Frame} {m : String} {w w' : World} {g : Goroutine} {es : Array Event} (h : endThrow fr m w = .go g w' es) : w'.drawn = w.drawn := by
  have := congrArg gw h
  rw [endThrow_dr] at this
  rw [this]; rfl
theorem runT_up (p : Program) (m : Machine) (i : Nat) (b : Bool) : Up m.world.drawn (runT p m i b).1 := by
  unfold runT
  dsimp only
  have h := stepG_le p (i == 0) (m.gs.swapAt! i { (default : Goroutine) with status := .finished }).1 m.world b
  split
  all_goals (rename_i e; rw [e] at h)
  all_goals first
    | trivial
    | exact h
    | exact (communicate_up _ _ _ _ _ _ _ _ _).mono h
    | exact (look_up _ _ _ _).mono h
    | (repeat' split
       all_goals first
         | trivial
         | exact h
         | exact Nat.le_trans h (Nat.le_of_eq (timerOp_dr (by assumption)).symm)
         | exact Nat.le_trans h (Nat.le_of_eq (endThrow_w (by assumption)).symm))
def MUp (n : Nat) : Move → Prop
  | .goroutine m _ => n ≤ m.world.drawn
  | .machine s _ => Up n s
theorem run_okA {α : Type} {p : Program} {s : Sem α} {w w' : World} {gs : Array Goroutine} {rest : Rest} {t : Nat} {a : α} (h : s.run p (Machine.advanceTo { world := w, gs := gs, rest := rest } t).world = .ok a w') : w.drawn ≤ w'.drawn := run_okD (w := (Machine.advanceTo { world := w, gs := gs, rest := rest } t).world) h
theorem askOn_up (p : Program) (m : Machine) : MUp m.world.drawn (askOn p m) := by
  unfold askOn
  dsimp only
  repeat' split
  all_goals first
    | trivial
    | exact (serve_up _ _ _).mono (run_okD (by assumption))
    | (dsimp only [MUp, Up, Machine.advanceTo]; exact run_okD (by assumption))
    | (dsimp only [MUp, Up, Machine.advanceTo]; exact Nat.le_trans (run_okD (by assumption)) (run_okD (by assumption)))
    | (dsimp only [MUp, Up, Machine.advanceTo]; exact Nat.le_trans (run_okD (by assumption)) (Nat.le_trans (run_okD (by assumption)) (run_okD (by assumption))))
    | (dsimp only [MUp, Up, Machine.advanceTo]; exact Nat.le_trans (run_okD (by assumption)) (Nat.le_trans (run_okD (by assumption)) (Nat.le_trans (run_okD (by assumption)) (run_okD (by assumption)))))
    | (dsimp only [MUp]; exact Nat.le_trans (run_okD (by assumption)) (Nat.le_trans (run_okD (by assumption)) (run_okA (by assumption))))
    | (dsimp only [MUp]; exact Nat.le_trans (run_okD (by assumption)) (Nat.le_trans (run_okD (by assumption)) (Nat.le_trans (run_okA (by assumption)) (run_okD (by assumption)))))
theorem MUp.mono {n k : Nat} {s : Move} (h : MUp k s) (hn : n ≤ k) : MUp n s := by
  cases s
  · exact Nat.le_trans hn h
  · exact Up.mono h hn
theorem ask_up (p : Program) (m : Machine) : MUp m.world.drawn (ask p m) := by
  unfold ask
  repeat' split
  all_goals first
    | trivial
    | exact askOn_up _ _
    | (rename_i e; have h := (look_up p m.gs m.rest _).mono (run_okD (by assumption)); rw [e] at h; exact (askOn_up _ _).mono h)
    | exact (askOn_up _ _).mono (run_okD (by assumption))
    | exact (look_up p m.gs m.rest _).mono (run_okD (by assumption))
theorem move_up (p : Program) (m : Machine) : MUp m.world.drawn (move p m) := by
  unfold move
  repeat' split
  all_goals first
    | trivial
    | exact Nat.le_refl _
    | exact ask_up _ _
theorem step_up (p : Program) (m : Machine) : Up m.world.drawn (step p m) := by
  unfold step stepT
  have h := move_up p m
  split
  · rename_i e
    rw [e] at h
    exact (runT_up _ _ _ _).mono h
  · rename_i e
    rw [e] at h
    exact h
theorem runN_up (p : Program) : ∀ (n : Nat) (m : Machine), Up m.world.drawn (runN p n m)
  | 0, m => Nat.le_refl _
  | n + 1, m => by
    have h := step_up p m
    rw [runN]
    split
    · rename_i e
      rw [e] at h
      exact (runN_up p n _).mono h
    · trivial
theorem steps_up {p : Program} {m m' : Machine} (h : Steps p m m') : m.world.drawn ≤ m'.world.drawn := by
  obtain ⟨n, hn⟩ := h
  have := runN_up p n m
  rw [hn] at this; exact this
/-- a contract of calls that return tells that the world has drawn on -/
theorem calls_up {P : Program} {f : FuncId} {args : Array Value} {w : World} {R : Ending → World → Prop} (h : Calls P f args w R) (hr : ∀ e w', R e w' → e ≠ .outgrown) : Calls P f args w fun e w' => R e w' ∧ w.drawn ≤ w'.drawn := fun cs => by
  obtain ⟨e, w', fr, h1, h2, h3, h4⟩ := h cs
  refine ⟨e, w', fr, ⟨h1, ?_⟩, h2, h3, h4⟩
  have hne := hr e w' h1
  cases e with
  | returned v => exact steps_up h2
  | panicked c => exact steps_up h2
  | outgrown => exact absurd rfl hne
end Go.Proofs.YtgojggmjajlbpaaGreatDoor

/- THE LIBRARY'S SORT OVER A ROW THAT A CALL OWNS, any kind of element, a compare that may lay blocks. -/
namespace Go.Proofs.YtgojggmjajlbpaaGreatDoor
open Go.RowKit Go.Sort Go.Shelf
theorem ext_grow {w w' : World} (h : Ext w w') (hd : w.drawn ≤ w'.drawn) : ∃ q os, w' = grow (w.drewN q) os := by
  refine ⟨w'.drawn - w.drawn, w'.heap.extract w.heap.size w'.heap.size, ?_⟩
  obtain ⟨h1, h2, h3, h4, h5⟩ := h
  have hh : w'.heap = w.heap ++ w'.heap.extract w.heap.size w'.heap.size := by
    apply Array.ext_getElem?
    intro k
    rcases Nat.lt_or_ge k w.heap.size with hk | hk
    · rw [Array.getElem?_append_left hk]; exact h5 k hk
    · rw [Array.getElem?_append_right hk, Array.getElem?_extract]
      rcases Nat.lt_or_ge k w'.heap.size with hk2 | hk2
      · rw [if_pos (by omega)]; congr 1; omega
      · rw [if_neg (by omega), Array.getElem?_eq_none hk2]
  have hd2 : w'.drawn = w.drawn + (w'.drawn - w.drawn) := by omega
  cases w with
  | mk heap tape drawn os output =>
    cases w' with
    | mk heap' tape' drawn' os' output' =>
      simp only at h1 h2 h3 hh hd2
      simp only [grow, World.drewN]
      rw [← hh, ← hd2, h1, h2, h3]
theorem calls_grow {P : Program} {f : FuncId} {args : Array Value} {w : World} {v : Value} (h : Calls P f args w fun e w' => e = .returned v ∧ Ext w w') : Calls P f args w fun e w' => e = .returned v ∧ ∃ q os, w' = grow (w.drewN q) os :=
  (calls_up h (fun e w' hR => by intro he; rw [he] at hR; cases hR.1)).mono fun _ _ ⟨⟨he, hx⟩, hd⟩ => ⟨he, ext_grow hx hd⟩
section
variable {α : Type} [Inhabited α] (enc : α → List Value) (k : Nat)
theorem flatK_toList (hk : ∀ x, (enc x).length = k) (d : Array α) : (flatK enc k d).toList = d.toList.flatMap enc := by
  apply List.ext_getElem?
  intro t
  rcases Nat.eq_zero_or_pos k with h0 | h0
  · have e1 : (flatK enc k d).toList = [] := List.eq_nil_of_length_eq_zero (by simp [h0])
    have e2 : d.toList.flatMap enc = [] := List.eq_nil_of_length_eq_zero (by rw [flat_len enc k hk, h0, Nat.mul_zero])
    rw [e1, e2]
  · rcases Nat.lt_or_ge t (d.size * k) with ht | ht
    · have hq : t / k < d.size := (Nat.div_lt_iff_lt_mul h0).2 ht
      have hr : t % k < k := Nat.mod_lt _ h0
      have e1 := flat_get enc k hk d.toList (t / k) (t % k) (by simpa using hq) hr
      rw [show t / k * k + t % k = t by rw [Nat.mul_comm]; exact Nat.div_add_mod t k] at e1
      rw [e1, List.getElem?_eq_getElem (by simpa using ht)]
      have e2 := get_flatK enc k d t ht
      rw [getElem!_pos (flatK enc k d) t (by simpa using ht)] at e2
      rw [Array.getElem_toList, e2, getElem!_pos d _ hq, Array.getElem_toList]
      have hl : t % k < (enc d[t / k]).length := by rw [hk]; exact hr
      rw [getElem!_pos (enc d[t / k]) (t % k) hl, List.getElem?_eq_getElem hl]
    · rw [List.getElem?_eq_none (by simpa using ht), List.getElem?_eq_none (by rw [flat_len enc k hk]; simpa using ht)]
theorem grown_sortWorldK (w : World) (g m : Nat) (dk : Array α) (os : Array Obj) : w.grownBy (sortWorldK enc k w g 0 m dk os) (some g) := by
  refine ⟨rfl, rfl, rfl, by unfold sortWorldK putRowK; simp, fun b hb hne => ?_⟩
  unfold sortWorldK
  rw [heap_grow_old _ _ (by unfold putRowK; simpa using hb)]
  unfold putRowK putRow mapBlock
  simp only [Array.getElem?_modify]
  rw [if_neg (fun e => hne (by rw [e]))]; rfl
theorem heap_sortWorldK (w : World) (g m : Nat) (dk : Array α) (os : Array Obj) {cur : Array Value} {e : TypeId} {fr : Nat × Nat} (h : w.heap[g]? = some (.cells cur e fr)) : (sortWorldK enc k w g 0 m dk os).heap[g]? = some (.cells (putCells id 0 (flatK enc k dk) cur) e fr) := by
  have hlt : g < w.heap.size := by
    rcases Nat.lt_or_ge g w.heap.size with h1 | h1
    · exact h1
    · rw [Array.getElem?_eq_none h1] at h; cases h
  unfold sortWorldK
  rw [heap_grow_old _ _ (by unfold putRowK; simpa using hlt)]
  unfold putRowK putRow mapBlock
  simp only [Array.getElem?_modify, if_true]
  show Option.map _ w.heap[g]? = _
  rw [h]; rfl
end
section
variable {P : Program} {ρ : Ren} {α : Type} {K : KindG α} {e : TypeId}
theorem own_sort (L : SlLaysF0.n6 P ρ) (aE : ∀ w, (isAgg (ρ.t 24)).run P w = .ok true w) (zE : ∀ w, (Go.sizeOf (ρ.t 24)).run P w = .ok K.size w) (h0 : α) (hl0 : ∀ W ok, K.lies W ok h0) (cf : α → α → Int) (hO : SWO (ltOf cf)) (f : Nat) (w : World) (base : Nat) (ok0 : Nat → Prop) (g cap : Nat) (hs : List α)
    (h : OwnG K e w base ok0 (.slice (some ⟨g, 0, none⟩) hs.length cap) hs) (hsz : hs.length ≤ 8000000) (eg : ∀ args w, (callFunc f args).run P w = .ok (.enter f args) w)
    (hc : ∀ (W : World) (x y : α), w.grownBy W (some g) → K.lies W (fun b => ok0 b ∧ some b ≠ some g) x → K.lies W (fun b => ok0 b ∧ some b ≠ some g) y → Calls P f #[.agg (K.enc x).toArray, .agg (K.enc y).toArray] W fun e W' => e = .returned (.int .i64 (cf x y)) ∧ Ext W W') :
    Calls P (ρ.f 6) #[.slice (some ⟨g, 0, none⟩) hs.length cap, .func (.func f) #[] #[]] w fun r w' => r = .returned (.tuple #[]) ∧ ∃ hs' : List α, hs'.Perm hs ∧ hs'.Pairwise (fun x y => ¬ cf y x < 0) ∧ OwnG K e w' base ok0 (.slice (some ⟨g, 0, none⟩) hs.length cap) hs' ∧ w.grownBy w' (some g) := by
  have hlies : ∀ p ∈ hs, K.lies w (fun b => ok0 b ∧ some b ≠ some g) p := h.lies
  haveI : Inhabited { p : α // K.lies w (fun b => ok0 b ∧ some b ≠ some g) p } := ⟨⟨h0, hl0 _ _⟩⟩
  have hgb : g < w.heap.size := (h.lt rfl).2
  obtain ⟨d, hd⟩ : ∃ d : Array { p : α // K.lies w (fun b => ok0 b ∧ some b ≠ some g) p }, d = (hs.attach.map (fun x => (⟨x.1, hlies x.1 x.2⟩ : { p : α // K.lies w (fun b => ok0 b ∧ some b ≠ some g) p }))).toArray := ⟨_, rfl⟩
  have hdm : d.toList.map (fun x => x.1) = hs := by rw [hd]; simp
  have hds : d.size = hs.length := by rw [hd]; simp
  have hkl : ∀ x : { p : α // K.lies w (fun b => ok0 b ∧ some b ≠ some g) p }, (K.enc x.1).length = K.size := fun x => K.len x.1
  have hfl : ∀ d' : Array { p : α // K.lies w (fun b => ok0 b ∧ some b ≠ some g) p }, (flatK (fun x => K.enc x.1) K.size d').toList = (d'.toList.map (fun x => x.1)).flatMap K.enc := fun d' => by
    rw [flatK_toList (fun x : { p : α // K.lies w (fun b => ok0 b ∧ some b ≠ some g) p } => K.enc x.1) K.size hkl d', List.flatMap_map]
  have hkeep : ∀ (m : Nat) (dk : Array { p : α // K.lies w (fun b => ok0 b ∧ some b ≠ some g) p }) (os : Array Obj) (x : α), K.lies w (fun b => ok0 b ∧ some b ≠ some g) x → K.lies (sortWorldK (fun x => K.enc x.1) K.size w g 0 m dk os) (fun b => ok0 b ∧ some b ≠ some g) x := fun m dk os x hx =>
    K.keep _ _ _ _ _ (fun b o y hb hcell => ⟨(grown_sortWorldK (fun x : { p : α // K.lies w (fun b => ok0 b ∧ some b ≠ some g) p } => K.enc x.1) K.size w g m dk os).cell hcell (fun e2 => hb.2 e2), hb⟩) hx
  have hcmp : CmpLays P f #[] (fun x : { p : α // K.lies w (fun b => ok0 b ∧ some b ≠ some g) p } => K.enc x.1) K.size (fun x y => cf x.1 y.1) g 0 d.size w := fun m os dk _ x y =>
    calls_grow (hc _ x.1 y.1 (grown_sortWorldK _ K.size w g m dk os) (hkeep m dk os _ x.2) (hkeep m dk os _ y.2))
  have hH : HoldsK (fun x : { p : α // K.lies w (fun b => ok0 b ∧ some b ≠ some g) p } => K.enc x.1) K.size w g 0 d := fun j hj => by
    have hj' : j < hs.length * K.size := by rw [← hds]; simpa using hj
    have h1 := World.ownsRow.cellAt h.own j hj'
    have h2 := hfl d
    rw [hdm] at h2
    rw [Nat.zero_add]
    refine ⟨?_, World.ownsRow.frozenAt h.own j⟩
    rw [h1, ← h2, getElem!_pos (flatK (fun x : { p : α // K.lies w (fun b => ok0 b ∧ some b ≠ some g) p } => K.enc x.1) K.size d) j hj]
    simp
  have hO' : SWO (ltOf (fun x y : { p : α // K.lies w (fun b => ok0 b ∧ some b ≠ some g) p } => cf x.1 y.1)) := ⟨fun x => hO.irrefl x.1, fun x y z => hO.trans x.1 y.1 z.1, fun x y z => hO.ntrans x.1 y.1 z.1⟩
  have H := AnyQ.slices_SortFunc (P := P) (ρ := ρ) L K.size aE zE (fun x : { p : α // K.lies w (fun b => ok0 b ∧ some b ≠ some g) p } => K.enc x.1) hkl (fun x => K.one x.1) (fun x y => cf x.1 y.1) hO' f #[] g 0 cap d w eg hcmp hH hgb (by omega)
  rw [hds] at H
  refine H.mono ?_
  rintro r w' ⟨rfl, d', n, os, hp, hsd, rfl⟩
  have hps : d'.size = d.size := hp.1
  have hperm : d'.toList.Perm d.toList := by
    have h3 := hp.2.2
    rw [← hds] at h3
    have e1 : d'.extract 0 d.size = d' := by rw [← hps]; simp
    have e2 : d.extract 0 d.size = d := by simp
    rw [e1, e2] at h3; exact h3
  refine ⟨rfl, d'.toList.map (fun x => x.1), by have := hperm.map (fun x => x.1); rwa [hdm] at this, ?_, ⟨?_, fun p hpm => ?_⟩, grown_sortWorldK _ K.size w g n d' os⟩
  · refine List.pairwise_map.2 (List.pairwise_iff_getElem.2 (fun i j hi hj hij => ?_))
    have h4 := hsd i j (Nat.zero_le _) hij (by rw [← hds, ← hps]; simpa using hj)
    rw [getElem!_pos d' i (by simpa using hi), getElem!_pos d' j (by simpa using hj)] at h4
    simpa [ltOf] using h4
  · rcases h.own.2 with ⟨hv, -⟩ | ⟨g', cap', cur, hv, hb, hh, hcp, hm, hcs, htk⟩
    · simp at hv
    · simp only [Value.slice.injEq, Option.some.injEq, Addr.mk.injEq, and_true, true_and] at hv
      obtain ⟨rfl, rfl⟩ := hv
      have hlen : (d'.toList.map (fun x => x.1)).length = hs.length := by simp [hps, hds]
      refine ⟨by rw [flat_len K.enc K.size K.len], .inr ⟨g, cap, _, by rw [hlen], hb, heap_sortWorldK _ K.size w g n d' os hh, by rw [hlen]; exact hcp, hm, by unfold putCells; simpa using hcs, ?_⟩⟩
      rw [← hfl d']
      apply List.ext_getElem?
      intro t
      rw [hlen]
      have hfs : (flatK (fun x : { p : α // K.lies w (fun b => ok0 b ∧ some b ≠ some g) p } => K.enc x.1) K.size d').size = hs.length * K.size := by rw [size_flatK, hps, hds]
      have hle : hs.length * K.size ≤ cur.size := by rw [hcs]; exact Nat.mul_le_mul_right _ hcp
      rcases Nat.lt_or_ge t (hs.length * K.size) with ht | ht
      · have hR : (flatK (fun x : { p : α // K.lies w (fun b => ok0 b ∧ some b ≠ some g) p } => K.enc x.1) K.size d').toList[t]? = some (flatK (fun x : { p : α // K.lies w (fun b => ok0 b ∧ some b ≠ some g) p } => K.enc x.1) K.size d')[t]! := by
          rw [Array.getElem?_toList, Array.getElem?_eq_getElem (by rw [hfs]; exact ht), getElem!_pos _ t (by rw [hfs]; exact ht)]
        rw [List.getElem?_take, if_pos ht, hR, Array.getElem?_toList]
        unfold putCells
        rw [Array.getElem?_mapIdx, Array.getElem?_eq_getElem (by omega)]
        simp only [Option.map_some, Nat.zero_le, true_and, Nat.zero_add, Nat.sub_zero, id_eq]
        rw [if_pos (by rw [hfs]; exact ht)]
      · rw [List.getElem?_eq_none (by rw [List.length_take]; omega), List.getElem?_eq_none (by rw [Array.length_toList, hfs]; exact ht)]
  · obtain ⟨x, -, rfl⟩ := List.mem_map.1 hpm
    exact hkeep n d' os x.1 x.2
end
end Go.Proofs.YtgojggmjajlbpaaGreatDoor

/- PLAIN: MERGING IN PLACE, as slices.SortStableFunc does it: what its parts make of a row. No program in sight. -/
namespace Go.Proofs.YtgojggmjajlbpaaGreatDoor
open Go.Sort
variable {α : Type} [Inhabited α] {lt : α → α → Bool}
/-- nothing of [m, b) is less than anything of [a, m) -/
def Cross (lt : α → α → Bool) (a m b : Nat) (d : Array α) : Prop := ∀ i j, a ≤ i → i < m → m ≤ j → j < b → lt d[j]! d[i]! = false
theorem srt_sub {a b a' b' : Nat} {d : Array α} (h : SortedIn lt a b d) (ha : a ≤ a') (hb : b' ≤ b) : SortedIn lt a' b' d := fun i j h1 h2 h3 => h i j (by omega) h2 (by omega)
theorem srt_kept {a b lo hi : Nat} {d e : Array α} (h : SortedIn lt a b d) (hp : PermIn lo hi d e) (ho : b ≤ lo ∨ hi ≤ a) : SortedIn lt a b e := fun i j h1 h2 h3 => by
  rw [hp.2.1 i (by omega), hp.2.1 j (by omega)]; exact h i j h1 h2 h3
theorem Cross.left {a m b : Nat} {d e : Array α} (hm : m ≤ d.size) (h : Cross lt a m b d) (hp : PermIn a m d e) : Cross lt a m b e := fun i j h1 h2 h3 h4 => by
  rw [hp.2.1 j (by omega)]
  exact permIn_all d e a m (fun u => lt d[j]! u = false) hm hp (fun i h1 h2 => h i j h1 h2 h3 h4) i h1 h2
theorem Cross.right {a m b : Nat} {d e : Array α} (hb : b ≤ d.size) (h : Cross lt a m b d) (hp : PermIn m b d e) : Cross lt a m b e := fun i j h1 h2 h3 h4 => by
  rw [hp.2.1 i (by omega)]
  exact permIn_all d e m b (fun u => lt u d[i]! = false) hb hp (fun j h3 h4 => h i j h1 h2 h3 h4) j h3 h4
/-- BLOCKS: runs of bs elements each rise -/
def Blocks (lt : α → α → Bool) (bs n : Nat) (d : Array α) : Prop := ∀ q, SortedIn lt (q * bs) (min (q * bs + bs) n) d
/-- behind some rounds of a level: runs of 2 bs up to a, runs of bs from there -/
structure Level (lt : α → α → Bool) (bs n a : Nat) (d : Array α) : Prop where
  two : ∀ q, q * (2 * bs) + 2 * bs ≤ a → SortedIn lt (q * (2 * bs)) (q * (2 * bs) + 2 * bs) d
  one : ∀ q, a ≤ q * bs → SortedIn lt (q * bs) (min (q * bs + bs) n) d
theorem Level.start {bs n : Nat} {d : Array α} (hb : 0 < bs) (h : Blocks lt bs n d) : Level lt bs n 0 d := ⟨fun q hq => by omega, fun q _ => h q⟩
theorem Level.step {bs n q : Nat} {d e : Array α} (hb : 0 < bs) (h : Level lt bs n (q * (2 * bs)) d) (hn : q * (2 * bs) + 2 * bs ≤ n) (hp : PermIn (q * (2 * bs)) (q * (2 * bs) + 2 * bs) d e) (hs : SortedIn lt (q * (2 * bs)) (q * (2 * bs) + 2 * bs) e) :
    Level lt bs n ((q + 1) * (2 * bs)) e := by
  have e1 : (q + 1) * (2 * bs) = q * (2 * bs) + 2 * bs := by rw [Nat.add_mul, Nat.one_mul]
  rw [e1]
  refine ⟨fun p hpq => ?_, fun p hpq => ?_⟩
  · rcases Nat.lt_trichotomy p q with h1 | h1 | h1
    · have h2 : (p + 1) * (2 * bs) ≤ q * (2 * bs) := Nat.mul_le_mul_right _ h1
      rw [Nat.add_mul, Nat.one_mul] at h2
      exact srt_kept (h.two p h2) hp (.inl h2)
    · subst h1; exact hs
    · have h2 : (q + 1) * (2 * bs) ≤ p * (2 * bs) := Nat.mul_le_mul_right _ h1
      omega
  · exact srt_kept (h.one p (by omega)) hp (.inr hpq)
/-- the last round of a level -/
theorem Level.last {bs n q : Nat} {d e : Array α} (h : Level lt bs n (q * (2 * bs)) d) (hn : n < q * (2 * bs) + 2 * bs) (ha : q * (2 * bs) ≤ n) (hp : PermIn (q * (2 * bs)) n d e) (hs : SortedIn lt (q * (2 * bs)) n e) : Blocks lt (bs * 2) n e := by
  intro p
  rw [Nat.mul_comm bs 2]
  rcases Nat.lt_trichotomy p q with h1 | h1 | h1
  · have h2 : (p + 1) * (2 * bs) ≤ q * (2 * bs) := Nat.mul_le_mul_right _ h1
    rw [Nat.add_mul, Nat.one_mul] at h2
    exact srt_sub (srt_kept (h.two p h2) hp (.inl h2)) (Nat.le_refl _) (by omega)
  · subst h1; exact srt_sub hs (Nat.le_refl _) (by omega)
  · have h2 : (q + 1) * (2 * bs) ≤ p * (2 * bs) := Nat.mul_le_mul_right _ h1
    rw [Nat.add_mul, Nat.one_mul] at h2
    intro i j hi hij hj
    omega
theorem Level.runs {bs n q : Nat} {d : Array α} (h : Level lt bs n (q * (2 * bs)) d) : SortedIn lt (q * (2 * bs)) (min (q * (2 * bs) + bs) n) d ∧ SortedIn lt (q * (2 * bs) + bs) (min (q * (2 * bs) + bs + bs) n) d := by
  have e1 : 2 * q * bs = q * (2 * bs) := by rw [Nat.mul_comm 2 q, Nat.mul_assoc]
  have e2 : (2 * q + 1) * bs = q * (2 * bs) + bs := by rw [Nat.add_mul, Nat.one_mul, e1]
  have h1 := h.one (2 * q) (by omega)
  have h2 := h.one (2 * q + 1) (by omega)
  rw [e1] at h1
  rw [e2] at h2
  exact ⟨h1, h2⟩
theorem Blocks.done {bs n : Nat} {d : Array α} (h : Blocks lt bs n d) (hn : n ≤ bs) : SortedIn lt 0 n d := by
  have := h 0
  rw [Nat.zero_mul] at this
  exact srt_sub this (Nat.le_refl _) (by omega)
/-- THE FIRST LEVEL: blocks sorted by insertion -/
def First (lt : α → α → Bool) (bs a : Nat) (d : Array α) : Prop := ∀ q, q * bs + bs ≤ a → SortedIn lt (q * bs) (q * bs + bs) d
theorem First.step {bs q : Nat} {d e : Array α} (h : First lt bs (q * bs) d) (hp : PermIn (q * bs) (q * bs + bs) d e) (hs : SortedIn lt (q * bs) (q * bs + bs) e) : First lt bs ((q + 1) * bs) e := by
  have e1 : (q + 1) * bs = q * bs + bs := by rw [Nat.add_mul, Nat.one_mul]
  rw [e1]
  intro p hpq
  rcases Nat.lt_trichotomy p q with h1 | h1 | h1
  · have h2 : (p + 1) * bs ≤ q * bs := Nat.mul_le_mul_right _ h1
    rw [Nat.add_mul, Nat.one_mul] at h2
    exact srt_kept (h p h2) hp (.inl h2)
  · subst h1; exact hs
  · have h2 : (q + 1) * bs ≤ p * bs := Nat.mul_le_mul_right _ h1
    intro i j hi hij hj
    omega
theorem First.last {bs n q : Nat} {d e : Array α} (h : First lt bs (q * bs) d) (hn : n < q * bs + bs) (hp : PermIn (q * bs) n d e) (hs : SortedIn lt (q * bs) n e) : Blocks lt bs n e := by
  intro p
  rcases Nat.lt_trichotomy p q with h1 | h1 | h1
  · have h2 : (p + 1) * bs ≤ q * bs := Nat.mul_le_mul_right _ h1
    rw [Nat.add_mul, Nat.one_mul] at h2
    exact srt_sub (srt_kept (h p h2) hp (.inl h2)) (Nat.le_refl _) (by omega)
  · subst h1; exact srt_sub hs (Nat.le_refl _) (by omega)
  · have h2 : (q + 1) * bs ≤ p * bs := Nat.mul_le_mul_right _ h1
    rw [Nat.add_mul, Nat.one_mul] at h2
    intro i j hi hij hj
    omega
end Go.Proofs.YtgojggmjajlbpaaGreatDoor

/- A ROW OF ONE-CELL ELEMENTS THAT IS SORTED IN PLACE: the worlds that such a sort passes through. -/
namespace Go.Proofs.YtgojggmjajlbpaaGreatDoor
open Go.RowKit Go.Sort
theorem arr_get {α : Type} [Inhabited α] {d : Array α} {j : Nat} (h : j < d.size) : d.toList[j]? = some d[j]! := by
  rw [Array.getElem?_toList, getElem!_pos d j h, Array.getElem?_eq_getElem h]
/-- block g holds the elements of d (and spare cells behind them); all other blocks of w0 are as they were -/
structure SortW {α : Type} (w0 : World) (B g cap : Nat) (t : TypeId) (enc : α → Value) (d : Array α) (W : World) : Prop where
  gr : w0.grownBy W (some g)
  own : W.ownsRow B t 1 (.slice (some ⟨g, 0, none⟩) d.size cap) d.size (d.toList.map enc)
section
variable {α : Type} {w0 : World} {B g cap : Nat} {t : TypeId} {enc : α → Value} {d : Array α} {W : World}
theorem grown_trans {a b c : World} {row : Option Nat} (h : a.grownBy b row) (k : b.grownBy c row) : a.grownBy c row :=
  ⟨k.os.trans h.os, k.tape.trans h.tape, k.output.trans h.output, Nat.le_trans h.size k.size, fun i hi hne => (k.block i (Nat.lt_of_lt_of_le hi h.size) hne).trans (h.block i hi hne)⟩
theorem Ext.grownBy {a b : World} (h : Ext a b) (row : Option Nat) : a.grownBy b row := ⟨h.os, h.tape, h.output, h.size, fun k hk _ => h.block k hk⟩
theorem SortW.start (h : w0.ownsRow B t 1 (.slice (some ⟨g, 0, none⟩) d.size cap) d.size (d.toList.map enc)) : SortW w0 B g cap t enc d w0 := ⟨World.grownBy.refl _ _, h⟩
theorem SortW.ext {W' : World} (h : SortW w0 B g cap t enc d W) (e : Ext W W') : SortW w0 B g cap t enc d W' := ⟨grown_trans h.gr (e.grownBy _), own_ext h.own e⟩
theorem SortW.drew (h : SortW w0 B g cap t enc d W) : SortW w0 B g cap t enc d W.drew := h.ext ((Ext.refl _).drew)
theorem SortW.cell [Inhabited α] (h : SortW w0 B g cap t enc d W) {j : Nat} (hj : j < d.size) : W.cell? ⟨g, j, none⟩ = some (enc d[j]!) := by
  rw [h.own.cellAt j (by omega), List.getElem?_map, arr_get hj]; rfl
theorem SortW.frozen (h : SortW w0 B g cap t enc d W) (j : Nat) : W.frozen? ⟨g, j, none⟩ = false := h.own.frozenAt j
theorem map_set (d : Array α) (j : Nat) (x : α) : (d.toList.map enc).set j (enc x) = ((d.setIfInBounds j x).toList.map enc) := by
  rw [Array.toList_setIfInBounds, List.map_set]
theorem SortW.set (h : SortW w0 B g cap t enc d W) (j : Nat) (x : α) : SortW w0 B g cap t enc (d.setIfInBounds j x) (W.setCell ⟨g, j, none⟩ (enc x)) := by
  obtain ⟨h1, h2⟩ := h.own.stored j (enc x)
  refine ⟨grown_trans h.gr h2, ?_⟩
  rw [map_set] at h1
  rw [Array.size_setIfInBounds]; exact h1
theorem SortW.swap [Inhabited α] (h : SortW w0 B g cap t enc d W) (i j : Nat) : SortW w0 B g cap t enc (swp d i j) ((W.setCell ⟨g, i, none⟩ (enc d[j]!)).setCell ⟨g, j, none⟩ (enc d[i]!)) := (h.set i d[j]!).set j d[i]!
/-- a slice's head -/
structure HeadS where
  A : Option Addr
  n : Nat
  c : Nat
instance : Inhabited HeadS := ⟨⟨none, 0, 0⟩⟩
/-- elements that are slices -/
def encS (h : α → HeadS) (x : α) : Value := .slice (h x).A (h x).n (h x).c
def ltC (cf : α → α → Int) (x y : α) : Bool := decide (cf x y < 0)
end
end Go.Proofs.YtgojggmjajlbpaaGreatDoor
