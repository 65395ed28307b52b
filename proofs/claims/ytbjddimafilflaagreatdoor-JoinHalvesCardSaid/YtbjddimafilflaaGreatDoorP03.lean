/- PARTS OF THE WALKS, joined: SortE, Row, PlainA. -/
import Derived.Test.YtbjddimafilflaaGreatDoorP02
import Derived.Laws.CopyRow
import Derived.Lib.AppendZerosOnto
import Derived.Lib.SlFresh
import Derived.Test.YtbjddimafilflaaGreatDoorP01
import Derived.Lib.ItoaNum
import Derived.Lib.AtoiAll
/- THE WALK over slices.stableCmpFunc and slices.SortStableFunc, at rows of values. -/
namespace Go.Proofs.YtbjddimafilflaaGreatDoor
open Go.RowKit Go.Sort
variable {α : Type} [Inhabited α]
theorem firstL_step {lt : α → α → Bool} {bs A b : Nat} {d e : Array α} (hq : ∃ q, A = q * bs) (hb : b = A + bs) (h : First lt bs A d) (hp : PermIn A b d e) (hs : SortedIn lt A b e) : First lt bs b e ∧ ∃ q, b = q * bs := by
  obtain ⟨q, rfl⟩ := hq
  subst hb
  have e1 : (q + 1) * bs = q * bs + bs := by rw [Nat.add_mul, Nat.one_mul]
  have := h.step hp hs
  rw [e1] at this
  exact ⟨this, q + 1, e1.symm⟩
theorem firstL_last {lt : α → α → Bool} {bs n A : Nat} {d e : Array α} (hq : ∃ q, A = q * bs) (h : First lt bs A d) (hn : n < A + bs) (hp : PermIn A n d e) (hs : SortedIn lt A n e) : Blocks lt bs n e := by
  obtain ⟨q, rfl⟩ := hq
  exact h.last hn hp hs
theorem levelL_step {lt : α → α → Bool} {bs n A b : Nat} {d e : Array α} (hb : 0 < bs) (hq : ∃ q, A = q * (2 * bs)) (hB : b = A + 2 * bs) (h : Level lt bs n A d) (hn : b ≤ n) (hp : PermIn A b d e) (hs : SortedIn lt A b e) : Level lt bs n b e ∧ ∃ q, b = q * (2 * bs) := by
  obtain ⟨q, rfl⟩ := hq
  subst hB
  have e1 : (q + 1) * (2 * bs) = q * (2 * bs) + 2 * bs := by rw [Nat.add_mul, Nat.one_mul]
  have := h.step hb hn hp hs
  rw [e1] at this
  exact ⟨this, q + 1, e1.symm⟩
theorem levelL_last {lt : α → α → Bool} {bs n A : Nat} {d e : Array α} (hq : ∃ q, A = q * (2 * bs)) (h : Level lt bs n A d) (hn : n < A + 2 * bs) (ha : A ≤ n) (hp : PermIn A n d e) (hs : SortedIn lt A n e) : Blocks lt (bs * 2) n e := by
  obtain ⟨q, rfl⟩ := hq
  exact h.last hn ha hp hs
theorem levelL_runs {lt : α → α → Bool} {bs n A : Nat} {d : Array α} (hq : ∃ q, A = q * (2 * bs)) (h : Level lt bs n A d) : SortedIn lt A (min (A + bs) n) d ∧ SortedIn lt (A + bs) (min (A + bs + bs) n) d := by
  obtain ⟨q, rfl⟩ := hq
  exact h.runs
set_option maxRecDepth 100000 in
set_option maxHeartbeats 6400000 in
theorem sw_stable (w0 : World) (B g cap : Nat) (hd : α → HeadS) (cf : α → α → Int) (f : Nat) (cb : Array Value) (d : Array α) (w : World)
    (eg : ∀ args w, (callFunc f args).run Tryz.prog w = .ok (.enter f args) w) (hcmp : CmpOk Tryz.prog f cb (encS hd) cf w0 g) (hS : SWO (ltC cf)) (hs : SortW w0 B g cap 37 (encS hd) d w) (hsz : d.size ≤ 8000000) :
    Calls Tryz.prog 77 #[.slice (some ⟨g, 0, none⟩) d.size cap, .int .i64 d.size, .func (.func f) #[] cb] w fun e w' => e = .returned (.tuple #[]) ∧ ∃ d', SortW w0 B g cap 37 (encS hd) d' w' ∧ PermIn 0 d.size d d' ∧ SortedIn (ltC cf) 0 d.size d' := by
  have HI := Lib.hid (fun (e : Array α) (W : World) (a b : Nat) (h : SortW w0 B g cap 37 (encS hd) e W) (hz : e.size = d.size) (hab : a ≤ b) (hb : b ≤ d.size) => (by
    rw [← hz]; exact sw_insert w0 B g cap hd cf f cb e a b W eg hcmp hS h hab (hz ▸ hb) (hz ▸ hsz) : Calls Tryz.prog 95 #[.slice (some ⟨g, 0, none⟩) d.size cap, .int .i64 a, .int .i64 b, .func (.func f) #[] cb] W fun r w' => r = .returned (.tuple #[]) ∧ ∃ d', SortW w0 B g cap 37 (encS hd) d' w' ∧ PermIn a b e d' ∧ SortedIn (ltC cf) a b d'))
  have HY := Lib.hid (fun (e : Array α) (W : World) (a m b : Nat) (h : SortW w0 B g cap 37 (encS hd) e W) (hz : e.size = d.size) (h1 : a < m) (h2 : m < b) (hb : b ≤ d.size) (hl : SortedIn (ltC cf) a m e) (hr : SortedIn (ltC cf) m b e) => (by
    rw [← hz]; exact sw_sym w0 B g cap hd cf f cb e a m b W eg hcmp hS h h1 h2 (hz ▸ hb) (hz ▸ hsz) hl hr : Calls Tryz.prog 96 #[.slice (some ⟨g, 0, none⟩) d.size cap, .int .i64 a, .int .i64 m, .int .i64 b, .func (.func f) #[] cb] W fun r w' => r = .returned (.tuple #[]) ∧ ∃ d', SortW w0 B g cap 37 (encS hd) d' w' ∧ PermIn a b e d' ∧ SortedIn (ltC cf) a b d'))
  have HS := Lib.hid hs
  clear hs hcmp hS
  obtain ⟨n, hn⟩ : ∃ n, n = d.size := ⟨_, rfl⟩
  have HN := Lib.hid hn
  have hn1 : n ≤ d.size := by omega
  have hn2 : d.size ≤ n := by omega
  rw [← hn] at HI HY ⊢
  rw [← hn] at hsz
  clear hn hn1 hn2
  go_enter Tryz.func77, Tryz.ntmps77
  go_wp2_with fail
  go_loopw [7, 8] (fun u v W => ∃ (A b : Nat) (e : Array α), u = .int .i64 A ∧ v = .int .i64 b ∧ A ≤ n ∧ A + 20 ≤ b ∧ b ≤ A + 20 ∧ Hid (∃ q, A = q * 20) ∧ Hid (First (ltC cf) 20 A e) ∧ Hid (SortW w0 B g cap 37 (encS hd) e W) ∧ Hid (e.size = n) ∧ Hid (PermIn 0 n d e)) (fun _ v _ => n + 20 - (intOf v).toNat)
  case atStart => exact ⟨0, 20, d, rfl, rfl, Nat.zero_le _, Nat.le_refl _, Nat.le_refl _, Lib.hid ⟨0, by omega⟩, Lib.hid (fun q hq => by omega), HS, Lib.hid HN.out.symm, Lib.hid (permIn_refl _ _ _)⟩
  case round =>
    obtain ⟨A, b, e, rfl, rfl, hAn, hb1, hb2, hq, hf, he, hz, hp⟩ := hrel
    have HB := Lib.hid (show b = A + 20 by omega)
    by_cases hlt : b ≤ n
    · have HC := Lib.hid (HI.out e wr A b he.out hz.out (by omega) hlt)
      go_wp2_with (go_at_call 95; refine HC.out.mono ?_; rintro r w1 ⟨rfl, d1, hs1, hp1, hso1⟩; replace hs1 := Lib.hid hs1; replace hp1 := Lib.hid hp1; replace hso1 := Lib.hid hso1)
      go_roundw
      case rel =>
        have HF := firstL_step hq.out HB.out hf.out hp1.out hso1.out
        exact ⟨b, b + 20, d1, rfl, congrArg (Value.int .i64) (by omega), hlt, Nat.le_refl _, Nat.le_refl _, Lib.hid HF.2, Lib.hid HF.1, hs1, Lib.hid (hp1.out.1.trans hz.out), Lib.hid (permIn_trans _ _ _ 0 n hp.out (permIn_mono _ _ _ _ _ _ (Nat.zero_le _) hlt (by rw [hz.out]; exact Nat.le_refl _) hp1.out))⟩
      case measure => simp [intOf]; omega
    · have HC := Lib.hid (HI.out e wr A n he.out hz.out hAn (Nat.le_refl _))
      go_wp2_with (go_at_call 95; refine HC.out.mono ?_; rintro r w1 ⟨rfl, d1, hs1, hp1, hso1⟩; replace hs1 := Lib.hid hs1; replace hp1 := Lib.hid hp1; replace hso1 := Lib.hid hso1)
      have hbl := Lib.hid (firstL_last hq.out hf.out (by omega) hp1.out hso1.out)
      have hz1 := Lib.hid (hp1.out.1.trans hz.out)
      have hp2 := Lib.hid (permIn_trans _ _ _ 0 n hp.out (permIn_mono _ _ _ _ _ _ (Nat.zero_le _) (Nat.le_refl _) (by rw [hz.out]; exact Nat.le_refl _) hp1.out))
      clear hp hf hq he HB HC
      go_loopw [6, 7, 8] (fun u v x W => ∃ (bs : Nat) (e : Array α) (p q : Int), u = .int .i64 bs ∧ v = .int .i64 p ∧ x = .int .i64 q ∧ 20 ≤ bs ∧ bs ≤ 16000000 ∧ Hid (Blocks (ltC cf) bs n e) ∧ Hid (SortW w0 B g cap 37 (encS hd) e W) ∧ Hid (e.size = n) ∧ Hid (PermIn 0 n d e)) (fun u _ _ _ => n - (intOf u).toNat)
      case atStart => exact ⟨20, d1, _, _, rfl, rfl, rfl, Nat.le_refl _, by omega, hbl, hs1, hz1, hp2⟩
      case round =>
        clear hbl hs1 hz1 hp2 hp1 hso1
        obtain ⟨bs, e, p, q, rfl, rfl, rfl, hbs, hbs2, hbl, he, hz, hp⟩ := hrel
        by_cases hlt2 : bs < n
        · go_wp2_with fail
          go_loopw [7, 8] (fun u v W => ∃ (A b : Nat) (e : Array α), u = .int .i64 A ∧ v = .int .i64 b ∧ A ≤ n ∧ A + 2 * bs ≤ b ∧ b ≤ A + 2 * bs ∧ Hid (∃ q, A = q * (2 * bs)) ∧ Hid (Level (ltC cf) bs n A e) ∧ Hid (SortW w0 B g cap 37 (encS hd) e W) ∧ Hid (e.size = n) ∧ Hid (PermIn 0 n d e)) (fun _ v _ => n + 2 * bs - (intOf v).toNat)
          case atStart => exact ⟨0, 2 * bs, e, rfl, congrArg (Value.int .i64) (by omega), Nat.zero_le _, by omega, by omega, Lib.hid ⟨0, by omega⟩, Lib.hid (Level.start (by omega) hbl.out), he, hz, hp⟩
          case round =>
            clear hbl he hz hp
            obtain ⟨A, b, e, rfl, rfl, hAn2, hb3, hb4, hq, hf, he, hz, hp⟩ := hrel
            have HB := Lib.hid (show b = A + 2 * bs by omega)
            by_cases hlt3 : b ≤ n
            · obtain ⟨M, hM⟩ : ∃ M, M = A + bs := ⟨_, rfl⟩
              have hM1 : A + bs ≤ M := by omega
              have hM2 : M ≤ A + bs := by omega
              have HM := Lib.hid hM
              clear hM
              have HR := Lib.hid (levelL_runs hq.out hf.out)
              have HC := Lib.hid (HY.out e wr A M b he.out hz.out (by omega) (by omega) hlt3 (srt_sub HR.out.1 (Nat.le_refl _) (by omega)) (by have := HR.out.2; rw [← HM.out] at this; exact srt_sub this (Nat.le_refl _) (by omega)))
              have qM : (A : Int) + (bs : Int) = (M : Int) := by omega
              go_wp2_with (go_at_call 96; refine HC.out.mono ?_; rintro r w1 ⟨rfl, d1, hs1, hp1, hso1⟩; replace hs1 := Lib.hid hs1; replace hp1 := Lib.hid hp1; replace hso1 := Lib.hid hso1)
              go_roundw
              case rel =>
                have HF := levelL_step (by omega) hq.out HB.out hf.out hlt3 hp1.out hso1.out
                exact ⟨b, b + 2 * bs, d1, rfl, congrArg (Value.int .i64) (by omega), hlt3, Nat.le_refl _, Nat.le_refl _, Lib.hid HF.2, Lib.hid HF.1, hs1, Lib.hid (hp1.out.1.trans hz.out), Lib.hid (permIn_trans _ _ _ 0 n hp.out (permIn_mono _ _ _ _ _ _ (Nat.zero_le _) hlt3 (by rw [hz.out]; exact Nat.le_refl _) hp1.out))⟩
              case measure => simp [intOf]; omega
            · obtain ⟨M, hM⟩ : ∃ M, M = A + bs := ⟨_, rfl⟩
              have hM1 : A + bs ≤ M := by omega
              have hM2 : M ≤ A + bs := by omega
              have HM := Lib.hid hM
              clear hM
              have HR := Lib.hid (levelL_runs hq.out hf.out)
              have qM : (A : Int) + (bs : Int) = (M : Int) := by omega
              by_cases hlt4 : M < n
              · have HC := Lib.hid (HY.out e wr A M n he.out hz.out (by omega) hlt4 (Nat.le_refl _) (srt_sub HR.out.1 (Nat.le_refl _) (by omega)) (by have := HR.out.2; rw [← HM.out] at this; exact srt_sub this (Nat.le_refl _) (by omega)))
                go_wp2_with (go_at_call 96; refine HC.out.mono ?_; rintro r w1 ⟨rfl, d1, hs1, hp1, hso1⟩; replace hs1 := Lib.hid hs1; replace hp1 := Lib.hid hp1; replace hso1 := Lib.hid hso1)
                go_roundw
                case rel =>
                  exact ⟨bs * 2, d1, _, _, congrArg (Value.int .i64) (by omega), rfl, rfl, by omega, by omega, Lib.hid (levelL_last hq.out hf.out (by omega) hAn2 hp1.out hso1.out), hs1, Lib.hid (hp1.out.1.trans hz.out), Lib.hid (permIn_trans _ _ _ 0 n hp.out (permIn_mono _ _ _ _ _ _ (Nat.zero_le _) (Nat.le_refl _) (by rw [hz.out]; exact Nat.le_refl _) hp1.out))⟩
                case measure => simp [intOf]; omega
              · go_wp2_with fail
                go_roundw
                case rel =>
                  exact ⟨bs * 2, e, _, _, congrArg (Value.int .i64) (by omega), rfl, rfl, by omega, by omega, Lib.hid (levelL_last hq.out hf.out (by omega) hAn2 (permIn_refl _ _ _) (srt_sub HR.out.1 (Nat.le_refl _) (by omega))), he, hz, hp⟩
                case measure => simp [intOf]; omega
        · go_wp2_with fail
          go_end0
          exact ⟨rfl, e, he.out, hp.out, hbl.out.done (by omega)⟩
set_option maxRecDepth 100000 in
theorem sw_sortStable (w0 : World) (B g cap : Nat) (hd : α → HeadS) (cf : α → α → Int) (f : Nat) (cb : Array Value) (d : Array α) (w : World)
    (eg : ∀ args w, (callFunc f args).run Tryz.prog w = .ok (.enter f args) w) (hcmp : CmpOk Tryz.prog f cb (encS hd) cf w0 g) (hS : SWO (ltC cf)) (hs : SortW w0 B g cap 37 (encS hd) d w) (hsz : d.size ≤ 8000000) :
    Calls Tryz.prog 65 #[.slice (some ⟨g, 0, none⟩) d.size cap, .func (.func f) #[] cb] w fun e w' => e = .returned (.tuple #[]) ∧ ∃ d', SortW w0 B g cap 37 (encS hd) d' w' ∧ PermIn 0 d.size d d' ∧ SortedIn (ltC cf) 0 d.size d' := by
  have HS := Lib.hid (sw_stable w0 B g cap hd cf f cb d w eg hcmp hS hs hsz)
  clear hs hcmp hS
  go_enter Tryz.func65, Tryz.ntmps65
  go_wp2_with (go_at_call 77; refine HS.out.mono ?_; rintro r w1 ⟨rfl, HE⟩; replace HE := Lib.hid HE)
  go_end0
  exact ⟨rfl, HE.out⟩
end Go.Proofs.YtbjddimafilflaaGreatDoor

/- A ROW WHOSE ELEMENTS HAVE SEVERAL CELLS: what copy, append and clear make of it. -/
namespace Go.Proofs.YtbjddimafilflaaGreatDoor
open Go.RowKit
/-- a block that is known whole -/
def Blk (w : World) (g : Nat) (t : TypeId) (cs : List Value) : Prop := w.heap[g]? = some (.cells cs.toArray t (0, 0))
theorem Blk.ext {w w' : World} {g : Nat} {t : TypeId} {cs : List Value} (h : Blk w g t cs) (e : Ext w w') : Blk w' g t cs := e.heap h
theorem Blk.cell {w : World} {g : Nat} {t : TypeId} {cs : List Value} (h : Blk w g t cs) (i : Nat) : w.cell? ⟨g, i, none⟩ = cs[i]? := by
  rw [cell_of_row w g i _ t (0, 0) h]; simp
theorem Blk.lt {w : World} {g : Nat} {t : TypeId} {cs : List Value} (h : Blk w g t cs) : g < w.heap.size := by
  unfold Blk at h
  rcases Nat.lt_or_ge g w.heap.size with hlt | hge
  · exact hlt
  · rw [Array.getElem?_eq_none hge] at h; cases h
theorem Blk.own {w : World} {g base : Nat} {t size n cap : Nat} {cs xs : List Value} (h : Blk w g t cs) (hb : base ≤ g) (hn : n ≤ cap) (hc : cap ≤ maxLen) (hl : cs.length = cap * size) (hx : xs = cs.take (n * size)) :
    w.ownsRow base t size (.slice (some ⟨g, 0, none⟩) n cap) n xs := by
  subst hx
  refine ⟨?_, .inr ⟨g, cap, cs.toArray, rfl, hb, h, hn, hc, by simpa using hl, by simp⟩⟩
  rw [List.length_take, hl, Nat.min_eq_left (Nat.mul_le_mul_right _ hn)]
/-- the row behind a store of several cells -/
def laidAt (cur : List Value) (o : Nat) (cs : List Value) : List Value := cur.take o ++ cs ++ cur.drop (o + cs.length)
theorem laidAt_len {cur cs : List Value} {o : Nat} (h : o + cs.length ≤ cur.length) : (laidAt cur o cs).length = cur.length := by
  unfold laidAt; simp; omega
theorem take_laid_lt {cur cs : List Value} {o p : Nat} (h : o ≤ cur.length) (hp : p ≤ o) : (laidAt cur o cs).take p = cur.take p := by
  unfold laidAt
  rw [List.append_assoc, List.take_append_of_le_length (by simp; omega), List.take_take, Nat.min_eq_left hp]
theorem Blk.set {w : World} {g : Nat} {t : TypeId} {cs : List Value} (h : Blk w g t cs) (cs' : List Value) : Blk (w.setRow g cs'.toArray) g t cs' := setRow_heap w g cs.toArray _ t _ h
theorem Ext.setRow {wb w : World} {g : Nat} (h : Ext wb w) (hg : wb.heap.size ≤ g) (cs : Array Value) : Ext wb (w.setRow g cs) :=
  Below.trans h ⟨rfl, rfl, rfl, by simp [World.setRow], fun k hk => setRow_other w g k cs (by omega)⟩
theorem step_append_run' {P : Program} {ops : Array Oper} {o : Oper} {a : Act} {w : World} {K : Act → World → Prop} {Q : Exit → Act → World → Prop} {E : Prop} (hg : o.guard = none) (s x : Operand) (t t' : TypeId)
    (ho : o.op = .call { callee := .builtin .append, args := #[s, x], argTypes := #[t, t'] }) (v u : Value) (hs : a.eval s = v) (hx : a.eval x = u) {v' : Value} {w' : World}
    (hr : (Builtin.append_ #[t, t'] o.type #[v, u]).run P w = .ok v' w') (hK : K (a.put o.dst v') w') : if Region.wanted o (yielded ops a.tmps) = true then Oper.wp P o a w K Q else E := by
  have hw : Region.wanted o (yielded ops a.tmps) = true := by simp [Region.wanted, hg]
  rw [if_pos hw]
  unfold Oper.wp execOp
  simp only [ho, resolve, invoke, builtin, Sem.run_bind, Sem.run_pure, Result.andThen_ok, List.map_toArray, List.map_cons, List.map_nil, hs, hx, hr]
  exact hK
section
variable {P : Program}
theorem run_clearK (w : World) (t ty elem g o n c : Nat) (z : Value) (cur : List Value) (tt : TypeId)
    (hu : P.underlying t = some (.slice elem)) (hz : ∀ w, (zeroValue elem).run P w = .ok z w) (hn : 0 < n)
    (hg : Blk w g tt cur) (hfit : o + (Builtin.zeroCells z.cells n).size ≤ cur.length) (h1 : ∀ v ∈ (Builtin.zeroCells z.cells n).toList, v.oneCell' = true) :
    (Builtin.clear_ #[t] ty #[.slice (some ⟨g, o, none⟩) n c]).run P w = .ok (.tuple #[]) (w.setRow g (laidAt cur o (Builtin.zeroCells z.cells n).toList).toArray) := by
  have hst := run_storeCells_at P g o tt (Builtin.zeroCells z.cells n).toList 0 cur.toArray w hg (by simpa using hfit) h1
  unfold laidAt
  obtain ⟨m, rfl⟩ : ∃ m, n = m + 1 := ⟨n - 1, by omega⟩
  simp [Builtin.clear_, run_underlying hu, hz, hst]
end
end Go.Proofs.YtbjddimafilflaaGreatDoor

/- PLAIN: decimal numerals and back. No program. -/
namespace Go.Proofs.YtbjddimafilflaaGreatDoor
/-- in the range of num -/
def inB (n : Int) : Bool := decide (-1000000000000000 ≤ n) && decide (n ≤ 1000000000000000)
theorem inB_true {n : Int} : inB n = true ↔ -1000000000000000 ≤ n ∧ n ≤ 1000000000000000 := by
  unfold inB; rw [Bool.and_eq_true, decide_eq_true_iff, decide_eq_true_iff]
theorem inB_false {n : Int} : inB n = false ↔ n < -1000000000000000 ∨ 1000000000000000 < n := by
  rw [← Bool.not_eq_true, inB_true]; omega
theorem inB_cases (n : Int) : (inB n = true ∧ -1000000000000000 ≤ n ∧ n ≤ 1000000000000000) ∨ (inB n = false ∧ (n < -1000000000000000 ∨ 1000000000000000 < n)) := by
  cases h : inB n
  · right; exact ⟨rfl, inB_false.1 h⟩
  · left; exact ⟨rfl, inB_true.1 h⟩
end Go.Proofs.YtbjddimafilflaaGreatDoor
