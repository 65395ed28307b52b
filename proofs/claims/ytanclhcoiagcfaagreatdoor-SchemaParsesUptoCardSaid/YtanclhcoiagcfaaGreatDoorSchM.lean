/- THE WALKS over the reference's Add and Drop. -/
import Derived.Test.YtanclhcoiagcfaaGreatDoorSchL
import Derived.Test.YtanclhcoiagcfaaGreatDoorOwn
namespace Go.Proofs.YtanclhcoiagcfaaGreatDoor
open Go.RowKit

def RuleP.cells (r : RuleP) : List Value := [.int .i64 r.kind, .int .i64 r.n, .string r.name, .string r.key, .string r.frm, .string r.tov]
theorem RuleP.cells_len (r : RuleP) : r.cells.length = 6 := rfl
theorem RuleP.cells_one (r : RuleP) : ∀ u ∈ r.cells, u.oneCell' = true := by
  intro u hu
  simp only [RuleP.cells, List.mem_cons, List.not_mem_nil, or_false] at hu
  rcases hu with rfl | rfl | rfl | rfl | rfl | rfl <;> rfl

theorem T_rule : ElT Tryz.prog 30 23 6 80 :=
  ⟨Tryz.underlying30, ⟨.agg #[.int .i64 0, .int .i64 0, .string ⟨#[]⟩, .string ⟨#[]⟩, .string ⟨#[]⟩, .string ⟨#[]⟩], by kernel_rfl, rfl⟩, by decide⟩

theorem Rules.of_lies {w : World} {A : Option Addr} {s : List RuleP} (h : Lies RuleP.cells 6 w A s) : Rules w A s := fun hp => by
  obtain ⟨b, off, hA, hc⟩ := h hp
  refine ⟨b, off, hA, fun k hk => ?_⟩
  rw [getB hk]
  exact ⟨hc k hk 0 _ rfl, hc k hk 1 _ rfl, hc k hk 2 _ rfl, hc k hk 3 _ rfl, hc k hk 4 _ rfl, hc k hk 5 _ rfl⟩

theorem flat_take {s : List RuleP} {k : Nat} (hk : k < s.length) : (s.take (k + 1)).flatMap RuleP.cells = (s.take k).flatMap RuleP.cells ++ RuleP.cells s[k]! := by
  rw [getB hk, List.take_succ_eq_append_getElem hk, List.flatMap_append]; simp
theorem low_step {s : List RuleP} {r : RuleP} : ∀ {k : Nat}, k ≤ lowN s r → k < s.length → ordR s[k]! r < 0 → k + 1 ≤ lowN s r := by
  intro k h1 h2 h3
  rcases Nat.lt_or_eq_of_le h1 with h | h
  · omega
  · exfalso
    rw [getB h2] at h3
    have : ∀ (s : List RuleP) (h : lowN s r < s.length), ¬ ordR s[lowN s r] r < 0 := by
      intro s
      induction s with
      | nil => intro h; simp at h
      | cons a t ih =>
        intro h
        by_cases ha : ordR a r < 0
        · have e : lowN (a :: t) r = lowN t r + 1 := by show (if _ then _ else _) = _; rw [if_pos ha]
          simp only [e] at h ⊢
          exact ih (by simpa using h)
        · have e : lowN (a :: t) r = 0 := by show (if _ then _ else _) = _; rw [if_neg ha]
          simp only [e]
          exact ha
    subst h
    exact this s h2 h3
theorem low_stop {s : List RuleP} {r : RuleP} {k : Nat} (h1 : k ≤ lowN s r) (h2 : k = s.length ∨ (k < s.length ∧ ¬ ordR s[k]! r < 0)) : k = lowN s r := by
  rcases h2 with h2 | ⟨h2, h3⟩
  · have := low_le s r; omega
  · rcases Nat.lt_or_eq_of_le h1 with h | h
    · rw [getB h2] at h3; exact absurd (low_lt s r h h2) h3
    · exact h

/-- WHAT Add AND Drop HAND BACK. -/
def Handed (w : World) (p : List RuleP × Int) (e : Ending) (w' : World) : Prop :=
  ∃ A c, e = .returned (.tuple #[.slice A p.1.length c, .int .i64 p.2]) ∧ Rules w' A p.1 ∧ Ext w w'
theorem Handed.none_ {w w' : World} {p : List RuleP × Int} {x : Int} (h : p = ([], x)) (e : Ext w w') : Handed w p (.returned (.tuple #[.slice none 0 0, .int .i64 x])) w' := by
  subst h; exact ⟨none, 0, rfl, fun h => absurd h (by simp), e⟩
theorem Handed.some_ {w w' : World} {p : List RuleP × Int} {l : List RuleP} {v : Value} {n base : Nat} (h : p = (l, 0)) (hown : w'.ownsRow base 23 6 v n (l.flatMap RuleP.cells)) (hn : n = l.length) (e : Ext w w') : Handed w p (.returned (.tuple #[v, .int .i64 0])) w' := by
  subst h
  obtain ⟨A, c, rfl, hl⟩ := own_lies RuleP.cells_len hown hn
  exact ⟨A, c, rfl, .of_lies hl, e⟩

theorem take_more {s : List RuleP} {k i : Nat} (h1 : k ≤ i) (h2 : i < s.length) : (s.take (i + 1)).drop k = (s.take i).drop k ++ [s[i]!] := by
  rw [getB h2, List.take_succ_eq_append_getElem h2, List.drop_append_of_le_length (by rw [List.length_take]; omega)]

set_option maxRecDepth 100000 in
set_option maxHeartbeats 1600000 in
theorem r9_Drop (s : List RuleP) (A : Option Addr) (c : Nat) (r : RuleP) (w : World) (hs : Rules w A s) (hl : s.length ≤ 1000) :
    Calls Tryz.prog 17 #[.slice A s.length c, r.val] w (Handed w (dropR s r)) := by
  obtain ⟨g, w1, hg, hw1, hb, hx, -⟩ := box_rule w r 23
  have hs1 := hs.ext hx
  clear hs
  show Calls Tryz.prog _ #[.slice A s.length c, .agg #[.int .i64 r.kind, .int .i64 r.n, .string r.name, .string r.key, .string r.frm, .string r.tov]] w _
  go_enter Tryz.func17, Tryz.ntmps17
  go_wp2_with fail
  rw [← hw1, ← hg]
  clear hw1 hg
  refine (r9_Valid s A c w1 hs1 hl).mono ?_
  rintro e w2 ⟨rfl, hE2⟩
  replace hx := hx.trans hE2
  replace hb := hb.ext hE2
  replace hs1 := hs1.ext hE2
  clear hE2
  obtain ⟨c0, c1, c2, c3, c4, c5⟩ := id hb
  have HA := Lib.hid (show dropR s r = dropR s r from rfl)
  by_cases hv : validB s = true
  · have HV := Lib.hid hv
    have hv' : (!validB s) = false := by rw [hv]; rfl
    clear hv
    go_wp2_with fail
    refine (r9_Check r _).mono ?_
    rintro e w3 ⟨rfl, hE3⟩
    have hE3 : Ext w2 w3 := hE3
    replace hx := hx.trans hE3
    replace hb := hb.ext hE3
    replace hs1 := hs1.ext hE3
    clear c0 c1 c2 c3 c4 c5 hE3 hv'
    obtain ⟨c0, c1, c2, c3, c4, c5⟩ := id hb
    by_cases hc : chkR r = 0
    · have HC := Lib.hid hc
      have hc' : (chkR r != 0) = false := by rw [hc]; rfl
      clear hc
      go_wp2_with fail
      refine (r9_Has s A c r _ (hs1) hl).mono ?_
      rintro e w4 ⟨rfl, hE4⟩
      replace hx := hx.trans hE4
      replace hb := hb.ext hE4
      replace hs1 := hs1.ext hE4
      clear c0 c1 c2 c3 c4 c5 hE4 hc'
      have HS := Lib.hid hs1
      clear hs1
      by_cases hm : r ∈ s
      · have HM := Lib.hid hm
        rw [decide_eq_true hm]
        clear hm
        have HF := Lib.hid (show dropR s r = (s.filter (fun x => decide (ordR x r ≠ 0)), 0) by rw [delR_filter (validB_iff.1 HV.out).2.2 HM.out]; exact drop_eq HV.out HC.out HM.out)
        go_wp2_with fail
        go_loopw [7, 8] (fun v u W => ∃ (k n : Nat), u = .int .i64 k ∧ k ≤ s.length ∧ n ≤ k ∧ Hid (n = ((s.take k).filter (fun x => decide (ordR x r ≠ 0))).length) ∧ W.ownsRow w4.heap.size 23 6 v n (((s.take k).filter (fun x => decide (ordR x r ≠ 0))).flatMap RuleP.cells) ∧ Ext w4 W) (fun _ u _ => s.length - (intOf u).toNat)
        case atStart => exact ⟨0, 0, rfl, Nat.zero_le _, Nat.le_refl _, Lib.hid rfl, World.ownsRow_nil _ _ _ _, Ext.refl _⟩
        case round =>
          obtain ⟨k, n, rfl, hk, hnk, hn, hown, hE⟩ := hrel
          by_cases hlt : k < s.length
          · obtain ⟨b, off, rfl, hc⟩ := HS.out (by omega)
            have hd := (hc k hlt).ext hE
            have hr := hb.ext hE
            have HT := Lib.hid (List.take_succ_eq_append_getElem hlt)
            rw [← getB hlt] at HT
            clear hc hb
            generalize s[k]! = x at hd HT
            have MK := Lib.hid (fun V (e : Ext wr V) => mk_two hd hr e)
            have HD := Lib.hid (fun V (e : Ext wr V) => hd.ext e)
            have HW := Lib.hid hown
            clear hd hr hown
            by_cases ho : ordR x r = 0
            · have ho' : (ordR x r != 0) = false := by rw [ho]; rfl
              have HX := Lib.hid (show (s.take (k + 1)).filter (fun x => decide (ordR x r ≠ 0)) = (s.take k).filter (fun x => decide (ordR x r ≠ 0)) by rw [HT.out, List.filter_append]; simp [ho])
              clear ho
              go_wp2_with fail
              refine wp_region_held_drew (S := (fun V => V.cell? ⟨b, off + k * 6, none⟩ = some (.int .i64 x.kind) ∧ V.cell? ⟨b, off + k * 6 + 1, none⟩ = some (.int .i64 x.n) ∧ V.cell? ⟨b, off + k * 6 + 2, none⟩ = some (.string x.name) ∧ V.cell? ⟨b, off + k * 6 + 3, none⟩ = some (.string x.key) ∧ V.cell? ⟨b, off + k * 6 + 4, none⟩ = some (.string x.frm) ∧ V.cell? ⟨b, off + k * 6 + 5, none⟩ = some (.string x.tov) ∧ V.cell? ⟨g, 0, none⟩ = some (.int .i64 r.kind) ∧ V.cell? ⟨g, 1, none⟩ = some (.int .i64 r.n) ∧ V.cell? ⟨g, 2, none⟩ = some (.string r.name) ∧ V.cell? ⟨g, 3, none⟩ = some (.string r.key) ∧ V.cell? ⟨g, 4, none⟩ = some (.string r.frm) ∧ V.cell? ⟨g, 5, none⟩ = some (.string r.tov) ∧ Ext wr V)) (by kernel_rfl) ?hs1 (fun hHeld => ?go1)
              case hs1 => (exact MK.out _ (by repeat (first | with_reducible exact Ext.refl _ | with_reducible assumption | with_reducible refine Ext.drew ?_ | with_reducible refine Ext.drewN ?_ _ | with_reducible refine Ext.alloc ?_ _)))
              refine wpAnyH_take (i := 0) (oi := { dst := (some 27), op := (Op.move (Operand.tmp 0)), type := 30, pos := "ref.go:149", after := #[], guard := none }) (v := ?v2) rfl (by kernel_rfl) (by kernel_rfl) (by kernel_rfl) (fun _ _ _ h => h) (Or.inl ⟨rfl, ?hy2⟩) hHeld ?rest2
              case hy2 => (intro w hSw; (try dsimp only at hSw); go_simp <;> with_reducible rfl)
              try simp only [Act.put, List.setIfInBounds_toArray, List.set_cons_zero, List.set_cons_succ]
              refine wpAnyH_take (i := 1) (oi := { dst := (some 28), op := (Op.move (Operand.tmp 8)), type := 3, pos := "ref.go:149", after := #[], guard := none }) (v := ?v3) rfl (by kernel_rfl) (by kernel_rfl) (by kernel_rfl) (fun _ _ _ h => h) (Or.inl ⟨rfl, ?hy3⟩) hHeld ?rest3
              case hy3 => (intro w hSw; (try dsimp only at hSw); go_simp <;> with_reducible rfl)
              try simp only [Act.put, List.setIfInBounds_toArray, List.set_cons_zero, List.set_cons_succ]
              refine wpAnyH_take (i := 2) (oi := { dst := (some 29), op := (Op.indexAddr 30 (Operand.tmp 27) (Operand.tmp 28)), type := 0, pos := "ref.go:149", after := #[{ on := 0, ground := Ground.data }, { on := 1, ground := Ground.data }], guard := none }) (v := ?v4) rfl (by kernel_rfl) (by kernel_rfl) (by kernel_rfl) (fun _ _ _ h => h) (Or.inl ⟨rfl, ?hy4⟩) hHeld ?rest4
              case hy4 => (intro w hSw; (try dsimp only at hSw); go_simp <;> with_reducible rfl)
              try simp only [Act.put, List.setIfInBounds_toArray, List.set_cons_zero, List.set_cons_succ]
              refine wpAnyH_take (i := 3) (oi := { dst := (some 30), op := (Op.load 23 (Operand.tmp 29)), type := 23, pos := "ref.go:149", after := #[{ on := 2, ground := Ground.data }], guard := none }) (v := ?v5) rfl (by kernel_rfl) (by kernel_rfl) (by kernel_rfl) (fun _ _ _ h => h) (Or.inl ⟨rfl, ?hy5⟩) hHeld ?rest5
              case hy5 => (intro w hSw; (try dsimp only at hSw); go_simp <;> with_reducible rfl)
              try simp only [Act.put, List.setIfInBounds_toArray, List.set_cons_zero, List.set_cons_succ]
              refine wpAnyH_take (i := 4) (oi := { dst := (some 31), op := (Op.load 23 (Operand.tmp 3)), type := 23, pos := "ref.go:149", after := #[], guard := none }) (v := ?v6) rfl (by kernel_rfl) (by kernel_rfl) (by kernel_rfl) (fun _ _ _ h => h) (Or.inl ⟨rfl, ?hy6⟩) hHeld ?rest6
              case hy6 => (intro w hSw; (try dsimp only at hSw); go_simp <;> with_reducible rfl)
              try simp only [Act.put, List.setIfInBounds_toArray, List.set_cons_zero, List.set_cons_succ]
              refine wpAnyH_ready (rs := [5]) (by kernel_rfl) (by simp) ?_
              refine AllReadyH.cons (o := { dst := (some 32), op := (Op.call { callee := (Callee.value (Operand.func 40)), args := #[(Operand.tmp 30), (Operand.tmp 31)], argTypes := #[23, 23] }), type := 3, pos := "ref.go:149", after := #[{ on := 3, ground := Ground.data }, { on := 4, ground := Ground.data }], guard := none }) rfl (fun K hK => ?step7x0) ?more7x0
              case more7x0 => exact AllReadyH.nil
              go_simp
              (go_at_call 40; refine (r9_Order x r _).mono ?_; rintro e w' ⟨rfl, hb⟩; replace hb : Ext wr w' := Ext.trans (by repeat (first | with_reducible exact Ext.refl _ | with_reducible assumption | with_reducible refine Ext.drew ?_ | with_reducible refine Ext.drewN ?_ _ | with_reducible refine Ext.alloc ?_ _)) hb)
              refine hK.out _ _ ?hS7x0 (fun hHeld7 => ?rest7x0)
              case hS7x0 => ((try dsimp only); (exact MK.out _ (by repeat (first | with_reducible exact Ext.refl _ | with_reducible assumption | with_reducible refine Ext.drew ?_ | with_reducible refine Ext.drewN ?_ _ | with_reducible refine Ext.alloc ?_ _))))
              clear hK K
              clear hHeld
              try simp only [Act.put, List.setIfInBounds_toArray, List.set_cons_zero, List.set_cons_succ]
              refine wpAnyH_take (i := 6) (oi := { dst := (some 33), op := (Op.binOp BinOp.neq 3 (Operand.tmp 32) (Operand.const (Value.int IntKind.i64 0)) 3), type := 4, pos := "ref.go:149", after := #[{ on := 5, ground := Ground.data }], guard := none }) (v := ?v8) rfl (by kernel_rfl) (by kernel_rfl) (by kernel_rfl) (fun _ _ _ h => h) (Or.inl ⟨rfl, ?hy8⟩) hHeld7 ?rest8
              case hy8 => (intro w hSw; (try dsimp only at hSw); go_simp <;> with_reducible rfl)
              try simp only [Act.put, List.setIfInBounds_toArray, List.set_cons_zero, List.set_cons_succ]
              refine wpAnyH_done (by kernel_rfl) ?_ _
              clear hHeld7
              go_wp2_with fail
              go_roundw
              case rel => exact ⟨k + 1, n, by go_num, by omega, by omega, Lib.hid (by rw [HX.out]; exact hn.out), by rw [HX.out]; exact own_ext HW.out (by repeat (first | with_reducible exact Ext.refl _ | with_reducible assumption | with_reducible refine Ext.drew ?_ | with_reducible refine Ext.drewN ?_ _ | with_reducible refine Ext.alloc ?_ _)), hE.trans (by repeat (first | with_reducible exact Ext.refl _ | with_reducible assumption | with_reducible refine Ext.drew ?_ | with_reducible refine Ext.drewN ?_ _ | with_reducible refine Ext.alloc ?_ _))⟩
              case measure => simp [intOf]; omega
            · have ho' : (ordR x r != 0) = true := by simpa using ho
              have HX := Lib.hid (show (s.take (k + 1)).filter (fun x => decide (ordR x r ≠ 0)) = (s.take k).filter (fun x => decide (ordR x r ≠ 0)) ++ [x] by rw [HT.out, List.filter_append]; simp [ho])
              clear ho
              go_wp2_with fail
              refine wp_region_held_drew (S := (fun V => V.cell? ⟨b, off + k * 6, none⟩ = some (.int .i64 x.kind) ∧ V.cell? ⟨b, off + k * 6 + 1, none⟩ = some (.int .i64 x.n) ∧ V.cell? ⟨b, off + k * 6 + 2, none⟩ = some (.string x.name) ∧ V.cell? ⟨b, off + k * 6 + 3, none⟩ = some (.string x.key) ∧ V.cell? ⟨b, off + k * 6 + 4, none⟩ = some (.string x.frm) ∧ V.cell? ⟨b, off + k * 6 + 5, none⟩ = some (.string x.tov) ∧ V.cell? ⟨g, 0, none⟩ = some (.int .i64 r.kind) ∧ V.cell? ⟨g, 1, none⟩ = some (.int .i64 r.n) ∧ V.cell? ⟨g, 2, none⟩ = some (.string r.name) ∧ V.cell? ⟨g, 3, none⟩ = some (.string r.key) ∧ V.cell? ⟨g, 4, none⟩ = some (.string r.frm) ∧ V.cell? ⟨g, 5, none⟩ = some (.string r.tov) ∧ Ext wr V)) (by kernel_rfl) ?hs9 (fun hHeld => ?go9)
              case hs9 => (exact MK.out _ (by repeat (first | with_reducible exact Ext.refl _ | with_reducible assumption | with_reducible refine Ext.drew ?_ | with_reducible refine Ext.drewN ?_ _ | with_reducible refine Ext.alloc ?_ _)))
              refine wpAnyH_take (i := 0) (oi := { dst := (some 27), op := (Op.move (Operand.tmp 0)), type := 30, pos := "ref.go:149", after := #[], guard := none }) (v := ?v10) rfl (by kernel_rfl) (by kernel_rfl) (by kernel_rfl) (fun _ _ _ h => h) (Or.inl ⟨rfl, ?hy10⟩) hHeld ?rest10
              case hy10 => (intro w hSw; (try dsimp only at hSw); go_simp <;> with_reducible rfl)
              try simp only [Act.put, List.setIfInBounds_toArray, List.set_cons_zero, List.set_cons_succ]
              refine wpAnyH_take (i := 1) (oi := { dst := (some 28), op := (Op.move (Operand.tmp 8)), type := 3, pos := "ref.go:149", after := #[], guard := none }) (v := ?v11) rfl (by kernel_rfl) (by kernel_rfl) (by kernel_rfl) (fun _ _ _ h => h) (Or.inl ⟨rfl, ?hy11⟩) hHeld ?rest11
              case hy11 => (intro w hSw; (try dsimp only at hSw); go_simp <;> with_reducible rfl)
              try simp only [Act.put, List.setIfInBounds_toArray, List.set_cons_zero, List.set_cons_succ]
              refine wpAnyH_take (i := 2) (oi := { dst := (some 29), op := (Op.indexAddr 30 (Operand.tmp 27) (Operand.tmp 28)), type := 0, pos := "ref.go:149", after := #[{ on := 0, ground := Ground.data }, { on := 1, ground := Ground.data }], guard := none }) (v := ?v12) rfl (by kernel_rfl) (by kernel_rfl) (by kernel_rfl) (fun _ _ _ h => h) (Or.inl ⟨rfl, ?hy12⟩) hHeld ?rest12
              case hy12 => (intro w hSw; (try dsimp only at hSw); go_simp <;> with_reducible rfl)
              try simp only [Act.put, List.setIfInBounds_toArray, List.set_cons_zero, List.set_cons_succ]
              refine wpAnyH_take (i := 3) (oi := { dst := (some 30), op := (Op.load 23 (Operand.tmp 29)), type := 23, pos := "ref.go:149", after := #[{ on := 2, ground := Ground.data }], guard := none }) (v := ?v13) rfl (by kernel_rfl) (by kernel_rfl) (by kernel_rfl) (fun _ _ _ h => h) (Or.inl ⟨rfl, ?hy13⟩) hHeld ?rest13
              case hy13 => (intro w hSw; (try dsimp only at hSw); go_simp <;> with_reducible rfl)
              try simp only [Act.put, List.setIfInBounds_toArray, List.set_cons_zero, List.set_cons_succ]
              refine wpAnyH_take (i := 4) (oi := { dst := (some 31), op := (Op.load 23 (Operand.tmp 3)), type := 23, pos := "ref.go:149", after := #[], guard := none }) (v := ?v14) rfl (by kernel_rfl) (by kernel_rfl) (by kernel_rfl) (fun _ _ _ h => h) (Or.inl ⟨rfl, ?hy14⟩) hHeld ?rest14
              case hy14 => (intro w hSw; (try dsimp only at hSw); go_simp <;> with_reducible rfl)
              try simp only [Act.put, List.setIfInBounds_toArray, List.set_cons_zero, List.set_cons_succ]
              refine wpAnyH_ready (rs := [5]) (by kernel_rfl) (by simp) ?_
              refine AllReadyH.cons (o := { dst := (some 32), op := (Op.call { callee := (Callee.value (Operand.func 40)), args := #[(Operand.tmp 30), (Operand.tmp 31)], argTypes := #[23, 23] }), type := 3, pos := "ref.go:149", after := #[{ on := 3, ground := Ground.data }, { on := 4, ground := Ground.data }], guard := none }) rfl (fun K hK => ?step15x0) ?more15x0
              case more15x0 => exact AllReadyH.nil
              go_simp
              (go_at_call 40; refine (r9_Order x r _).mono ?_; rintro e w' ⟨rfl, hb⟩; replace hb : Ext wr w' := Ext.trans (by repeat (first | with_reducible exact Ext.refl _ | with_reducible assumption | with_reducible refine Ext.drew ?_ | with_reducible refine Ext.drewN ?_ _ | with_reducible refine Ext.alloc ?_ _)) hb)
              refine hK.out _ _ ?hS15x0 (fun hHeld15 => ?rest15x0)
              case hS15x0 => ((try dsimp only); (exact MK.out _ (by repeat (first | with_reducible exact Ext.refl _ | with_reducible assumption | with_reducible refine Ext.drew ?_ | with_reducible refine Ext.drewN ?_ _ | with_reducible refine Ext.alloc ?_ _))))
              clear hK K
              clear hHeld
              try simp only [Act.put, List.setIfInBounds_toArray, List.set_cons_zero, List.set_cons_succ]
              refine wpAnyH_take (i := 6) (oi := { dst := (some 33), op := (Op.binOp BinOp.neq 3 (Operand.tmp 32) (Operand.const (Value.int IntKind.i64 0)) 3), type := 4, pos := "ref.go:149", after := #[{ on := 5, ground := Ground.data }], guard := none }) (v := ?v16) rfl (by kernel_rfl) (by kernel_rfl) (by kernel_rfl) (fun _ _ _ h => h) (Or.inl ⟨rfl, ?hy16⟩) hHeld15 ?rest16
              case hy16 => (intro w hSw; (try dsimp only at hSw); go_simp <;> with_reducible rfl)
              try simp only [Act.put, List.setIfInBounds_toArray, List.set_cons_zero, List.set_cons_succ]
              refine wpAnyH_done (by kernel_rfl) ?_ _
              clear hHeld15
              obtain ⟨d0, d1, d2, d3, d4, d5⟩ := HD.out w' hb
              have hown := own_ext HW.out hb
              have hE5 := hE.trans hb
              go_wp2_with (at_builtin; refine own_push T_rule rfl (.tmp 34) (.tmp 39) rfl w4 w' _ n _ (RuleP.cells x) rfl hown hE5 rfl rfl (RuleP.cells_len _) (RuleP.cells_one _) (by omega) (by decide) ?_; intro v2 w5 hown2 hE6)
              have HY := Lib.hid hown2
              clear hown hown2
              go_wp2_with fail
              go_roundw
              case rel => exact ⟨k + 1, n + 1, by go_num, by omega, by omega, Lib.hid (by rw [HX.out, List.length_append, ← hn.out]; rfl), by rw [HX.out, List.flatMap_append]; simpa using HY.out, hE6⟩
              case measure => simp [intOf]; omega
          · have hk' : k = s.length := by omega
            subst hk'
            rw [List.take_length] at hown hn
            go_wp2_with fail
            go_ret2
            exact Handed.some_ HF.out hown hn.out (hx.trans hE)
      · have HM := Lib.hid hm
        rw [decide_eq_false hm]
        clear hm
        have HF := Lib.hid (show dropR s r = ([], 23) by unfold dropR; rw [HV.out, if_neg (by simp), if_neg (by rw [HC.out]; simp), if_neg HM.out])
        go_wp2_with fail
        go_ret2
        exact Handed.none_ HF.out hx
    · have HF := Lib.hid (show dropR s r = ([], chkR r) by unfold dropR; rw [HV.out, if_neg (by simp), if_pos hc])
      have hc' : (chkR r != 0) = true := by simpa using hc
      clear hc
      go_wp2_with fail
      go_ret2
      exact Handed.none_ HF.out hx
  · have HF := Lib.hid (show dropR s r = ([], 19) by unfold dropR; rw [if_pos (by simpa using hv)])
    have hv' : (!validB s) = true := by simpa using hv
    clear hv
    go_wp2_with fail
    go_ret2
    exact Handed.none_ HF.out hx

set_option maxRecDepth 100000 in
set_option maxHeartbeats 1600000 in
theorem r9_Add (s : List RuleP) (A : Option Addr) (c : Nat) (r : RuleP) (w : World) (hs : Rules w A s) (hl : s.length ≤ 1000) :
    Calls Tryz.prog 14 #[.slice A s.length c, r.val] w (Handed w (addR s r)) := by
  obtain ⟨g, w1, hg, hw1, hb, hx, -⟩ := box_rule w r 23
  have hs1 := hs.ext hx
  clear hs
  show Calls Tryz.prog _ #[.slice A s.length c, .agg #[.int .i64 r.kind, .int .i64 r.n, .string r.name, .string r.key, .string r.frm, .string r.tov]] w _
  go_enter Tryz.func14, Tryz.ntmps14
  go_wp2_with fail
  rw [← hw1, ← hg]
  clear hw1 hg
  refine (r9_Valid s A c w1 hs1 hl).mono ?_
  rintro e w2 ⟨rfl, hE2⟩
  replace hx := hx.trans hE2
  replace hb := hb.ext hE2
  replace hs1 := hs1.ext hE2
  clear hE2
  obtain ⟨c0, c1, c2, c3, c4, c5⟩ := id hb
  have HA := Lib.hid (show addR s r = addR s r from rfl)
  by_cases hv : validB s = true
  · have HV := Lib.hid hv
    have hv' : (!validB s) = false := by rw [hv]; rfl
    clear hv
    go_wp2_with fail
    refine (r9_Check r _).mono ?_
    rintro e w3 ⟨rfl, hE3⟩
    have hE3 : Ext w2 w3 := hE3
    replace hx := hx.trans hE3
    replace hb := hb.ext hE3
    replace hs1 := hs1.ext hE3
    clear c0 c1 c2 c3 c4 c5 hE3 hv'
    obtain ⟨c0, c1, c2, c3, c4, c5⟩ := id hb
    by_cases hc : chkR r = 0
    · have HC := Lib.hid hc
      have hc' : (chkR r != 0) = false := by rw [hc]; rfl
      clear hc
      go_wp2_with fail
      refine (r9_Has s A c r _ (hs1) hl).mono ?_
      rintro e w4 ⟨rfl, hE4⟩
      replace hx := hx.trans hE4
      replace hb := hb.ext hE4
      replace hs1 := hs1.ext hE4
      clear c0 c1 c2 c3 c4 c5 hE4 hc'
      have HS := Lib.hid hs1
      clear hs1
      by_cases hm : r ∈ s
      · have HM := Lib.hid hm
        rw [decide_eq_true hm]
        clear hm
        have HF := Lib.hid (show addR s r = ([], 7) by unfold addR; rw [HV.out, if_neg (by simp), if_neg (by rw [HC.out]; simp), if_pos HM.out])
        go_wp2_with fail
        go_ret2
        exact Handed.none_ HF.out hx
      · have HM := Lib.hid hm
        rw [decide_eq_false hm]
        clear hm
        by_cases h40 : s.length = 40
        · have HF := Lib.hid (show addR s r = ([], 20) by unfold addR; rw [HV.out, if_neg (by simp), if_neg (by rw [HC.out]; simp), if_neg HM.out, if_pos h40])
          have h40' : ((s.length : Int) == 40) = true := by rw [h40]; rfl
          clear h40
          go_wp2_with fail
          go_ret2
          exact Handed.none_ HF.out hx
        · have HF := Lib.hid (show addR s r = (insR s r, 0) by unfold addR; rw [HV.out, if_neg (by simp), if_neg (by rw [HC.out]; simp), if_neg HM.out, if_neg h40])
          have h40' : ((s.length : Int) == 40) = false := by simp; omega
          clear h40
          have HR := Lib.hid (fun V (e : Ext w4 V) => hb.ext e)
          clear hb
          go_wp2_with fail
          go_loopw [7, 8] (fun v u W => ∃ (k : Nat), u = .int .i64 k ∧ k ≤ s.length ∧ k ≤ lowN s r ∧ W.ownsRow w4.heap.size 23 6 v k ((s.take k).flatMap RuleP.cells) ∧ Ext w4 W) (fun _ u _ => s.length - (intOf u).toNat)
          case atStart => exact ⟨0, rfl, Nat.zero_le _, Nat.zero_le _, World.ownsRow_nil _ _ _ _, Ext.refl _⟩
          case round =>
            obtain ⟨k, rfl, hk, hlo, hown, hE⟩ := hrel
            by_cases hlt : k < s.length
            · obtain ⟨b, off, rfl, hc⟩ := HS.out (by omega)
              have hd := (hc k hlt).ext hE
              have hr := HR.out _ hE
              have HT := Lib.hid (flat_take hlt)
              have HL := Lib.hid (fun (h : ordR s[k]! r < 0) => low_step hlo hlt h)
              have HQ := Lib.hid (fun (h : ¬ ordR s[k]! r < 0) => low_stop hlo (.inr ⟨hlt, h⟩))
              have hk2 : (k : Int) < (s.length : Int) := by omega
              clear hc hlo
              generalize s[k]! = x at hd HT HL HQ
              have MK := Lib.hid (fun V (e : Ext wr V) => mk_two hd hr e)
              have HD := Lib.hid (fun V (e : Ext wr V) => hd.ext e)
              have HW := Lib.hid hown
              clear hd hr hown
              by_cases ho : ordR x r < 0
              · have HLo := Lib.hid (HL.out ho)
                clear HL HQ
                go_wp2_with fail
                refine wp_region_held_drew (S := (fun V => V.cell? ⟨b, off + k * 6, none⟩ = some (.int .i64 x.kind) ∧ V.cell? ⟨b, off + k * 6 + 1, none⟩ = some (.int .i64 x.n) ∧ V.cell? ⟨b, off + k * 6 + 2, none⟩ = some (.string x.name) ∧ V.cell? ⟨b, off + k * 6 + 3, none⟩ = some (.string x.key) ∧ V.cell? ⟨b, off + k * 6 + 4, none⟩ = some (.string x.frm) ∧ V.cell? ⟨b, off + k * 6 + 5, none⟩ = some (.string x.tov) ∧ V.cell? ⟨g, 0, none⟩ = some (.int .i64 r.kind) ∧ V.cell? ⟨g, 1, none⟩ = some (.int .i64 r.n) ∧ V.cell? ⟨g, 2, none⟩ = some (.string r.name) ∧ V.cell? ⟨g, 3, none⟩ = some (.string r.key) ∧ V.cell? ⟨g, 4, none⟩ = some (.string r.frm) ∧ V.cell? ⟨g, 5, none⟩ = some (.string r.tov) ∧ Ext wr V)) (by kernel_rfl) ?hs17 (fun hHeld => ?go17)
                case hs17 => (exact MK.out _ (by repeat (first | with_reducible exact Ext.refl _ | with_reducible assumption | with_reducible refine Ext.drew ?_ | with_reducible refine Ext.drewN ?_ _ | with_reducible refine Ext.alloc ?_ _)))
                refine wpAnyH_take (i := 0) (oi := { dst := (some 25), op := (Op.move (Operand.tmp 8)), type := 3, pos := "ref.go:125", after := #[], guard := none }) (v := ?v18) rfl (by kernel_rfl) (by kernel_rfl) (by kernel_rfl) (fun _ _ _ h => h) (Or.inl ⟨rfl, ?hy18⟩) hHeld ?rest18
                case hy18 => (intro w hSw; (try dsimp only at hSw); go_simp <;> with_reducible rfl)
                try simp only [Act.put, List.setIfInBounds_toArray, List.set_cons_zero, List.set_cons_succ]
                refine wpAnyH_take (i := 1) (oi := { dst := (some 26), op := (Op.move (Operand.tmp 0)), type := 30, pos := "ref.go:125", after := #[], guard := none }) (v := ?v19) rfl (by kernel_rfl) (by kernel_rfl) (by kernel_rfl) (fun _ _ _ h => h) (Or.inl ⟨rfl, ?hy19⟩) hHeld ?rest19
                case hy19 => (intro w hSw; (try dsimp only at hSw); go_simp <;> with_reducible rfl)
                try simp only [Act.put, List.setIfInBounds_toArray, List.set_cons_zero, List.set_cons_succ]
                refine wpAnyH_take (i := 2) (oi := { dst := (some 27), op := (Op.call { callee := (Callee.builtin Builtin.len), args := #[(Operand.tmp 26)], argTypes := #[30] }), type := 3, pos := "ref.go:125", after := #[{ on := 1, ground := Ground.data }], guard := none }) (v := ?v20) rfl (by kernel_rfl) (by kernel_rfl) (by kernel_rfl) (fun _ _ _ h => h) (Or.inl ⟨rfl, ?hy20⟩) hHeld ?rest20
                case hy20 => (intro w hSw; (try dsimp only at hSw); go_simp <;> with_reducible rfl)
                try simp only [Act.put, List.setIfInBounds_toArray, List.set_cons_zero, List.set_cons_succ]
                refine wpAnyH_take (i := 3) (oi := { dst := (some 28), op := (Op.binOp BinOp.lss 3 (Operand.tmp 25) (Operand.tmp 27) 3), type := 4, pos := "ref.go:125", after := #[{ on := 0, ground := Ground.data }, { on := 2, ground := Ground.data }], guard := none }) (v := ?v21) rfl (by kernel_rfl) (by kernel_rfl) (by kernel_rfl) (fun _ _ _ h => h) (Or.inl ⟨rfl, ?hy21⟩) hHeld ?rest21
                case hy21 => (intro w hSw; (try dsimp only at hSw); go_simp <;> with_reducible rfl)
                try simp only [Act.put, List.setIfInBounds_toArray, List.set_cons_zero, List.set_cons_succ]
                refine wpAnyH_take (i := 4) (oi := { dst := (some 29), op := (Op.move (Operand.tmp 28)), type := 4, pos := "ref.go:125", after := #[{ on := 3, ground := Ground.data }], guard := none }) (v := ?v22) rfl (by kernel_rfl) (by kernel_rfl) (by kernel_rfl) (fun _ _ _ h => h) (Or.inl ⟨rfl, ?hy22⟩) hHeld ?rest22
                case hy22 => (intro w hSw; (try dsimp only at hSw); go_simp <;> with_reducible rfl)
                try simp only [Act.put, List.setIfInBounds_toArray, List.set_cons_zero, List.set_cons_succ]
                refine wpAnyH_take (i := 5) (oi := { dst := (some 30), op := (Op.move (Operand.tmp 0)), type := 30, pos := "ref.go:125", after := #[{ on := 4, ground := Ground.guard }], guard := (some (4, true)) }) (v := ?v23) rfl (by kernel_rfl) (by kernel_rfl) (by kernel_rfl) (fun _ _ _ h => h) (Or.inl ⟨rfl, ?hy23⟩) hHeld ?rest23
                case hy23 => (intro w hSw; (try dsimp only at hSw); go_simp <;> with_reducible rfl)
                try simp only [Act.put, List.setIfInBounds_toArray, List.set_cons_zero, List.set_cons_succ]
                refine wpAnyH_take (i := 6) (oi := { dst := (some 31), op := (Op.move (Operand.tmp 8)), type := 3, pos := "ref.go:125", after := #[{ on := 4, ground := Ground.guard }], guard := (some (4, true)) }) (v := ?v24) rfl (by kernel_rfl) (by kernel_rfl) (by kernel_rfl) (fun _ _ _ h => h) (Or.inl ⟨rfl, ?hy24⟩) hHeld ?rest24
                case hy24 => (intro w hSw; (try dsimp only at hSw); go_simp <;> with_reducible rfl)
                try simp only [Act.put, List.setIfInBounds_toArray, List.set_cons_zero, List.set_cons_succ]
                refine wpAnyH_take (i := 7) (oi := { dst := (some 32), op := (Op.indexAddr 30 (Operand.tmp 30) (Operand.tmp 31)), type := 0, pos := "ref.go:125", after := #[{ on := 5, ground := Ground.data }, { on := 6, ground := Ground.data }, { on := 4, ground := Ground.guard }], guard := (some (4, true)) }) (v := ?v25) rfl (by kernel_rfl) (by kernel_rfl) (by kernel_rfl) (fun _ _ _ h => h) (Or.inl ⟨rfl, ?hy25⟩) hHeld ?rest25
                case hy25 => (intro w hSw; (try dsimp only at hSw); go_simp <;> with_reducible rfl)
                try simp only [Act.put, List.setIfInBounds_toArray, List.set_cons_zero, List.set_cons_succ]
                refine wpAnyH_take (i := 8) (oi := { dst := (some 33), op := (Op.load 23 (Operand.tmp 32)), type := 23, pos := "ref.go:125", after := #[{ on := 7, ground := Ground.data }, { on := 4, ground := Ground.guard }], guard := (some (4, true)) }) (v := ?v26) rfl (by kernel_rfl) (by kernel_rfl) (by kernel_rfl) (fun _ _ _ h => h) (Or.inl ⟨rfl, ?hy26⟩) hHeld ?rest26
                case hy26 => (intro w hSw; (try dsimp only at hSw); go_simp <;> with_reducible rfl)
                try simp only [Act.put, List.setIfInBounds_toArray, List.set_cons_zero, List.set_cons_succ]
                refine wpAnyH_take (i := 9) (oi := { dst := (some 34), op := (Op.load 23 (Operand.tmp 3)), type := 23, pos := "ref.go:125", after := #[{ on := 4, ground := Ground.guard }], guard := (some (4, true)) }) (v := ?v27) rfl (by kernel_rfl) (by kernel_rfl) (by kernel_rfl) (fun _ _ _ h => h) (Or.inl ⟨rfl, ?hy27⟩) hHeld ?rest27
                case hy27 => (intro w hSw; (try dsimp only at hSw); go_simp <;> with_reducible rfl)
                try simp only [Act.put, List.setIfInBounds_toArray, List.set_cons_zero, List.set_cons_succ]
                refine wpAnyH_ready (rs := [10]) (by kernel_rfl) (by simp) ?_
                refine AllReadyH.cons (o := { dst := (some 35), op := (Op.call { callee := (Callee.value (Operand.func 40)), args := #[(Operand.tmp 33), (Operand.tmp 34)], argTypes := #[23, 23] }), type := 3, pos := "ref.go:125", after := #[{ on := 8, ground := Ground.data }, { on := 9, ground := Ground.data }, { on := 4, ground := Ground.chain }, { on := 4, ground := Ground.guard }], guard := (some (4, true)) }) rfl (fun K hK => ?step28x0) ?more28x0
                case more28x0 => exact AllReadyH.nil
                go_simp
                (go_at_call 40; refine (r9_Order x r _).mono ?_; rintro e w' ⟨rfl, hb⟩; replace hb : Ext wr w' := Ext.trans (by repeat (first | with_reducible exact Ext.refl _ | with_reducible assumption | with_reducible refine Ext.drew ?_ | with_reducible refine Ext.drewN ?_ _ | with_reducible refine Ext.alloc ?_ _)) hb)
                refine hK.out _ _ ?hS28x0 (fun hHeld28 => ?rest28x0)
                case hS28x0 => ((try dsimp only); (exact MK.out _ (by repeat (first | with_reducible exact Ext.refl _ | with_reducible assumption | with_reducible refine Ext.drew ?_ | with_reducible refine Ext.drewN ?_ _ | with_reducible refine Ext.alloc ?_ _))))
                clear hK K
                clear hHeld
                try simp only [Act.put, List.setIfInBounds_toArray, List.set_cons_zero, List.set_cons_succ]
                refine wpAnyH_take (i := 11) (oi := { dst := (some 36), op := (Op.binOp BinOp.lss 3 (Operand.tmp 35) (Operand.const (Value.int IntKind.i64 0)) 3), type := 4, pos := "ref.go:125", after := #[{ on := 10, ground := Ground.data }, { on := 4, ground := Ground.guard }], guard := (some (4, true)) }) (v := ?v29) rfl (by kernel_rfl) (by kernel_rfl) (by kernel_rfl) (fun _ _ _ h => h) (Or.inl ⟨rfl, ?hy29⟩) hHeld28 ?rest29
                case hy29 => (intro w hSw; (try dsimp only at hSw); go_simp <;> with_reducible rfl)
                try simp only [Act.put, List.setIfInBounds_toArray, List.set_cons_zero, List.set_cons_succ]
                refine wpAnyH_take (i := 12) (oi := { dst := (some 37), op := (Op.pick (Operand.tmp 29) (Operand.tmp 36) (Operand.const (Value.bool false))), type := 4, pos := "ref.go:125", after := #[{ on := 4, ground := Ground.data }, { on := 11, ground := Ground.data }], guard := none }) (v := ?v30) rfl (by kernel_rfl) (by kernel_rfl) (by kernel_rfl) (fun _ _ _ h => h) (Or.inl ⟨rfl, ?hy30⟩) hHeld28 ?rest30
                case hy30 => (intro w hSw; (try dsimp only at hSw); go_simp <;> with_reducible rfl)
                try simp only [Act.put, List.setIfInBounds_toArray, List.set_cons_zero, List.set_cons_succ]
                refine wpAnyH_done (by kernel_rfl) ?_ _
                clear hHeld28
                obtain ⟨d0, d1, d2, d3, d4, d5⟩ := HD.out w' hb
                have hown := own_ext HW.out hb
                have hE5 := hE.trans hb
                go_wp2_with (at_builtin; refine own_push T_rule rfl (.tmp 40) (.tmp 45) rfl w4 w' _ k _ (RuleP.cells x) rfl hown hE5 rfl rfl (RuleP.cells_len _) (RuleP.cells_one _) (by omega) (by decide) ?_; intro v2 w5 hown2 hE6)
                have HY := Lib.hid hown2
                clear hown hown2
                go_wp2_with fail
                go_roundw
                case rel => exact ⟨k + 1, by go_num, by omega, HLo.out, by rw [HT.out]; exact HY.out, hE6⟩
                case measure => simp [intOf]; omega
              · have HK := Lib.hid (HQ.out ho)
                clear HL HQ HD HT
                go_wp2_with fail
                refine wp_region_held_drew (S := (fun V => V.cell? ⟨b, off + k * 6, none⟩ = some (.int .i64 x.kind) ∧ V.cell? ⟨b, off + k * 6 + 1, none⟩ = some (.int .i64 x.n) ∧ V.cell? ⟨b, off + k * 6 + 2, none⟩ = some (.string x.name) ∧ V.cell? ⟨b, off + k * 6 + 3, none⟩ = some (.string x.key) ∧ V.cell? ⟨b, off + k * 6 + 4, none⟩ = some (.string x.frm) ∧ V.cell? ⟨b, off + k * 6 + 5, none⟩ = some (.string x.tov) ∧ V.cell? ⟨g, 0, none⟩ = some (.int .i64 r.kind) ∧ V.cell? ⟨g, 1, none⟩ = some (.int .i64 r.n) ∧ V.cell? ⟨g, 2, none⟩ = some (.string r.name) ∧ V.cell? ⟨g, 3, none⟩ = some (.string r.key) ∧ V.cell? ⟨g, 4, none⟩ = some (.string r.frm) ∧ V.cell? ⟨g, 5, none⟩ = some (.string r.tov) ∧ Ext wr V)) (by kernel_rfl) ?hs31 (fun hHeld => ?go31)
                case hs31 => (exact MK.out _ (by repeat (first | with_reducible exact Ext.refl _ | with_reducible assumption | with_reducible refine Ext.drew ?_ | with_reducible refine Ext.drewN ?_ _ | with_reducible refine Ext.alloc ?_ _)))
                refine wpAnyH_take (i := 0) (oi := { dst := (some 25), op := (Op.move (Operand.tmp 8)), type := 3, pos := "ref.go:125", after := #[], guard := none }) (v := ?v32) rfl (by kernel_rfl) (by kernel_rfl) (by kernel_rfl) (fun _ _ _ h => h) (Or.inl ⟨rfl, ?hy32⟩) hHeld ?rest32
                case hy32 => (intro w hSw; (try dsimp only at hSw); go_simp <;> with_reducible rfl)
                try simp only [Act.put, List.setIfInBounds_toArray, List.set_cons_zero, List.set_cons_succ]
                refine wpAnyH_take (i := 1) (oi := { dst := (some 26), op := (Op.move (Operand.tmp 0)), type := 30, pos := "ref.go:125", after := #[], guard := none }) (v := ?v33) rfl (by kernel_rfl) (by kernel_rfl) (by kernel_rfl) (fun _ _ _ h => h) (Or.inl ⟨rfl, ?hy33⟩) hHeld ?rest33
                case hy33 => (intro w hSw; (try dsimp only at hSw); go_simp <;> with_reducible rfl)
                try simp only [Act.put, List.setIfInBounds_toArray, List.set_cons_zero, List.set_cons_succ]
                refine wpAnyH_take (i := 2) (oi := { dst := (some 27), op := (Op.call { callee := (Callee.builtin Builtin.len), args := #[(Operand.tmp 26)], argTypes := #[30] }), type := 3, pos := "ref.go:125", after := #[{ on := 1, ground := Ground.data }], guard := none }) (v := ?v34) rfl (by kernel_rfl) (by kernel_rfl) (by kernel_rfl) (fun _ _ _ h => h) (Or.inl ⟨rfl, ?hy34⟩) hHeld ?rest34
                case hy34 => (intro w hSw; (try dsimp only at hSw); go_simp <;> with_reducible rfl)
                try simp only [Act.put, List.setIfInBounds_toArray, List.set_cons_zero, List.set_cons_succ]
                refine wpAnyH_take (i := 3) (oi := { dst := (some 28), op := (Op.binOp BinOp.lss 3 (Operand.tmp 25) (Operand.tmp 27) 3), type := 4, pos := "ref.go:125", after := #[{ on := 0, ground := Ground.data }, { on := 2, ground := Ground.data }], guard := none }) (v := ?v35) rfl (by kernel_rfl) (by kernel_rfl) (by kernel_rfl) (fun _ _ _ h => h) (Or.inl ⟨rfl, ?hy35⟩) hHeld ?rest35
                case hy35 => (intro w hSw; (try dsimp only at hSw); go_simp <;> with_reducible rfl)
                try simp only [Act.put, List.setIfInBounds_toArray, List.set_cons_zero, List.set_cons_succ]
                refine wpAnyH_take (i := 4) (oi := { dst := (some 29), op := (Op.move (Operand.tmp 28)), type := 4, pos := "ref.go:125", after := #[{ on := 3, ground := Ground.data }], guard := none }) (v := ?v36) rfl (by kernel_rfl) (by kernel_rfl) (by kernel_rfl) (fun _ _ _ h => h) (Or.inl ⟨rfl, ?hy36⟩) hHeld ?rest36
                case hy36 => (intro w hSw; (try dsimp only at hSw); go_simp <;> with_reducible rfl)
                try simp only [Act.put, List.setIfInBounds_toArray, List.set_cons_zero, List.set_cons_succ]
                refine wpAnyH_take (i := 5) (oi := { dst := (some 30), op := (Op.move (Operand.tmp 0)), type := 30, pos := "ref.go:125", after := #[{ on := 4, ground := Ground.guard }], guard := (some (4, true)) }) (v := ?v37) rfl (by kernel_rfl) (by kernel_rfl) (by kernel_rfl) (fun _ _ _ h => h) (Or.inl ⟨rfl, ?hy37⟩) hHeld ?rest37
                case hy37 => (intro w hSw; (try dsimp only at hSw); go_simp <;> with_reducible rfl)
                try simp only [Act.put, List.setIfInBounds_toArray, List.set_cons_zero, List.set_cons_succ]
                refine wpAnyH_take (i := 6) (oi := { dst := (some 31), op := (Op.move (Operand.tmp 8)), type := 3, pos := "ref.go:125", after := #[{ on := 4, ground := Ground.guard }], guard := (some (4, true)) }) (v := ?v38) rfl (by kernel_rfl) (by kernel_rfl) (by kernel_rfl) (fun _ _ _ h => h) (Or.inl ⟨rfl, ?hy38⟩) hHeld ?rest38
                case hy38 => (intro w hSw; (try dsimp only at hSw); go_simp <;> with_reducible rfl)
                try simp only [Act.put, List.setIfInBounds_toArray, List.set_cons_zero, List.set_cons_succ]
                refine wpAnyH_take (i := 7) (oi := { dst := (some 32), op := (Op.indexAddr 30 (Operand.tmp 30) (Operand.tmp 31)), type := 0, pos := "ref.go:125", after := #[{ on := 5, ground := Ground.data }, { on := 6, ground := Ground.data }, { on := 4, ground := Ground.guard }], guard := (some (4, true)) }) (v := ?v39) rfl (by kernel_rfl) (by kernel_rfl) (by kernel_rfl) (fun _ _ _ h => h) (Or.inl ⟨rfl, ?hy39⟩) hHeld ?rest39
                case hy39 => (intro w hSw; (try dsimp only at hSw); go_simp <;> with_reducible rfl)
                try simp only [Act.put, List.setIfInBounds_toArray, List.set_cons_zero, List.set_cons_succ]
                refine wpAnyH_take (i := 8) (oi := { dst := (some 33), op := (Op.load 23 (Operand.tmp 32)), type := 23, pos := "ref.go:125", after := #[{ on := 7, ground := Ground.data }, { on := 4, ground := Ground.guard }], guard := (some (4, true)) }) (v := ?v40) rfl (by kernel_rfl) (by kernel_rfl) (by kernel_rfl) (fun _ _ _ h => h) (Or.inl ⟨rfl, ?hy40⟩) hHeld ?rest40
                case hy40 => (intro w hSw; (try dsimp only at hSw); go_simp <;> with_reducible rfl)
                try simp only [Act.put, List.setIfInBounds_toArray, List.set_cons_zero, List.set_cons_succ]
                refine wpAnyH_take (i := 9) (oi := { dst := (some 34), op := (Op.load 23 (Operand.tmp 3)), type := 23, pos := "ref.go:125", after := #[{ on := 4, ground := Ground.guard }], guard := (some (4, true)) }) (v := ?v41) rfl (by kernel_rfl) (by kernel_rfl) (by kernel_rfl) (fun _ _ _ h => h) (Or.inl ⟨rfl, ?hy41⟩) hHeld ?rest41
                case hy41 => (intro w hSw; (try dsimp only at hSw); go_simp <;> with_reducible rfl)
                try simp only [Act.put, List.setIfInBounds_toArray, List.set_cons_zero, List.set_cons_succ]
                refine wpAnyH_ready (rs := [10]) (by kernel_rfl) (by simp) ?_
                refine AllReadyH.cons (o := { dst := (some 35), op := (Op.call { callee := (Callee.value (Operand.func 40)), args := #[(Operand.tmp 33), (Operand.tmp 34)], argTypes := #[23, 23] }), type := 3, pos := "ref.go:125", after := #[{ on := 8, ground := Ground.data }, { on := 9, ground := Ground.data }, { on := 4, ground := Ground.chain }, { on := 4, ground := Ground.guard }], guard := (some (4, true)) }) rfl (fun K hK => ?step42x0) ?more42x0
                case more42x0 => exact AllReadyH.nil
                go_simp
                (go_at_call 40; refine (r9_Order x r _).mono ?_; rintro e w' ⟨rfl, hb⟩; replace hb : Ext wr w' := Ext.trans (by repeat (first | with_reducible exact Ext.refl _ | with_reducible assumption | with_reducible refine Ext.drew ?_ | with_reducible refine Ext.drewN ?_ _ | with_reducible refine Ext.alloc ?_ _)) hb)
                refine hK.out _ _ ?hS42x0 (fun hHeld42 => ?rest42x0)
                case hS42x0 => ((try dsimp only); (exact MK.out _ (by repeat (first | with_reducible exact Ext.refl _ | with_reducible assumption | with_reducible refine Ext.drew ?_ | with_reducible refine Ext.drewN ?_ _ | with_reducible refine Ext.alloc ?_ _))))
                clear hK K
                clear hHeld
                try simp only [Act.put, List.setIfInBounds_toArray, List.set_cons_zero, List.set_cons_succ]
                refine wpAnyH_take (i := 11) (oi := { dst := (some 36), op := (Op.binOp BinOp.lss 3 (Operand.tmp 35) (Operand.const (Value.int IntKind.i64 0)) 3), type := 4, pos := "ref.go:125", after := #[{ on := 10, ground := Ground.data }, { on := 4, ground := Ground.guard }], guard := (some (4, true)) }) (v := ?v43) rfl (by kernel_rfl) (by kernel_rfl) (by kernel_rfl) (fun _ _ _ h => h) (Or.inl ⟨rfl, ?hy43⟩) hHeld42 ?rest43
                case hy43 => (intro w hSw; (try dsimp only at hSw); go_simp <;> with_reducible rfl)
                try simp only [Act.put, List.setIfInBounds_toArray, List.set_cons_zero, List.set_cons_succ]
                refine wpAnyH_take (i := 12) (oi := { dst := (some 37), op := (Op.pick (Operand.tmp 29) (Operand.tmp 36) (Operand.const (Value.bool false))), type := 4, pos := "ref.go:125", after := #[{ on := 4, ground := Ground.data }, { on := 11, ground := Ground.data }], guard := none }) (v := ?v44) rfl (by kernel_rfl) (by kernel_rfl) (by kernel_rfl) (fun _ _ _ h => h) (Or.inl ⟨rfl, ?hy44⟩) hHeld42 ?rest44
                case hy44 => (intro w hSw; (try dsimp only at hSw); go_simp <;> with_reducible rfl)
                try simp only [Act.put, List.setIfInBounds_toArray, List.set_cons_zero, List.set_cons_succ]
                refine wpAnyH_done (by kernel_rfl) ?_ _
                clear hHeld42
                go_wp2_with fail
                have hown := own_ext HW.out hb
                have hE5 := hE.trans hb
                have hr5 := HR.out _ hE5
                obtain ⟨A2, c2, rfl⟩ := own_form hown
                have HW2 := Lib.hid hown
                obtain ⟨d0, d1, d2, d3, d4, d5⟩ := id hr5
                clear HW hE hb hown
                go_wp2_with fail
                go_simp
                go_wp2_with (at_builtin; refine own_push T_rule rfl (.tmp 49) (.tmp 51) rfl w4 w' _ k _ (RuleP.cells r) rfl HW2.out hE5 rfl rfl (RuleP.cells_len _) (RuleP.cells_one _) (by omega) (by decide) ?_; intro v2 w5 hown2 hE6)
                clear d0 d1 d2 d3 d4 d5
                go_wp2_with fail
                go_loopw [7, 10] (fun v u W => ∃ (i : Nat), u = .int .i64 i ∧ k ≤ i ∧ i ≤ s.length ∧ W.ownsRow w4.heap.size 23 6 v (i + 1) ((s.take k ++ r :: (s.take i).drop k).flatMap RuleP.cells) ∧ Ext w4 W) (fun _ u _ => s.length - (intOf u).toNat)
                case atStart => exact ⟨k, rfl, Nat.le_refl _, hk, by rw [List.drop_take, Nat.sub_self, List.take_zero, List.flatMap_append]; simpa using hown2, hE6⟩
                case round =>
                  obtain ⟨i, rfl, hki, hi, hown3, hE7⟩ := hrel
                  clear hown2 hE6
                  by_cases hlt : i < s.length
                  · obtain ⟨b, off, hA, hc⟩ := HS.out (by omega)
                    first | (subst hA) | (obtain ⟨rfl, rfl⟩ : b = _ ∧ off = _ := (by injection hA with hA; injection hA with h1 h2; exact ⟨h1.symm, h2.symm⟩))
                    have hd := (hc i hlt).ext hE7
                    have HT := Lib.hid (take_more hki hlt)
                    clear hc
                    generalize s[i]! = y at hd HT
                    obtain ⟨d0, d1, d2, d3, d4, d5⟩ := id hd
                    have HW3 := Lib.hid hown3
                    clear hown3 hd
                    go_wp2_with (at_builtin; refine own_push T_rule rfl (.tmp 60) (.tmp 65) rfl w4 _ _ (i + 1) _ (RuleP.cells y) rfl HW3.out hE7 rfl rfl (RuleP.cells_len _) (RuleP.cells_one _) (by omega) (by decide) ?_; intro v4 w6 hown4 hE8)
                    have HY := Lib.hid hown4
                    clear hown4
                    go_wp2_with fail
                    go_roundw
                    case rel => exact ⟨i + 1, by go_num, by omega, by omega, by rw [HT.out]; simpa [List.append_assoc] using HY.out, hE8⟩
                    case measure => simp [intOf]; omega
                  · have hi' : i = s.length := by omega
                    subst hi'
                    go_wp2_with fail
                    go_ret2
                    exact Handed.some_ HF.out (by rw [List.take_length] at hown3; unfold insR; rw [← HK.out]; exact hown3) (by rw [insR_len]) (hx.trans hE7)
            · have HK := Lib.hid (low_stop hlo (.inl (by omega)))
              have hk2 : ¬ (k : Int) < (s.length : Int) := by omega
              have HW := Lib.hid hown
              have MK := Lib.hid (fun V (e : Ext wr V) => (⟨trivial, e⟩ : True ∧ Ext wr V))
              clear hown hlo
              go_wp2_with fail
              refine wp_region_held_drew (S := (fun V => True ∧ Ext wr V)) (by kernel_rfl) ?hs45 (fun hHeld => ?go45)
              case hs45 => (exact MK.out _ (by repeat (first | with_reducible exact Ext.refl _ | with_reducible assumption | with_reducible refine Ext.drew ?_ | with_reducible refine Ext.drewN ?_ _ | with_reducible refine Ext.alloc ?_ _)))
              refine wpAnyH_take (i := 0) (oi := { dst := (some 25), op := (Op.move (Operand.tmp 8)), type := 3, pos := "ref.go:125", after := #[], guard := none }) (v := ?v46) rfl (by kernel_rfl) (by kernel_rfl) (by kernel_rfl) (fun _ _ _ h => h) (Or.inl ⟨rfl, ?hy46⟩) hHeld ?rest46
              case hy46 => (intro w hSw; (try dsimp only at hSw); go_simp <;> with_reducible rfl)
              try simp only [Act.put, List.setIfInBounds_toArray, List.set_cons_zero, List.set_cons_succ]
              refine wpAnyH_take (i := 1) (oi := { dst := (some 26), op := (Op.move (Operand.tmp 0)), type := 30, pos := "ref.go:125", after := #[], guard := none }) (v := ?v47) rfl (by kernel_rfl) (by kernel_rfl) (by kernel_rfl) (fun _ _ _ h => h) (Or.inl ⟨rfl, ?hy47⟩) hHeld ?rest47
              case hy47 => (intro w hSw; (try dsimp only at hSw); go_simp <;> with_reducible rfl)
              try simp only [Act.put, List.setIfInBounds_toArray, List.set_cons_zero, List.set_cons_succ]
              refine wpAnyH_take (i := 2) (oi := { dst := (some 27), op := (Op.call { callee := (Callee.builtin Builtin.len), args := #[(Operand.tmp 26)], argTypes := #[30] }), type := 3, pos := "ref.go:125", after := #[{ on := 1, ground := Ground.data }], guard := none }) (v := ?v48) rfl (by kernel_rfl) (by kernel_rfl) (by kernel_rfl) (fun _ _ _ h => h) (Or.inl ⟨rfl, ?hy48⟩) hHeld ?rest48
              case hy48 => (intro w hSw; (try dsimp only at hSw); go_simp <;> with_reducible rfl)
              try simp only [Act.put, List.setIfInBounds_toArray, List.set_cons_zero, List.set_cons_succ]
              refine wpAnyH_take (i := 3) (oi := { dst := (some 28), op := (Op.binOp BinOp.lss 3 (Operand.tmp 25) (Operand.tmp 27) 3), type := 4, pos := "ref.go:125", after := #[{ on := 0, ground := Ground.data }, { on := 2, ground := Ground.data }], guard := none }) (v := ?v49) rfl (by kernel_rfl) (by kernel_rfl) (by kernel_rfl) (fun _ _ _ h => h) (Or.inl ⟨rfl, ?hy49⟩) hHeld ?rest49
              case hy49 => (intro w hSw; (try dsimp only at hSw); go_simp <;> with_reducible rfl)
              try simp only [Act.put, List.setIfInBounds_toArray, List.set_cons_zero, List.set_cons_succ]
              refine wpAnyH_take (i := 4) (oi := { dst := (some 29), op := (Op.move (Operand.tmp 28)), type := 4, pos := "ref.go:125", after := #[{ on := 3, ground := Ground.data }], guard := none }) (v := ?v50) rfl (by kernel_rfl) (by kernel_rfl) (by kernel_rfl) (fun _ _ _ h => h) (Or.inl ⟨rfl, ?hy50⟩) hHeld ?rest50
              case hy50 => (intro w hSw; (try dsimp only at hSw); go_simp <;> with_reducible rfl)
              try simp only [Act.put, List.setIfInBounds_toArray, List.set_cons_zero, List.set_cons_succ]
              refine wpAnyH_take (i := 5) (oi := { dst := (some 30), op := (Op.move (Operand.tmp 0)), type := 30, pos := "ref.go:125", after := #[{ on := 4, ground := Ground.guard }], guard := (some (4, true)) }) (v := undef) rfl (by kernel_rfl) (by kernel_rfl) (by kernel_rfl) (fun _ _ _ h => h) (Or.inr ⟨rfl, rfl⟩) hHeld ?rest51
              try simp only [Act.put, List.setIfInBounds_toArray, List.set_cons_zero, List.set_cons_succ]
              refine wpAnyH_take (i := 6) (oi := { dst := (some 31), op := (Op.move (Operand.tmp 8)), type := 3, pos := "ref.go:125", after := #[{ on := 4, ground := Ground.guard }], guard := (some (4, true)) }) (v := undef) rfl (by kernel_rfl) (by kernel_rfl) (by kernel_rfl) (fun _ _ _ h => h) (Or.inr ⟨rfl, rfl⟩) hHeld ?rest52
              try simp only [Act.put, List.setIfInBounds_toArray, List.set_cons_zero, List.set_cons_succ]
              refine wpAnyH_take (i := 7) (oi := { dst := (some 32), op := (Op.indexAddr 30 (Operand.tmp 30) (Operand.tmp 31)), type := 0, pos := "ref.go:125", after := #[{ on := 5, ground := Ground.data }, { on := 6, ground := Ground.data }, { on := 4, ground := Ground.guard }], guard := (some (4, true)) }) (v := undef) rfl (by kernel_rfl) (by kernel_rfl) (by kernel_rfl) (fun _ _ _ h => h) (Or.inr ⟨rfl, rfl⟩) hHeld ?rest53
              try simp only [Act.put, List.setIfInBounds_toArray, List.set_cons_zero, List.set_cons_succ]
              refine wpAnyH_take (i := 8) (oi := { dst := (some 33), op := (Op.load 23 (Operand.tmp 32)), type := 23, pos := "ref.go:125", after := #[{ on := 7, ground := Ground.data }, { on := 4, ground := Ground.guard }], guard := (some (4, true)) }) (v := undef) rfl (by kernel_rfl) (by kernel_rfl) (by kernel_rfl) (fun _ _ _ h => h) (Or.inr ⟨rfl, rfl⟩) hHeld ?rest54
              try simp only [Act.put, List.setIfInBounds_toArray, List.set_cons_zero, List.set_cons_succ]
              refine wpAnyH_take (i := 9) (oi := { dst := (some 34), op := (Op.load 23 (Operand.tmp 3)), type := 23, pos := "ref.go:125", after := #[{ on := 4, ground := Ground.guard }], guard := (some (4, true)) }) (v := undef) rfl (by kernel_rfl) (by kernel_rfl) (by kernel_rfl) (fun _ _ _ h => h) (Or.inr ⟨rfl, rfl⟩) hHeld ?rest55
              try simp only [Act.put, List.setIfInBounds_toArray, List.set_cons_zero, List.set_cons_succ]
              refine wpAnyH_take (i := 10) (oi := { dst := (some 35), op := (Op.call { callee := (Callee.value (Operand.func 40)), args := #[(Operand.tmp 33), (Operand.tmp 34)], argTypes := #[23, 23] }), type := 3, pos := "ref.go:125", after := #[{ on := 8, ground := Ground.data }, { on := 9, ground := Ground.data }, { on := 4, ground := Ground.chain }, { on := 4, ground := Ground.guard }], guard := (some (4, true)) }) (v := undef) rfl (by kernel_rfl) (by kernel_rfl) (by kernel_rfl) (fun _ _ _ h => h) (Or.inr ⟨rfl, rfl⟩) hHeld ?rest56
              try simp only [Act.put, List.setIfInBounds_toArray, List.set_cons_zero, List.set_cons_succ]
              refine wpAnyH_take (i := 11) (oi := { dst := (some 36), op := (Op.binOp BinOp.lss 3 (Operand.tmp 35) (Operand.const (Value.int IntKind.i64 0)) 3), type := 4, pos := "ref.go:125", after := #[{ on := 10, ground := Ground.data }, { on := 4, ground := Ground.guard }], guard := (some (4, true)) }) (v := undef) rfl (by kernel_rfl) (by kernel_rfl) (by kernel_rfl) (fun _ _ _ h => h) (Or.inr ⟨rfl, rfl⟩) hHeld ?rest57
              try simp only [Act.put, List.setIfInBounds_toArray, List.set_cons_zero, List.set_cons_succ]
              refine wpAnyH_take (i := 12) (oi := { dst := (some 37), op := (Op.pick (Operand.tmp 29) (Operand.tmp 36) (Operand.const (Value.bool false))), type := 4, pos := "ref.go:125", after := #[{ on := 4, ground := Ground.data }, { on := 11, ground := Ground.data }], guard := none }) (v := ?v58) rfl (by kernel_rfl) (by kernel_rfl) (by kernel_rfl) (fun _ _ _ h => h) (Or.inl ⟨rfl, ?hy58⟩) hHeld ?rest58
              case hy58 => (intro w hSw; (try dsimp only at hSw); go_simp <;> with_reducible rfl)
              try simp only [Act.put, List.setIfInBounds_toArray, List.set_cons_zero, List.set_cons_succ]
              refine wpAnyH_done (by kernel_rfl) ?_ _
              clear hHeld
              have hb : Ext wr wr.drew := (Ext.refl _).drew
              generalize wr.drew = w' at hb ⊢
              go_wp2_with fail
              have hown := own_ext HW.out hb
              have hE5 := hE.trans hb
              have hr5 := HR.out _ hE5
              obtain ⟨A2, c2, rfl⟩ := own_form hown
              have HW2 := Lib.hid hown
              obtain ⟨d0, d1, d2, d3, d4, d5⟩ := id hr5
              clear HW hE hb hown
              go_wp2_with fail
              go_simp
              go_wp2_with (at_builtin; refine own_push T_rule rfl (.tmp 49) (.tmp 51) rfl w4 w' _ k _ (RuleP.cells r) rfl HW2.out hE5 rfl rfl (RuleP.cells_len _) (RuleP.cells_one _) (by omega) (by decide) ?_; intro v2 w5 hown2 hE6)
              clear d0 d1 d2 d3 d4 d5
              go_wp2_with fail
              go_loopw [7, 10] (fun v u W => ∃ (i : Nat), u = .int .i64 i ∧ k ≤ i ∧ i ≤ s.length ∧ W.ownsRow w4.heap.size 23 6 v (i + 1) ((s.take k ++ r :: (s.take i).drop k).flatMap RuleP.cells) ∧ Ext w4 W) (fun _ u _ => s.length - (intOf u).toNat)
              case atStart => exact ⟨k, rfl, Nat.le_refl _, hk, by rw [List.drop_take, Nat.sub_self, List.take_zero, List.flatMap_append]; simpa using hown2, hE6⟩
              case round =>
                obtain ⟨i, rfl, hki, hi, hown3, hE7⟩ := hrel
                clear hown2 hE6
                by_cases hlt : i < s.length
                · exfalso; omega
                · have hi' : i = s.length := by omega
                  subst hi'
                  go_wp2_with fail
                  go_ret2
                  exact Handed.some_ HF.out (by rw [List.take_length] at hown3; unfold insR; rw [← HK.out]; exact hown3) (by rw [insR_len]) (hx.trans hE7)
    · have HF := Lib.hid (show addR s r = ([], chkR r) by unfold addR; rw [HV.out, if_neg (by simp), if_pos hc])
      have hc' : (chkR r != 0) = true := by simpa using hc
      clear hc
      go_wp2_with fail
      go_ret2
      exact Handed.none_ HF.out hx
  · have HF := Lib.hid (show addR s r = ([], 19) by unfold addR; rw [if_pos (by simpa using hv)])
    have hv' : (!validB s) = true := by simpa using hv
    clear hv
    go_wp2_with fail
    go_ret2
    exact Handed.none_ HF.out hx

end Go.Proofs.YtanclhcoiagcfaaGreatDoor
