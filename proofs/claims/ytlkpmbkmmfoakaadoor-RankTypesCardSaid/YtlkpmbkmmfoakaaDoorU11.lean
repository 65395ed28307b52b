/- PARTS OF THE WALKS, joined: RkC, RkD, RkE, RkF, Stage, RkG. -/
import Derived.Test.YtlkpmbkmmfoakaaDoorU10
import Derived.Test.YtlkpmbkmmfoakaaDoorU00
import Derived.Deep.RegionHeld
/- THE WALKS over degrees, shares of nodes, Start, and the comparison of lists of shares. -/
namespace Go.Proofs.YtlkpmbkmmfoakaaDoor
open Go.RowKit
/-- how many edges of the types leave a node -/
def degN (types : List ByteArray) (E : List EdgeG) (id : Int) : Nat := (E.filter (fun e => decide (e.frm = id) && typB types e.typ)).length
theorem degN_snoc (types : List ByteArray) (E : List EdgeG) (id : Int) (k : Nat) (h : k < E.length) : degN types (E.take (k + 1)) id = degN types (E.take k) id + if (decide (E[k]!.frm = id) && typB types E[k]!.typ) = true then 1 else 0 := by
  unfold degN
  rw [List.take_succ_eq_append_getElem h, List.filter_append, List.length_append, getElem!_pos E k h]
  congr 1
  rw [List.filter_cons]
  split <;> rfl
theorem degN_le (types : List ByteArray) (E : List EdgeG) (id : Int) : degN types E id ≤ E.length := List.length_filter_le _ _
def shareOf (l : List Sh) (id : Int) : Fr := match l.find? (fun s => decide (s.id = id)) with | some s => (s.n, s.d) | none => (0, 1)
theorem shareOf_at {l : List Sh} {id : Int} (k : Nat) (hk : k < l.length) (h0 : ∀ j < k, l[j]!.id ≠ id) (h : l[k]!.id = id) : shareOf l id = (l[k]!.n, l[k]!.d) := by
  unfold shareOf
  have : l.find? (fun s => decide (s.id = id)) = some l[k]! := by
    rw [getElem!_pos l k hk] at h ⊢
    rw [List.find?_eq_some_iff_getElem]
    exact ⟨decide_eq_true h, k, hk, rfl, fun j hj => by have := h0 j hj; rw [getElem!_pos l j (by omega)] at this; simpa using this⟩
  rw [this]
def startR (g : GraphG) : List Sh := if chkG g = 0 then g.nodes.map (fun x => ⟨x.id, 1, (g.nodes.length : Int)⟩) else []
def Sh.cells (s : Sh) : List Value := [.int .i64 s.id, .int .i64 s.n, .int .i64 s.d]
theorem Sh.cells_one (s : Sh) : ∀ u ∈ s.cells, u.oneCell' = true := by
  intro u hu
  simp only [Sh.cells, List.mem_cons, List.not_mem_nil, or_false] at hu
  rcases hu with rfl | rfl | rfl <;> rfl
theorem El_share : ElT Tryd.prog 22 42 3 24 := ⟨Tryd.underlying22, ⟨.agg #[.int .i64 0, .int .i64 0, .int .i64 0], by kernel_rfl, rfl⟩, by decide⟩
theorem shares_of_own {w : World} {base e : Nat} {v : Value} {n : Nat} {l : List Sh} (h : w.ownsRow base e 3 v n (l.flatMap Sh.cells)) (hn : n = l.length) (hm : l.length ≤ 140737488355328) : ∃ A c, v = .slice A l.length c ∧ l.length ≤ c ∧ Shares w (fun b => base ≤ b) A l :=
  own_sliceR (cs := l.map Sh.cells) (by rw [← List.flatMap_def]; exact h) hn (by simp) (by simp [Sh.cells]) hm (fun g hg _ k hk h' hu => ⟨hg, by have := hu 0 (.int .i64 l[k].id) (by simp [Sh.cells]); simpa using this, by have := hu 1 (.int .i64 l[k].n) (by simp [Sh.cells]); simpa using this, by have := hu 2 (.int .i64 l[k].d) (by simp [Sh.cells]); simpa using this⟩)
theorem Sh.ext' {a b : Sh} (h1 : a.id = b.id) (h2 : a.n = b.n) (h3 : a.d = b.d) : a = b := by cases a; cases b; simp_all
theorem same_shs {a b : List Sh} (hl : a.length = b.length) (h : ∀ i < a.length, a[i]! = b[i]!) : a = b := List.ext_getElem hl (fun i h1 h2 => by have := h i h1; rwa [getElem!_pos a i h1, getElem!_pos b i h2] at this)
set_option maxRecDepth 100000 in
set_option maxHeartbeats 1600000 in
theorem r51_Same (a b : List Sh) (ok ok' : Nat → Prop) (A B : Option Addr) (c d : Nat) (w : World) (ha : Shares w ok A a) (hb : Shares w ok' B b) :
    Calls Tryd.prog 21 #[.slice A a.length c, .slice B b.length d] w fun e w' => e = .returned (.bool (decide (a = b))) ∧ Ext w w' := by
  have hm := ha.len
  have hmb := hb.len
  have HA := Lib.hid ha
  have HB := Lib.hid hb
  have HNO := Lib.hid (fun (h : a ≠ b) => decide_eq_false h)
  have HYE := Lib.hid (fun (h : a = b) => decide_eq_true h)
  generalize decide (a = b) = R at *
  clear ha hb
  by_cases hlen : a.length = b.length
  · have hne : ((a.length : Int) != (b.length : Int)) = false := by simp [hlen]
    have HLEN := Lib.hid hlen
    have hl1 : a.length ≤ b.length := by omega
    clear hlen
    go_enter Tryd.func21, Tryd.ntmps21
    go_wp2_with fail
    clear hne
    go_loopw [5] (fun u W => ∃ k : Nat, u = .int .i64 k ∧ k ≤ a.length ∧ Hid (∀ t, t < k → a[t]! = b[t]!) ∧ Ext w W) (fun u _ => a.length - (intOf u).toNat)
    case atStart => exact ⟨0, rfl, Nat.zero_le _, Lib.hid (fun t ht => absurd ht (by omega)), Ext.refl _⟩
    case round =>
      obtain ⟨k, rfl, hk, hgd, hE⟩ := hrel
      by_cases hlt : k < a.length
      · obtain ⟨ba, oa, rfl, hca⟩ := HA.out.at_ hlt
        obtain ⟨bb, ob, rfl, hcb⟩ := HB.out.at_ (i := k) (by omega)
        obtain ⟨-, a0, a1, a2⟩ := hca k hlt
        obtain ⟨-, b0, b1, b2⟩ := hcb k (by omega)
        replace a0 := hE.cell a0
        replace a1 := hE.cell a1
        replace a2 := hE.cell a2
        replace b0 := hE.cell b0
        replace b1 := hE.cell b1
        replace b2 := hE.cell b2
        have q1 : (k : Int) < (b.length : Int) := by omega
        have HS := Lib.hid (fun (h : a[k]! = b[k]!) t (ht : t < k + 1) => (if e : t = k then (by rw [e]; exact h) else hgd.out t (by omega) : a[t]! = b[t]!))
        have HX := Lib.hid (fun (h : a[k]! ≠ b[k]!) => HNO.out (fun e => h (by rw [e])))
        clear hca hcb hgd HNO HYE
        generalize a[k]! = x at *
        generalize b[k]! = y at *
        have HD : ∀ u v : Sh, (u.id = v.id ∧ u.n = v.n ∧ u.d = v.d) → u = v := fun u v h => Sh.ext' h.1 h.2.1 h.2.2
        have HDD := Lib.hid HD
        clear HD
        by_cases e1 : x.id = y.id
        · by_cases e2 : x.n = y.n
          · by_cases e3 : x.d = y.d
            · have HT := Lib.hid (HS.out (HDD.out x y ⟨e1, e2, e3⟩))
              rw [← e1] at b0
              rw [← e2] at b1
              rw [← e3] at b2
              clear HS HX HDD e1 e2 e3
              go_upto_region 6 with (fail)
              have MKR1 := Lib.hid (fun V (e : Ext wr V) => (⟨e.cell a0, e.cell a1, e.cell a2, e.cell b0, e.cell b1, e.cell b2, e⟩ : V.cell? ⟨ba, oa + k * 3, none⟩ = some (.int .i64 x.id) ∧ V.cell? ⟨ba, oa + k * 3 + 1, none⟩ = some (.int .i64 x.n) ∧ V.cell? ⟨ba, oa + k * 3 + 2, none⟩ = some (.int .i64 x.d) ∧ V.cell? ⟨bb, ob + k * 3, none⟩ = some (.int .i64 x.id) ∧ V.cell? ⟨bb, ob + k * 3 + 1, none⟩ = some (.int .i64 x.n) ∧ V.cell? ⟨bb, ob + k * 3 + 2, none⟩ = some (.int .i64 x.d) ∧ Ext wr V))
              refine wp_region_held_drew (S := (fun V => V.cell? ⟨ba, oa + k * 3, none⟩ = some (.int .i64 x.id) ∧ V.cell? ⟨ba, oa + k * 3 + 1, none⟩ = some (.int .i64 x.n) ∧ V.cell? ⟨ba, oa + k * 3 + 2, none⟩ = some (.int .i64 x.d) ∧ V.cell? ⟨bb, ob + k * 3, none⟩ = some (.int .i64 x.id) ∧ V.cell? ⟨bb, ob + k * 3 + 1, none⟩ = some (.int .i64 x.n) ∧ V.cell? ⟨bb, ob + k * 3 + 2, none⟩ = some (.int .i64 x.d) ∧ Ext wr V)) (by kernel_rfl) ?hs1 (fun hHeld => ?go1)
              case hs1 => (exact MKR1.out _ (by with_reducible repeat (first | exact Ext.refl _ | assumption | refine Ext.drew ?_ | refine Ext.drewN ?_ _ | refine Ext.alloc ?_ _)))
              refine wpAnyH_take (i := 0) (oi := ⟨(some 17), (.move (.tmp 0)), 22, "ref.go:192", #[], none⟩) (v := ?v2) rfl (by kernel_rfl) (by kernel_rfl) (by kernel_rfl) (fun _ _ _ h => h) (Or.inl ⟨rfl, ?hy2⟩) hHeld ?rest2
              case hy2 => (intro w _; go_simp <;> rfl)
              (try simp only [PU])
              refine wpAnyH_take (i := 1) (oi := ⟨(some 18), (.move (.tmp 5)), 3, "ref.go:192", #[], none⟩) (v := ?v3) rfl (by kernel_rfl) (by kernel_rfl) (by kernel_rfl) (fun _ _ _ h => h) (Or.inl ⟨rfl, ?hy3⟩) hHeld ?rest3
              case hy3 => (intro w _; go_simp <;> rfl)
              (try simp only [PU])
              refine wpAnyH_take (i := 2) (oi := ⟨(some 19), (.indexAddr 22 (.tmp 17) (.tmp 18)), 0, "ref.go:192", #[⟨0, .data⟩, ⟨1, .data⟩], none⟩) (v := ?v4) rfl (by kernel_rfl) (by kernel_rfl) (by kernel_rfl) (fun _ _ _ h => h) (Or.inl ⟨rfl, ?hy4⟩) hHeld ?rest4
              case hy4 => (intro w _; go_simp <;> first | with_reducible rfl | rw [if_neg (by omega)] | rw [if_pos (by omega)])
              (try simp only [PU])
              refine wpAnyH_take (i := 3) (oi := ⟨(some 20), (.load 42 (.tmp 19)), 42, "ref.go:192", #[⟨2, .data⟩], none⟩) (v := ?v5) rfl (by kernel_rfl) (by kernel_rfl) (by kernel_rfl) (fun _ _ _ h => h) (Or.inl ⟨rfl, ?hy5⟩) hHeld ?rest5
              case hy5 => (intro w hSw; (try dsimp only at hSw); go_simp <;> first | with_reducible rfl | rw [if_neg (by omega)] | rw [if_pos (by omega)])
              (try simp only [PU])
              refine wpAnyH_take (i := 4) (oi := ⟨(some 21), (.move (.tmp 1)), 22, "ref.go:192", #[], none⟩) (v := ?v6) rfl (by kernel_rfl) (by kernel_rfl) (by kernel_rfl) (fun _ _ _ h => h) (Or.inl ⟨rfl, ?hy6⟩) hHeld ?rest6
              case hy6 => (intro w _; go_simp <;> rfl)
              (try simp only [PU])
              refine wpAnyH_take (i := 5) (oi := ⟨(some 22), (.move (.tmp 5)), 3, "ref.go:192", #[], none⟩) (v := ?v7) rfl (by kernel_rfl) (by kernel_rfl) (by kernel_rfl) (fun _ _ _ h => h) (Or.inl ⟨rfl, ?hy7⟩) hHeld ?rest7
              case hy7 => (intro w _; go_simp <;> rfl)
              (try simp only [PU])
              refine wpAnyH_take (i := 6) (oi := ⟨(some 23), (.indexAddr 22 (.tmp 21) (.tmp 22)), 0, "ref.go:192", #[⟨4, .data⟩, ⟨5, .data⟩], none⟩) (v := ?v8) rfl (by kernel_rfl) (by kernel_rfl) (by kernel_rfl) (fun _ _ _ h => h) (Or.inl ⟨rfl, ?hy8⟩) hHeld ?rest8
              case hy8 => (intro w _; go_simp <;> first | with_reducible rfl | rw [if_neg (by omega)] | rw [if_pos (by omega)])
              (try simp only [PU])
              refine wpAnyH_take (i := 7) (oi := ⟨(some 24), (.load 42 (.tmp 23)), 42, "ref.go:192", #[⟨6, .data⟩], none⟩) (v := ?v9) rfl (by kernel_rfl) (by kernel_rfl) (by kernel_rfl) (fun _ _ _ h => h) (Or.inl ⟨rfl, ?hy9⟩) hHeld ?rest9
              case hy9 => (intro w hSw; (try dsimp only at hSw); go_simp <;> first | with_reducible rfl | rw [if_neg (by omega)] | rw [if_pos (by omega)])
              (try simp only [PU])
              refine wpAnyH_take (i := 8) (oi := ⟨(some 25), (.binOp .neq 42 (.tmp 20) (.tmp 24) 42), 4, "ref.go:192", #[⟨3, .data⟩, ⟨7, .data⟩], none⟩) (v := ?v10) rfl (by kernel_rfl) (by kernel_rfl) (by kernel_rfl) (fun _ _ _ h => h) (Or.inl ⟨rfl, ?hy10⟩) hHeld ?rest10
              case hy10 => (intro w _; go_simp <;> first | with_reducible rfl | rw [if_neg (by omega)] | rw [if_pos (by omega)])
              (try simp only [PU])
              refine wpAnyH_done (by kernel_rfl) ?_ _
              clear hHeld
              clear MKR1
              go_wp2_with fail
              go_roundw
              case rel => exact ⟨k + 1, by go_num, by omega, HT, hE.trans (by with_reducible repeat (first | exact Ext.refl _ | assumption | refine Ext.drew ?_ | refine Ext.drewN ?_ _ | refine Ext.alloc ?_ _))⟩
              case measure => simp [intOf]; omega
            · have HT := Lib.hid (HX.out (fun h => e3 (by rw [h])))
              have fe3 : (x.d == y.d) = false := beq_eq_false_iff_ne.2 e3
              clear HS HX HDD
              go_upto_region 6 with (fail)
              have MKR2 := Lib.hid (fun V (e : Ext wr V) => (⟨e.cell a0, e.cell a1, e.cell a2, e.cell b0, e.cell b1, e.cell b2, e⟩ : V.cell? ⟨ba, oa + k * 3, none⟩ = some (.int .i64 x.id) ∧ V.cell? ⟨ba, oa + k * 3 + 1, none⟩ = some (.int .i64 x.n) ∧ V.cell? ⟨ba, oa + k * 3 + 2, none⟩ = some (.int .i64 x.d) ∧ V.cell? ⟨bb, ob + k * 3, none⟩ = some (.int .i64 y.id) ∧ V.cell? ⟨bb, ob + k * 3 + 1, none⟩ = some (.int .i64 y.n) ∧ V.cell? ⟨bb, ob + k * 3 + 2, none⟩ = some (.int .i64 y.d) ∧ Ext wr V))
              refine wp_region_held_drew (S := (fun V => V.cell? ⟨ba, oa + k * 3, none⟩ = some (.int .i64 x.id) ∧ V.cell? ⟨ba, oa + k * 3 + 1, none⟩ = some (.int .i64 x.n) ∧ V.cell? ⟨ba, oa + k * 3 + 2, none⟩ = some (.int .i64 x.d) ∧ V.cell? ⟨bb, ob + k * 3, none⟩ = some (.int .i64 y.id) ∧ V.cell? ⟨bb, ob + k * 3 + 1, none⟩ = some (.int .i64 y.n) ∧ V.cell? ⟨bb, ob + k * 3 + 2, none⟩ = some (.int .i64 y.d) ∧ Ext wr V)) (by kernel_rfl) ?hs11 (fun hHeld => ?go11)
              case hs11 => (exact MKR2.out _ (by with_reducible repeat (first | exact Ext.refl _ | assumption | refine Ext.drew ?_ | refine Ext.drewN ?_ _ | refine Ext.alloc ?_ _)))
              refine wpAnyH_take (i := 0) (oi := ⟨(some 17), (.move (.tmp 0)), 22, "ref.go:192", #[], none⟩) (v := ?v12) rfl (by kernel_rfl) (by kernel_rfl) (by kernel_rfl) (fun _ _ _ h => h) (Or.inl ⟨rfl, ?hy12⟩) hHeld ?rest12
              case hy12 => (intro w _; go_simp <;> rfl)
              (try simp only [PU])
              refine wpAnyH_take (i := 1) (oi := ⟨(some 18), (.move (.tmp 5)), 3, "ref.go:192", #[], none⟩) (v := ?v13) rfl (by kernel_rfl) (by kernel_rfl) (by kernel_rfl) (fun _ _ _ h => h) (Or.inl ⟨rfl, ?hy13⟩) hHeld ?rest13
              case hy13 => (intro w _; go_simp <;> rfl)
              (try simp only [PU])
              refine wpAnyH_take (i := 2) (oi := ⟨(some 19), (.indexAddr 22 (.tmp 17) (.tmp 18)), 0, "ref.go:192", #[⟨0, .data⟩, ⟨1, .data⟩], none⟩) (v := ?v14) rfl (by kernel_rfl) (by kernel_rfl) (by kernel_rfl) (fun _ _ _ h => h) (Or.inl ⟨rfl, ?hy14⟩) hHeld ?rest14
              case hy14 => (intro w _; go_simp <;> first | with_reducible rfl | rw [if_neg (by omega)] | rw [if_pos (by omega)])
              (try simp only [PU])
              refine wpAnyH_take (i := 3) (oi := ⟨(some 20), (.load 42 (.tmp 19)), 42, "ref.go:192", #[⟨2, .data⟩], none⟩) (v := ?v15) rfl (by kernel_rfl) (by kernel_rfl) (by kernel_rfl) (fun _ _ _ h => h) (Or.inl ⟨rfl, ?hy15⟩) hHeld ?rest15
              case hy15 => (intro w hSw; (try dsimp only at hSw); go_simp <;> first | with_reducible rfl | rw [if_neg (by omega)] | rw [if_pos (by omega)])
              (try simp only [PU])
              refine wpAnyH_take (i := 4) (oi := ⟨(some 21), (.move (.tmp 1)), 22, "ref.go:192", #[], none⟩) (v := ?v16) rfl (by kernel_rfl) (by kernel_rfl) (by kernel_rfl) (fun _ _ _ h => h) (Or.inl ⟨rfl, ?hy16⟩) hHeld ?rest16
              case hy16 => (intro w _; go_simp <;> rfl)
              (try simp only [PU])
              refine wpAnyH_take (i := 5) (oi := ⟨(some 22), (.move (.tmp 5)), 3, "ref.go:192", #[], none⟩) (v := ?v17) rfl (by kernel_rfl) (by kernel_rfl) (by kernel_rfl) (fun _ _ _ h => h) (Or.inl ⟨rfl, ?hy17⟩) hHeld ?rest17
              case hy17 => (intro w _; go_simp <;> rfl)
              (try simp only [PU])
              refine wpAnyH_take (i := 6) (oi := ⟨(some 23), (.indexAddr 22 (.tmp 21) (.tmp 22)), 0, "ref.go:192", #[⟨4, .data⟩, ⟨5, .data⟩], none⟩) (v := ?v18) rfl (by kernel_rfl) (by kernel_rfl) (by kernel_rfl) (fun _ _ _ h => h) (Or.inl ⟨rfl, ?hy18⟩) hHeld ?rest18
              case hy18 => (intro w _; go_simp <;> first | with_reducible rfl | rw [if_neg (by omega)] | rw [if_pos (by omega)])
              (try simp only [PU])
              refine wpAnyH_take (i := 7) (oi := ⟨(some 24), (.load 42 (.tmp 23)), 42, "ref.go:192", #[⟨6, .data⟩], none⟩) (v := ?v19) rfl (by kernel_rfl) (by kernel_rfl) (by kernel_rfl) (fun _ _ _ h => h) (Or.inl ⟨rfl, ?hy19⟩) hHeld ?rest19
              case hy19 => (intro w hSw; (try dsimp only at hSw); go_simp <;> first | with_reducible rfl | rw [if_neg (by omega)] | rw [if_pos (by omega)])
              (try simp only [PU])
              refine wpAnyH_take (i := 8) (oi := ⟨(some 25), (.binOp .neq 42 (.tmp 20) (.tmp 24) 42), 4, "ref.go:192", #[⟨3, .data⟩, ⟨7, .data⟩], none⟩) (v := ?v20) rfl (by kernel_rfl) (by kernel_rfl) (by kernel_rfl) (fun _ _ _ h => h) (Or.inl ⟨rfl, ?hy20⟩) hHeld ?rest20
              case hy20 => (intro w _; go_simp <;> first | with_reducible rfl | rw [if_neg (by omega)] | rw [if_pos (by omega)])
              (try simp only [PU])
              refine wpAnyH_done (by kernel_rfl) ?_ _
              clear hHeld
              clear MKR2
              go_wp2_with fail
              go_ret
              exact ⟨ret_bool HT.out.symm, hE.trans (by with_reducible repeat (first | exact Ext.refl _ | assumption | refine Ext.drew ?_ | refine Ext.drewN ?_ _ | refine Ext.alloc ?_ _))⟩
          · have HT := Lib.hid (HX.out (fun h => e2 (by rw [h])))
            have fe2 : (x.n == y.n) = false := beq_eq_false_iff_ne.2 e2
            clear HS HX HDD
            go_upto_region 6 with (fail)
            have MKR3 := Lib.hid (fun V (e : Ext wr V) => (⟨e.cell a0, e.cell a1, e.cell a2, e.cell b0, e.cell b1, e.cell b2, e⟩ : V.cell? ⟨ba, oa + k * 3, none⟩ = some (.int .i64 x.id) ∧ V.cell? ⟨ba, oa + k * 3 + 1, none⟩ = some (.int .i64 x.n) ∧ V.cell? ⟨ba, oa + k * 3 + 2, none⟩ = some (.int .i64 x.d) ∧ V.cell? ⟨bb, ob + k * 3, none⟩ = some (.int .i64 y.id) ∧ V.cell? ⟨bb, ob + k * 3 + 1, none⟩ = some (.int .i64 y.n) ∧ V.cell? ⟨bb, ob + k * 3 + 2, none⟩ = some (.int .i64 y.d) ∧ Ext wr V))
            refine wp_region_held_drew (S := (fun V => V.cell? ⟨ba, oa + k * 3, none⟩ = some (.int .i64 x.id) ∧ V.cell? ⟨ba, oa + k * 3 + 1, none⟩ = some (.int .i64 x.n) ∧ V.cell? ⟨ba, oa + k * 3 + 2, none⟩ = some (.int .i64 x.d) ∧ V.cell? ⟨bb, ob + k * 3, none⟩ = some (.int .i64 y.id) ∧ V.cell? ⟨bb, ob + k * 3 + 1, none⟩ = some (.int .i64 y.n) ∧ V.cell? ⟨bb, ob + k * 3 + 2, none⟩ = some (.int .i64 y.d) ∧ Ext wr V)) (by kernel_rfl) ?hs21 (fun hHeld => ?go21)
            case hs21 => (exact MKR3.out _ (by with_reducible repeat (first | exact Ext.refl _ | assumption | refine Ext.drew ?_ | refine Ext.drewN ?_ _ | refine Ext.alloc ?_ _)))
            refine wpAnyH_take (i := 0) (oi := ⟨(some 17), (.move (.tmp 0)), 22, "ref.go:192", #[], none⟩) (v := ?v22) rfl (by kernel_rfl) (by kernel_rfl) (by kernel_rfl) (fun _ _ _ h => h) (Or.inl ⟨rfl, ?hy22⟩) hHeld ?rest22
            case hy22 => (intro w _; go_simp <;> rfl)
            (try simp only [PU])
            refine wpAnyH_take (i := 1) (oi := ⟨(some 18), (.move (.tmp 5)), 3, "ref.go:192", #[], none⟩) (v := ?v23) rfl (by kernel_rfl) (by kernel_rfl) (by kernel_rfl) (fun _ _ _ h => h) (Or.inl ⟨rfl, ?hy23⟩) hHeld ?rest23
            case hy23 => (intro w _; go_simp <;> rfl)
            (try simp only [PU])
            refine wpAnyH_take (i := 2) (oi := ⟨(some 19), (.indexAddr 22 (.tmp 17) (.tmp 18)), 0, "ref.go:192", #[⟨0, .data⟩, ⟨1, .data⟩], none⟩) (v := ?v24) rfl (by kernel_rfl) (by kernel_rfl) (by kernel_rfl) (fun _ _ _ h => h) (Or.inl ⟨rfl, ?hy24⟩) hHeld ?rest24
            case hy24 => (intro w _; go_simp <;> first | with_reducible rfl | rw [if_neg (by omega)] | rw [if_pos (by omega)])
            (try simp only [PU])
            refine wpAnyH_take (i := 3) (oi := ⟨(some 20), (.load 42 (.tmp 19)), 42, "ref.go:192", #[⟨2, .data⟩], none⟩) (v := ?v25) rfl (by kernel_rfl) (by kernel_rfl) (by kernel_rfl) (fun _ _ _ h => h) (Or.inl ⟨rfl, ?hy25⟩) hHeld ?rest25
            case hy25 => (intro w hSw; (try dsimp only at hSw); go_simp <;> first | with_reducible rfl | rw [if_neg (by omega)] | rw [if_pos (by omega)])
            (try simp only [PU])
            refine wpAnyH_take (i := 4) (oi := ⟨(some 21), (.move (.tmp 1)), 22, "ref.go:192", #[], none⟩) (v := ?v26) rfl (by kernel_rfl) (by kernel_rfl) (by kernel_rfl) (fun _ _ _ h => h) (Or.inl ⟨rfl, ?hy26⟩) hHeld ?rest26
            case hy26 => (intro w _; go_simp <;> rfl)
            (try simp only [PU])
            refine wpAnyH_take (i := 5) (oi := ⟨(some 22), (.move (.tmp 5)), 3, "ref.go:192", #[], none⟩) (v := ?v27) rfl (by kernel_rfl) (by kernel_rfl) (by kernel_rfl) (fun _ _ _ h => h) (Or.inl ⟨rfl, ?hy27⟩) hHeld ?rest27
            case hy27 => (intro w _; go_simp <;> rfl)
            (try simp only [PU])
            refine wpAnyH_take (i := 6) (oi := ⟨(some 23), (.indexAddr 22 (.tmp 21) (.tmp 22)), 0, "ref.go:192", #[⟨4, .data⟩, ⟨5, .data⟩], none⟩) (v := ?v28) rfl (by kernel_rfl) (by kernel_rfl) (by kernel_rfl) (fun _ _ _ h => h) (Or.inl ⟨rfl, ?hy28⟩) hHeld ?rest28
            case hy28 => (intro w _; go_simp <;> first | with_reducible rfl | rw [if_neg (by omega)] | rw [if_pos (by omega)])
            (try simp only [PU])
            refine wpAnyH_take (i := 7) (oi := ⟨(some 24), (.load 42 (.tmp 23)), 42, "ref.go:192", #[⟨6, .data⟩], none⟩) (v := ?v29) rfl (by kernel_rfl) (by kernel_rfl) (by kernel_rfl) (fun _ _ _ h => h) (Or.inl ⟨rfl, ?hy29⟩) hHeld ?rest29
            case hy29 => (intro w hSw; (try dsimp only at hSw); go_simp <;> first | with_reducible rfl | rw [if_neg (by omega)] | rw [if_pos (by omega)])
            (try simp only [PU])
            refine wpAnyH_take (i := 8) (oi := ⟨(some 25), (.binOp .neq 42 (.tmp 20) (.tmp 24) 42), 4, "ref.go:192", #[⟨3, .data⟩, ⟨7, .data⟩], none⟩) (v := ?v30) rfl (by kernel_rfl) (by kernel_rfl) (by kernel_rfl) (fun _ _ _ h => h) (Or.inl ⟨rfl, ?hy30⟩) hHeld ?rest30
            case hy30 => (intro w _; go_simp <;> first | with_reducible rfl | rw [if_neg (by omega)] | rw [if_pos (by omega)])
            (try simp only [PU])
            refine wpAnyH_done (by kernel_rfl) ?_ _
            clear hHeld
            clear MKR3
            go_wp2_with fail
            go_ret
            exact ⟨ret_bool HT.out.symm, hE.trans (by with_reducible repeat (first | exact Ext.refl _ | assumption | refine Ext.drew ?_ | refine Ext.drewN ?_ _ | refine Ext.alloc ?_ _))⟩
        · have HT := Lib.hid (HX.out (fun h => e1 (by rw [h])))
          have fe1 : (x.id == y.id) = false := beq_eq_false_iff_ne.2 e1
          clear HS HX HDD
          go_upto_region 6 with (fail)
          have MKR4 := Lib.hid (fun V (e : Ext wr V) => (⟨e.cell a0, e.cell a1, e.cell a2, e.cell b0, e.cell b1, e.cell b2, e⟩ : V.cell? ⟨ba, oa + k * 3, none⟩ = some (.int .i64 x.id) ∧ V.cell? ⟨ba, oa + k * 3 + 1, none⟩ = some (.int .i64 x.n) ∧ V.cell? ⟨ba, oa + k * 3 + 2, none⟩ = some (.int .i64 x.d) ∧ V.cell? ⟨bb, ob + k * 3, none⟩ = some (.int .i64 y.id) ∧ V.cell? ⟨bb, ob + k * 3 + 1, none⟩ = some (.int .i64 y.n) ∧ V.cell? ⟨bb, ob + k * 3 + 2, none⟩ = some (.int .i64 y.d) ∧ Ext wr V))
          refine wp_region_held_drew (S := (fun V => V.cell? ⟨ba, oa + k * 3, none⟩ = some (.int .i64 x.id) ∧ V.cell? ⟨ba, oa + k * 3 + 1, none⟩ = some (.int .i64 x.n) ∧ V.cell? ⟨ba, oa + k * 3 + 2, none⟩ = some (.int .i64 x.d) ∧ V.cell? ⟨bb, ob + k * 3, none⟩ = some (.int .i64 y.id) ∧ V.cell? ⟨bb, ob + k * 3 + 1, none⟩ = some (.int .i64 y.n) ∧ V.cell? ⟨bb, ob + k * 3 + 2, none⟩ = some (.int .i64 y.d) ∧ Ext wr V)) (by kernel_rfl) ?hs31 (fun hHeld => ?go31)
          case hs31 => (exact MKR4.out _ (by with_reducible repeat (first | exact Ext.refl _ | assumption | refine Ext.drew ?_ | refine Ext.drewN ?_ _ | refine Ext.alloc ?_ _)))
          refine wpAnyH_take (i := 0) (oi := ⟨(some 17), (.move (.tmp 0)), 22, "ref.go:192", #[], none⟩) (v := ?v32) rfl (by kernel_rfl) (by kernel_rfl) (by kernel_rfl) (fun _ _ _ h => h) (Or.inl ⟨rfl, ?hy32⟩) hHeld ?rest32
          case hy32 => (intro w _; go_simp <;> rfl)
          (try simp only [PU])
          refine wpAnyH_take (i := 1) (oi := ⟨(some 18), (.move (.tmp 5)), 3, "ref.go:192", #[], none⟩) (v := ?v33) rfl (by kernel_rfl) (by kernel_rfl) (by kernel_rfl) (fun _ _ _ h => h) (Or.inl ⟨rfl, ?hy33⟩) hHeld ?rest33
          case hy33 => (intro w _; go_simp <;> rfl)
          (try simp only [PU])
          refine wpAnyH_take (i := 2) (oi := ⟨(some 19), (.indexAddr 22 (.tmp 17) (.tmp 18)), 0, "ref.go:192", #[⟨0, .data⟩, ⟨1, .data⟩], none⟩) (v := ?v34) rfl (by kernel_rfl) (by kernel_rfl) (by kernel_rfl) (fun _ _ _ h => h) (Or.inl ⟨rfl, ?hy34⟩) hHeld ?rest34
          case hy34 => (intro w _; go_simp <;> first | with_reducible rfl | rw [if_neg (by omega)] | rw [if_pos (by omega)])
          (try simp only [PU])
          refine wpAnyH_take (i := 3) (oi := ⟨(some 20), (.load 42 (.tmp 19)), 42, "ref.go:192", #[⟨2, .data⟩], none⟩) (v := ?v35) rfl (by kernel_rfl) (by kernel_rfl) (by kernel_rfl) (fun _ _ _ h => h) (Or.inl ⟨rfl, ?hy35⟩) hHeld ?rest35
          case hy35 => (intro w hSw; (try dsimp only at hSw); go_simp <;> first | with_reducible rfl | rw [if_neg (by omega)] | rw [if_pos (by omega)])
          (try simp only [PU])
          refine wpAnyH_take (i := 4) (oi := ⟨(some 21), (.move (.tmp 1)), 22, "ref.go:192", #[], none⟩) (v := ?v36) rfl (by kernel_rfl) (by kernel_rfl) (by kernel_rfl) (fun _ _ _ h => h) (Or.inl ⟨rfl, ?hy36⟩) hHeld ?rest36
          case hy36 => (intro w _; go_simp <;> rfl)
          (try simp only [PU])
          refine wpAnyH_take (i := 5) (oi := ⟨(some 22), (.move (.tmp 5)), 3, "ref.go:192", #[], none⟩) (v := ?v37) rfl (by kernel_rfl) (by kernel_rfl) (by kernel_rfl) (fun _ _ _ h => h) (Or.inl ⟨rfl, ?hy37⟩) hHeld ?rest37
          case hy37 => (intro w _; go_simp <;> rfl)
          (try simp only [PU])
          refine wpAnyH_take (i := 6) (oi := ⟨(some 23), (.indexAddr 22 (.tmp 21) (.tmp 22)), 0, "ref.go:192", #[⟨4, .data⟩, ⟨5, .data⟩], none⟩) (v := ?v38) rfl (by kernel_rfl) (by kernel_rfl) (by kernel_rfl) (fun _ _ _ h => h) (Or.inl ⟨rfl, ?hy38⟩) hHeld ?rest38
          case hy38 => (intro w _; go_simp <;> first | with_reducible rfl | rw [if_neg (by omega)] | rw [if_pos (by omega)])
          (try simp only [PU])
          refine wpAnyH_take (i := 7) (oi := ⟨(some 24), (.load 42 (.tmp 23)), 42, "ref.go:192", #[⟨6, .data⟩], none⟩) (v := ?v39) rfl (by kernel_rfl) (by kernel_rfl) (by kernel_rfl) (fun _ _ _ h => h) (Or.inl ⟨rfl, ?hy39⟩) hHeld ?rest39
          case hy39 => (intro w hSw; (try dsimp only at hSw); go_simp <;> first | with_reducible rfl | rw [if_neg (by omega)] | rw [if_pos (by omega)])
          (try simp only [PU])
          refine wpAnyH_take (i := 8) (oi := ⟨(some 25), (.binOp .neq 42 (.tmp 20) (.tmp 24) 42), 4, "ref.go:192", #[⟨3, .data⟩, ⟨7, .data⟩], none⟩) (v := ?v40) rfl (by kernel_rfl) (by kernel_rfl) (by kernel_rfl) (fun _ _ _ h => h) (Or.inl ⟨rfl, ?hy40⟩) hHeld ?rest40
          case hy40 => (intro w _; go_simp <;> first | with_reducible rfl | rw [if_neg (by omega)] | rw [if_pos (by omega)])
          (try simp only [PU])
          refine wpAnyH_done (by kernel_rfl) ?_ _
          clear hHeld
          clear MKR4
          go_wp2_with fail
          go_ret
          exact ⟨ret_bool HT.out.symm, hE.trans (by with_reducible repeat (first | exact Ext.refl _ | assumption | refine Ext.drew ?_ | refine Ext.drewN ?_ _ | refine Ext.alloc ?_ _))⟩
      · have HT := Lib.hid (HYE.out (same_shs HLEN.out (fun t ht => hgd.out t (by omega))))
        clear HNO HYE hgd
        go_wp2_with fail
        go_ret
        exact ⟨ret_bool HT.out.symm, hE⟩
  · have HT := Lib.hid (HNO.out (fun h => hlen (by rw [h])))
    have hne : ((a.length : Int) != (b.length : Int)) = true := by rw [bne_iff_ne]; omega
    clear HYE HNO hlen
    go_enter Tryd.func21, Tryd.ntmps21
    go_wp2_with fail
    go_ret
    exact ⟨ret_bool HT.out.symm, Ext.refl _⟩
end Go.Proofs.YtlkpmbkmmfoakaaDoor

/- THE WALKS over Start. -/
namespace Go.Proofs.YtlkpmbkmmfoakaaDoor
open Go.RowKit
theorem start_snoc (l : List NodeG) (n : Int) (k : Nat) (h : k < l.length) : ((l.take (k + 1)).map (fun x => (⟨x.id, 1, n⟩ : Sh))).flatMap Sh.cells = ((l.take k).map (fun x => (⟨x.id, 1, n⟩ : Sh))).flatMap Sh.cells ++ [.int .i64 l[k]!.id, .int .i64 1, .int .i64 n] := by
  rw [List.take_succ_eq_append_getElem h, List.map_append, List.flatMap_append, getElem!_pos l k h]; rfl
theorem startR_ok {g : GraphG} (h : chkG g = 0) : startR g = g.nodes.map (fun x => ⟨x.id, 1, (g.nodes.length : Int)⟩) := by unfold startR; rw [if_pos h]
theorem startR_no {g : GraphG} (h : chkG g ≠ 0) : startR g = [] := by unfold startR; rw [if_neg h]
theorem chkG_len {g : GraphG} (h : chkG g = 0) : g.nodes.length ≤ 2000 ∧ g.edges.length ≤ 4000 := by
  unfold chkG at h
  split at h
  · rename_i h1
    unfold headE at h1
    split at h1
    · cases h1
    · rename_i h2; omega
  · rename_i h1; exact absurd h h1
set_option maxRecDepth 100000 in
set_option maxHeartbeats 1600000 in
theorem rk_Start (g : GraphG) (ok : Nat → Prop) (A B : Option Addr) (c d : Nat) (w : World) (hg : GraphAt w ok A B g) :
    Calls Tryd.prog 19 #[.agg #[.slice A g.nodes.length c, .slice B g.edges.length d, .int .i64 g.nn, .int .i64 g.ne]] w fun e w' => ∃ A' c', e = .returned (.slice A' (startR g).length c') ∧ (startR g).length ≤ c' ∧ Shares w' (fun b => w.heap.size ≤ b) A' (startR g) ∧ Ext w w' := by
  obtain ⟨q, w1, hq, hw1, g0, g1, g2, g3, hx1⟩ := box_graph w A B c d g 34
  have HW1 := Lib.hid hw1
  have HG := Lib.hid hq
  have HC := Lib.hid (fun W (e : Ext w W) => gr_Check g ok A B c d W (hg.ext e))
  have HN := Lib.hid (hg.nodes.ext hx1)
  have hle1 : w.heap.size ≤ w1.heap.size := hx1.le
  by_cases h0 : chkG g = 0
  · rw [h0] at HC
    obtain ⟨hn, -⟩ := chkG_len h0
    have HR := Lib.hid (startR_ok h0)
    have HSN := Lib.hid (start_snoc g.nodes (g.nodes.length : Int))
    have HS0 := Lib.hid (fun W => World.ownsRow_nil W w1.heap.size 42 3)
    have h2 : (0 : Int) ≠ 0 → False := fun h => h rfl
    clear hw1 hq hg h0 h2
    go_enter Tryd.func19, Tryd.ntmps19
    go_upto_region 1 with (fail)
    rw [← HW1.out, ← HG.out]
    clear HW1 HG
    go_wp2_with (go_at_call 34; ((with_reducible refine (HC.out _ hx1).mono ?_); rintro e w2 ⟨rfl, hx2⟩; have k0 := hx2.cell g0; have k1 := hx2.cell g1; have k2 := hx2.cell g2; have k3 := hx2.cell g3))
    have hE0 := hx2
    go_loopw [3, 12] (fun v u W => ∃ k : Nat, u = .int .i64 k ∧ k ≤ g.nodes.length ∧ Hid (W.ownsRow w1.heap.size 42 3 v k (((g.nodes.take k).map (fun x => (⟨x.id, 1, (g.nodes.length : Int)⟩ : Sh))).flatMap Sh.cells)) ∧ Hid (Ext w1 W)) (fun _ u _ => g.nodes.length - (intOf u).toNat)
    case atStart => exact ⟨0, rfl, Nat.zero_le _, Lib.hid (HS0.out _), Lib.hid hE0⟩
    case round =>
      clear HS0 k0 k1 k2 k3 hE0
      obtain ⟨k, rfl, hk, hown, hE⟩ := hrel
      have k0 := hE.out.cell g0
      have k1 := hE.out.cell g1
      have k2 := hE.out.cell g2
      have k3 := hE.out.cell g3
      by_cases hlt : k < g.nodes.length
      · obtain ⟨b, o, rfl, hc⟩ := HN.out.at_ hlt
        obtain ⟨-, d0, A', c', B', d', d1, -, -, d2, -, -⟩ := hc k hlt
        have D0 := Lib.hid d0
        replace d0 := hE.out.cell d0
        replace d1 := hE.out.cell d1
        replace d2 := hE.out.cell d2
        have MK1 := Lib.hid (fun V (e : Ext wr V) => (⟨e.cell k0, e.cell d0, hE.out.trans e⟩ : V.cell? ⟨q, 0, none⟩ = some (.slice (some ⟨b, o, none⟩) g.nodes.length c) ∧ V.cell? ⟨b, o + k * 3, none⟩ = some (.int .i64 g.nodes[k]!.id) ∧ Ext w1 V))
        have HS := Lib.hid (HSN.out k hlt)
        clear hc HSN
        generalize g.nodes[k]! = x at *
        have hown' := hown.out
        have hE' := hE.out
        have hkb : k + 1 ≤ 8388608 := by omega
        clear hown hE
        obtain ⟨q2, w3, hq2, hw3, n0, n1, n2, hx3⟩ := box_node wr x.id A' B' x.labels.length c' x.props.length d' 45
        have HW3 := Lib.hid hw3
        have HQ3 := Lib.hid hq2
        have j0 := hx3.cell k0
        clear hw3 hq2
        go_upto_region 7 with (fail)
        rw [← HW3.out, ← HQ3.out]
        clear HW3 HQ3 k0 k1 k2 k3
        have hown3 := own_ext hown' hx3
        have hE3 := hE'.trans hx3
        go_wp2_with (at_builtin; refine own_pushF El_share rfl (.tmp 16) (.tmp 24) rfl w1 w3 _ k _ [.int .i64 x.id, .int .i64 1, .int .i64 (g.nodes.length : Int)] rfl hown3 hE3 rfl rfl rfl (by simp [Value.oneCell']) hkb (by decide) ?_; intro v2 w9 hown2 HE9x hF9; clear hF9)
        have HO2 := Lib.hid (show w9.ownsRow w1.heap.size 42 3 v2 (k + 1) (((g.nodes.take (k + 1)).map (fun x => (⟨x.id, 1, (g.nodes.length : Int)⟩ : Sh))).flatMap Sh.cells) by rw [HS.out]; exact hown2)
        have HE9 := Lib.hid HE9x
        go_roundw
        case rel => exact ⟨k + 1, by go_num, by omega, HO2, HE9⟩
        case measure => simp [intOf]; omega
      · obtain ⟨A9, c9, rfl, h9, hS9⟩ := shares_of_own (l := startR g) (by rw [HR.out]; have := hown.out; rwa [List.take_of_length_le (by omega)] at this) (by rw [HR.out, List.length_map]; omega) (by rw [HR.out, List.length_map]; omega)
        have hE' := hE.out
        clear hown hE HR
        go_wp2_with fail
        go_ret
        exact ⟨A9, c9, rfl, h9, hS9.keep (fun _ _ _ hb hc => ⟨hc, Nat.le_trans hle1 hb⟩), hx1.trans hE'⟩
  · have hz : (chkG g != 0) = true := bne_iff_ne.2 h0
    have HR := Lib.hid (startR_no h0)
    generalize chkG g = z at *
    clear hw1 hq hg h0
    rw [HR.out]
    go_enter Tryd.func19, Tryd.ntmps19
    go_upto_region 1 with (fail)
    rw [← HW1.out, ← HG.out]
    clear HW1 HG
    go_wp2_with (go_at_call 34; ((with_reducible refine (HC.out _ hx1).mono ?_); rintro e w2 ⟨rfl, hx2⟩))
    go_ret
    exact ⟨none, 0, rfl, Nat.le_refl _, SliceR.nil _ _ _, hx1.trans hx2⟩
end Go.Proofs.YtlkpmbkmmfoakaaDoor

/- ONE STEP, plain; the walks over the reference's rest and in. -/
namespace Go.Proofs.YtlkpmbkmmfoakaaDoor
open Go.RowKit
theorem frozen_ext {a b : World} (e : Ext a b) {p : Addr} {v : Value} (hc : a.cell? p = some v) (hf : a.frozen? p = false) : b.frozen? p = false := (frozen_heap (a := a) (e.block _ (block_lt_of_cell hc))).trans hf
def restStep (d : Int → Nat) (a : Option Fr) (x : Sh) : Option Fr := if d x.id = 0 then a.bind (fun s => addO s (x.n, x.d)) else a
/-- the sum of the shares of the nodes that no edge leaves -/
def restO (d : Int → Nat) (l : List Sh) : Option Fr := l.foldl (restStep d) (some (0, 1))
theorem restO_snoc (d : Int → Nat) (l : List Sh) (k : Nat) (h : k < l.length) : restO d (l.take (k + 1)) = restStep d (restO d (l.take k)) l[k]! := by
  unfold restO
  rw [List.take_succ_eq_append_getElem h, List.foldl_append, getElem!_pos l k h]; rfl
theorem restStep_none (d : Int → Nat) (x : Sh) : restStep d none x = none := by unfold restStep; split <;> rfl
theorem restO_none {d : Int → Nat} {l : List Sh} {k : Nat} (h : restO d (l.take k) = none) : restO d l = none := by
  have : ∀ l' : List Sh, l'.foldl (restStep d) none = none := fun l' => by
    induction l' with
    | nil => rfl
    | cons x r ih => rw [List.foldl_cons, restStep_none]; exact ih
  unfold restO at *
  rw [← List.take_append_drop k l, List.foldl_append, h]; exact this _
def restV (d : Int → Nat) (l : List Sh) (n : Int) : Option Fr := (restO d l).bind (fun s => divO s (n, 1))
def inStep (types : List ByteArray) (d : Int → Nat) (l : List Sh) (id : Int) (a : Option Fr) (e : EdgeG) : Option Fr :=
  if e.to_ = id ∧ typB types e.typ = true then a.bind (fun s => (divO (shareOf l e.frm) ((d e.frm : Int), 1)).bind (fun q => addO s q)) else a
/-- what a node gets by its edges -/
def inO (types : List ByteArray) (d : Int → Nat) (l : List Sh) (E : List EdgeG) (id : Int) : Option Fr := E.foldl (inStep types d l id) (some (0, 1))
theorem inO_snoc (types : List ByteArray) (d : Int → Nat) (l : List Sh) (E : List EdgeG) (id : Int) (k : Nat) (h : k < E.length) : inO types d l (E.take (k + 1)) id = inStep types d l id (inO types d l (E.take k) id) E[k]! := by
  unfold inO
  rw [List.take_succ_eq_append_getElem h, List.foldl_append, getElem!_pos E k h]; rfl
theorem inStep_none (types : List ByteArray) (d : Int → Nat) (l : List Sh) (id : Int) (e : EdgeG) : inStep types d l id none e = none := by unfold inStep; split <;> rfl
theorem inO_none {types : List ByteArray} {d : Int → Nat} {l : List Sh} {E : List EdgeG} {id : Int} {k : Nat} (h : inO types d l (E.take k) id = none) : inO types d l E id = none := by
  have : ∀ l' : List EdgeG, l'.foldl (inStep types d l id) none = none := fun l' => by
    induction l' with
    | nil => rfl
    | cons x r ih => rw [List.foldl_cons, inStep_none]; exact ih
  unfold inO at *
  rw [← List.take_append_drop k E, List.foldl_append, h]; exact this _
/-- what a function of a fraction and a Boolean tells -/
def TellsO (V : Option Fr) (w : World) (e : Ending) (w' : World) : Prop := (∃ a b : Int, e = .returned (.tuple #[.agg #[.int .i64 a, .int .i64 b], .bool V.isSome]) ∧ ∀ f, V = some f → f = (a, b)) ∧ Ext w w'
theorem addO_of (a b : Fr) : (addS a.1 a.2 b.1 b.2).2.2 = (addO a b).isSome ∧ ∀ f, addO a b = some f → f = ((addS a.1 a.2 b.1 b.2).1, (addS a.1 a.2 b.1 b.2).2.1) := by
  unfold addO; split <;> simp_all
theorem subO_of (a b : Fr) : (subS a.1 a.2 b.1 b.2).2.2 = (subO a b).isSome ∧ ∀ f, subO a b = some f → f = ((subS a.1 a.2 b.1 b.2).1, (subS a.1 a.2 b.1 b.2).2.1) := by
  unfold subO; split <;> simp_all
theorem divO_of (a b : Fr) : (divS a.1 a.2 b.1 b.2).2.2 = (divO a b).isSome ∧ ∀ f, divO a b = some f → f = ((divS a.1 a.2 b.1 b.2).1, (divS a.1 a.2 b.1 b.2).2.1) := by
  unfold divO; split <;> simp_all
theorem q3_Sub (a b : Fr) (w : World) : Calls Tryd.prog 14 #[.agg #[.int .i64 a.1, .int .i64 a.2], .agg #[.int .i64 b.1, .int .i64 b.2]] w (TellsO (subO a b) w) :=
  (r3_Sub a.1 a.2 b.1 b.2 w).mono fun _ _ ⟨h1, h2⟩ => ⟨⟨_, _, by rw [h1, (subO_of a b).1], (subO_of a b).2⟩, of_below h2⟩
theorem q3_Div (a b : Fr) (w : World) : Calls Tryd.prog 15 #[.agg #[.int .i64 a.1, .int .i64 a.2], .agg #[.int .i64 b.1, .int .i64 b.2]] w (TellsO (divO a b) w) :=
  (r3_Div a.1 a.2 b.1 b.2 w).mono fun _ _ ⟨h1, h2⟩ => ⟨⟨_, _, by rw [h1, (divO_of a b).1], (divO_of a b).2⟩, of_below h2⟩
end Go.Proofs.YtlkpmbkmmfoakaaDoor

/- THE WALK over the reference's in: what a node gets by its edges. -/
namespace Go.Proofs.YtlkpmbkmmfoakaaDoor
open Go.RowKit
theorem box_frac (w : World) (a b : Int) (t : TypeId) : ∃ (q : Nat) (w1 : World), q = w.heap.size ∧ w1 = w.alloc (.cells #[.int .i64 a, .int .i64 b] t) ∧ w1.cell? ⟨q, 0, none⟩ = some (.int .i64 a) ∧ w1.cell? ⟨q, 1, none⟩ = some (.int .i64 b) ∧ w1.frozen? ⟨q, 0, none⟩ = false ∧ w1.frozen? ⟨q, 1, none⟩ = false ∧ Ext w w1 :=
  ⟨_, _, rfl, rfl, by go_simp, by go_simp, by go_simp, by go_simp, (Ext.refl _).alloc _⟩
end Go.Proofs.YtlkpmbkmmfoakaaDoor

/- A DRAWN REGION THAT READS CELLS FIRST AND WRITES THEM LATER: what the reads need is kept only until operation E comes up. -/
namespace Go.Proofs.YtlkpmbkmmfoakaaDoor
open Go.RowKit
section
variable {P : Program} {ops : Array Oper} {Q : Exit → Act → World → Prop} {md : Region.Mode} {S : World → Prop} {E : Nat}
/-- any order; S holds behind each operation that comes up ahead of E -/
def AnyE (P : Program) (md : Region.Mode) (ops : Array Oper) (Q : Exit → Act → World → Prop) (S : World → Prop) (E : Nat) : Nat → Array Bool → Act → World → Prop
  | 0, l, a, w => Region.ready md ops l = [] ∧ Q .normal a w
  | f + 1, l, a, w => (Region.ready md ops l = [] → Q .normal a w) ∧
    ∀ i ∈ Region.ready md ops l, wpOp P ops Q i (fun a' w' => ((l.setIfInBounds i true).getD E false = false → S w') ∧ AnyE P md ops Q S E f (l.setIfInBounds i true) a' w') a w
theorem AnyE.any : ∀ (f : Nat) (l : Array Bool) (a : Act) (w : World), AnyE P md ops Q S E f l a w → wpAny P md ops Q f l a w
  | 0, _, _, _, h => h
  | f + 1, _, _, _, h => ⟨h.1, fun i hi => wpOp_mono (fun a' w' hk => AnyE.any f _ a' w' hk.2) (h.2 i hi)⟩
theorem AnyE.start {id : Nat} {a : Act} {w : World} (hm : P.follows .mixedOrders = true) (hS : S w.drew) (h : S w.drew → AnyE P .any ops Q S E ops.size (Array.replicate ops.size false) a w.drew) : (Code.region id ops true).wp P Q a w :=
  wp_region_any hm (AnyE.any _ _ _ _ (h hS))
theorem AnyE.done {l : Array Bool} {a : Act} {w : World} (hr : Region.ready md ops l = []) (h : Q .normal a w) : ∀ f, AnyE P md ops Q S E f l a w
  | 0 => ⟨hr, h⟩
  | _ + 1 => ⟨fun _ => h, fun i hi => by rw [hr] at hi; cases hi⟩
/-- does E wait for i -/
def waitsOn (md : Region.Mode) (ops : Array Oper) (E i : Nat) : Bool := match ops[E]? with
  | some o => o.after.any (fun e => Region.binds md e && e.on == i)
  | none => false
theorem AnyE.first {i : Nat} {oi : Oper} {v : Value} (hi : ops[i]? = some oi) (hs : Region.noSelect ops = true) (hQ : ∀ c a w, Q (.panic c) (a.put oi.dst v) w → Q (.panic c) a w) (hE : waitsOn md ops E i = true) (hne : i ≠ E) (hlE : ∀ l : Array Bool, l.getD i true = false → E ∈ Region.ready md ops l → False) :
    ∀ (f : Nat) (l : Array Bool) (a : Act) (w : World), (∀ j oj, ops[j]? = some oj → j ≠ i → l.getD j true = false → (∀ e ∈ oj.after, Region.binds md e = true → e.on ≠ i) → oi.apart ops oj = true) →
      i ∈ Region.ready md ops l → l.getD E false = false → YieldsIf P ops S oi v a → S w → AnyE P md ops Q S E f (l.setIfInBounds i true) (a.put oi.dst v) w → AnyE P md ops Q S E (f + 1) l a w := by
  intro f
  induction f with
  | zero =>
    intro l a w _ hr _ hy hS H
    refine ⟨fun h => absurd hr (by rw [h]; exact List.not_mem_nil), fun j hj => ?_⟩
    rcases Nat.decEq j i with hji | hji
    · have hk := ready_mono hj hji
      rw [H.1] at hk
      exact absurd hk List.not_mem_nil
    · subst hji
      exact hy.wpOp hi hS ⟨fun _ => hS, H⟩
  | succ f ih =>
    intro l a w hfree hr hlf hy hS H
    refine ⟨fun h => absurd hr (by rw [h]; exact List.not_mem_nil), fun j hj => ?_⟩
    rcases Nat.decEq j i with hji | hji
    · have hun := (mem_ready.1 hr).1
      have hjE : j ≠ E := fun e => hlE l hun (e ▸ hj)
      obtain ⟨hjun, oj, hoj, hall⟩ := mem_ready.1 hj
      have hno : ∀ e ∈ oj.after, Region.binds md e = true → e.on ≠ i := fun e he hb heq => by
        have h1 := hall e he hb
        rw [heq] at h1
        rcases Nat.lt_or_ge i l.size with hlt | hge
        · simp [hlt] at hun h1
          exact Bool.noConfusion (hun.symm.trans h1)
        · simp [Array.getElem?_eq_none hge] at h1
      have h2 := wpOp_putIf hoj (hfree j oj hoj hji hjun hno) (fun cs b => Region.noSelect_spec hs i oi cs b hi) (fun cs b => Region.noSelect_spec hs j oj cs b hoj) hQ hy (H.2 j (ready_mono hj hji))
      refine wpOp_mono (fun a' w' hk => ?_) h2
      have hS' : S w' := hk.2.1 (by rw [getD_set_ne false hjE, getD_set_ne false hne]; exact hlf)
      refine ⟨fun _ => hS', ih (l.setIfInBounds j true) a' w' (fun k ok hok hki hunk hnok => ?_) (ready_mono hr (fun e => hji e.symm)) (by rw [getD_set_ne false hjE]; exact hlf) hk.1 hS' ?_⟩
      · refine hfree k ok hok hki ?_ hnok
        rcases Nat.decEq j k with hjk | hjk
        · rw [getD_set_ne true hjk] at hunk; exact hunk
        · subst hjk; exact hjun
      · rw [Array.setIfInBounds_comm _ _ hji]
        exact hk.2.2
    · subst hji
      exact hy.wpOp hi hS ⟨fun _ => hS, H⟩
theorem AnyE.firstP {i : Nat} {oi : Oper} {v : Value} (hi : ops[i]? = some oi) (hs : Region.noSelect ops = true) (hQ : ∀ c a w, Q (.panic c) (a.put oi.dst v) w → Q (.panic c) a w) (hne : i ≠ E) :
    ∀ (f : Nat) (l : Array Bool) (a : Act) (w : World), (∀ j oj, ops[j]? = some oj → j ≠ i → l.getD j true = false → (∀ e ∈ oj.after, Region.binds md e = true → e.on ≠ i) → oi.apart ops oj = true) →
      i ∈ Region.ready md ops l → YieldsIf P ops (fun _ => True) oi v a → (l.getD E false = false → S w) → AnyE P md ops Q S E f (l.setIfInBounds i true) (a.put oi.dst v) w → AnyE P md ops Q S E (f + 1) l a w := by
  intro f
  induction f with
  | zero =>
    intro l a w _ hr hy hS H
    refine ⟨fun h => absurd hr (by rw [h]; exact List.not_mem_nil), fun j hj => ?_⟩
    rcases Nat.decEq j i with hji | hji
    · have hk := ready_mono hj hji
      rw [H.1] at hk
      exact absurd hk List.not_mem_nil
    · subst hji
      exact hy.wpOp hi trivial ⟨fun h => hS (by rw [getD_set_ne false hne] at h; exact h), H⟩
  | succ f ih =>
    intro l a w hfree hr hy hS H
    refine ⟨fun h => absurd hr (by rw [h]; exact List.not_mem_nil), fun j hj => ?_⟩
    rcases Nat.decEq j i with hji | hji
    · have hun := (mem_ready.1 hr).1
      obtain ⟨hjun, oj, hoj, hall⟩ := mem_ready.1 hj
      have hno : ∀ e ∈ oj.after, Region.binds md e = true → e.on ≠ i := fun e he hb heq => by
        have h1 := hall e he hb
        rw [heq] at h1
        rcases Nat.lt_or_ge i l.size with hlt | hge
        · simp [hlt] at hun h1
          exact Bool.noConfusion (hun.symm.trans h1)
        · simp [Array.getElem?_eq_none hge] at h1
      have h2 := wpOp_putIf hoj (hfree j oj hoj hji hjun hno) (fun cs b => Region.noSelect_spec hs i oi cs b hi) (fun cs b => Region.noSelect_spec hs j oj cs b hoj) hQ hy (H.2 j (ready_mono hj hji))
      refine wpOp_mono (fun a' w' hk => ?_) h2
      have hS' : (l.setIfInBounds j true).getD E false = false → S w' := fun h => hk.2.1 (by rw [Array.setIfInBounds_comm _ _ (fun e => hji e.symm), getD_set_ne false hne]; exact h)
      refine ⟨hS', ih (l.setIfInBounds j true) a' w' (fun k ok hok hki hunk hnok => ?_) (ready_mono hr (fun e => hji e.symm)) hk.1 hS' ?_⟩
      · refine hfree k ok hok hki ?_ hnok
        rcases Nat.decEq j k with hjk | hjk
        · rw [getD_set_ne true hjk] at hunk; exact hunk
        · subst hjk; exact hjun
      · rw [Array.setIfInBounds_comm _ _ hji]
        exact hk.2.2
    · subst hji
      exact hy.wpOp hi trivial ⟨fun h => hS (by rw [getD_set_ne false hne] at h; exact h), H⟩
theorem waits_not {i : Nat} (h : waitsOn md ops E i = true) : ∀ l : Array Bool, l.getD i true = false → E ∈ Region.ready md ops l → False := fun l hl hr => by
  obtain ⟨-, o, ho, hall⟩ := mem_ready.1 hr
  unfold waitsOn at h
  rw [ho] at h
  obtain ⟨k, hk, he⟩ := Array.any_eq_true.1 h
  rw [Bool.and_eq_true] at he
  have h1 := hall o.after[k] (Array.getElem_mem hk) he.1
  rw [show o.after[k].on = i by simpa using he.2] at h1
  rcases Nat.lt_or_ge i l.size with hlt | hge
  · simp [hlt] at hl h1
    exact Bool.noConfusion (hl.symm.trans h1)
  · simp [Array.getElem?_eq_none hge] at h1
theorem AnyE.take {i : Nat} {oi : Oper} {v : Value} {f : Nat} {l : Array Bool} {a : Act} {w : World} (hi : ops[i]? = some oi) (hs : Region.noSelect ops = true) (hf : Region.free md ops l i = true) (hr : (Region.ready md ops l).contains i = true)
    (hQ : ∀ c a w, Q (.panic c) (a.put oi.dst v) w → Q (.panic c) a w) (hE : waitsOn md ops E i = true) (hne : (i == E) = false) (hl : l.getD E false = false) (hy : YieldsIf P ops S oi v a) (hS : S w)
    (h : AnyE P md ops Q S E f (l.setIfInBounds i true) (a.put oi.dst v) w) : AnyE P md ops Q S E (f + 1) l a w :=
  AnyE.first hi hs hQ hE (by simpa using hne) (waits_not hE) f l a w (Region.free_spec hi hf) (by simpa using hr) hl hy hS h
theorem AnyE.takeP {i : Nat} {oi : Oper} {v : Value} {f : Nat} {l : Array Bool} {a : Act} {w : World} (hi : ops[i]? = some oi) (hs : Region.noSelect ops = true) (hf : Region.free md ops l i = true) (hr : (Region.ready md ops l).contains i = true)
    (hQ : ∀ c a w, Q (.panic c) (a.put oi.dst v) w → Q (.panic c) a w) (hne : (i == E) = false) (hy : YieldsIf P ops (fun _ => True) oi v a) (hS : l.getD E false = false → S w)
    (h : AnyE P md ops Q S E f (l.setIfInBounds i true) (a.put oi.dst v) w) : AnyE P md ops Q S E (f + 1) l a w :=
  AnyE.firstP hi hs hQ (by simpa using hne) f l a w (Region.free_spec hi hf) (by simpa using hr) hy hS h
/-- each of those that may come up -/
def AllE (P : Program) (md : Region.Mode) (ops : Array Oper) (Q : Exit → Act → World → Prop) (S : World → Prop) (E : Nat) (f : Nat) (l : Array Bool) (a : Act) (w : World) (rs : List Nat) : Prop :=
  ∀ i ∈ rs, wpOp P ops Q i (fun a' w' => ((l.setIfInBounds i true).getD E false = false → S w') ∧ AnyE P md ops Q S E f (l.setIfInBounds i true) a' w') a w
theorem AllE.nil {f : Nat} {l : Array Bool} {a : Act} {w : World} : AllE P md ops Q S E f l a w [] := fun _ h => absurd h List.not_mem_nil
theorem AllE.cons {f : Nat} {l : Array Bool} {a : Act} {w : World} {i : Nat} {o : Oper} {rs : List Nat} (ho : ops[i]? = some o)
    (h : ∀ K : Act → World → Prop, Shut (∀ a w, ((l.setIfInBounds i true).getD E false = false → S w) → (((l.setIfInBounds i true).getD E false = false → S w) → AnyE P md ops Q S E f (l.setIfInBounds i true) a w) → K a w) → if Region.wanted o (yielded ops a.tmps) = true then Oper.wp P o a w K Q else K (a.put o.dst undef) w)
    (hs : AllE P md ops Q S E f l a w rs) : AllE P md ops Q S E f l a w (i :: rs) := fun j hj => by
  rcases List.mem_cons.1 hj with rfl | hj
  · exact wpOp_step ho (fun K hK => h K (fun a w h1 h2 => hK a w ⟨h1, h2 h1⟩))
  · exact hs j hj
theorem AnyE.ready {rs : List Nat} {f : Nat} {l : Array Bool} {a : Act} {w : World} (hr : Region.ready md ops l = rs) (hne : rs ≠ []) (h : AllE P md ops Q S E f l a w rs) : AnyE P md ops Q S E (f + 1) l a w := by
  subst hr
  exact ⟨fun e => absurd e hne, h⟩
end
end Go.Proofs.YtlkpmbkmmfoakaaDoor

/- A STEP, plain; the walk over the reference's Step. -/
namespace Go.Proofs.YtlkpmbkmmfoakaaDoor
open Go.RowKit
def outsStep (f : Sh → Option Sh) (a : Option (List Sh)) (x : Sh) : Option (List Sh) := a.bind (fun O => (f x).map (fun y => O ++ [y]))
def outsO (f : Sh → Option Sh) (l : List Sh) : Option (List Sh) := l.foldl (outsStep f) (some [])
theorem outsO_snoc (f : Sh → Option Sh) (l : List Sh) (k : Nat) (h : k < l.length) : outsO f (l.take (k + 1)) = outsStep f (outsO f (l.take k)) l[k]! := by
  unfold outsO
  rw [List.take_succ_eq_append_getElem h, List.foldl_append, getElem!_pos l k h]; rfl
theorem outsO_none {f : Sh → Option Sh} {l : List Sh} {k : Nat} (h : outsO f (l.take k) = none) : outsO f l = none := by
  have : ∀ l' : List Sh, l'.foldl (outsStep f) none = none := fun l' => by
    induction l' with
    | nil => rfl
    | cons x r ih => rw [List.foldl_cons]; exact ih
  unfold outsO at *
  rw [← List.take_append_drop k l, List.foldl_append, h]; exact this _
/-- what a share becomes -/
def outF (inV : Option Fr) (r b damp : Fr) : Option Fr := inV.bind (fun x => (addO x r).bind (fun y => (mulO damp y).bind (fun z => addO b z)))
/-- a step's shares, where all of them are in range -/
def stepR (types : List ByteArray) (E : List EdgeG) (damp : Fr) (l : List Sh) (nn : Int) : Option (List Sh) :=
  (restV (fun i => degN types E i) l nn).bind (fun r => ((subO (1, 1) damp).bind (fun x => divO x ((l.length : Int), 1))).bind (fun b => outsO (fun s => (outF (inO types (fun i => degN types E i) l E s.id) r b damp).map (fun f => (⟨s.id, f.1, f.2⟩ : Sh))) l))
def stepP (g : GraphG) (types : List ByteArray) (damp : Fr) (l : List Sh) : List Sh × Int :=
  if chkG g = 0 then (if dampB damp && fitsB g l then (if l.length = 0 then ([], 0) else match stepR types g.edges damp l (g.nodes.length : Int) with | some o => (o, 0) | none => ([], 24)) else ([], 1)) else ([], chkG g)
theorem stepP_err {g : GraphG} {types : List ByteArray} {damp : Fr} {l : List Sh} (h : chkG g ≠ 0) : stepP g types damp l = ([], chkG g) := by unfold stepP; rw [if_neg h]
theorem stepP_arg {g : GraphG} {types : List ByteArray} {damp : Fr} {l : List Sh} (h : chkG g = 0) (h1 : (dampB damp && fitsB g l) = false) : stepP g types damp l = ([], 1) := by unfold stepP; rw [if_pos h, h1]; rfl
theorem stepP_nil {g : GraphG} {types : List ByteArray} {damp : Fr} {l : List Sh} (h : chkG g = 0) (h1 : (dampB damp && fitsB g l) = true) (h2 : l.length = 0) : stepP g types damp l = ([], 0) := by unfold stepP; rw [if_pos h, h1, if_pos rfl, if_pos h2]
theorem stepP_on {g : GraphG} {types : List ByteArray} {damp : Fr} {l : List Sh} (h : chkG g = 0) (h1 : (dampB damp && fitsB g l) = true) (h2 : l.length ≠ 0) : stepP g types damp l = match stepR types g.edges damp l (g.nodes.length : Int) with | some o => (o, 0) | none => ([], 24) := by unfold stepP; rw [if_pos h, h1, if_pos rfl, if_neg h2]
def outFn (types : List ByteArray) (E : List EdgeG) (l : List Sh) (r b damp : Fr) : Sh → Option Sh := fun s => (outF (inO types (fun i => degN types E i) l E s.id) r b damp).map (fun f => (⟨s.id, f.1, f.2⟩ : Sh))
theorem outs_next {types : List ByteArray} {E : List EdgeG} {l O : List Sh} {r b damp f : Fr} {k : Nat} (hO : outsO (outFn types E l r b damp) (l.take k) = some O) (hk : k < l.length) (h : outF (inO types (fun i => degN types E i) l E l[k]!.id) r b damp = some f) : outsO (outFn types E l r b damp) (l.take (k + 1)) = some (O ++ [⟨l[k]!.id, f.1, f.2⟩]) := by
  rw [outsO_snoc _ _ _ hk, hO]; unfold outsStep outFn; rw [Option.bind_some, h]; rfl
/-- what a function of shares and an error number tells -/
def ShErr (P : List Sh × Int) (w : World) (e : Ending) (w' : World) : Prop := (∃ A' c', e = .returned (.tuple #[.slice A' P.1.length c', .int .i64 P.2]) ∧ P.1.length ≤ c' ∧ Shares w' (fun b => w.heap.size ≤ b) A' P.1) ∧ Ext w w'
theorem shErr_nil (z : Int) (w w' : World) (h : Ext w w') : ShErr ([], z) w (.returned (.tuple #[.slice none 0 0, .int .i64 z])) w' := ⟨⟨none, 0, rfl, Nat.le_refl _, SliceR.nil _ _ _⟩, h⟩
theorem box_gf (w : World) (A B : Option Addr) (c d : Nat) (g : GraphG) (f : Fr) (t t' : TypeId) : ∃ (q : Nat) (w1 : World), q = w.heap.size ∧ w1 = (w.alloc (.cells #[.slice A g.nodes.length c, .slice B g.edges.length d, .int .i64 g.nn, .int .i64 g.ne] t)).alloc (.cells #[.int .i64 f.1, .int .i64 f.2] t') ∧ w1.cell? ⟨q, 0, none⟩ = some (.slice A g.nodes.length c) ∧ w1.cell? ⟨q, 1, none⟩ = some (.slice B g.edges.length d) ∧ w1.cell? ⟨q, 2, none⟩ = some (.int .i64 g.nn) ∧ w1.cell? ⟨q, 3, none⟩ = some (.int .i64 g.ne) ∧ w1.cell? ⟨q + 1, 0, none⟩ = some (.int .i64 f.1) ∧ w1.cell? ⟨q + 1, 1, none⟩ = some (.int .i64 f.2) ∧ Ext w w1 :=
  ⟨_, _, rfl, rfl, by go_simp, by go_simp, by go_simp, by go_simp, by go_simp, by go_simp, ((Ext.refl _).alloc _).alloc _⟩
end Go.Proofs.YtlkpmbkmmfoakaaDoor
