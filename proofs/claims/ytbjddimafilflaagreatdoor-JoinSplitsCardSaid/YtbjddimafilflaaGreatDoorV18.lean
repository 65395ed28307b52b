/- PARTS OF THE WALKS, joined: Jl, Jm, Kf, Jn. -/
import Derived.Test.YtbjddimafilflaaGreatDoorV17
/- THE WALKS over joiner.pairs and joiner.natural. -/
namespace Go.Proofs.YtbjddimafilflaaGreatDoor
open Go.RowKit Go.Sort
def keyP (L : List Nat) (r : List Val) : List Val := partJ r L
theorem natP_len (K K' G : List Val → List Val) (x y : List (List Val)) : (natP K K' G x y).length ≤ x.length * y.length :=
  flatMap_len _ _ _ (fun _ _ => by rw [List.length_map]; exact List.length_filter_le _ _)
theorem keys_lt {k : List Val} {R : List Nat} {s0 : List Val} {ys : List (List Val)} (hs : (s0 :: ys).Pairwise (fun r s => keyC R r s ≤ 0)) (h : ordL k (partJ s0 R) < 0) : ∀ s ∈ s0 :: ys, k ≠ keyP R s := fun s hm e => by
  unfold keyP at e
  have h1 := ordL_anti k (partJ s0 R)
  rcases List.mem_cons.1 hm with rfl | hm
  · rw [e, (ordL_zero _ _).2 rfl] at h; omega
  · have h2 := (List.pairwise_cons.1 hs).1 s hm
    unfold keyC at h2
    rw [← e] at h2; omega
theorem keys_gt {k : List Val} {L : List Nat} {r0 : List Val} {xs : List (List Val)} (hs : (r0 :: xs).Pairwise (fun r s => keyC L r s ≤ 0)) (h : 0 < ordL (partJ r0 L) k) : ∀ r ∈ r0 :: xs, keyP L r ≠ k := fun r hm e => by
  unfold keyP at e
  rcases List.mem_cons.1 hm with rfl | hm
  · rw [e, (ordL_zero _ _).2 rfl] at h; omega
  · have h2 := (List.pairwise_cons.1 hs).1 r hm
    unfold keyC at h2
    rw [e] at h2; omega
theorem group_rest {l : List (List Val)} {L : List Nat} {n : Nat} (hs : l.Pairwise (fun r s => keyC L r s ≤ 0)) (h0 : 0 < l.length) (hn0 : 0 < n) (h1 : ∀ i (hi : i < l.length), i < n → partJ l[i] L = partJ l[0] L) (h2 : ∀ (hi : n < l.length), partJ l[n] L ≠ partJ l[0] L) :
    (∀ r ∈ l.take n, keyP L r = keyP L l[0]) ∧ (∀ r ∈ l.drop n, keyP L r ≠ keyP L l[0]) := by
  have hp := List.pairwise_iff_getElem.1 hs
  constructor
  · intro r hr
    obtain ⟨i, hi, rfl⟩ := List.getElem_of_mem hr
    rw [List.length_take] at hi
    rw [List.getElem_take]
    exact h1 i (by omega) (by omega)
  · intro r hr e
    obtain ⟨i, hi, rfl⟩ := List.getElem_of_mem hr
    rw [List.length_drop] at hi
    rw [List.getElem_drop] at e
    unfold keyP at e
    rcases Nat.eq_zero_or_pos i with rfl | hi0
    · exact h2 (by omega) (by simpa using e)
    · have a1 := hp n (n + i) (by omega) (by omega) (by omega)
      have a2 := hp 0 n h0 (by omega) (by omega)
      unfold keyC at a1 a2
      rw [e] at a1
      have a3 := ordL_anti (partJ l[0] L) (partJ (l[n]'(by omega)) L)
      exact h2 (by omega) ((ordL_zero _ _).1 (by omega))
theorem Rows.dropC {w : World} {ok : Nat → Prop} {b o c : Nat} {l : List (List Val)} (h : Rows w ok (some ⟨b, o, none⟩) l) (hc : l.length ≤ c) (n : Nat) : Rows w ok (if c = n then some ⟨b, o, none⟩ else some ⟨b, o + n, none⟩) (l.drop n) := by
  by_cases e : c = n
  · rw [if_pos e, List.drop_eq_nil_of_le (by omega)]; exact SliceR.nil _ _ _
  · rw [if_neg e]
    have := SliceR.drop h n
    rw [Nat.mul_one] at this
    exact this
def lenV : Value → Nat
  | .slice _ n _ => n
  | _ => 0
set_option maxRecDepth 100000 in
set_option maxHeartbeats 6400000 in
theorem j_pairs (a b : Tab) (ok : Nat → Prop) (q o jc : Nat) (A B A' B' AL AR AO : Option Addr) (c d c' d' cl cr co : Nat) (L R O : List Nat) (w : World) (hJ : JoinC w ok q a b A B A' B' AL AR AO c d c' d' cl cr co L R O) (hok : ∀ b, ok b → b ≠ o) (hqo : q ≠ o)
    (hjc : w.cell? ⟨jc, 0, none⟩ = some (.pointer (some ⟨q, 0, none⟩))) (hjo : jc ≠ o) (hco : w.cell? ⟨o, 0, none⟩ = some (.slice none 0 0)) (hfo : w.frozen? ⟨o, 0, none⟩ = false) (hz : ZeroAt w)
    (ha : a.rows.length ≤ 2000) (hb : b.rows.length ≤ 2000) (hL : ∀ r ∈ a.rows, ∀ i ∈ L, i < r.length) (hR : ∀ r ∈ b.rows, ∀ i ∈ R, i < r.length) (hO : ∀ r ∈ b.rows, ∀ i ∈ O, i < r.length) (hlL : L.length ≤ 1000000) (hlR : R.length ≤ 1000000) (hlO : O.length ≤ 1000000) (hra : ∀ r ∈ a.rows, r.length ≤ 4000000) :
    Calls Tryz.prog 53 #[.pointer (some ⟨q, 0, none⟩), .func (.func 54) #[] #[.pointer (some ⟨o, 0, none⟩), .pointer (some ⟨jc, 0, none⟩)]] w fun e w' => e = .returned (.tuple #[]) ∧ ∃ v x y, x.Perm (a.rows.filter (fun r => !voidJ (partJ r L))) ∧ y.Perm (b.rows.filter (fun r => !voidJ (partJ r R))) ∧ w.grownBy w' (some o) ∧ w'.cell? ⟨o, 0, none⟩ = some v ∧ OwnRows w' w.heap.size (fun b => b ≠ o) v (natP (keyP L) (keyP R) (keyP O) x y) := by
  have hos : o < w.heap.size := block_lt_of_cell hco
  have H1 := Lib.hid (fun W (e : Ext w W) => j_sorted a.rows L ok ok B AL d cl W (hz.ext e) (hJ.ta.rows.ext e) (hJ.nl.ext e) hL (by omega) (by omega))
  have H2 := Lib.hid (fun W (e : Ext w W) => j_sorted b.rows R ok ok B' AR d' cr W (hz.ext e) (hJ.tb.rows.ext e) (hJ.nr.ext e) hR (by omega) (by omega))
  have HZ := Lib.hid hz
  have HJ := Lib.hid hJ
  have HOK := Lib.hid hok
  have HJC := Lib.hid hjc
  have HCO := Lib.hid hco
  have HFO := Lib.hid hfo
  have HL := Lib.hid hL
  have HR := Lib.hid hR
  have HO := Lib.hid hO
  have HRA := Lib.hid hra
  have HQO := Lib.hid (And.intro hqo hjo)
  have j1 := hJ.j1
  have j3 := hJ.j3
  have j4 := hJ.j4
  have j5 := hJ.j5
  have eg := fun args w => run_enter (c := Tryz.f54.body.get!) Tryz.func54 (by kernel_rfl) (by kernel_rfl) args w
  clear hz hJ hok hjc hco hfo hL hR hO hra hqo hjo
  go_enter Tryz.func53, Tryz.ntmps53
  go_upto_region 0 with (fail)
  have MKR6 := Lib.hid (fun V (e : Ext w V) => (⟨e.cell j1, e.cell j3, e.cell j4, e.cell j5, e⟩ : V.cell? ⟨q, 1, none⟩ = some (.slice B a.rows.length d) ∧ V.cell? ⟨q, 3, none⟩ = some (.slice B' b.rows.length d') ∧ V.cell? ⟨q, 4, none⟩ = some (.slice AL L.length cl) ∧ V.cell? ⟨q, 5, none⟩ = some (.slice AR R.length cr) ∧ Ext w V))
  refine wp_region_held_drew (S := (fun V => V.cell? ⟨q, 1, none⟩ = some (.slice B a.rows.length d) ∧ V.cell? ⟨q, 3, none⟩ = some (.slice B' b.rows.length d') ∧ V.cell? ⟨q, 4, none⟩ = some (.slice AL L.length cl) ∧ V.cell? ⟨q, 5, none⟩ = some (.slice AR R.length cr) ∧ Ext w V)) (by kernel_rfl) ?hs103 (fun hHeld => ?go103)
  case hs103 => (exact MKR6.out _ (by repeat (first | with_reducible exact Ext.refl _ | with_reducible assumption | with_reducible refine Ext.drew ?_ | with_reducible refine Ext.drewN ?_ _ | with_reducible refine Ext.alloc ?_ _)))
  refine wpAnyH_take (i := 0) (oi := ⟨(some 9), (.move (.tmp 0)), 45, "join.go:84", #[], none⟩) (v := ?v104) rfl (by kernel_rfl) (by kernel_rfl) (by kernel_rfl) (fun _ _ _ h => h) (Or.inl ⟨rfl, ?hy104⟩) hHeld ?rest104
  case hy104 => (intro w hSw; (try dsimp only at hSw); go_simp <;> first | with_reducible rfl | rw [if_neg (by omega)] | rw [if_pos (by omega)])
  (try simp only [Act.put]); (try simp only [List.setIfInBounds_toArray]); (try simp only [List.set_cons_succ]); (try simp only [List.set_cons_zero])
  refine wpAnyH_take (i := 1) (oi := ⟨(some 10), (.nilCheck (.tmp 9)), 0, "join.go:84", #[⟨0, .data⟩], none⟩) (v := ?v105) rfl (by kernel_rfl) (by kernel_rfl) (by kernel_rfl) (fun _ _ _ h => h) (Or.inl ⟨rfl, ?hy105⟩) hHeld ?rest105
  case hy105 => (intro w hSw; (try dsimp only at hSw); go_simp <;> first | with_reducible rfl | rw [if_neg (by omega)] | rw [if_pos (by omega)])
  (try simp only [Act.put]); (try simp only [List.setIfInBounds_toArray]); (try simp only [List.set_cons_succ]); (try simp only [List.set_cons_zero])
  refine wpAnyH_take (i := 2) (oi := ⟨(some 11), (.fieldAddr 63 (.tmp 10) 0), 0, "join.go:84", #[⟨1, .data⟩], none⟩) (v := ?v106) rfl (by kernel_rfl) (by kernel_rfl) (by kernel_rfl) (fun _ _ _ h => h) (Or.inl ⟨rfl, ?hy106⟩) hHeld ?rest106
  case hy106 => (intro w hSw; (try dsimp only at hSw); go_simp <;> first | with_reducible rfl | rw [if_neg (by omega)] | rw [if_pos (by omega)])
  (try simp only [Act.put]); (try simp only [List.setIfInBounds_toArray]); (try simp only [List.set_cons_succ]); (try simp only [List.set_cons_zero])
  refine wpAnyH_take (i := 3) (oi := ⟨(some 12), (.fieldAddr 25 (.tmp 11) 1), 0, "join.go:84", #[⟨2, .data⟩], none⟩) (v := ?v107) rfl (by kernel_rfl) (by kernel_rfl) (by kernel_rfl) (fun _ _ _ h => h) (Or.inl ⟨rfl, ?hy107⟩) hHeld ?rest107
  case hy107 => (intro w hSw; (try dsimp only at hSw); go_simp <;> first | with_reducible rfl | rw [if_neg (by omega)] | rw [if_pos (by omega)])
  (try simp only [Act.put]); (try simp only [List.setIfInBounds_toArray]); (try simp only [List.set_cons_succ]); (try simp only [List.set_cons_zero])
  refine wpAnyH_take (i := 4) (oi := ⟨(some 13), (.load 23 (.tmp 12)), 23, "join.go:84", #[⟨3, .data⟩], none⟩) (v := ?v108) rfl (by kernel_rfl) (by kernel_rfl) (by kernel_rfl) (fun _ _ _ h => h) (Or.inl ⟨rfl, ?hy108⟩) hHeld ?rest108
  case hy108 => (intro w hSw; (try dsimp only at hSw); go_simp <;> first | with_reducible rfl | rw [if_neg (by omega)] | rw [if_pos (by omega)])
  (try simp only [Act.put]); (try simp only [List.setIfInBounds_toArray]); (try simp only [List.set_cons_succ]); (try simp only [List.set_cons_zero])
  refine wpAnyH_take (i := 5) (oi := ⟨(some 14), (.move (.tmp 0)), 45, "join.go:84", #[], none⟩) (v := ?v109) rfl (by kernel_rfl) (by kernel_rfl) (by kernel_rfl) (fun _ _ _ h => h) (Or.inl ⟨rfl, ?hy109⟩) hHeld ?rest109
  case hy109 => (intro w hSw; (try dsimp only at hSw); go_simp <;> first | with_reducible rfl | rw [if_neg (by omega)] | rw [if_pos (by omega)])
  (try simp only [Act.put]); (try simp only [List.setIfInBounds_toArray]); (try simp only [List.set_cons_succ]); (try simp only [List.set_cons_zero])
  refine wpAnyH_take (i := 6) (oi := ⟨(some 15), (.nilCheck (.tmp 14)), 0, "join.go:84", #[⟨5, .data⟩], none⟩) (v := ?v110) rfl (by kernel_rfl) (by kernel_rfl) (by kernel_rfl) (fun _ _ _ h => h) (Or.inl ⟨rfl, ?hy110⟩) hHeld ?rest110
  case hy110 => (intro w hSw; (try dsimp only at hSw); go_simp <;> first | with_reducible rfl | rw [if_neg (by omega)] | rw [if_pos (by omega)])
  (try simp only [Act.put]); (try simp only [List.setIfInBounds_toArray]); (try simp only [List.set_cons_succ]); (try simp only [List.set_cons_zero])
  refine wpAnyH_take (i := 7) (oi := ⟨(some 16), (.fieldAddr 63 (.tmp 15) 2), 0, "join.go:84", #[⟨6, .data⟩], none⟩) (v := ?v111) rfl (by kernel_rfl) (by kernel_rfl) (by kernel_rfl) (fun _ _ _ h => h) (Or.inl ⟨rfl, ?hy111⟩) hHeld ?rest111
  case hy111 => (intro w hSw; (try dsimp only at hSw); go_simp <;> first | with_reducible rfl | rw [if_neg (by omega)] | rw [if_pos (by omega)])
  (try simp only [Act.put]); (try simp only [List.setIfInBounds_toArray]); (try simp only [List.set_cons_succ]); (try simp only [List.set_cons_zero])
  refine wpAnyH_take (i := 8) (oi := ⟨(some 17), (.load 61 (.tmp 16)), 61, "join.go:84", #[⟨7, .data⟩], none⟩) (v := ?v112) rfl (by kernel_rfl) (by kernel_rfl) (by kernel_rfl) (fun _ _ _ h => h) (Or.inl ⟨rfl, ?hy112⟩) hHeld ?rest112
  case hy112 => (intro w hSw; (try dsimp only at hSw); go_simp <;> first | with_reducible rfl | rw [if_neg (by omega)] | rw [if_pos (by omega)])
  (try simp only [Act.put]); (try simp only [List.setIfInBounds_toArray]); (try simp only [List.set_cons_succ]); (try simp only [List.set_cons_zero])
  refine wpAnyH_take (i := 10) (oi := ⟨(some 19), (.move (.tmp 0)), 45, "join.go:84", #[], none⟩) (v := ?v113) rfl (by kernel_rfl) (by kernel_rfl) (by kernel_rfl) (fun _ _ _ h => h) (Or.inl ⟨rfl, ?hy113⟩) hHeld ?rest113
  case hy113 => (intro w hSw; (try dsimp only at hSw); go_simp <;> first | with_reducible rfl | rw [if_neg (by omega)] | rw [if_pos (by omega)])
  (try simp only [Act.put]); (try simp only [List.setIfInBounds_toArray]); (try simp only [List.set_cons_succ]); (try simp only [List.set_cons_zero])
  refine wpAnyH_take (i := 11) (oi := ⟨(some 20), (.nilCheck (.tmp 19)), 0, "join.go:84", #[⟨10, .data⟩], none⟩) (v := ?v114) rfl (by kernel_rfl) (by kernel_rfl) (by kernel_rfl) (fun _ _ _ h => h) (Or.inl ⟨rfl, ?hy114⟩) hHeld ?rest114
  case hy114 => (intro w hSw; (try dsimp only at hSw); go_simp <;> first | with_reducible rfl | rw [if_neg (by omega)] | rw [if_pos (by omega)])
  (try simp only [Act.put]); (try simp only [List.setIfInBounds_toArray]); (try simp only [List.set_cons_succ]); (try simp only [List.set_cons_zero])
  refine wpAnyH_take (i := 12) (oi := ⟨(some 21), (.fieldAddr 63 (.tmp 20) 1), 0, "join.go:84", #[⟨11, .data⟩], none⟩) (v := ?v115) rfl (by kernel_rfl) (by kernel_rfl) (by kernel_rfl) (fun _ _ _ h => h) (Or.inl ⟨rfl, ?hy115⟩) hHeld ?rest115
  case hy115 => (intro w hSw; (try dsimp only at hSw); go_simp <;> first | with_reducible rfl | rw [if_neg (by omega)] | rw [if_pos (by omega)])
  (try simp only [Act.put]); (try simp only [List.setIfInBounds_toArray]); (try simp only [List.set_cons_succ]); (try simp only [List.set_cons_zero])
  refine wpAnyH_take (i := 13) (oi := ⟨(some 22), (.fieldAddr 25 (.tmp 21) 1), 0, "join.go:84", #[⟨12, .data⟩], none⟩) (v := ?v116) rfl (by kernel_rfl) (by kernel_rfl) (by kernel_rfl) (fun _ _ _ h => h) (Or.inl ⟨rfl, ?hy116⟩) hHeld ?rest116
  case hy116 => (intro w hSw; (try dsimp only at hSw); go_simp <;> first | with_reducible rfl | rw [if_neg (by omega)] | rw [if_pos (by omega)])
  (try simp only [Act.put]); (try simp only [List.setIfInBounds_toArray]); (try simp only [List.set_cons_succ]); (try simp only [List.set_cons_zero])
  refine wpAnyH_take (i := 14) (oi := ⟨(some 23), (.load 23 (.tmp 22)), 23, "join.go:84", #[⟨13, .data⟩], none⟩) (v := ?v117) rfl (by kernel_rfl) (by kernel_rfl) (by kernel_rfl) (fun _ _ _ h => h) (Or.inl ⟨rfl, ?hy117⟩) hHeld ?rest117
  case hy117 => (intro w hSw; (try dsimp only at hSw); go_simp <;> first | with_reducible rfl | rw [if_neg (by omega)] | rw [if_pos (by omega)])
  (try simp only [Act.put]); (try simp only [List.setIfInBounds_toArray]); (try simp only [List.set_cons_succ]); (try simp only [List.set_cons_zero])
  refine wpAnyH_take (i := 15) (oi := ⟨(some 24), (.move (.tmp 0)), 45, "join.go:84", #[], none⟩) (v := ?v118) rfl (by kernel_rfl) (by kernel_rfl) (by kernel_rfl) (fun _ _ _ h => h) (Or.inl ⟨rfl, ?hy118⟩) hHeld ?rest118
  case hy118 => (intro w hSw; (try dsimp only at hSw); go_simp <;> first | with_reducible rfl | rw [if_neg (by omega)] | rw [if_pos (by omega)])
  (try simp only [Act.put]); (try simp only [List.setIfInBounds_toArray]); (try simp only [List.set_cons_succ]); (try simp only [List.set_cons_zero])
  refine wpAnyH_take (i := 16) (oi := ⟨(some 25), (.nilCheck (.tmp 24)), 0, "join.go:84", #[⟨15, .data⟩], none⟩) (v := ?v119) rfl (by kernel_rfl) (by kernel_rfl) (by kernel_rfl) (fun _ _ _ h => h) (Or.inl ⟨rfl, ?hy119⟩) hHeld ?rest119
  case hy119 => (intro w hSw; (try dsimp only at hSw); go_simp <;> first | with_reducible rfl | rw [if_neg (by omega)] | rw [if_pos (by omega)])
  (try simp only [Act.put]); (try simp only [List.setIfInBounds_toArray]); (try simp only [List.set_cons_succ]); (try simp only [List.set_cons_zero])
  refine wpAnyH_take (i := 17) (oi := ⟨(some 26), (.fieldAddr 63 (.tmp 25) 3), 0, "join.go:84", #[⟨16, .data⟩], none⟩) (v := ?v120) rfl (by kernel_rfl) (by kernel_rfl) (by kernel_rfl) (fun _ _ _ h => h) (Or.inl ⟨rfl, ?hy120⟩) hHeld ?rest120
  case hy120 => (intro w hSw; (try dsimp only at hSw); go_simp <;> first | with_reducible rfl | rw [if_neg (by omega)] | rw [if_pos (by omega)])
  (try simp only [Act.put]); (try simp only [List.setIfInBounds_toArray]); (try simp only [List.set_cons_succ]); (try simp only [List.set_cons_zero])
  refine wpAnyH_take (i := 18) (oi := ⟨(some 27), (.load 61 (.tmp 26)), 61, "join.go:84", #[⟨17, .data⟩], none⟩) (v := ?v121) rfl (by kernel_rfl) (by kernel_rfl) (by kernel_rfl) (fun _ _ _ h => h) (Or.inl ⟨rfl, ?hy121⟩) hHeld ?rest121
  case hy121 => (intro w hSw; (try dsimp only at hSw); go_simp <;> first | with_reducible rfl | rw [if_neg (by omega)] | rw [if_pos (by omega)])
  (try simp only [Act.put]); (try simp only [List.setIfInBounds_toArray]); (try simp only [List.set_cons_succ]); (try simp only [List.set_cons_zero])
  refine wpAnyH_ready (rs := [9]) (by kernel_rfl) (by simp) ?_
  refine AllReadyH.cons (o := ⟨(some 18), (.call { callee := (.value (.func 66)), args := #[(.tmp 13), (.tmp 17)], argTypes := #[23, 61] }), 23, "join.go:84", #[⟨4, .data⟩, ⟨8, .data⟩], none⟩) rfl (fun K hK => ?step122x0) ?more122x0
  case more122x0 => exact AllReadyH.nil
  go_simp
  (refine (H1.out _ (by repeat (first | with_reducible exact Ext.refl _ | with_reducible assumption | with_reducible refine Ext.drew ?_ | with_reducible refine Ext.drewN ?_ _ | with_reducible refine Ext.alloc ?_ _))).mono ?_; rintro e w2 ⟨X0, cx0, x0, rfl, hcx0, hV2, hP2, hS2, hx2⟩; replace hV2 : Rows w2 (fun b => b ≠ o) X0 x0 := hV2.to (fun b hb e => by rcases hb with h | h; exact HOK.out b h e; exact absurd (Nat.le_trans (Ext.le (a := w) (by repeat (first | with_reducible exact Ext.refl _ | with_reducible assumption | with_reducible refine Ext.drew ?_ | with_reducible refine Ext.drewN ?_ _ | with_reducible refine Ext.alloc ?_ _))) h) (by omega)); replace hx2 : Ext w w2 := Ext.trans (by repeat (first | with_reducible exact Ext.refl _ | with_reducible assumption | with_reducible refine Ext.drew ?_ | with_reducible refine Ext.drewN ?_ _ | with_reducible refine Ext.alloc ?_ _)) hx2)
  refine hK.out _ _ ?hS122x0 (fun hHeld122 => ?rest122x0)
  case hS122x0 => first | (exact MKR6.out _ (by repeat (first | with_reducible exact Ext.refl _ | with_reducible assumption | with_reducible refine Ext.drew ?_ | with_reducible refine Ext.drewN ?_ _ | with_reducible refine Ext.alloc ?_ _))) | ((try dsimp only); (exact MKR6.out _ (by repeat (first | with_reducible exact Ext.refl _ | with_reducible assumption | with_reducible refine Ext.drew ?_ | with_reducible refine Ext.drewN ?_ _ | with_reducible refine Ext.alloc ?_ _))))
  clear hK K
  clear hHeld
  (try simp only [Act.put]); (try simp only [List.setIfInBounds_toArray]); (try simp only [List.set_cons_succ]); (try simp only [List.set_cons_zero])
  refine wpAnyH_ready (rs := [19]) (by kernel_rfl) (by simp) ?_
  refine AllReadyH.cons (o := ⟨(some 28), (.call { callee := (.value (.func 66)), args := #[(.tmp 23), (.tmp 27)], argTypes := #[23, 61] }), 23, "join.go:84", #[⟨14, .data⟩, ⟨18, .data⟩, ⟨9, .chain⟩], none⟩) rfl (fun K hK => ?step123x0) ?more123x0
  case more123x0 => exact AllReadyH.nil
  go_simp
  (refine (H2.out _ (by repeat (first | with_reducible exact Ext.refl _ | with_reducible assumption | with_reducible refine Ext.drew ?_ | with_reducible refine Ext.drewN ?_ _ | with_reducible refine Ext.alloc ?_ _))).mono ?_; rintro e wZ ⟨Y0, cy0, y0, rfl, hcy0, hV3, hP3, hS3, hxZ⟩; replace hV3 : Rows wZ (fun b => b ≠ o) Y0 y0 := hV3.to (fun b hb e => by rcases hb with h | h; exact HOK.out b h e; exact absurd (Nat.le_trans (Ext.le (a := w) (by repeat (first | with_reducible exact Ext.refl _ | with_reducible assumption | with_reducible refine Ext.drew ?_ | with_reducible refine Ext.drewN ?_ _ | with_reducible refine Ext.alloc ?_ _))) h) (by omega)); replace hV2 := hV2.ext hxZ; replace hxZ : Ext w wZ := Ext.trans (by repeat (first | with_reducible exact Ext.refl _ | with_reducible assumption | with_reducible refine Ext.drew ?_ | with_reducible refine Ext.drewN ?_ _ | with_reducible refine Ext.alloc ?_ _)) hxZ)
  refine hK.out _ _ ?hS123x0 (fun hHeld123 => ?rest123x0)
  case hS123x0 => first | (exact MKR6.out _ (by repeat (first | with_reducible exact Ext.refl _ | with_reducible assumption | with_reducible refine Ext.drew ?_ | with_reducible refine Ext.drewN ?_ _ | with_reducible refine Ext.alloc ?_ _))) | ((try dsimp only); (exact MKR6.out _ (by repeat (first | with_reducible exact Ext.refl _ | with_reducible assumption | with_reducible refine Ext.drew ?_ | with_reducible refine Ext.drewN ?_ _ | with_reducible refine Ext.alloc ?_ _))))
  clear hK K
  clear hHeld122
  (try simp only [Act.put]); (try simp only [List.setIfInBounds_toArray]); (try simp only [List.set_cons_succ]); (try simp only [List.set_cons_zero])
  refine wpAnyH_take (i := 20) (oi := ⟨(some 4), (.assign (.tmp 18)), 23, "join.go:84", #[⟨9, .data⟩, ⟨19, .chain⟩, ⟨0, .phase⟩, ⟨1, .phase⟩, ⟨2, .phase⟩, ⟨3, .phase⟩, ⟨4, .phase⟩, ⟨5, .phase⟩, ⟨6, .phase⟩, ⟨7, .phase⟩, ⟨8, .phase⟩, ⟨9, .phase⟩, ⟨10, (.textOnly Departure.lateStores)⟩, ⟨11, (.textOnly Departure.lateStores)⟩, ⟨12, (.textOnly Departure.lateStores)⟩, ⟨13, (.textOnly Departure.lateStores)⟩, ⟨14, (.textOnly Departure.lateStores)⟩, ⟨15, (.textOnly Departure.lateStores)⟩, ⟨16, (.textOnly Departure.lateStores)⟩, ⟨17, (.textOnly Departure.lateStores)⟩, ⟨18, (.textOnly Departure.lateStores)⟩, ⟨19, (.textOnly Departure.lateStoresUnsure)⟩], none⟩) (v := ?v124) rfl (by kernel_rfl) (by kernel_rfl) (by kernel_rfl) (fun _ _ _ h => h) (Or.inl ⟨rfl, ?hy124⟩) hHeld123 ?rest124
  case hy124 => (intro w hSw; (try dsimp only at hSw); go_simp <;> first | with_reducible rfl | rw [if_neg (by omega)] | rw [if_pos (by omega)])
  (try simp only [Act.put]); (try simp only [List.setIfInBounds_toArray]); (try simp only [List.set_cons_succ]); (try simp only [List.set_cons_zero])
  refine wpAnyH_take (i := 21) (oi := ⟨(some 5), (.assign (.tmp 28)), 23, "join.go:84", #[⟨19, .data⟩, ⟨20, .chain⟩, ⟨0, .phase⟩, ⟨1, .phase⟩, ⟨2, .phase⟩, ⟨3, .phase⟩, ⟨4, .phase⟩, ⟨5, .phase⟩, ⟨6, .phase⟩, ⟨7, .phase⟩, ⟨8, .phase⟩, ⟨9, .phase⟩, ⟨10, .phase⟩, ⟨11, .phase⟩, ⟨12, .phase⟩, ⟨13, .phase⟩, ⟨14, .phase⟩, ⟨15, .phase⟩, ⟨16, .phase⟩, ⟨17, .phase⟩, ⟨18, .phase⟩, ⟨19, .phase⟩, ⟨20, .phase⟩], none⟩) (v := ?v125) rfl (by kernel_rfl) (by kernel_rfl) (by kernel_rfl) (fun _ _ _ h => h) (Or.inl ⟨rfl, ?hy125⟩) hHeld123 ?rest125
  case hy125 => (intro w hSw; (try dsimp only at hSw); go_simp <;> first | with_reducible rfl | rw [if_neg (by omega)] | rw [if_pos (by omega)])
  (try simp only [Act.put]); (try simp only [List.setIfInBounds_toArray]); (try simp only [List.set_cons_succ]); (try simp only [List.set_cons_zero])
  refine wpAnyH_done (by kernel_rfl) ?_ _
  clear hHeld123
  clear MKR6
  have HX0 := Lib.hid (show ∀ r ∈ x0, r ∈ a.rows from fun r hr => (List.mem_filter.1 (hP2.mem_iff.1 hr)).1)
  have HY0 := Lib.hid (show ∀ r ∈ y0, r ∈ b.rows from fun r hr => (List.mem_filter.1 (hP3.mem_iff.1 hr)).1)
  have hxl0 : x0.length ≤ 2000 := by rw [hP2.length_eq]; exact Nat.le_trans (List.length_filter_le _ _) ha
  have hyl0 : y0.length ≤ 2000 := by rw [hP3.length_eq]; exact Nat.le_trans (List.length_filter_le _ _) hb
  have HNE := Lib.hid (show NatE wZ o jc q AO co O from ⟨hxZ.cell HJC.out, HQO.out.2, hxZ.cell HJ.out.j6, HQO.out.1, SliceR.mono HJ.out.no (fun b o' _ _ hx => ⟨HOK.out b hx.1, hxZ.cell hx.2⟩)⟩)
  have HNL := Lib.hid (show Nums wZ (fun b => b ≠ o) AL (ints L) from SliceR.mono HJ.out.nl (fun b o' _ _ hx => ⟨HOK.out b hx.1, hxZ.cell hx.2⟩))
  have HNR := Lib.hid (show Nums wZ (fun b => b ≠ o) AR (ints R) from SliceR.mono HJ.out.nr (fun b o' _ _ hx => ⟨HOK.out b hx.1, hxZ.cell hx.2⟩))
  have HNW := Lib.hid (show NatW wZ o (.slice none 0 0) [] wZ from ⟨World.grownBy.refl _ _, hxZ.cell HCO.out, frozen_grown (hxZ.grownBy none) HCO.out (fun e => by cases e) 0 HFO.out, OwnRows.nil _ _ _, block_lt_of_cell (hxZ.cell HCO.out)⟩)
  have HP2 := Lib.hid hP2
  have HP3 := Lib.hid hP3
  have HS2 := Lib.hid hS2
  have HS3 := Lib.hid hS3
  have HV2 := Lib.hid hV2
  have HV3 := Lib.hid hV3
  have HXZ := Lib.hid hxZ
  have HZZ := Lib.hid (show ZeroAt wZ from HZ.out.ext hxZ)
  have HZO := Lib.hid (show 0 ≠ o from fun e => by subst e; have h := HCO.out.symm.trans HZ.out.1; simp at h)
  have hQ4 := hxZ.cell j4
  have hQ5 := hxZ.cell j5
  have HLEN := Lib.hid (natP_len (keyP L) (keyP R) (keyP O) x0 y0)
  clear hP2 hP3 hS2 hS3 hV2 hV3 hxZ hx2 H1 H2 HJC HCO HFO HZ
  go_wp2_with fail
  go_loopw [4, 5] (fun t u W => ∃ (X : Option Addr) (cx : Nat) (x : List (List Val)) (Y : Option Addr) (cy : Nat) (y : List (List Val)) (v : Value) (acc : List (List Val)), t = .slice X x.length cx ∧ u = .slice Y y.length cy ∧ x.length ≤ cx ∧ y.length ≤ cy ∧ x.length ≤ 2000 ∧ y.length ≤ 2000 ∧ Hid (Rows wZ (fun b => b ≠ o) X x) ∧ Hid (Rows wZ (fun b => b ≠ o) Y y) ∧ Hid (NatW wZ o v acc W) ∧ Hid (x.Pairwise (fun r s => keyC L r s ≤ 0)) ∧ Hid (y.Pairwise (fun r s => keyC R r s ≤ 0)) ∧ Hid (acc ++ natP (keyP L) (keyP R) (keyP O) x y = natP (keyP L) (keyP R) (keyP O) x0 y0) ∧ Hid (∀ r ∈ x, r ∈ x0) ∧ Hid (∀ r ∈ y, r ∈ y0)) (fun t u _ => lenV t + lenV u)
  case atStart => exact ⟨X0, cx0, x0, Y0, cy0, y0, _, [], rfl, rfl, hcx0, hcy0, hxl0, hyl0, HV2, HV3, HNW, HS2, HS3, Lib.hid rfl, Lib.hid (fun _ h => h), Lib.hid (fun _ h => h)⟩
  case round =>
    clear HNW HV2 HV3 HS2 HS3 hcx0 hcy0
    obtain ⟨X, cx, x, Y, cy, y, v, acc, rfl, rfl, hcx, hcy, hxl, hyl, hvx, hvy, hnw, hsx, hsy, heq, hmx, hmy⟩ := hrel
    by_cases hpos : 0 < x.length ∧ 0 < y.length
    · obtain ⟨hpx, hpy⟩ := hpos
      obtain ⟨bx, ox, rfl, hc⟩ := hvx.out.2 hpx
      obtain ⟨hbx, Ax, ex, h5, hle5, hv5⟩ := hc 0 hpx
      obtain ⟨by_, oy, rfl, hc2⟩ := hvy.out.2 hpy
      obtain ⟨hby, Ay, ey, h6, hle6, hv6⟩ := hc2 0 hpy
      rw [Nat.zero_mul, Nat.add_zero] at h5 h6
      have gr := hnw.out.gr
      have dx : wr.cell? ⟨bx, ox, none⟩ = some (.slice Ax x[0].length ex) := gr.cell h5 (fun e => hbx (Option.some.inj e))
      have dy : wr.cell? ⟨by_, oy, none⟩ = some (.slice Ay y[0].length ey) := gr.cell h6 (fun e => hby (Option.some.inj e))
      have s4 : wr.cell? ⟨q, 4, none⟩ = some (.slice AL L.length cl) := gr.cell hQ4 (fun e => HQO.out.1 (Option.some.inj e))
      have s5 : wr.cell? ⟨q, 5, none⟩ = some (.slice AR R.length cr) := gr.cell hQ5 (fun e => HQO.out.1 (Option.some.inj e))
      have HLx := Lib.hid (show ∀ r ∈ x, ∀ i ∈ L, i < r.length from fun r hr => HL.out r (HX0.out r (hmx.out r hr)))
      have HRy := Lib.hid (show ∀ r ∈ y, ∀ i ∈ R, i < r.length from fun r hr => HR.out r (HY0.out r (hmy.out r hr)))
      have HZW := Lib.hid (show ZeroAt wr from HZZ.out.grown gr HZO.out)
      have HXW := Lib.hid (show Rows wr (fun b => b ≠ o) (some ⟨bx, ox, none⟩) x from hvx.out.grown gr (fun _ h => h))
      have HYW := Lib.hid (show Rows wr (fun b => b ≠ o) (some ⟨by_, oy, none⟩) y from hvy.out.grown gr (fun _ h => h))
      have HNLW := Lib.hid (HNL.out.grown gr (fun _ h => h))
      have HNRW := Lib.hid (HNR.out.grown gr (fun _ h => h))
      have HPX := Lib.hid (fun W (e : Ext wr W) => j_part x[0] L (fun b => b ≠ o) (fun b => b ≠ o) Ax AL ex cl W ((hv5.grown gr (fun _ h => h)).ext e) (HNLW.out.ext e) (HLx.out _ (List.getElem_mem hpx)) (by omega))
      have HPY := Lib.hid (fun W (e : Ext wr W) => j_part y[0] R (fun b => b ≠ o) (fun b => b ≠ o) Ay AR ey cr W ((hv6.grown gr (fun _ h => h)).ext e) (HNRW.out.ext e) (HRy.out _ (List.getElem_mem hpy)) (by omega))
      have HOR := Lib.hid (fun A1 c1 A2 c2 W (h : Ext wr W) (h1 : Vals W (fun _ => True) A1 (partJ x[0] L)) (h2 : Vals W (fun _ => True) A2 (partJ y[0] R)) => v_OrderRows (partJ x[0] L) (partJ y[0] R) (fun _ => True) (fun _ => True) A1 A2 c1 c2 W (HZW.out.ext h) h1 h2)
      have HGX := Lib.hid (fun W (e : Ext wr W) => j_group x L (fun b => b ≠ o) (fun b => b ≠ o) (some ⟨bx, ox, none⟩) AL cx cl W (HZW.out.ext e) (HXW.out.ext e) (HNLW.out.ext e) HLx.out hpx (by omega))
      have HGY := Lib.hid (fun W (e : Ext wr W) => j_group y R (fun b => b ≠ o) (fun b => b ≠ o) (some ⟨by_, oy, none⟩) AR cy cr W (HZW.out.ext e) (HYW.out.ext e) (HNRW.out.ext e) HRy.out hpy (by omega))
      have HKEY := Lib.hid (show ∀ z, z = ordL (partJ x[0] L) (partJ y[0] R) → (z < 0 → natP (keyP L) (keyP R) (keyP O) x y = natP (keyP L) (keyP R) (keyP O) (x.drop 1) y) ∧ (0 < z → natP (keyP L) (keyP R) (keyP O) x y = natP (keyP L) (keyP R) (keyP O) x (y.drop 1)) ∧ (z = 0 → keyP L x[0] = keyP R y[0]) from by
        rintro z rfl
        refine ⟨fun hz => ?_, fun hz => ?_, fun hz => (ordL_zero _ _).1 hz⟩
        · cases x with
          | nil => exact absurd hpx (by simp)
          | cons r xs =>
            cases y with
            | nil => exact absurd hpy (by simp)
            | cons s ys => exact natP_lt (keys_lt hsy.out hz)
        · cases x with
          | nil => exact absurd hpx (by simp)
          | cons r xs =>
            cases y with
            | nil => exact absurd hpy (by simp)
            | cons s ys => exact natP_gt (keys_gt hsx.out hz))
      have HGR := Lib.hid (fun n m (hn0 : 0 < n) (hm0 : 0 < m) (h1 : ∀ i (hi : i < x.length), i < n → partJ x[i] L = partJ x[0] L) (h2 : ∀ (hi : n < x.length), partJ x[n] L ≠ partJ x[0] L) (h3 : ∀ i (hi : i < y.length), i < m → partJ y[i] R = partJ y[0] R) (h4 : ∀ (hi : m < y.length), partJ y[m] R ≠ partJ y[0] R) (hk : keyP L x[0] = keyP R y[0]) => (by
        have g1 := group_rest (n := n) hsx.out hpx hn0 h1 h2
        have g2 := group_rest (n := m) hsy.out hpy hm0 h3 h4
        have h := natP_eq (K := keyP L) (K' := keyP R) (R := keyP O) (k := keyP L x[0]) g1.1 g1.2 (fun s hs => (g2.1 s hs).trans hk.symm) (fun s hs e => g2.2 s hs (e.trans hk))
        rw [List.take_append_drop, List.take_append_drop] at h
        exact h : natP (keyP L) (keyP R) (keyP O) x y = ((x.take n).flatMap fun r => (y.take m).map fun s => r ++ keyP O s) ++ natP (keyP L) (keyP R) (keyP O) (x.drop n) (y.drop m)))
      have HDX := Lib.hid (fun n => hvx.out.dropC hcx n)
      have HDY := Lib.hid (fun n => hvy.out.dropC hcy n)
      have hal : acc.length ≤ 4000000 := by
        have h1 := congrArg List.length heq.out
        rw [List.length_append] at h1
        have h2 := HLEN.out
        have h3 : x0.length * y0.length ≤ 2000 * 2000 := Nat.mul_le_mul hxl0 hyl0
        omega
      have HNAT := Lib.hid (fun n m W v (hn : n ≤ x.length) (hm : m ≤ y.length) (hw : NatW wZ o v acc W) => (by
        have h := j_nat1 (x.take n) (y.take m) acc O wZ o jc q (some ⟨bx, ox, none⟩) (some ⟨by_, oy, none⟩) AO cx cy co v W HNE.out hw (SliceR.take hvx.out n) (SliceR.take hvy.out m) (fun s hs => HO.out s (HY0.out s (hmy.out s (List.mem_of_mem_take hs)))) (fun r hr => HRA.out r (HX0.out r (hmx.out r (List.mem_of_mem_take hr)))) (by omega) (by
          rw [List.length_take, List.length_take]
          have : min n x.length * min m y.length ≤ 2000 * 2000 := Nat.mul_le_mul (by omega) (by omega)
          omega)
        rw [show (x.take n).length = n by rw [List.length_take]; omega, show (y.take m).length = m by rw [List.length_take]; omega] at h
        exact h : Calls Tryz.prog 54 #[.slice (some ⟨bx, ox, none⟩) n cx, .slice (some ⟨by_, oy, none⟩) m cy, .pointer (some ⟨o, 0, none⟩), .pointer (some ⟨jc, 0, none⟩)] W fun e w' => e = .returned (.tuple #[]) ∧ ∃ v', NatW wZ o v' (acc ++ (x.take n).flatMap (fun r => (y.take m).map (fun s => r ++ partJ s O))) w'))
      have HMX := Lib.hid (fun n => (fun r hr => hmx.out r (List.mem_of_mem_drop hr) : ∀ r ∈ x.drop n, r ∈ x0))
      have HMY := Lib.hid (fun n => (fun r hr => hmy.out r (List.mem_of_mem_drop hr) : ∀ r ∈ y.drop n, r ∈ y0))
      have HSX := Lib.hid (fun n => hsx.out.sublist (List.drop_sublist n x))
      have HSY := Lib.hid (fun n => hsy.out.sublist (List.drop_sublist n y))
      clear hc hc2 h5 h6 hv5 hv6 gr hbx hby hsx hsy
      generalize hzz : ordL (partJ x[0] L) (partJ y[0] R) = z at *
      have HK := Lib.hid (HKEY.out z rfl)
      clear hzz HKEY
      generalize x[0] = r0 at *
      generalize y[0] = s0 at *
      go_upto_region 2 with (fail)
      have MKR7 := Lib.hid (fun V (e : Ext wr V) => (⟨e.cell s4, e.cell s5, e.cell dx, e.cell dy, e⟩ : V.cell? ⟨q, 4, none⟩ = some (.slice AL L.length cl) ∧ V.cell? ⟨q, 5, none⟩ = some (.slice AR R.length cr) ∧ V.cell? ⟨bx, ox, none⟩ = some (.slice Ax r0.length ex) ∧ V.cell? ⟨by_, oy, none⟩ = some (.slice Ay s0.length ey) ∧ Ext wr V))
      refine wp_region_held_drew (S := (fun V => V.cell? ⟨q, 4, none⟩ = some (.slice AL L.length cl) ∧ V.cell? ⟨q, 5, none⟩ = some (.slice AR R.length cr) ∧ V.cell? ⟨bx, ox, none⟩ = some (.slice Ax r0.length ex) ∧ V.cell? ⟨by_, oy, none⟩ = some (.slice Ay s0.length ey) ∧ Ext wr V)) (by kernel_rfl) ?hs126 (fun hHeld => ?go126)
      case hs126 => (exact MKR7.out _ (by repeat (first | with_reducible exact Ext.refl _ | with_reducible assumption | with_reducible refine Ext.drew ?_ | with_reducible refine Ext.drewN ?_ _ | with_reducible refine Ext.alloc ?_ _)))
      refine wpAnyH_take (i := 0) (oi := ⟨(some 37), (.move (.tmp 4)), 23, "join.go:86", #[], none⟩) (v := ?v127) rfl (by kernel_rfl) (by kernel_rfl) (by kernel_rfl) (fun _ _ _ h => h) (Or.inl ⟨rfl, ?hy127⟩) hHeld ?rest127
      case hy127 => (intro w hSw; (try dsimp only at hSw); go_simp <;> first | with_reducible rfl | rw [if_neg (by omega)] | rw [if_pos (by omega)])
      (try simp only [Act.put]); (try simp only [List.setIfInBounds_toArray]); (try simp only [List.set_cons_succ]); (try simp only [List.set_cons_zero])
      refine wpAnyH_take (i := 1) (oi := ⟨(some 38), (.indexAddr 23 (.tmp 37) (.const (.int .i64 0))), 0, "join.go:86", #[⟨0, .data⟩], none⟩) (v := ?v128) rfl (by kernel_rfl) (by kernel_rfl) (by kernel_rfl) (fun _ _ _ h => h) (Or.inl ⟨rfl, ?hy128⟩) hHeld ?rest128
      case hy128 => (intro w hSw; (try dsimp only at hSw); go_simp <;> first | with_reducible rfl | rw [if_neg (by omega)] | rw [if_pos (by omega)])
      (try simp only [Act.put]); (try simp only [List.setIfInBounds_toArray]); (try simp only [List.set_cons_succ]); (try simp only [List.set_cons_zero])
      refine wpAnyH_take (i := 2) (oi := ⟨(some 39), (.load 37 (.tmp 38)), 37, "join.go:86", #[⟨1, .data⟩], none⟩) (v := ?v129) rfl (by kernel_rfl) (by kernel_rfl) (by kernel_rfl) (fun _ _ _ h => h) (Or.inl ⟨rfl, ?hy129⟩) hHeld ?rest129
      case hy129 => (intro w hSw; (try dsimp only at hSw); go_simp <;> first | with_reducible rfl | rw [if_neg (by omega)] | rw [if_pos (by omega)])
      (try simp only [Act.put]); (try simp only [List.setIfInBounds_toArray]); (try simp only [List.set_cons_succ]); (try simp only [List.set_cons_zero])
      refine wpAnyH_take (i := 3) (oi := ⟨(some 40), (.move (.tmp 0)), 45, "join.go:86", #[], none⟩) (v := ?v130) rfl (by kernel_rfl) (by kernel_rfl) (by kernel_rfl) (fun _ _ _ h => h) (Or.inl ⟨rfl, ?hy130⟩) hHeld ?rest130
      case hy130 => (intro w hSw; (try dsimp only at hSw); go_simp <;> first | with_reducible rfl | rw [if_neg (by omega)] | rw [if_pos (by omega)])
      (try simp only [Act.put]); (try simp only [List.setIfInBounds_toArray]); (try simp only [List.set_cons_succ]); (try simp only [List.set_cons_zero])
      refine wpAnyH_take (i := 4) (oi := ⟨(some 41), (.nilCheck (.tmp 40)), 0, "join.go:86", #[⟨3, .data⟩], none⟩) (v := ?v131) rfl (by kernel_rfl) (by kernel_rfl) (by kernel_rfl) (fun _ _ _ h => h) (Or.inl ⟨rfl, ?hy131⟩) hHeld ?rest131
      case hy131 => (intro w hSw; (try dsimp only at hSw); go_simp <;> first | with_reducible rfl | rw [if_neg (by omega)] | rw [if_pos (by omega)])
      (try simp only [Act.put]); (try simp only [List.setIfInBounds_toArray]); (try simp only [List.set_cons_succ]); (try simp only [List.set_cons_zero])
      refine wpAnyH_take (i := 5) (oi := ⟨(some 42), (.fieldAddr 63 (.tmp 41) 2), 0, "join.go:86", #[⟨4, .data⟩], none⟩) (v := ?v132) rfl (by kernel_rfl) (by kernel_rfl) (by kernel_rfl) (fun _ _ _ h => h) (Or.inl ⟨rfl, ?hy132⟩) hHeld ?rest132
      case hy132 => (intro w hSw; (try dsimp only at hSw); go_simp <;> first | with_reducible rfl | rw [if_neg (by omega)] | rw [if_pos (by omega)])
      (try simp only [Act.put]); (try simp only [List.setIfInBounds_toArray]); (try simp only [List.set_cons_succ]); (try simp only [List.set_cons_zero])
      refine wpAnyH_take (i := 6) (oi := ⟨(some 43), (.load 61 (.tmp 42)), 61, "join.go:86", #[⟨5, .data⟩], none⟩) (v := ?v133) rfl (by kernel_rfl) (by kernel_rfl) (by kernel_rfl) (fun _ _ _ h => h) (Or.inl ⟨rfl, ?hy133⟩) hHeld ?rest133
      case hy133 => (intro w hSw; (try dsimp only at hSw); go_simp <;> first | with_reducible rfl | rw [if_neg (by omega)] | rw [if_pos (by omega)])
      (try simp only [Act.put]); (try simp only [List.setIfInBounds_toArray]); (try simp only [List.set_cons_succ]); (try simp only [List.set_cons_zero])
      refine wpAnyH_take (i := 8) (oi := ⟨(some 45), (.move (.tmp 5)), 23, "join.go:86", #[], none⟩) (v := ?v134) rfl (by kernel_rfl) (by kernel_rfl) (by kernel_rfl) (fun _ _ _ h => h) (Or.inl ⟨rfl, ?hy134⟩) hHeld ?rest134
      case hy134 => (intro w hSw; (try dsimp only at hSw); go_simp <;> first | with_reducible rfl | rw [if_neg (by omega)] | rw [if_pos (by omega)])
      (try simp only [Act.put]); (try simp only [List.setIfInBounds_toArray]); (try simp only [List.set_cons_succ]); (try simp only [List.set_cons_zero])
      refine wpAnyH_take (i := 9) (oi := ⟨(some 46), (.indexAddr 23 (.tmp 45) (.const (.int .i64 0))), 0, "join.go:86", #[⟨8, .data⟩], none⟩) (v := ?v135) rfl (by kernel_rfl) (by kernel_rfl) (by kernel_rfl) (fun _ _ _ h => h) (Or.inl ⟨rfl, ?hy135⟩) hHeld ?rest135
      case hy135 => (intro w hSw; (try dsimp only at hSw); go_simp <;> first | with_reducible rfl | rw [if_neg (by omega)] | rw [if_pos (by omega)])
      (try simp only [Act.put]); (try simp only [List.setIfInBounds_toArray]); (try simp only [List.set_cons_succ]); (try simp only [List.set_cons_zero])
      refine wpAnyH_take (i := 10) (oi := ⟨(some 47), (.load 37 (.tmp 46)), 37, "join.go:86", #[⟨9, .data⟩], none⟩) (v := ?v136) rfl (by kernel_rfl) (by kernel_rfl) (by kernel_rfl) (fun _ _ _ h => h) (Or.inl ⟨rfl, ?hy136⟩) hHeld ?rest136
      case hy136 => (intro w hSw; (try dsimp only at hSw); go_simp <;> first | with_reducible rfl | rw [if_neg (by omega)] | rw [if_pos (by omega)])
      (try simp only [Act.put]); (try simp only [List.setIfInBounds_toArray]); (try simp only [List.set_cons_succ]); (try simp only [List.set_cons_zero])
      refine wpAnyH_take (i := 11) (oi := ⟨(some 48), (.move (.tmp 0)), 45, "join.go:86", #[], none⟩) (v := ?v137) rfl (by kernel_rfl) (by kernel_rfl) (by kernel_rfl) (fun _ _ _ h => h) (Or.inl ⟨rfl, ?hy137⟩) hHeld ?rest137
      case hy137 => (intro w hSw; (try dsimp only at hSw); go_simp <;> first | with_reducible rfl | rw [if_neg (by omega)] | rw [if_pos (by omega)])
      (try simp only [Act.put]); (try simp only [List.setIfInBounds_toArray]); (try simp only [List.set_cons_succ]); (try simp only [List.set_cons_zero])
      refine wpAnyH_take (i := 12) (oi := ⟨(some 49), (.nilCheck (.tmp 48)), 0, "join.go:86", #[⟨11, .data⟩], none⟩) (v := ?v138) rfl (by kernel_rfl) (by kernel_rfl) (by kernel_rfl) (fun _ _ _ h => h) (Or.inl ⟨rfl, ?hy138⟩) hHeld ?rest138
      case hy138 => (intro w hSw; (try dsimp only at hSw); go_simp <;> first | with_reducible rfl | rw [if_neg (by omega)] | rw [if_pos (by omega)])
      (try simp only [Act.put]); (try simp only [List.setIfInBounds_toArray]); (try simp only [List.set_cons_succ]); (try simp only [List.set_cons_zero])
      refine wpAnyH_take (i := 13) (oi := ⟨(some 50), (.fieldAddr 63 (.tmp 49) 3), 0, "join.go:86", #[⟨12, .data⟩], none⟩) (v := ?v139) rfl (by kernel_rfl) (by kernel_rfl) (by kernel_rfl) (fun _ _ _ h => h) (Or.inl ⟨rfl, ?hy139⟩) hHeld ?rest139
      case hy139 => (intro w hSw; (try dsimp only at hSw); go_simp <;> first | with_reducible rfl | rw [if_neg (by omega)] | rw [if_pos (by omega)])
      (try simp only [Act.put]); (try simp only [List.setIfInBounds_toArray]); (try simp only [List.set_cons_succ]); (try simp only [List.set_cons_zero])
      refine wpAnyH_take (i := 14) (oi := ⟨(some 51), (.load 61 (.tmp 50)), 61, "join.go:86", #[⟨13, .data⟩], none⟩) (v := ?v140) rfl (by kernel_rfl) (by kernel_rfl) (by kernel_rfl) (fun _ _ _ h => h) (Or.inl ⟨rfl, ?hy140⟩) hHeld ?rest140
      case hy140 => (intro w hSw; (try dsimp only at hSw); go_simp <;> first | with_reducible rfl | rw [if_neg (by omega)] | rw [if_pos (by omega)])
      (try simp only [Act.put]); (try simp only [List.setIfInBounds_toArray]); (try simp only [List.set_cons_succ]); (try simp only [List.set_cons_zero])
      refine wpAnyH_ready (rs := [7]) (by kernel_rfl) (by simp) ?_
      refine AllReadyH.cons (o := ⟨(some 44), (.call { callee := (.value (.func 55)), args := #[(.tmp 39), (.tmp 43)], argTypes := #[37, 61] }), 37, "join.go:86", #[⟨2, .data⟩, ⟨6, .data⟩], none⟩) rfl (fun K hK => ?step141x0) ?more141x0
      case more141x0 => exact AllReadyH.nil
      go_simp
      (refine (HPX.out _ (by repeat (first | with_reducible exact Ext.refl _ | with_reducible assumption | with_reducible refine Ext.drew ?_ | with_reducible refine Ext.drewN ?_ _ | with_reducible refine Ext.alloc ?_ _))).mono ?_; rintro e w3 ⟨A3, c3, rfl, -, hV3, hx3⟩; replace hx3 : Ext wr w3 := Ext.trans (by repeat (first | with_reducible exact Ext.refl _ | with_reducible assumption | with_reducible refine Ext.drew ?_ | with_reducible refine Ext.drewN ?_ _ | with_reducible refine Ext.alloc ?_ _)) hx3)
      refine hK.out _ _ ?hS141x0 (fun hHeld141 => ?rest141x0)
      case hS141x0 => first | (exact MKR7.out _ (by repeat (first | with_reducible exact Ext.refl _ | with_reducible assumption | with_reducible refine Ext.drew ?_ | with_reducible refine Ext.drewN ?_ _ | with_reducible refine Ext.alloc ?_ _))) | ((try dsimp only); (exact MKR7.out _ (by repeat (first | with_reducible exact Ext.refl _ | with_reducible assumption | with_reducible refine Ext.drew ?_ | with_reducible refine Ext.drewN ?_ _ | with_reducible refine Ext.alloc ?_ _))))
      clear hK K
      clear hHeld
      (try simp only [Act.put]); (try simp only [List.setIfInBounds_toArray]); (try simp only [List.set_cons_succ]); (try simp only [List.set_cons_zero])
      refine wpAnyH_ready (rs := [15]) (by kernel_rfl) (by simp) ?_
      refine AllReadyH.cons (o := ⟨(some 52), (.call { callee := (.value (.func 55)), args := #[(.tmp 47), (.tmp 51)], argTypes := #[37, 61] }), 37, "join.go:86", #[⟨10, .data⟩, ⟨14, .data⟩, ⟨7, .chain⟩], none⟩) rfl (fun K hK => ?step142x0) ?more142x0
      case more142x0 => exact AllReadyH.nil
      go_simp
      (refine (HPY.out _ (by repeat (first | with_reducible exact Ext.refl _ | with_reducible assumption | with_reducible refine Ext.drew ?_ | with_reducible refine Ext.drewN ?_ _ | with_reducible refine Ext.alloc ?_ _))).mono ?_; rintro e w4 ⟨A4, c4, rfl, -, hV4, hx4⟩; replace hV3 := hV3.ext hx4; replace hx4 : Ext wr w4 := Ext.trans (by repeat (first | with_reducible exact Ext.refl _ | with_reducible assumption | with_reducible refine Ext.drew ?_ | with_reducible refine Ext.drewN ?_ _ | with_reducible refine Ext.alloc ?_ _)) hx4)
      refine hK.out _ _ ?hS142x0 (fun hHeld142 => ?rest142x0)
      case hS142x0 => first | (exact MKR7.out _ (by repeat (first | with_reducible exact Ext.refl _ | with_reducible assumption | with_reducible refine Ext.drew ?_ | with_reducible refine Ext.drewN ?_ _ | with_reducible refine Ext.alloc ?_ _))) | ((try dsimp only); (exact MKR7.out _ (by repeat (first | with_reducible exact Ext.refl _ | with_reducible assumption | with_reducible refine Ext.drew ?_ | with_reducible refine Ext.drewN ?_ _ | with_reducible refine Ext.alloc ?_ _))))
      clear hK K
      clear hHeld141
      (try simp only [Act.put]); (try simp only [List.setIfInBounds_toArray]); (try simp only [List.set_cons_succ]); (try simp only [List.set_cons_zero])
      refine wpAnyH_ready (rs := [16]) (by kernel_rfl) (by simp) ?_
      refine AllReadyH.cons (o := ⟨(some 53), (.call { callee := (.value (.func 62)), args := #[(.tmp 44), (.tmp 52)], argTypes := #[37, 37] }), 3, "join.go:86", #[⟨7, .data⟩, ⟨15, .data⟩, ⟨15, .chain⟩], none⟩) rfl (fun K hK => ?step143x0) ?more143x0
      case more143x0 => exact AllReadyH.nil
      go_simp
      (refine (HOR.out A3 c3 A4 c4 _ (by repeat (first | with_reducible exact Ext.refl _ | with_reducible assumption | with_reducible refine Ext.drew ?_ | with_reducible refine Ext.drewN ?_ _ | with_reducible refine Ext.alloc ?_ _)) (hV3.ext (by first | exact Ext.refl _ | exact (Ext.refl _).drew)) (hV4.ext (by first | exact Ext.refl _ | exact (Ext.refl _).drew))).mono ?_; rintro e w5 ⟨rfl, hx5⟩; replace hx5 : Ext wr w5 := Ext.trans (by repeat (first | with_reducible exact Ext.refl _ | with_reducible assumption | with_reducible refine Ext.drew ?_ | with_reducible refine Ext.drewN ?_ _ | with_reducible refine Ext.alloc ?_ _)) hx5)
      refine hK.out _ _ ?hS143x0 (fun hHeld143 => ?rest143x0)
      case hS143x0 => first | (exact MKR7.out _ (by repeat (first | with_reducible exact Ext.refl _ | with_reducible assumption | with_reducible refine Ext.drew ?_ | with_reducible refine Ext.drewN ?_ _ | with_reducible refine Ext.alloc ?_ _))) | ((try dsimp only); (exact MKR7.out _ (by repeat (first | with_reducible exact Ext.refl _ | with_reducible assumption | with_reducible refine Ext.drew ?_ | with_reducible refine Ext.drewN ?_ _ | with_reducible refine Ext.alloc ?_ _))))
      clear hK K
      clear hHeld142
      (try simp only [Act.put]); (try simp only [List.setIfInBounds_toArray]); (try simp only [List.set_cons_succ]); (try simp only [List.set_cons_zero])
      refine wpAnyH_take (i := 17) (oi := ⟨(some 6), (.assign (.tmp 53)), 3, "join.go:86", #[⟨16, .data⟩, ⟨16, .chain⟩, ⟨0, .phase⟩, ⟨1, .phase⟩, ⟨2, .phase⟩, ⟨3, .phase⟩, ⟨4, .phase⟩, ⟨5, .phase⟩, ⟨6, .phase⟩, ⟨7, .phase⟩, ⟨8, .phase⟩, ⟨9, .phase⟩, ⟨10, .phase⟩, ⟨11, .phase⟩, ⟨12, .phase⟩, ⟨13, .phase⟩, ⟨14, .phase⟩, ⟨15, .phase⟩, ⟨16, .phase⟩], none⟩) (v := ?v144) rfl (by kernel_rfl) (by kernel_rfl) (by kernel_rfl) (fun _ _ _ h => h) (Or.inl ⟨rfl, ?hy144⟩) hHeld143 ?rest144
      case hy144 => (intro w hSw; (try dsimp only at hSw); go_simp <;> first | with_reducible rfl | rw [if_neg (by omega)] | rw [if_pos (by omega)])
      (try simp only [Act.put]); (try simp only [List.setIfInBounds_toArray]); (try simp only [List.set_cons_succ]); (try simp only [List.set_cons_zero])
      refine wpAnyH_done (by kernel_rfl) ?_ _
      clear hHeld143
      clear MKR7
      clear HPX HPY HOR dx dy
      have HN5 := Lib.hid (hnw.out.ext hx5)
      have q4 := hx5.cell s4
      have q5 := hx5.cell s5
      clear hnw s4 s5
      rcases Int.lt_trichotomy z 0 with hz | hz | hz
      · have HEQ := Lib.hid (HK.out.1 hz)
        have HX1 := Lib.hid (HDX.out 1)
        have HS1 := Lib.hid (HSX.out 1)
        have HM1 := Lib.hid (HMX.out 1)
        have HL1 := Lib.hid (show (x.drop 1).length = x.length - 1 by rw [List.length_drop])
        have hz2 : ¬ 0 < z := by omega
        clear HK HGX HGY HGR HNAT HDX HDY HSX HMX
        generalize x.drop 1 = x1 at *
        go_wp2_with fail
        go_roundw
        case rel => exact ⟨_, cx - 1, x1, some ⟨by_, oy, none⟩, cy, y, v, acc, by rw [HL1.out], rfl, by rw [HL1.out]; omega, hcy, by rw [HL1.out]; omega, hyl, HX1, hvy, HN5, HS1, by have := HSY.out 0; exact Lib.hid (by simpa using this), Lib.hid (by rw [← HEQ.out]; exact heq.out), HM1, hmy⟩
        case measure => simp [lenV]; omega
      · have HEQ := HK.out.2.2 hz
        have HKE := Lib.hid HEQ
        subst hz
        clear HK HEQ
        go_upto_region 3 with (fail)
        have MKR8 := Lib.hid (fun V (e : Ext w5 V) => (⟨e.cell q4, e.cell q5, e⟩ : V.cell? ⟨q, 4, none⟩ = some (.slice AL L.length cl) ∧ V.cell? ⟨q, 5, none⟩ = some (.slice AR R.length cr) ∧ Ext w5 V))
        refine wp_region_held_drew (S := (fun V => V.cell? ⟨q, 4, none⟩ = some (.slice AL L.length cl) ∧ V.cell? ⟨q, 5, none⟩ = some (.slice AR R.length cr) ∧ Ext w5 V)) (by kernel_rfl) ?hs145 (fun hHeld => ?go145)
        case hs145 => (exact MKR8.out _ (by repeat (first | with_reducible exact Ext.refl _ | with_reducible assumption | with_reducible refine Ext.drew ?_ | with_reducible refine Ext.drewN ?_ _ | with_reducible refine Ext.alloc ?_ _)))
        refine wpAnyH_take (i := 0) (oi := ⟨(some 54), (.move (.tmp 4)), 23, "join.go:92", #[], none⟩) (v := ?v146) rfl (by kernel_rfl) (by kernel_rfl) (by kernel_rfl) (fun _ _ _ h => h) (Or.inl ⟨rfl, ?hy146⟩) hHeld ?rest146
        case hy146 => (intro w hSw; (try dsimp only at hSw); go_simp <;> first | with_reducible rfl | rw [if_neg (by omega)] | rw [if_pos (by omega)])
        (try simp only [Act.put]); (try simp only [List.setIfInBounds_toArray]); (try simp only [List.set_cons_succ]); (try simp only [List.set_cons_zero])
        refine wpAnyH_take (i := 1) (oi := ⟨(some 55), (.move (.tmp 0)), 45, "join.go:92", #[], none⟩) (v := ?v147) rfl (by kernel_rfl) (by kernel_rfl) (by kernel_rfl) (fun _ _ _ h => h) (Or.inl ⟨rfl, ?hy147⟩) hHeld ?rest147
        case hy147 => (intro w hSw; (try dsimp only at hSw); go_simp <;> first | with_reducible rfl | rw [if_neg (by omega)] | rw [if_pos (by omega)])
        (try simp only [Act.put]); (try simp only [List.setIfInBounds_toArray]); (try simp only [List.set_cons_succ]); (try simp only [List.set_cons_zero])
        refine wpAnyH_take (i := 2) (oi := ⟨(some 56), (.nilCheck (.tmp 55)), 0, "join.go:92", #[⟨1, .data⟩], none⟩) (v := ?v148) rfl (by kernel_rfl) (by kernel_rfl) (by kernel_rfl) (fun _ _ _ h => h) (Or.inl ⟨rfl, ?hy148⟩) hHeld ?rest148
        case hy148 => (intro w hSw; (try dsimp only at hSw); go_simp <;> first | with_reducible rfl | rw [if_neg (by omega)] | rw [if_pos (by omega)])
        (try simp only [Act.put]); (try simp only [List.setIfInBounds_toArray]); (try simp only [List.set_cons_succ]); (try simp only [List.set_cons_zero])
        refine wpAnyH_take (i := 3) (oi := ⟨(some 57), (.fieldAddr 63 (.tmp 56) 2), 0, "join.go:92", #[⟨2, .data⟩], none⟩) (v := ?v149) rfl (by kernel_rfl) (by kernel_rfl) (by kernel_rfl) (fun _ _ _ h => h) (Or.inl ⟨rfl, ?hy149⟩) hHeld ?rest149
        case hy149 => (intro w hSw; (try dsimp only at hSw); go_simp <;> first | with_reducible rfl | rw [if_neg (by omega)] | rw [if_pos (by omega)])
        (try simp only [Act.put]); (try simp only [List.setIfInBounds_toArray]); (try simp only [List.set_cons_succ]); (try simp only [List.set_cons_zero])
        refine wpAnyH_take (i := 4) (oi := ⟨(some 58), (.load 61 (.tmp 57)), 61, "join.go:92", #[⟨3, .data⟩], none⟩) (v := ?v150) rfl (by kernel_rfl) (by kernel_rfl) (by kernel_rfl) (fun _ _ _ h => h) (Or.inl ⟨rfl, ?hy150⟩) hHeld ?rest150
        case hy150 => (intro w hSw; (try dsimp only at hSw); go_simp <;> first | with_reducible rfl | rw [if_neg (by omega)] | rw [if_pos (by omega)])
        (try simp only [Act.put]); (try simp only [List.setIfInBounds_toArray]); (try simp only [List.set_cons_succ]); (try simp only [List.set_cons_zero])
        refine wpAnyH_take (i := 6) (oi := ⟨(some 60), (.move (.tmp 5)), 23, "join.go:92", #[], none⟩) (v := ?v151) rfl (by kernel_rfl) (by kernel_rfl) (by kernel_rfl) (fun _ _ _ h => h) (Or.inl ⟨rfl, ?hy151⟩) hHeld ?rest151
        case hy151 => (intro w hSw; (try dsimp only at hSw); go_simp <;> first | with_reducible rfl | rw [if_neg (by omega)] | rw [if_pos (by omega)])
        (try simp only [Act.put]); (try simp only [List.setIfInBounds_toArray]); (try simp only [List.set_cons_succ]); (try simp only [List.set_cons_zero])
        refine wpAnyH_take (i := 7) (oi := ⟨(some 61), (.move (.tmp 0)), 45, "join.go:92", #[], none⟩) (v := ?v152) rfl (by kernel_rfl) (by kernel_rfl) (by kernel_rfl) (fun _ _ _ h => h) (Or.inl ⟨rfl, ?hy152⟩) hHeld ?rest152
        case hy152 => (intro w hSw; (try dsimp only at hSw); go_simp <;> first | with_reducible rfl | rw [if_neg (by omega)] | rw [if_pos (by omega)])
        (try simp only [Act.put]); (try simp only [List.setIfInBounds_toArray]); (try simp only [List.set_cons_succ]); (try simp only [List.set_cons_zero])
        refine wpAnyH_take (i := 8) (oi := ⟨(some 62), (.nilCheck (.tmp 61)), 0, "join.go:92", #[⟨7, .data⟩], none⟩) (v := ?v153) rfl (by kernel_rfl) (by kernel_rfl) (by kernel_rfl) (fun _ _ _ h => h) (Or.inl ⟨rfl, ?hy153⟩) hHeld ?rest153
        case hy153 => (intro w hSw; (try dsimp only at hSw); go_simp <;> first | with_reducible rfl | rw [if_neg (by omega)] | rw [if_pos (by omega)])
        (try simp only [Act.put]); (try simp only [List.setIfInBounds_toArray]); (try simp only [List.set_cons_succ]); (try simp only [List.set_cons_zero])
        refine wpAnyH_take (i := 9) (oi := ⟨(some 63), (.fieldAddr 63 (.tmp 62) 3), 0, "join.go:92", #[⟨8, .data⟩], none⟩) (v := ?v154) rfl (by kernel_rfl) (by kernel_rfl) (by kernel_rfl) (fun _ _ _ h => h) (Or.inl ⟨rfl, ?hy154⟩) hHeld ?rest154
        case hy154 => (intro w hSw; (try dsimp only at hSw); go_simp <;> first | with_reducible rfl | rw [if_neg (by omega)] | rw [if_pos (by omega)])
        (try simp only [Act.put]); (try simp only [List.setIfInBounds_toArray]); (try simp only [List.set_cons_succ]); (try simp only [List.set_cons_zero])
        refine wpAnyH_take (i := 10) (oi := ⟨(some 64), (.load 61 (.tmp 63)), 61, "join.go:92", #[⟨9, .data⟩], none⟩) (v := ?v155) rfl (by kernel_rfl) (by kernel_rfl) (by kernel_rfl) (fun _ _ _ h => h) (Or.inl ⟨rfl, ?hy155⟩) hHeld ?rest155
        case hy155 => (intro w hSw; (try dsimp only at hSw); go_simp <;> first | with_reducible rfl | rw [if_neg (by omega)] | rw [if_pos (by omega)])
        (try simp only [Act.put]); (try simp only [List.setIfInBounds_toArray]); (try simp only [List.set_cons_succ]); (try simp only [List.set_cons_zero])
        refine wpAnyH_ready (rs := [5]) (by kernel_rfl) (by simp) ?_
        refine AllReadyH.cons (o := ⟨(some 59), (.call { callee := (.value (.func 67)), args := #[(.tmp 54), (.tmp 58)], argTypes := #[23, 61] }), 3, "join.go:92", #[⟨0, .data⟩, ⟨4, .data⟩], none⟩) rfl (fun K hK => ?step156x0) ?more156x0
        case more156x0 => exact AllReadyH.nil
        go_simp
        (refine (HGX.out _ (hx5.trans (by repeat (first | with_reducible exact Ext.refl _ | with_reducible assumption | with_reducible refine Ext.drew ?_ | with_reducible refine Ext.drewN ?_ _ | with_reducible refine Ext.alloc ?_ _)))).mono ?_; rintro e w6 ⟨n, rfl, hn0, hnl, hg1, hg2, hx6⟩; replace hx6 : Ext w5 w6 := Ext.trans (by repeat (first | with_reducible exact Ext.refl _ | with_reducible assumption | with_reducible refine Ext.drew ?_ | with_reducible refine Ext.drewN ?_ _ | with_reducible refine Ext.alloc ?_ _)) hx6)
        refine hK.out _ _ ?hS156x0 (fun hHeld156 => ?rest156x0)
        case hS156x0 => first | (exact MKR8.out _ (by repeat (first | with_reducible exact Ext.refl _ | with_reducible assumption | with_reducible refine Ext.drew ?_ | with_reducible refine Ext.drewN ?_ _ | with_reducible refine Ext.alloc ?_ _))) | ((try dsimp only); (exact MKR8.out _ (by repeat (first | with_reducible exact Ext.refl _ | with_reducible assumption | with_reducible refine Ext.drew ?_ | with_reducible refine Ext.drewN ?_ _ | with_reducible refine Ext.alloc ?_ _))))
        clear hK K
        clear hHeld
        (try simp only [Act.put]); (try simp only [List.setIfInBounds_toArray]); (try simp only [List.set_cons_succ]); (try simp only [List.set_cons_zero])
        refine wpAnyH_ready (rs := [11]) (by kernel_rfl) (by simp) ?_
        refine AllReadyH.cons (o := ⟨(some 65), (.call { callee := (.value (.func 67)), args := #[(.tmp 60), (.tmp 64)], argTypes := #[23, 61] }), 3, "join.go:92", #[⟨6, .data⟩, ⟨10, .data⟩, ⟨5, .chain⟩], none⟩) rfl (fun K hK => ?step157x0) ?more157x0
        case more157x0 => exact AllReadyH.nil
        go_simp
        (refine (HGY.out _ (hx5.trans (by repeat (first | with_reducible exact Ext.refl _ | with_reducible assumption | with_reducible refine Ext.drew ?_ | with_reducible refine Ext.drewN ?_ _ | with_reducible refine Ext.alloc ?_ _)))).mono ?_; rintro e w7 ⟨m, rfl, hm0, hml, hg3, hg4, hx7⟩; replace hx7 : Ext w5 w7 := Ext.trans (by repeat (first | with_reducible exact Ext.refl _ | with_reducible assumption | with_reducible refine Ext.drew ?_ | with_reducible refine Ext.drewN ?_ _ | with_reducible refine Ext.alloc ?_ _)) hx7)
        refine hK.out _ _ ?hS157x0 (fun hHeld157 => ?rest157x0)
        case hS157x0 => first | (exact MKR8.out _ (by repeat (first | with_reducible exact Ext.refl _ | with_reducible assumption | with_reducible refine Ext.drew ?_ | with_reducible refine Ext.drewN ?_ _ | with_reducible refine Ext.alloc ?_ _))) | ((try dsimp only); (exact MKR8.out _ (by repeat (first | with_reducible exact Ext.refl _ | with_reducible assumption | with_reducible refine Ext.drew ?_ | with_reducible refine Ext.drewN ?_ _ | with_reducible refine Ext.alloc ?_ _))))
        clear hK K
        clear hHeld156
        (try simp only [Act.put]); (try simp only [List.setIfInBounds_toArray]); (try simp only [List.set_cons_succ]); (try simp only [List.set_cons_zero])
        refine wpAnyH_take (i := 12) (oi := ⟨(some 7), (.assign (.tmp 59)), 3, "join.go:92", #[⟨5, .data⟩, ⟨11, .chain⟩, ⟨0, .phase⟩, ⟨1, .phase⟩, ⟨2, .phase⟩, ⟨3, .phase⟩, ⟨4, .phase⟩, ⟨5, .phase⟩, ⟨6, (.textOnly Departure.lateStores)⟩, ⟨7, (.textOnly Departure.lateStores)⟩, ⟨8, (.textOnly Departure.lateStores)⟩, ⟨9, (.textOnly Departure.lateStores)⟩, ⟨10, (.textOnly Departure.lateStores)⟩, ⟨11, (.textOnly Departure.lateStoresUnsure)⟩], none⟩) (v := ?v158) rfl (by kernel_rfl) (by kernel_rfl) (by kernel_rfl) (fun _ _ _ h => h) (Or.inl ⟨rfl, ?hy158⟩) hHeld157 ?rest158
        case hy158 => (intro w hSw; (try dsimp only at hSw); go_simp <;> first | with_reducible rfl | rw [if_neg (by omega)] | rw [if_pos (by omega)])
        (try simp only [Act.put]); (try simp only [List.setIfInBounds_toArray]); (try simp only [List.set_cons_succ]); (try simp only [List.set_cons_zero])
        refine wpAnyH_take (i := 13) (oi := ⟨(some 8), (.assign (.tmp 65)), 3, "join.go:92", #[⟨11, .data⟩, ⟨12, .chain⟩, ⟨0, .phase⟩, ⟨1, .phase⟩, ⟨2, .phase⟩, ⟨3, .phase⟩, ⟨4, .phase⟩, ⟨5, .phase⟩, ⟨6, .phase⟩, ⟨7, .phase⟩, ⟨8, .phase⟩, ⟨9, .phase⟩, ⟨10, .phase⟩, ⟨11, .phase⟩, ⟨12, .phase⟩], none⟩) (v := ?v159) rfl (by kernel_rfl) (by kernel_rfl) (by kernel_rfl) (fun _ _ _ h => h) (Or.inl ⟨rfl, ?hy159⟩) hHeld157 ?rest159
        case hy159 => (intro w hSw; (try dsimp only at hSw); go_simp <;> first | with_reducible rfl | rw [if_neg (by omega)] | rw [if_pos (by omega)])
        (try simp only [Act.put]); (try simp only [List.setIfInBounds_toArray]); (try simp only [List.set_cons_succ]); (try simp only [List.set_cons_zero])
        refine wpAnyH_done (by kernel_rfl) ?_ _
        clear hHeld157
        clear MKR8
        have HGG := Lib.hid (HGR.out n m hn0 hm0 hg1 hg2 hg3 hg4 HKE.out)
        have HN7 := Lib.hid (HN5.out.ext hx7)
        have HXn := Lib.hid (HDX.out n)
        have HYm := Lib.hid (HDY.out m)
        have HSn := Lib.hid (HSX.out n)
        have HSm := Lib.hid (HSY.out m)
        have HMn := Lib.hid (HMX.out n)
        have HMm := Lib.hid (HMY.out m)
        have HLn := Lib.hid (show (x.drop n).length = x.length - n by rw [List.length_drop])
        have HLm := Lib.hid (show (y.drop m).length = y.length - m by rw [List.length_drop])
        have HCL := Lib.hid (fun W (hw : NatW wZ o v acc W) => HNAT.out n m W v hnl hml hw)
        have hnc : n ≤ cx := by omega
        have hmc : m ≤ cy := by omega
        clear HGR HGX HGY HNAT HDX HDY HSX HSY HMX HMY hg1 hg2 hg3 hg4 hx6 HKE HN5 q4 q5
        go_upto_region 4 with (fail)
        refine wp_region_held_drew (S := (fun _ => True)) (by kernel_rfl) ?hs160 (fun hHeld => ?go160)
        case hs160 => (exact trivial)
        refine wpAnyH_take (i := 0) (oi := ⟨(some 66), (.move (.tmp 1)), 73, "join.go:93", #[], none⟩) (v := ?v161) rfl (by kernel_rfl) (by kernel_rfl) (by kernel_rfl) (fun _ _ _ h => h) (Or.inl ⟨rfl, ?hy161⟩) hHeld ?rest161
        case hy161 => (intro w hSw; (try dsimp only at hSw); go_simp <;> first | with_reducible rfl | rw [if_neg (by omega)] | rw [if_pos (by omega)])
        (try simp only [Act.put]); (try simp only [List.setIfInBounds_toArray]); (try simp only [List.set_cons_succ]); (try simp only [List.set_cons_zero])
        refine wpAnyH_take (i := 1) (oi := ⟨(some 67), (.move (.tmp 4)), 23, "join.go:93", #[], none⟩) (v := ?v162) rfl (by kernel_rfl) (by kernel_rfl) (by kernel_rfl) (fun _ _ _ h => h) (Or.inl ⟨rfl, ?hy162⟩) hHeld ?rest162
        case hy162 => (intro w hSw; (try dsimp only at hSw); go_simp <;> first | with_reducible rfl | rw [if_neg (by omega)] | rw [if_pos (by omega)])
        (try simp only [Act.put]); (try simp only [List.setIfInBounds_toArray]); (try simp only [List.set_cons_succ]); (try simp only [List.set_cons_zero])
        refine wpAnyH_take (i := 2) (oi := ⟨(some 68), (.move (.tmp 7)), 3, "join.go:93", #[], none⟩) (v := ?v163) rfl (by kernel_rfl) (by kernel_rfl) (by kernel_rfl) (fun _ _ _ h => h) (Or.inl ⟨rfl, ?hy163⟩) hHeld ?rest163
        case hy163 => (intro w hSw; (try dsimp only at hSw); go_simp <;> first | with_reducible rfl | rw [if_neg (by omega)] | rw [if_pos (by omega)])
        (try simp only [Act.put]); (try simp only [List.setIfInBounds_toArray]); (try simp only [List.set_cons_succ]); (try simp only [List.set_cons_zero])
        refine wpAnyH_take (i := 3) (oi := ⟨(some 69), (.slice 23 (.tmp 67) none (some (.tmp 68)) none), 23, "join.go:93", #[⟨1, .data⟩, ⟨2, .data⟩], none⟩) (v := ?v164) rfl (by kernel_rfl) (by kernel_rfl) (by kernel_rfl) (fun _ _ _ h => h) (Or.inl ⟨rfl, ?hy164⟩) hHeld ?rest164
        case hy164 => (intro w hSw; (try dsimp only at hSw); go_simp <;> first | with_reducible rfl | rw [if_neg (by omega)] | rw [if_pos (by omega)])
        (try simp only [Act.put]); (try simp only [List.setIfInBounds_toArray]); (try simp only [List.set_cons_succ]); (try simp only [List.set_cons_zero])
        refine wpAnyH_take (i := 4) (oi := ⟨(some 70), (.move (.tmp 5)), 23, "join.go:93", #[], none⟩) (v := ?v165) rfl (by kernel_rfl) (by kernel_rfl) (by kernel_rfl) (fun _ _ _ h => h) (Or.inl ⟨rfl, ?hy165⟩) hHeld ?rest165
        case hy165 => (intro w hSw; (try dsimp only at hSw); go_simp <;> first | with_reducible rfl | rw [if_neg (by omega)] | rw [if_pos (by omega)])
        (try simp only [Act.put]); (try simp only [List.setIfInBounds_toArray]); (try simp only [List.set_cons_succ]); (try simp only [List.set_cons_zero])
        refine wpAnyH_take (i := 5) (oi := ⟨(some 71), (.move (.tmp 8)), 3, "join.go:93", #[], none⟩) (v := ?v166) rfl (by kernel_rfl) (by kernel_rfl) (by kernel_rfl) (fun _ _ _ h => h) (Or.inl ⟨rfl, ?hy166⟩) hHeld ?rest166
        case hy166 => (intro w hSw; (try dsimp only at hSw); go_simp <;> first | with_reducible rfl | rw [if_neg (by omega)] | rw [if_pos (by omega)])
        (try simp only [Act.put]); (try simp only [List.setIfInBounds_toArray]); (try simp only [List.set_cons_succ]); (try simp only [List.set_cons_zero])
        refine wpAnyH_take (i := 6) (oi := ⟨(some 72), (.slice 23 (.tmp 70) none (some (.tmp 71)) none), 23, "join.go:93", #[⟨4, .data⟩, ⟨5, .data⟩], none⟩) (v := ?v167) rfl (by kernel_rfl) (by kernel_rfl) (by kernel_rfl) (fun _ _ _ h => h) (Or.inl ⟨rfl, ?hy167⟩) hHeld ?rest167
        case hy167 => (intro w hSw; (try dsimp only at hSw); go_simp <;> first | with_reducible rfl | rw [if_neg (by omega)] | rw [if_pos (by omega)])
        (try simp only [Act.put]); (try simp only [List.setIfInBounds_toArray]); (try simp only [List.set_cons_succ]); (try simp only [List.set_cons_zero])
        refine wpAnyH_ready (rs := [7]) (by kernel_rfl) (by simp) ?_
        refine AllReadyH.cons (o := ⟨(some 73), (.call { callee := (.value (.tmp 66)), args := #[(.tmp 69), (.tmp 72)], argTypes := #[23, 23] }), 0, "join.go:93", #[⟨0, .data⟩, ⟨3, .data⟩, ⟨6, .data⟩], none⟩) rfl (fun K hK => ?step168x0) ?more168x0
        case more168x0 => exact AllReadyH.nil
        go_simp
        (refine (HCL.out _ (HN7.out.ext (by repeat (first | with_reducible exact Ext.refl _ | with_reducible assumption | with_reducible refine Ext.drew ?_ | with_reducible refine Ext.drewN ?_ _ | with_reducible refine Ext.alloc ?_ _)))).mono ?_; rintro e w8 ⟨rfl, v8, hN8⟩)
        refine hK.out _ _ ?hS168x0 (fun hHeld168 => ?rest168x0)
        case hS168x0 => first | (exact trivial) | ((try dsimp only); (exact trivial))
        clear hK K
        clear hHeld
        (try simp only [Act.put]); (try simp only [List.setIfInBounds_toArray]); (try simp only [List.set_cons_succ]); (try simp only [List.set_cons_zero])
        refine wpAnyH_done (by kernel_rfl) ?_ _
        clear hHeld168
        have HN8 := Lib.hid hN8
        clear hN8 HN7 HCL
        go_upto_region 5 with (fail)
        refine wp_region_held_drew (S := (fun _ => True)) (by kernel_rfl) ?hs169 (fun hHeld => ?go169)
        case hs169 => (exact trivial)
        refine wpAnyH_take (i := 0) (oi := ⟨(some 74), (.move (.tmp 4)), 23, "join.go:94", #[], none⟩) (v := ?v170) rfl (by kernel_rfl) (by kernel_rfl) (by kernel_rfl) (fun _ _ _ h => h) (Or.inl ⟨rfl, ?hy170⟩) hHeld ?rest170
        case hy170 => (intro w hSw; (try dsimp only at hSw); go_simp <;> first | with_reducible rfl | rw [if_neg (by omega)] | rw [if_pos (by omega)])
        (try simp only [Act.put]); (try simp only [List.setIfInBounds_toArray]); (try simp only [List.set_cons_succ]); (try simp only [List.set_cons_zero])
        refine wpAnyH_take (i := 1) (oi := ⟨(some 75), (.move (.tmp 7)), 3, "join.go:94", #[], none⟩) (v := ?v171) rfl (by kernel_rfl) (by kernel_rfl) (by kernel_rfl) (fun _ _ _ h => h) (Or.inl ⟨rfl, ?hy171⟩) hHeld ?rest171
        case hy171 => (intro w hSw; (try dsimp only at hSw); go_simp <;> first | with_reducible rfl | rw [if_neg (by omega)] | rw [if_pos (by omega)])
        (try simp only [Act.put]); (try simp only [List.setIfInBounds_toArray]); (try simp only [List.set_cons_succ]); (try simp only [List.set_cons_zero])
        refine wpAnyH_take (i := 2) (oi := ⟨(some 76), (.slice 23 (.tmp 74) (some (.tmp 75)) none none), 23, "join.go:94", #[⟨0, .data⟩, ⟨1, .data⟩], none⟩) (v := ?v172) rfl (by kernel_rfl) (by kernel_rfl) (by kernel_rfl) (fun _ _ _ h => h) (Or.inl ⟨rfl, ?hy172⟩) hHeld ?rest172
        case hy172 => (intro w hSw; (try dsimp only at hSw); go_simp <;> first | with_reducible rfl | rw [if_neg (by omega)] | rw [if_pos (by omega)])
        (try simp only [Act.put]); (try simp only [List.setIfInBounds_toArray]); (try simp only [List.set_cons_succ]); (try simp only [List.set_cons_zero])
        refine wpAnyH_take (i := 3) (oi := ⟨(some 77), (.move (.tmp 5)), 23, "join.go:94", #[], none⟩) (v := ?v173) rfl (by kernel_rfl) (by kernel_rfl) (by kernel_rfl) (fun _ _ _ h => h) (Or.inl ⟨rfl, ?hy173⟩) hHeld ?rest173
        case hy173 => (intro w hSw; (try dsimp only at hSw); go_simp <;> first | with_reducible rfl | rw [if_neg (by omega)] | rw [if_pos (by omega)])
        (try simp only [Act.put]); (try simp only [List.setIfInBounds_toArray]); (try simp only [List.set_cons_succ]); (try simp only [List.set_cons_zero])
        refine wpAnyH_take (i := 4) (oi := ⟨(some 78), (.move (.tmp 8)), 3, "join.go:94", #[], none⟩) (v := ?v174) rfl (by kernel_rfl) (by kernel_rfl) (by kernel_rfl) (fun _ _ _ h => h) (Or.inl ⟨rfl, ?hy174⟩) hHeld ?rest174
        case hy174 => (intro w hSw; (try dsimp only at hSw); go_simp <;> first | with_reducible rfl | rw [if_neg (by omega)] | rw [if_pos (by omega)])
        (try simp only [Act.put]); (try simp only [List.setIfInBounds_toArray]); (try simp only [List.set_cons_succ]); (try simp only [List.set_cons_zero])
        refine wpAnyH_take (i := 5) (oi := ⟨(some 79), (.slice 23 (.tmp 77) (some (.tmp 78)) none none), 23, "join.go:94", #[⟨3, .data⟩, ⟨4, .data⟩], none⟩) (v := ?v175) rfl (by kernel_rfl) (by kernel_rfl) (by kernel_rfl) (fun _ _ _ h => h) (Or.inl ⟨rfl, ?hy175⟩) hHeld ?rest175
        case hy175 => (intro w hSw; (try dsimp only at hSw); go_simp <;> first | with_reducible rfl | rw [if_neg (by omega)] | rw [if_pos (by omega)])
        (try simp only [Act.put]); (try simp only [List.setIfInBounds_toArray]); (try simp only [List.set_cons_succ]); (try simp only [List.set_cons_zero])
        refine wpAnyH_take (i := 6) (oi := ⟨(some 4), (.assign (.tmp 76)), 23, "join.go:94", #[⟨2, .data⟩, ⟨0, .phase⟩, ⟨1, .phase⟩, ⟨2, .phase⟩, ⟨3, (.textOnly Departure.lateStores)⟩, ⟨4, (.textOnly Departure.lateStores)⟩, ⟨5, (.textOnly Departure.lateStoresUnsure)⟩], none⟩) (v := ?v176) rfl (by kernel_rfl) (by kernel_rfl) (by kernel_rfl) (fun _ _ _ h => h) (Or.inl ⟨rfl, ?hy176⟩) hHeld ?rest176
        case hy176 => (intro w hSw; (try dsimp only at hSw); go_simp <;> first | with_reducible rfl | rw [if_neg (by omega)] | rw [if_pos (by omega)])
        (try simp only [Act.put]); (try simp only [List.setIfInBounds_toArray]); (try simp only [List.set_cons_succ]); (try simp only [List.set_cons_zero])
        refine wpAnyH_take (i := 7) (oi := ⟨(some 5), (.assign (.tmp 79)), 23, "join.go:94", #[⟨5, .data⟩, ⟨6, .chain⟩, ⟨0, .phase⟩, ⟨1, .phase⟩, ⟨2, .phase⟩, ⟨3, .phase⟩, ⟨4, .phase⟩, ⟨5, .phase⟩, ⟨6, .phase⟩], none⟩) (v := ?v177) rfl (by kernel_rfl) (by kernel_rfl) (by kernel_rfl) (fun _ _ _ h => h) (Or.inl ⟨rfl, ?hy177⟩) hHeld ?rest177
        case hy177 => (intro w hSw; (try dsimp only at hSw); go_simp <;> first | with_reducible rfl | rw [if_neg (by omega)] | rw [if_pos (by omega)])
        (try simp only [Act.put]); (try simp only [List.setIfInBounds_toArray]); (try simp only [List.set_cons_succ]); (try simp only [List.set_cons_zero])
        refine wpAnyH_done (by kernel_rfl) ?_ _
        clear hHeld
        generalize x.drop n = xn at *
        generalize y.drop m = ym at *
        go_wp2_with fail
        go_roundw
        case rel => exact ⟨_, cx - n, xn, _, cy - m, ym, v8, _, by rw [HLn.out], by rw [HLm.out], by rw [HLn.out]; omega, by rw [HLm.out]; omega, by rw [HLn.out]; omega, by rw [HLm.out]; omega, HXn, HYm, Lib.hid (HN8.out.ext (by first | exact Ext.refl _ | exact (Ext.refl _).drew)), HSn, HSm, Lib.hid (by rw [List.append_assoc]; rw [HGG.out] at heq; exact heq.out), HMn, HMm⟩
        case measure => simp [lenV]; omega
      · have HEQ := Lib.hid (HK.out.2.1 hz)
        have HX1 := Lib.hid (HDY.out 1)
        have HS1 := Lib.hid (HSY.out 1)
        have HM1 := Lib.hid (HMY.out 1)
        have HL1 := Lib.hid (show (y.drop 1).length = y.length - 1 by rw [List.length_drop])
        have hz2 : ¬ z < 0 := by omega
        clear HK HGX HGY HGR HNAT HDX HDY HSY HMY
        generalize y.drop 1 = y1 at *
        go_wp2_with fail
        go_roundw
        case rel => exact ⟨some ⟨bx, ox, none⟩, cx, x, _, cy - 1, y1, v, acc, rfl, by rw [HL1.out], hcx, by rw [HL1.out]; omega, hxl, by rw [HL1.out]; omega, hvx, HX1, HN5, by have := HSX.out 0; exact Lib.hid (by simpa using this), HS1, Lib.hid (by rw [← HEQ.out]; exact heq.out), hmx, HM1⟩
        case measure => simp [lenV]; omega
    · have HEND := Lib.hid (show natP (keyP L) (keyP R) (keyP O) x y = [] from by
        cases x with
        | nil => rfl
        | cons r xs =>
          cases y with
          | nil =>
            unfold natP
            induction (r :: xs) with
            | nil => rfl
            | cons r xs ih => rw [List.flatMap_cons, ih]; rfl
          | cons s ys => exact absurd ⟨by simp, by simp⟩ hpos)
      have HFIN := Lib.hid (show ∃ v x y, x.Perm (a.rows.filter (fun r => !voidJ (partJ r L))) ∧ y.Perm (b.rows.filter (fun r => !voidJ (partJ r R))) ∧ w.grownBy wr (some o) ∧ wr.cell? ⟨o, 0, none⟩ = some v ∧ OwnRows wr w.heap.size (fun b => b ≠ o) v (natP (keyP L) (keyP R) (keyP O) x y) from by
        refine ⟨v, x0, y0, HP2.out, HP3.out, grown_trans (HXZ.out.grownBy _) hnw.out.gr, hnw.out.c, ?_⟩
        have h := heq.out
        rw [HEND.out, List.append_nil] at h
        rw [← h]
        exact hnw.out.own.mono HXZ.out.le)
      clear hnw heq hvx hvy hsx hsy hmx hmy HEND
      rcases Nat.eq_zero_or_pos x.length with hx0 | hx0
      · go_wp2_with fail
        go_end0
        exact ⟨rfl, HFIN.out⟩
      · have hy0 : y.length = 0 := by
          rcases Nat.eq_zero_or_pos y.length with h | h
          · exact h
          · exact absurd ⟨hx0, h⟩ hpos
        go_wp2_with fail
        go_end0
        exact ⟨rfl, HFIN.out⟩
end Go.Proofs.YtbjddimafilflaaGreatDoor

/- THE WALKS over joiner.natural, join.table, Natural and Merge. -/
namespace Go.Proofs.YtbjddimafilflaaGreatDoor
open Go.RowKit Go.Sort
theorem OwnRows.to {W : World} {base : Nat} {ok0 ok1 : Nat → Prop} {v : Value} {acc : List (List Val)} (h : OwnRows W base ok0 v acc) (e : ∀ b, ok0 b → ok1 b) : OwnRows W base ok1 v acc := by
  obtain ⟨ps, h1, h2, h3⟩ := h
  exact ⟨ps, h1, h2, fun p hp => (h3 p hp).keep (fun _ _ _ _ hc => hc) (fun b hb => ⟨e b hb.1, hb.2⟩)⟩
theorem JoinC.ext {w w' : World} {ok : Nat → Prop} {q : Nat} {a b : Tab} {A B A' B' AL AR AO : Option Addr} {c d c' d' cl cr co : Nat} {L R O : List Nat} (h : JoinC w ok q a b A B A' B' AL AR AO c d c' d' cl cr co L R O) (e : Ext w w') : JoinC w' ok q a b A B A' B' AL AR AO c d c' d' cl cr co L R O :=
  ⟨e.cell h.j0, e.cell h.j1, e.cell h.j2, e.cell h.j3, e.cell h.j4, e.cell h.j5, e.cell h.j6, h.ta.ext e, h.tb.ext e, h.nl.ext e, h.nr.ext e, h.no.ext e⟩
theorem JoinAt.ext {w w' : World} {ok : Nat → Prop} {q : Nat} {a b : Tab} (h : JoinAt w ok q a b) (e : Ext w w') : JoinAt w' ok q a b := by
  obtain ⟨A, B, A', B', AL, AR, AO, c, d, c', d', cl, cr, co, hJ⟩ := h
  exact ⟨A, B, A', B', AL, AR, AO, c, d, c', d', cl, cr, co, hJ.ext e⟩
theorem JoinAt.bnd {w : World} {ok : Nat → Prop} {q : Nat} {a b : Tab} (h : JoinAt w ok q a b) : JoinAt w (okN ok w) q a b := by
  obtain ⟨A, B, A', B', AL, AR, AO, c, d, c', d', cl, cr, co, hJ⟩ := h
  exact ⟨A, B, A', B', AL, AR, AO, c, d, c', d', cl, cr, co, hJ.j0, hJ.j1, hJ.j2, hJ.j3, hJ.j4, hJ.j5, hJ.j6, ⟨SliceR.mono hJ.ta.cols (fun _ _ _ _ hx => ⟨⟨hx.1, block_lt_of_cell hx.2⟩, hx.2⟩), hJ.ta.rows.bnd⟩, ⟨SliceR.mono hJ.tb.cols (fun _ _ _ _ hx => ⟨⟨hx.1, block_lt_of_cell hx.2⟩, hx.2⟩), hJ.tb.rows.bnd⟩, hJ.nl.bnd, hJ.nr.bnd, hJ.no.bnd⟩
/-- what makes two tables joinable -/
structure JoinOk (a b : Tab) : Prop where
  na : a.cols.Nodup
  nb : b.cols.Nodup
  la : ∀ r ∈ a.rows, r.length = a.cols.length
  lb : ∀ r ∈ b.rows, r.length = b.cols.length
theorem JoinOk.of {a b : Tab} (h : errJ a b = 0) : JoinOk a b := let ⟨⟨h1, h2⟩, h3, h4⟩ := errJ_zero h; ⟨h1, h3, h2, h4⟩
set_option maxRecDepth 100000 in
set_option maxHeartbeats 3200000 in
theorem j_natural (a b : Tab) (q : Nat) (w : World) (hj : JoinAt w (fun _ => True) q a b) (hz : ZeroAt w) (hok : JoinOk a b) (hfa : TabFit a) (hfb : TabFit b) :
    Calls Tryz.prog 33 #[.pointer (some ⟨q, 0, none⟩)] w fun e w' => ∃ v N, e = .returned v ∧ N.Perm (natR a b) ∧ OwnRows w' w.heap.size (fun _ => True) v N ∧ Ext w w' := by
  obtain ⟨jc, hjc⟩ : ∃ jc, jc = w.heap.size := ⟨_, rfl⟩
  obtain ⟨w1, hw1⟩ : ∃ w1, w1 = w.alloc (.cells #[.pointer (some ⟨q, 0, none⟩)] 45) := ⟨_, rfl⟩
  have hx1 : Ext w w1 := by rw [hw1]; exact (Ext.refl _).alloc _
  have c1 : w1.cell? ⟨jc, 0, none⟩ = some (.pointer (some ⟨q, 0, none⟩)) := by rw [hw1, hjc]; exact cell_one_new w _ _ 0 _ rfl
  obtain ⟨o, ho⟩ : ∃ o, o = jc + 1 := ⟨_, rfl⟩
  have how : o = w1.heap.size := by rw [ho, hjc, hw1]; simp
  obtain ⟨w2, hw2⟩ : ∃ w2, w2 = w1.alloc (.cells #[.slice none 0 0] 23) := ⟨_, rfl⟩
  have hx2 : Ext w1 w2 := by rw [hw2]; exact (Ext.refl _).alloc _
  have hblk : w2.heap[o]? = some (.cells #[.slice none 0 0] 23) := by rw [hw2, how]; exact heap_alloc_new _ _
  have c2 : w2.cell? ⟨o, 0, none⟩ = some (.slice none 0 0) := by rw [cell_of_row _ _ _ _ _ _ hblk]; rfl
  have f2 : w2.frozen? ⟨o, 0, none⟩ = false := by simp [World.frozen?, hblk]
  have hx := hx1.trans hx2
  obtain ⟨A, B, A', B', AL, AR, AO, c, d, c', d', cl, cr, co, hJ⟩ := hj.bnd.ext hx
  have hlw : w.heap.size < o := by omega
  have hqo : q ≠ o := by
    obtain ⟨_, _, _, _, _, _, _, _, _, _, _, _, _, _, hJ0⟩ := hj
    have := block_lt_of_cell hJ0.j0
    simp only at this
    omega
  have HP := Lib.hid (j_pairs a b (okN (fun _ => True) w) q o jc A B A' B' AL AR AO c d c' d' cl cr co _ _ _ w2 hJ (fun b hb e => by have := hb.2; omega) hqo (hx2.cell c1) (by omega) c2 f2 (hz.ext hx) hfa.2.1 hfb.2.1
    (fun r hr i hi => by rw [hok.la r hr]; exact leftK_lt hi) (fun r hr i hi => by rw [hok.lb r hr]; exact rightK_lt hi) (fun r hr i hi => by rw [hok.lb r hr]; exact othersK_lt hi)
    (Nat.le_trans leftK_len (Nat.le_trans hfb.1 (by decide))) (Nat.le_trans rightK_len (Nat.le_trans hfb.1 (by decide))) (Nat.le_trans othersK_len (Nat.le_trans hfb.1 (by decide))) (fun r hr => by rw [hok.la r hr]; exact Nat.le_trans hfa.1 (by decide)))
  have HPR := Lib.hid (fun x y hx hy => natP_natR (a := a) (b := b) hok.na hok.nb (x := x) (y := y) hx hy)
  have HW1 := Lib.hid hw1
  have HW2 := Lib.hid hw2
  have HJ := Lib.hid hjc
  have HO := Lib.hid ho
  have hjs : jc < w1.heap.size := block_lt_of_cell c1
  have hle := hx.le
  have HCJ := hx2.cell c1
  clear hj hz hok hfa hfb hJ hw1 hw2 hjc ho how hblk
  go_enter Tryz.func33, Tryz.ntmps33
  go_upto_region 2 with (fail)
  rw [← HW1.out, ← HW2.out, ← HJ.out, ← HO.out]
  clear HW1 HW2 HJ HO
  go_wp2_with (go_at_call 53; ((with_reducible refine (HP.out).mono ?_); rintro e w3 ⟨rfl, v, x, y, hpx, hpy, hg, hc, hO⟩))
  obtain ⟨A9, n9, c9, rfl⟩ := hO.form'
  go_ret
  exact ⟨_, _, rfl, HPR.out x y hpx hpy, (hO.mono hle).to (fun _ _ => trivial), hx.grown hg (fun k hk => by cases hk; exact Nat.le_of_lt hlw)⟩
set_option maxRecDepth 100000 in
set_option maxHeartbeats 1600000 in
theorem j_table (cs : List ByteArray) (l : List (List Val)) (ok : Nat → Prop) (m : Nat) (A B : Option Addr) (c d : Nat) (w : World) (hc : Strs w (fun b => m ≤ b) A cs) (hl : Rows w ok B l) (hz : ZeroAt w) (hmw : m ≤ w.heap.size) (hll : l.length ≤ 8000000) (hwt : ∀ r ∈ l, wtL r ≤ 8000000) :
    Calls Tryz.prog 31 #[.slice A cs.length c, .slice B l.length d] w fun e w' => ∃ B' d', e = .returned (.tuple #[.agg #[.slice A cs.length c, .slice B' l.length d'], .int .i64 0]) ∧ l.length ≤ d' ∧ TabAt w' (fun b => m ≤ b) A B' ⟨cs, sortO ordL l⟩ ∧ Ext w w' := by
  obtain ⟨q, w1, hq, hw1, hx1, hle, hzz⟩ := box_res w 25
  have HZ := Lib.hid hzz
  have HS := Lib.hid (v_SortRows l ok B d w1 (hz.ext hx1) hll hwt (hl.ext hx1))
  have HC := Lib.hid (show Strs w1 (okN (fun b => m ≤ b) w) A cs from Strs.ext (SliceR.mono hc (fun _ _ _ _ hx => ⟨⟨hx.1, block_lt_of_cell hx.2⟩, hx.2⟩)) hx1)
  have HW1 := Lib.hid hw1
  have HG := Lib.hid hq
  have hqs : q < w1.heap.size := block_lt_of_cell (hzz w1 (Ext.refl _)).1
  have HQ := Lib.hid (show q = w.heap.size from hq)
  have hle1 := hx1.le
  clear hc hl hz hzz hw1 hq hwt
  generalize sortO ordL l = so at *
  generalize hn : cs.length = n at *
  have HN := Lib.hid hn
  clear hn
  go_enter Tryz.func31, Tryz.ntmps31
  go_upto_region 1 with (fail)
  rw [← HW1.out, ← HG.out]
  clear HW1 HG
  go_wp2_with (go_at_call 51; ((with_reducible refine (HS.out).mono ?_); rintro e w2 ⟨B2, d2, rfl, hd2, hV2, hx2⟩; obtain ⟨z0, z1, f0, f1⟩ := HZ.out w2 hx2))
  obtain ⟨W8, hW8⟩ : ∃ W8, W8 = (w2.setCell ⟨q, 0, none⟩ (.slice A n c)).setCell ⟨q, 1, none⟩ (.slice B2 l.length d2) := ⟨_, rfl⟩
  obtain ⟨r0, r1⟩ := set2_cells (u0 := .slice A n c) (u1 := .slice B2 l.length d2) z0 z1
  have HTA := Lib.hid (show TabAt ((w2.setCell ⟨q, 0, none⟩ (.slice A n c)).setCell ⟨q, 1, none⟩ (.slice B2 l.length d2)) (fun b => m ≤ b) A B2 ⟨cs, so⟩ from
    ⟨SliceR.mono (HC.out.ext hx2) (fun b o _ _ hx => ⟨hx.1.1, (cell_set2 w2 b _ q (by have := hx.1.2; have := HQ.out; omega)).trans hx.2⟩), hV2.keep (fun b o x hb hc => (cell_set2 w2 b o q (by omega)).trans hc) (fun b hb => Nat.le_trans hmw (Nat.le_trans hle1 hb))⟩)
  have HEX := Lib.hid (show Ext w W8 by rw [hW8]; exact ((hx1.trans hx2).setCell (by simp; omega) _).setCell (by simp; omega) _)
  rw [← hW8] at r0 r1 HTA ⊢
  clear hW8 z0 z1 f0 f1
  go_wp2_with fail
  exact bodyPost_ret (v := .tuple #[.agg #[.slice A n c, .slice B2 l.length d2], .int .i64 0]) (by simp [results, Tryz.results31, go_sem, r0, r1] <;> rfl) rfl ⟨B2, d2, rfl, hd2, HTA.out, HEX.out⟩
set_option maxRecDepth 100000 in
set_option maxHeartbeats 3200000 in
theorem j_Natural (a b : Tab) (ok ok' : Nat → Prop) (A A' B B' : Option Addr) (c c' d d' : Nat) (w : World) (hz0 : ZeroAt w) (ha : TabAt w ok A B a) (hb : TabAt w ok' A' B' b) (hfa : TabFit a) (hfb : TabFit b) (hsa : ∀ s ∈ a.cols, s.size ≤ maxLen) (hsb : ∀ s ∈ b.cols, s.size ≤ maxLen) :
    Calls Tryz.prog 12 #[.agg #[.slice A a.cols.length c, .slice B a.rows.length d], .agg #[.slice A' b.cols.length c', .slice B' b.rows.length d']] w (TabRet w (natT a b) (errJ a b)) := by
  obtain ⟨q, w3, hq, hw3, q0, q1, p0, p1, hxw, hqs, hz⟩ := box_tab3 w A B A' B' a.cols.length c a.rows.length d b.cols.length c' b.rows.length d' 25 25 25
  have HZ := Lib.hid hz
  have HBG := Lib.hid (j_begin a b ok ok' A A' B B' c c' d d' w3 (ha.ext hxw) (hb.ext hxw) hsa hsb (Nat.le_trans hfa.1 (by decide)) (Nat.le_trans hfb.1 (by decide)))
  have HCO := Lib.hid (fun W g (h : JoinAt W (fun _ => True) g a b) => j_columns a b (fun _ => True) g W h (Nat.le_trans hfa.1 (by decide)) (Nat.le_trans hfb.1 (by decide)))
  have HNA := Lib.hid (fun W g (e : Ext w3 W) (h : JoinAt W (fun _ => True) g a b) (hok : JoinOk a b) => j_natural a b g W h (hz0.ext (hxw.trans e)) hok hfa hfb)
  have HTB := Lib.hid (fun W A1 c1 B1 d1 N (e : Ext w3 W) (h1 : Strs W (fun b => w3.heap.size ≤ b) A1 (colsJ a.cols b.cols)) (h2 : Rows W (fun _ => True) B1 N) (hl : N.length ≤ 8000000) (hw : ∀ r ∈ N, wtL r ≤ 8000000) => j_table (colsJ a.cols b.cols) N (fun _ => True) w3.heap.size A1 B1 c1 d1 W h1 h2 (hz0.ext (hxw.trans e)) e.le hl hw)
  have HFI := Lib.hid (fun (hok : JoinOk a b) N (hN : N.Perm (natR a b)) => (by
    refine ⟨?_, fun r hr => Nat.le_trans (natR_fit hfa hfb hok.lb r (hN.mem_iff.1 hr)).1 (by decide), sortO_of_perm hN⟩
    rw [hN.length_eq]
    exact Nat.le_trans (natR_len hfa.2.1 hfb.2.1) (by decide) : N.length ≤ 8000000 ∧ (∀ r ∈ N, wtL r ≤ 8000000) ∧ sortO ordL N = sortO ordL (natR a b)))
  have HW3 := Lib.hid hw3
  have HG := Lib.hid hq
  have hqw : w.heap.size ≤ q := Nat.le_of_eq hq.symm
  have hle3 := hxw.le
  clear ha hb hz hw3 hq hz0
  go_enter Tryz.func12, Tryz.ntmps12
  go_upto_region 1 with (fail)
  rw [← HW3.out, ← HG.out]
  clear HW3 HG
  go_upto_region 2 with (go_at_call 30; ((with_reducible refine (HBG.out).mono ?_); rintro e w4 ⟨hor, hx4⟩; rcases hor with ⟨hen, rfl⟩ | ⟨hez, g, rfl, hJ⟩))
  · have HT := Lib.hid (show natT a b = noTab by unfold natT; rw [if_neg hen])
    have HE := Lib.hid hen
    clear hen HBG HCO HNA HTB HFI hfa hfb
    obtain ⟨z0, z1, f0, f1⟩ := HZ.out w4 hx4
    obtain ⟨er, her⟩ : ∃ er, er = errJ a b := ⟨_, rfl⟩
    have HER := Lib.hid her
    have hnz : ¬ er = 0 := by rw [her]; exact HE.out
    rw [← her]
    clear her
    go_wp2_with fail
    obtain ⟨W8, hW8⟩ : ∃ W8, W8 = (w4.setCell ⟨q + 1 + 1, 0, none⟩ (.slice none 0 0)).setCell ⟨q + 1 + 1, 1, none⟩ (.slice none 0 0) := ⟨_, rfl⟩
    obtain ⟨r0, r1⟩ := set2_cells (u0 := .slice none 0 0) (u1 := .slice none 0 0) z0 z1
    have HTA := Lib.hid ((TabAt.none_ w4 (fun b => w3.heap.size ≤ b)).set2 (u0 := .slice none 0 0) (u1 := .slice none 0 0) hqs hle3)
    have HEX := Lib.hid (show Ext w W8 by rw [hW8]; exact ((hxw.trans hx4).setCell (by simp; omega) _).setCell (by simp; omega) _)
    rw [← hW8] at r0 r1 HTA ⊢
    clear hW8 z0 z1 f0 f1
    go_wp2_with fail
    exact bodyPost_ret (v := .tuple #[.agg #[.slice none 0 0, .slice none 0 0], .int .i64 er]) (by simp [results, Tryz.results12, go_sem, r0, r1] <;> rfl) rfl (by rw [HT.out, ← HER.out]; exact ⟨none, none, 0, 0, rfl, Nat.le_refl _, Nat.le_refl _, HTA.out, HEX.out⟩)
  · have HT := Lib.hid (show natT a b = ⟨colsJ a.cols b.cols, sortO ordL (natR a b)⟩ by unfold natT; rw [if_pos hez])
    have HOK := Lib.hid (JoinOk.of hez)
    have HEZ := Lib.hid hez
    have HJ := Lib.hid hJ
    clear hez hJ hfa hfb
    have HF2 := Lib.hid (fun N h => HFI.out HOK.out N h)
    clear HFI
    generalize colsJ a.cols b.cols = cs at *
    go_wp2_with (first | (go_at_call 32; ((with_reducible refine (HCO.out _ _ HJ.out).mono ?_); rintro e w5 ⟨A5, c5, rfl, hc5, hV5, hx5⟩)) | (go_at_call 33; ((with_reducible refine (HNA.out _ _ (hx4.trans hx5) (HJ.out.ext hx5) HOK.out).mono ?_); rintro e w6 ⟨v6, N, rfl, hN, hO6, hx6⟩; obtain ⟨hl6, hw6, hs6⟩ := HF2.out N hN; obtain ⟨A6, c6, rfl, hc6, hV6⟩ := hO6.rows hl6)) | (go_at_call 31; ((with_reducible refine (HTB.out _ A5 c5 A6 c6 N (hx4.trans (hx5.trans hx6)) ((hV5.ge hx4.le).ext hx6) (hV6.to (fun _ _ => trivial)) hl6 hw6).mono ?_); rintro e w7 ⟨B7, d7, rfl, hd7, hT7, hx7⟩; obtain ⟨z0, z1, f0, f1⟩ := HZ.out w7 (hx4.trans (hx5.trans (hx6.trans hx7))))))
    have HS6 := Lib.hid hs6
    have HSL := Lib.hid (sortO_len TotC.row N)
    clear hs6
    obtain ⟨W8, hW8⟩ : ∃ W8, W8 = (w7.setCell ⟨q + 1 + 1, 0, none⟩ (.slice A5 cs.length c5)).setCell ⟨q + 1 + 1, 1, none⟩ (.slice B7 N.length d7) := ⟨_, rfl⟩
    obtain ⟨r0, r1⟩ := set2_cells (u0 := .slice A5 cs.length c5) (u1 := .slice B7 N.length d7) z0 z1
    have HTA := Lib.hid ((hT7).set2 (u0 := .slice A5 cs.length c5) (u1 := .slice B7 N.length d7) hqs hle3)
    have HEX := Lib.hid (show Ext w W8 by rw [hW8]; exact ((hxw.trans (hx4.trans (hx5.trans (hx6.trans hx7)))).setCell (by simp; omega) _).setCell (by simp; omega) _)
    rw [← hW8] at r0 r1 HTA ⊢
    clear hW8 z0 z1 f0 f1
    go_wp2_with fail
    exact bodyPost_ret (v := .tuple #[.agg #[.slice A5 cs.length c5, .slice B7 N.length d7], .int .i64 0]) (by simp [results, Tryz.results12, go_sem, r0, r1] <;> rfl) rfl (by rw [HT.out, HEZ.out, ← HS6.out]; exact ⟨A5, B7, c5, d7, by rw [HSL.out], hc5, by rw [HSL.out]; exact hd7, HTA.out, HEX.out⟩)
end Go.Proofs.YtbjddimafilflaaGreatDoor

/- THE WALKS over the reference's half, Semi and Anti. -/
namespace Go.Proofs.YtbjddimafilflaaGreatDoor
open Go.RowKit Go.Sort
def hasJ (a b : Tab) (x : List Val) : Bool := b.rows.any (agreeJ a.cols b.cols x)
def halfR (a b : Tab) (wt : Bool) : List (List Val) := a.rows.filter (fun x => hasJ a b x == wt)
def halfT (a b : Tab) (wt : Bool) : Tab := if errJ a b = 0 then ⟨a.cols, sortO ordL (halfR a b wt)⟩ else noTab
def accH (a b : Tab) (wt : Bool) (k : Nat) : List (List Val) := (a.rows.take k).filter (fun x => hasJ a b x == wt)
theorem accH_yes {a b : Tab} {wt : Bool} {k : Nat} (hk : k < a.rows.length) (h : (hasJ a b a.rows[k] == wt) = true) : accH a b wt (k + 1) = accH a b wt k ++ [a.rows[k]] := by
  unfold accH
  rw [List.take_succ_eq_append_getElem hk, List.filter_append]
  simp only [List.filter_cons, h, if_true, List.filter_nil]
theorem accH_no {a b : Tab} {wt : Bool} {k : Nat} (hk : k < a.rows.length) (h : (hasJ a b a.rows[k] == wt) = false) : accH a b wt (k + 1) = accH a b wt k := by
  unfold accH
  rw [List.take_succ_eq_append_getElem hk, List.filter_append]
  simp only [List.filter_cons, h, List.filter_nil, Bool.false_eq_true, if_false, List.append_nil]
theorem accH_len (a b : Tab) (wt : Bool) (k : Nat) : (accH a b wt k).length ≤ k := by
  unfold accH
  exact Nat.le_trans (List.length_filter_le _ _) (by rw [List.length_take]; exact Nat.min_le_left _ _)
theorem accH_end (a b : Tab) (wt : Bool) : accH a b wt a.rows.length = halfR a b wt := by unfold accH halfR; rw [List.take_length]
theorem Strs.bnd {w : World} {ok : Nat → Prop} {A : Option Addr} {l : List ByteArray} (h : Strs w ok A l) : Strs w (okN ok w) A l := SliceR.mono h (fun _ _ _ _ hx => ⟨⟨hx.1, block_lt_of_cell hx.2⟩, hx.2⟩)
theorem TabAt.bnd {w : World} {ok : Nat → Prop} {A B : Option Addr} {t : Tab} (h : TabAt w ok A B t) : TabAt w (okN ok w) A B t := ⟨h.cols.bnd, h.rows.bnd⟩
end Go.Proofs.YtbjddimafilflaaGreatDoor

/- THE WALKS over joiner.agrees, join.half, Semi and Anti. -/
namespace Go.Proofs.YtbjddimafilflaaGreatDoor
open Go.RowKit Go.Sort
set_option maxRecDepth 100000 in
set_option maxHeartbeats 1600000 in
theorem j_agrees1 (s key : List Val) (R : List Nat) (ok okk okn : Nat → Prop) (S K AR : Option Addr) (cs ck cr kc jc q : Nat) (w : World) (hz : ZeroAt w) (hk : w.cell? ⟨kc, 0, none⟩ = some (.slice K key.length ck)) (hj : w.cell? ⟨jc, 0, none⟩ = some (.pointer (some ⟨q, 0, none⟩))) (h5 : w.cell? ⟨q, 5, none⟩ = some (.slice AR R.length cr))
    (hs : Vals w ok S s) (hkv : Vals w okk K key) (hn : Nums w okn AR (ints R)) (hR : ∀ i ∈ R, i < s.length) (hl : R.length ≤ 8000000) :
    Calls Tryz.prog 61 #[.slice S s.length cs, .pointer (some ⟨kc, 0, none⟩), .pointer (some ⟨jc, 0, none⟩)] w fun e w' => e = .returned (.bool (decide (key = partJ s R))) ∧ Ext w w' := by
  have H1 := Lib.hid (fun W (e : Ext w W) => j_part s R ok okn S AR cs cr W (hs.ext e) (hn.ext e) hR hl)
  have H2 := Lib.hid (fun A2 c2 W (e : Ext w W) (h : Vals W (fun _ => True) A2 (partJ s R)) => v_OrderRows key (partJ s R) okk (fun _ => True) K A2 ck c2 W (hz.ext e) (hkv.ext e) h)
  have HQ := Lib.hid (show (ordL key (partJ s R) == 0) = decide (key = partJ s R) by rw [Bool.eq_iff_iff, beq_iff_eq, decide_eq_true_iff]; exact ordL_zero _ _)
  clear hs hkv hn hR hz
  generalize decide (key = partJ s R) = z at *
  generalize ordL key (partJ s R) = t at *
  generalize partJ s R = p at *
  go_enter Tryz.func61, Tryz.ntmps61
  go_upto_region 1 with (fail)
  have MKR11 := Lib.hid (fun V (e : Ext w V) => (⟨e.cell hk, e.cell hj, e.cell h5, e⟩ : V.cell? ⟨kc, 0, none⟩ = some (.slice K key.length ck) ∧ V.cell? ⟨jc, 0, none⟩ = some (.pointer (some ⟨q, 0, none⟩)) ∧ V.cell? ⟨q, 5, none⟩ = some (.slice AR R.length cr) ∧ Ext w V))
  refine wp_region_held_drew (S := (fun V => V.cell? ⟨kc, 0, none⟩ = some (.slice K key.length ck) ∧ V.cell? ⟨jc, 0, none⟩ = some (.pointer (some ⟨q, 0, none⟩)) ∧ V.cell? ⟨q, 5, none⟩ = some (.slice AR R.length cr) ∧ Ext w V)) (by kernel_rfl) ?hs178 (fun hHeld => ?go178)
  case hs178 => (exact MKR11.out _ (by repeat (first | with_reducible exact Ext.refl _ | with_reducible assumption | with_reducible refine Ext.drew ?_ | with_reducible refine Ext.drewN ?_ _ | with_reducible refine Ext.alloc ?_ _)))
  refine wpAnyH_take (i := 0) (oi := ⟨(some 5), (.load 37 (.tmp 1)), 37, "join.go:124", #[], none⟩) (v := ?v179) rfl (by kernel_rfl) (by kernel_rfl) (by kernel_rfl) (fun _ _ _ h => h) (Or.inl ⟨rfl, ?hy179⟩) hHeld ?rest179
  case hy179 => (intro w hSw; (try dsimp only at hSw); go_simp <;> first | with_reducible rfl | rw [if_neg (by omega)] | rw [if_pos (by omega)])
  (try simp only [Act.put]); (try simp only [List.setIfInBounds_toArray]); (try simp only [List.set_cons_succ]); (try simp only [List.set_cons_zero])
  refine wpAnyH_take (i := 1) (oi := ⟨(some 6), (.move (.tmp 0)), 37, "join.go:124", #[], none⟩) (v := ?v180) rfl (by kernel_rfl) (by kernel_rfl) (by kernel_rfl) (fun _ _ _ h => h) (Or.inl ⟨rfl, ?hy180⟩) hHeld ?rest180
  case hy180 => (intro w hSw; (try dsimp only at hSw); go_simp <;> first | with_reducible rfl | rw [if_neg (by omega)] | rw [if_pos (by omega)])
  (try simp only [Act.put]); (try simp only [List.setIfInBounds_toArray]); (try simp only [List.set_cons_succ]); (try simp only [List.set_cons_zero])
  refine wpAnyH_take (i := 2) (oi := ⟨(some 7), (.load 45 (.tmp 2)), 45, "join.go:124", #[], none⟩) (v := ?v181) rfl (by kernel_rfl) (by kernel_rfl) (by kernel_rfl) (fun _ _ _ h => h) (Or.inl ⟨rfl, ?hy181⟩) hHeld ?rest181
  case hy181 => (intro w hSw; (try dsimp only at hSw); go_simp <;> first | with_reducible rfl | rw [if_neg (by omega)] | rw [if_pos (by omega)])
  (try simp only [Act.put]); (try simp only [List.setIfInBounds_toArray]); (try simp only [List.set_cons_succ]); (try simp only [List.set_cons_zero])
  refine wpAnyH_take (i := 3) (oi := ⟨(some 8), (.nilCheck (.tmp 7)), 0, "join.go:124", #[⟨2, .data⟩], none⟩) (v := ?v182) rfl (by kernel_rfl) (by kernel_rfl) (by kernel_rfl) (fun _ _ _ h => h) (Or.inl ⟨rfl, ?hy182⟩) hHeld ?rest182
  case hy182 => (intro w hSw; (try dsimp only at hSw); go_simp <;> first | with_reducible rfl | rw [if_neg (by omega)] | rw [if_pos (by omega)])
  (try simp only [Act.put]); (try simp only [List.setIfInBounds_toArray]); (try simp only [List.set_cons_succ]); (try simp only [List.set_cons_zero])
  refine wpAnyH_take (i := 4) (oi := ⟨(some 9), (.fieldAddr 63 (.tmp 8) 3), 0, "join.go:124", #[⟨3, .data⟩], none⟩) (v := ?v183) rfl (by kernel_rfl) (by kernel_rfl) (by kernel_rfl) (fun _ _ _ h => h) (Or.inl ⟨rfl, ?hy183⟩) hHeld ?rest183
  case hy183 => (intro w hSw; (try dsimp only at hSw); go_simp <;> first | with_reducible rfl | rw [if_neg (by omega)] | rw [if_pos (by omega)])
  (try simp only [Act.put]); (try simp only [List.setIfInBounds_toArray]); (try simp only [List.set_cons_succ]); (try simp only [List.set_cons_zero])
  refine wpAnyH_take (i := 5) (oi := ⟨(some 10), (.load 61 (.tmp 9)), 61, "join.go:124", #[⟨4, .data⟩], none⟩) (v := ?v184) rfl (by kernel_rfl) (by kernel_rfl) (by kernel_rfl) (fun _ _ _ h => h) (Or.inl ⟨rfl, ?hy184⟩) hHeld ?rest184
  case hy184 => (intro w hSw; (try dsimp only at hSw); go_simp <;> first | with_reducible rfl | rw [if_neg (by omega)] | rw [if_pos (by omega)])
  (try simp only [Act.put]); (try simp only [List.setIfInBounds_toArray]); (try simp only [List.set_cons_succ]); (try simp only [List.set_cons_zero])
  refine wpAnyH_ready (rs := [6]) (by kernel_rfl) (by simp) ?_
  refine AllReadyH.cons (o := ⟨(some 11), (.call { callee := (.value (.func 55)), args := #[(.tmp 6), (.tmp 10)], argTypes := #[37, 61] }), 37, "join.go:124", #[⟨1, .data⟩, ⟨5, .data⟩], none⟩) rfl (fun K hK => ?step185x0) ?more185x0
  case more185x0 => exact AllReadyH.nil
  go_simp
  (refine (H1.out _ (by repeat (first | with_reducible exact Ext.refl _ | with_reducible assumption | with_reducible refine Ext.drew ?_ | with_reducible refine Ext.drewN ?_ _ | with_reducible refine Ext.alloc ?_ _))).mono ?_; rintro e w2 ⟨A2, c2, rfl, -, hV2, hx2⟩; replace hx2 : Ext w w2 := Ext.trans (by repeat (first | with_reducible exact Ext.refl _ | with_reducible assumption | with_reducible refine Ext.drew ?_ | with_reducible refine Ext.drewN ?_ _ | with_reducible refine Ext.alloc ?_ _)) hx2)
  refine hK.out _ _ ?hS185x0 (fun hHeld185 => ?rest185x0)
  case hS185x0 => first | (exact MKR11.out _ (by repeat (first | with_reducible exact Ext.refl _ | with_reducible assumption | with_reducible refine Ext.drew ?_ | with_reducible refine Ext.drewN ?_ _ | with_reducible refine Ext.alloc ?_ _))) | ((try dsimp only); (exact MKR11.out _ (by repeat (first | with_reducible exact Ext.refl _ | with_reducible assumption | with_reducible refine Ext.drew ?_ | with_reducible refine Ext.drewN ?_ _ | with_reducible refine Ext.alloc ?_ _))))
  clear hK K
  clear hHeld
  (try simp only [Act.put]); (try simp only [List.setIfInBounds_toArray]); (try simp only [List.set_cons_succ]); (try simp only [List.set_cons_zero])
  refine wpAnyH_ready (rs := [7]) (by kernel_rfl) (by simp) ?_
  refine AllReadyH.cons (o := ⟨(some 12), (.call { callee := (.value (.func 62)), args := #[(.tmp 5), (.tmp 11)], argTypes := #[37, 37] }), 3, "join.go:124", #[⟨0, .data⟩, ⟨6, .data⟩, ⟨6, .chain⟩], none⟩) rfl (fun K hK => ?step186x0) ?more186x0
  case more186x0 => exact AllReadyH.nil
  go_simp
  (refine (H2.out A2 c2 _ (by repeat (first | with_reducible exact Ext.refl _ | with_reducible assumption | with_reducible refine Ext.drew ?_ | with_reducible refine Ext.drewN ?_ _ | with_reducible refine Ext.alloc ?_ _)) (hV2.ext (by first | exact Ext.refl _ | exact (Ext.refl _).drew))).mono ?_; rintro e w3 ⟨rfl, hx3⟩; replace hx3 : Ext w w3 := Ext.trans (by repeat (first | with_reducible exact Ext.refl _ | with_reducible assumption | with_reducible refine Ext.drew ?_ | with_reducible refine Ext.drewN ?_ _ | with_reducible refine Ext.alloc ?_ _)) hx3)
  refine hK.out _ _ ?hS186x0 (fun hHeld186 => ?rest186x0)
  case hS186x0 => first | (exact MKR11.out _ (by repeat (first | with_reducible exact Ext.refl _ | with_reducible assumption | with_reducible refine Ext.drew ?_ | with_reducible refine Ext.drewN ?_ _ | with_reducible refine Ext.alloc ?_ _))) | ((try dsimp only); (exact MKR11.out _ (by repeat (first | with_reducible exact Ext.refl _ | with_reducible assumption | with_reducible refine Ext.drew ?_ | with_reducible refine Ext.drewN ?_ _ | with_reducible refine Ext.alloc ?_ _))))
  clear hK K
  clear hHeld185
  (try simp only [Act.put]); (try simp only [List.setIfInBounds_toArray]); (try simp only [List.set_cons_succ]); (try simp only [List.set_cons_zero])
  refine wpAnyH_take (i := 8) (oi := ⟨(some 13), (.binOp .eql 3 (.tmp 12) (.const (.int .i64 0)) 3), 4, "join.go:124", #[⟨7, .data⟩], none⟩) (v := ?v187) rfl (by kernel_rfl) (by kernel_rfl) (by kernel_rfl) (fun _ _ _ h => h) (Or.inl ⟨rfl, ?hy187⟩) hHeld186 ?rest187
  case hy187 => (intro w hSw; (try dsimp only at hSw); go_simp <;> first | with_reducible rfl | rw [if_neg (by omega)] | rw [if_pos (by omega)])
  (try simp only [Act.put]); (try simp only [List.setIfInBounds_toArray]); (try simp only [List.set_cons_succ]); (try simp only [List.set_cons_zero])
  refine wpAnyH_take (i := 9) (oi := ⟨(some 4), (.assign (.tmp 13)), 4, "join.go:124", #[⟨8, .data⟩, ⟨7, .chain⟩, ⟨0, .phase⟩, ⟨1, .phase⟩, ⟨2, .phase⟩, ⟨3, .phase⟩, ⟨4, .phase⟩, ⟨5, .phase⟩, ⟨6, .phase⟩, ⟨7, .phase⟩, ⟨8, .phase⟩], none⟩) (v := ?v188) rfl (by kernel_rfl) (by kernel_rfl) (by kernel_rfl) (fun _ _ _ h => h) (Or.inl ⟨rfl, ?hy188⟩) hHeld186 ?rest188
  case hy188 => (intro w hSw; (try dsimp only at hSw); go_simp <;> first | with_reducible rfl | rw [if_neg (by omega)] | rw [if_pos (by omega)])
  (try simp only [Act.put]); (try simp only [List.setIfInBounds_toArray]); (try simp only [List.set_cons_succ]); (try simp only [List.set_cons_zero])
  refine wpAnyH_done (by kernel_rfl) ?_ _
  clear hHeld186
  clear MKR11
  go_wp2_with fail
  go_ret
  exact ⟨ret_bool HQ.out, hx3⟩
theorem eg_agrees1 (args : Array Value) (w : World) : (callFunc 61 args).run Tryz.prog w = .ok (.enter 61 args) w :=
  run_enter (c := Tryz.f61.body.get!) Tryz.func61 (by kernel_rfl) (by kernel_rfl) args w
theorem hasJ_key {a b : Tab} (hok : JoinOk a b) (r : List Val) : hasJ a b r = (!voidJ (partJ r (leftK a.cols b.cols b.cols.length)) && b.rows.any (fun s => decide (partJ r (leftK a.cols b.cols b.cols.length) = partJ s (rightK a.cols b.cols b.cols.length)))) := by
  unfold hasJ
  induction b.rows with
  | nil => simp
  | cons s l ih =>
    rw [List.any_cons, List.any_cons, ih, agree_key hok.na hok.nb]
    cases voidJ (partJ r (leftK a.cols b.cols b.cols.length)) <;> simp
set_option maxRecDepth 100000 in
set_option maxHeartbeats 1600000 in
theorem j_agrees (a b : Tab) (q : Nat) (r : List Val) (okr : Nat → Prop) (X : Option Addr) (cx : Nat) (w : World) (hj : JoinAt w (fun _ => True) q a b) (hz : ZeroAt w) (hok : JoinOk a b) (hv : Vals w okr X r) (hr : r.length = a.cols.length) (hlb : b.cols.length ≤ 1000000) :
    Calls Tryz.prog 40 #[.pointer (some ⟨q, 0, none⟩), .slice X r.length cx] w fun e w' => e = .returned (.bool (hasJ a b r)) ∧ Ext w w' := by
  rw [hasJ_key hok r]
  obtain ⟨jc, hjc⟩ : ∃ jc, jc = w.heap.size := ⟨_, rfl⟩
  obtain ⟨w1, hw1⟩ : ∃ w1, w1 = w.alloc (.cells #[.pointer (some ⟨q, 0, none⟩)] 45) := ⟨_, rfl⟩
  have hx1 : Ext w w1 := by rw [hw1]; exact (Ext.refl _).alloc _
  have c1 : w1.cell? ⟨jc, 0, none⟩ = some (.pointer (some ⟨q, 0, none⟩)) := by rw [hw1, hjc]; exact cell_one_new w _ _ 0 _ rfl
  obtain ⟨A, B, A', B', AL, AR, AO, c, d, c', d', cl, cr, co, hJ⟩ := hj.ext hx1
  have j3 := hJ.j3
  have j4 := hJ.j4
  have j5 := hJ.j5
  have H1 := Lib.hid (fun W (e : Ext w1 W) => j_part r _ okr (fun _ => True) X AL cx cl W ((hv.ext hx1).ext e) (hJ.nl.ext e) (fun i hi => by rw [hr]; exact leftK_lt hi) (Nat.le_trans leftK_len (Nat.le_trans hlb (by decide))))
  have H2 := Lib.hid (fun W A2 c2 (e : Ext w1 W) h => j_void (partJ r (leftK a.cols b.cols b.cols.length)) (fun _ => True) A2 c2 W (hz.ext (hx1.trans e)) h)
  have H3 := Lib.hid (fun W K ck kc (e : Ext w1 W) (hk : W.cell? ⟨kc, 0, none⟩ = some (.slice K (partJ r (leftK a.cols b.cols b.cols.length)).length ck)) (hkv : Vals W (fun _ => True) K (partJ r (leftK a.cols b.cols b.cols.length))) =>
    j_ContainsR b.rows (fun s => decide (partJ r (leftK a.cols b.cols b.cols.length) = partJ s (rightK a.cols b.cols b.cols.length))) (fun _ => True) B' d' 61 #[.pointer (some ⟨kc, 0, none⟩), .pointer (some ⟨jc, 0, none⟩)] W (hJ.tb.rows.ext e) eg_agrees1
      (fun s hs As cs W' e' hvs _ => j_agrees1 s (partJ r (leftK a.cols b.cols b.cols.length)) (rightK a.cols b.cols b.cols.length) (fun _ => True) (fun _ => True) (fun _ => True) As K AR cs ck cr kc jc q W' (hz.ext (hx1.trans (e.trans e'))) (e'.cell hk) ((e.trans e').cell c1) ((e.trans e').cell j5) hvs (hkv.ext e') (hJ.nr.ext (e.trans e')) (fun i hi => by rw [hok.lb s hs]; exact rightK_lt hi) (Nat.le_trans rightK_len (Nat.le_trans hlb (by decide)))))
  have HW1 := Lib.hid hw1
  have HG := Lib.hid hjc
  have hjs : jc < w1.heap.size := block_lt_of_cell c1
  clear hj hJ hz hv hr hok hw1 hjc
  generalize b.rows.any (fun s => decide (partJ r (leftK a.cols b.cols b.cols.length) = partJ s (rightK a.cols b.cols b.cols.length))) = z2 at *
  generalize voidJ (partJ r (leftK a.cols b.cols b.cols.length)) = z1 at *
  generalize partJ r (leftK a.cols b.cols b.cols.length) = key at *
  go_enter Tryz.func40, Tryz.ntmps40
  go_upto_region 1 with (fail)
  rw [← HW1.out, ← HG.out]
  clear HW1 HG
  go_upto_region 2 with (go_at_call 55; ((with_reducible refine (H1.out _ (Ext.refl _)).mono ?_); rintro e w2 ⟨A2, c2, rfl, hc2, hV2, hx2⟩))
  obtain ⟨kc, hkc⟩ : ∃ kc, kc = w2.heap.size := ⟨_, rfl⟩
  obtain ⟨w3, hw3⟩ : ∃ w3, w3 = w2.alloc (.cells #[.slice A2 key.length c2] 37) := ⟨_, rfl⟩
  have hx3 : Ext w2 w3 := by rw [hw3]; exact (Ext.refl _).alloc _
  have ck3 : w3.cell? ⟨kc, 0, none⟩ = some (.slice A2 key.length c2) := by rw [hw3, hkc]; exact cell_one_new w2 _ _ 0 _ rfl
  rw [← hw3, ← hkc]
  have hx13 := hx2.trans hx3
  have cj3 := hx13.cell c1
  have hV3 := Lib.hid (hV2.ext hx3)
  clear hw3 hkc hx3 hV2 H1
  cases z1
  · go_wp2_with (first | (go_at_call 59; ((with_reducible refine (H2.out _ A2 c2 hx13 hV3.out).mono ?_); rintro e w4 ⟨rfl, hx4⟩; have cj4 := hx4.cell cj3; have j34 := (hx13.trans hx4).cell j3)) | (go_at_call 60; ((with_reducible refine (H3.out _ A2 c2 kc (hx13.trans hx4) (hx4.cell ck3) (hV3.out.ext hx4)).mono ?_); rintro e w5 ⟨rfl, hx5⟩)))
    go_ret
    exact ⟨rfl, hx1.trans (hx13.trans (hx4.trans hx5))⟩
  · go_wp2_with (go_at_call 59; ((with_reducible refine (H2.out _ A2 c2 hx13 hV3.out).mono ?_); rintro e w4 ⟨rfl, hx4⟩))
    go_ret
    exact ⟨rfl, hx1.trans (hx13.trans hx4)⟩
set_option maxRecDepth 100000 in
set_option maxHeartbeats 3200000 in
theorem j_half (a b : Tab) (wt : Bool) (ok ok' : Nat → Prop) (A A' B B' : Option Addr) (c c' d d' : Nat) (w : World) (hz0 : ZeroAt w) (ha : TabAt w ok A B a) (hb : TabAt w ok' A' B' b) (hfa : TabFit a) (hfb : TabFit b) (hsa : ∀ s ∈ a.cols, s.size ≤ maxLen) (hsb : ∀ s ∈ b.cols, s.size ≤ maxLen) :
    Calls Tryz.prog 45 #[.agg #[.slice A a.cols.length c, .slice B a.rows.length d], .agg #[.slice A' b.cols.length c', .slice B' b.rows.length d'], .bool wt] w (TabRet w (halfT a b wt) (errJ a b)) := by
  obtain ⟨q, w3, hq, hw3, q0, q1, p0, p1, hxw, hqs, hz⟩ := box_tab3 w A B A' B' a.cols.length c a.rows.length d b.cols.length c' b.rows.length d' 25 25 25
  have hm1 := ha.rows.len
  have HZ := Lib.hid hz
  have HBG := Lib.hid (j_begin a b ok ok' A A' B B' c c' d d' w3 (ha.ext hxw) (hb.ext hxw) hsa hsb (Nat.le_trans hfa.1 (by decide)) (Nat.le_trans hfb.1 (by decide)))
  have HAG := Lib.hid (fun W g (r : List Val) okr X cx (e : Ext w3 W) (h : JoinAt W (fun _ => True) g a b) (hok : JoinOk a b) (hv : Vals W okr X r) (hr : r.length = a.cols.length) => j_agrees a b g r okr X cx W h (hz0.ext (hxw.trans e)) hok hv hr (Nat.le_trans hfb.1 (by decide)))
  have HA := Lib.hid (ha.bnd.ext hxw)
  have HTB := Lib.hid (fun W A1 c1 B1 d1 N (e : Ext w3 W) (h1 : Strs W (fun b => w3.heap.size ≤ b) A1 a.cols) (h2 : Rows W (fun _ => True) B1 N) (hl : N.length ≤ 8000000) (hw : ∀ r ∈ N, wtL r ≤ 8000000) => j_table a.cols N (fun _ => True) w3.heap.size A1 B1 c1 d1 W h1 h2 (hz0.ext (hxw.trans e)) e.le hl hw)
  have HW3 := Lib.hid hw3
  have HG := Lib.hid hq
  have hqw : w.heap.size ≤ q := Nat.le_of_eq hq.symm
  have hle3 := hxw.le
  clear ha hb hz hw3 hq hz0
  go_enter Tryz.func45, Tryz.ntmps45
  go_upto_region 1 with (fail)
  rw [← HW3.out, ← HG.out]
  clear HW3 HG
  go_upto_region 2 with (go_at_call 30; ((with_reducible refine (HBG.out).mono ?_); rintro e w4 ⟨hor, hx4⟩; rcases hor with ⟨hen, rfl⟩ | ⟨hez, g, rfl, hJ⟩))
  · have HT := Lib.hid (show halfT a b wt = noTab by unfold halfT; rw [if_neg hen])
    have HE := Lib.hid hen
    clear hen HBG HAG HTB hfa hfb
    obtain ⟨z0, z1, f0, f1⟩ := HZ.out w4 hx4
    obtain ⟨er, her⟩ : ∃ er, er = errJ a b := ⟨_, rfl⟩
    have HER := Lib.hid her
    have hnz : ¬ er = 0 := by rw [her]; exact HE.out
    rw [← her]
    clear her
    go_wp2_with fail
    obtain ⟨W8, hW8⟩ : ∃ W8, W8 = (w4.setCell ⟨q + 1 + 1, 0, none⟩ (.slice none 0 0)).setCell ⟨q + 1 + 1, 1, none⟩ (.slice none 0 0) := ⟨_, rfl⟩
    obtain ⟨r0, r1⟩ := set2_cells (u0 := .slice none 0 0) (u1 := .slice none 0 0) z0 z1
    have HTA := Lib.hid ((TabAt.none_ w4 (fun b => w3.heap.size ≤ b)).set2 (u0 := .slice none 0 0) (u1 := .slice none 0 0) hqs hle3)
    have HEX := Lib.hid (show Ext w W8 by rw [hW8]; exact ((hxw.trans hx4).setCell (by simp; omega) _).setCell (by simp; omega) _)
    rw [← hW8] at r0 r1 HTA ⊢
    clear hW8 z0 z1 f0 f1
    go_wp2_with fail
    exact bodyPost_ret (v := .tuple #[.agg #[.slice none 0 0, .slice none 0 0], .int .i64 er]) (by simp [results, Tryz.results45, go_sem, r0, r1] <;> rfl) rfl (by rw [HT.out, ← HER.out]; exact ⟨none, none, 0, 0, rfl, Nat.le_refl _, Nat.le_refl _, HTA.out, HEX.out⟩)
  · have HT := Lib.hid (show halfT a b wt = ⟨a.cols, sortO ordL (halfR a b wt)⟩ by unfold halfT; rw [if_pos hez])
    have HOK := Lib.hid (JoinOk.of hez)
    have HEZ := Lib.hid hez
    have HJ := Lib.hid hJ
    have hrl := hfa.2.1
    have hcl := hfa.1
    have H3 := Lib.hid (show ∀ r ∈ halfR a b wt, wtL r ≤ 8000000 from fun r hr => Nat.le_trans (hfa.2.2 r (List.mem_filter.1 hr).1).2 (by decide))
    have HSL := Lib.hid (sortO_len TotC.row (halfR a b wt))
    have HEND := Lib.hid (accH_end a b wt)
    have HHL := Lib.hid (show (halfR a b wt).length ≤ 8000000 from Nat.le_trans (List.length_filter_le _ _) (Nat.le_trans hfa.2.1 (by decide)))
    have s1 := hx4.cell q1
    clear hez hJ hfa hfb HBG
    go_upto_region 6 with (fail)
    clear s1
    go_loopw [10, 26] (fun v u W => ∃ (k : Nat), u = .int .i64 k ∧ k ≤ a.rows.length ∧ Hid (OwnRows W w4.heap.size (fun _ => True) v (accH a b wt k)) ∧ Hid (Ext w4 W)) (fun _ u _ => a.rows.length - (intOf u).toNat)
    case atStart => exact ⟨0, rfl, Nat.zero_le _, Lib.hid (OwnRows.nil _ _ _), Lib.hid (Ext.refl _)⟩
    case round =>
      obtain ⟨k, rfl, hk, hown, hE⟩ := hrel
      have hE3 := hx4.trans hE.out
      by_cases hlt : k < a.rows.length
      · obtain ⟨ba, oa, rfl, hc⟩ := HA.out.rows.2 (by omega)
        obtain ⟨-, Ax, cx, h5, hlex, hvx⟩ := hc k hlt
        rw [Nat.mul_one] at h5
        have d5 := hE3.cell h5
        have HC := Lib.hid (HAG.out wr g a.rows[k] (okN ok w) Ax cx hE3 (HJ.out.ext hE.out) HOK.out (hvx.ext hE3) (HOK.out.la _ (List.getElem_mem hlt)))
        have HVX := Lib.hid hvx
        have HYES := Lib.hid (fun h => accH_yes (a := a) (b := b) (wt := wt) hlt h)
        have HNO := Lib.hid (fun h => accH_no (a := a) (b := b) (wt := wt) hlt h)
        have hsm : (accH a b wt k).length ≤ 8000000 := Nat.le_trans (accH_len a b wt k) (by omega)
        clear hc hvx h5
        generalize hasJ a b a.rows[k] = z at *
        generalize a.rows[k] = x at *
        cases hzw : (z == wt)
        · have HN := Lib.hid (HNO.out hzw)
          have hzw2 : z ≠ wt := fun e => by rw [e] at hzw; simp at hzw
          clear HYES HNO
          go_wp2_with (go_at_call 40; ((with_reducible refine (HC.out).mono ?_); rintro e w5 ⟨rfl, hy5⟩))
          have hO := Lib.hid (hown.out.ext hy5)
          go_roundw
          case rel => exact ⟨k + 1, by go_num, by omega, by rw [HN.out]; exact hO, Lib.hid (hE.out.trans hy5)⟩
          case measure => simp [intOf]; omega
        · have HN := Lib.hid (HYES.out hzw)
          have hzw2 : z = wt := by simpa using hzw
          subst hzw2
          clear HYES HNO hzw
          have hlw4 := hx4.le
          have HOW := Lib.hid (fun W (e : Ext wr W) => (⟨hown.out.ext e, (hE.out.trans e).le, (HVX.out.ext (hE3.trans e)).to (fun b hb => ⟨trivial, fun e2 => by have h1 := hown.out.lt e2.symm; have := hb.2; omega⟩)⟩ : OwnRows W w4.heap.size (fun _ => True) u10 (accH a b z k) ∧ w4.heap.size ≤ W.heap.size ∧ Vals W (fun b => True ∧ some b ≠ u10.ownBlock) Ax x))
          go_wp2_with (first | (go_at_call 40; ((with_reducible refine (HC.out).mono ?_); rintro e w5 ⟨rfl, hy5⟩)) | (at_builtin; refine own_pushR rfl (.tmp 35) (.tmp 37) rfl w4.heap.size (fun _ => True) w5 u10 (accH a b z k) x Ax cx rfl (HOW.out _ hy5).1 (HOW.out _ hy5).2.1 rfl rfl hlex (HOW.out _ hy5).2.2 hsm ?_; intro v9 w9 hO9 hg9))
          have hE9 : Ext w4 w9 := (hE.out.trans hy5).grown hg9 (fun k hk => (hown.out.lt hk).1)
          rw [← HN.out] at hO9
          go_roundw
          case rel => exact ⟨k + 1, by go_num, by omega, Lib.hid hO9, Lib.hid hE9⟩
          case measure => simp [intOf]; omega
      · have hkl : k = a.rows.length := by omega
        obtain ⟨A9, c9, e9, h9, hV9⟩ := hown.out.rows (Nat.le_trans (accH_len a b wt k) (by omega))
        rw [hkl, HEND.out] at hV9 h9
        rw [hkl, HEND.out] at e9
        subst e9
        have s0 := hE3.cell q0
        have hV9' := Lib.hid (hV9.to (ok' := fun _ => True) (fun _ _ => trivial))
        have hNW := Lib.hid (show Strs wr (okN ok w) A a.cols from HA.out.cols.ext hE3)
        have HCL := Lib.hid (c_Clone_str a.cols.length A c (a.cols.map Value.string) wr (fun e => hNW.out.none_ e) (by simp) hNW.out.news (fun u hu => by obtain ⟨s, -, rfl⟩ := List.mem_map.1 hu; rfl) (by omega))
        have hleE := hE3.le
        clear hown hE hkl hV9 HEND HAG HA
        generalize halfR a b wt = hr at *
        generalize hso : sortO ordL hr = so at *
        have HSO := Lib.hid hso
        clear hso
        go_wp2_with (first | (go_at_call 52; ((with_reducible refine (HCL.out).mono ?_); rintro e w6 ⟨v6, rfl, hO6, hx6⟩; obtain ⟨A5, c5, rfl, hc5, hV5⟩ := own_strs hO6 (by omega))) | (go_at_call 31; ((with_reducible refine (HTB.out _ A5 c5 A9 c9 hr (hE3.trans hx6) (hV5.ge hleE) (hV9'.out.ext hx6) HHL.out H3.out).mono ?_); rintro e w7 ⟨B7, d7, rfl, hd7, hT7, hx7⟩; obtain ⟨z0, z1, f0, f1⟩ := HZ.out w7 (hE3.trans (hx6.trans hx7)))))
        obtain ⟨W8, hW8⟩ : ∃ W8, W8 = (w7.setCell ⟨q + 1 + 1, 0, none⟩ (.slice A5 a.cols.length c5)).setCell ⟨q + 1 + 1, 1, none⟩ (.slice B7 hr.length d7) := ⟨_, rfl⟩
        obtain ⟨r0, r1⟩ := set2_cells (u0 := .slice A5 a.cols.length c5) (u1 := .slice B7 hr.length d7) z0 z1
        have HTA := Lib.hid ((hT7).set2 (u0 := .slice A5 a.cols.length c5) (u1 := .slice B7 hr.length d7) hqs hle3)
        have HEX := Lib.hid (show Ext w W8 by rw [hW8]; exact ((hxw.trans (hE3.trans (hx6.trans hx7))).setCell (by simp; omega) _).setCell (by simp; omega) _)
        rw [← hW8] at r0 r1 HTA ⊢
        clear hW8 z0 z1 f0 f1
        go_wp2_with fail
        exact bodyPost_ret (v := .tuple #[.agg #[.slice A5 a.cols.length c5, .slice B7 hr.length d7], .int .i64 0]) (by simp [results, Tryz.results45, go_sem, r0, r1] <;> rfl) rfl (by rw [HT.out, HEZ.out, ← HSO.out]; exact ⟨A5, B7, c5, d7, by rw [HSO.out, HSL.out], hc5, by rw [HSO.out, HSL.out]; exact hd7, HTA.out, HEX.out⟩)
set_option maxRecDepth 100000 in
set_option maxHeartbeats 1600000 in
theorem j_Semi (a b : Tab) (ok ok' : Nat → Prop) (A A' B B' : Option Addr) (c c' d d' : Nat) (w : World) (hz0 : ZeroAt w) (ha : TabAt w ok A B a) (hb : TabAt w ok' A' B' b) (hfa : TabFit a) (hfb : TabFit b) (hsa : ∀ s ∈ a.cols, s.size ≤ maxLen) (hsb : ∀ s ∈ b.cols, s.size ≤ maxLen) :
    Calls Tryz.prog 21 #[.agg #[.slice A a.cols.length c, .slice B a.rows.length d], .agg #[.slice A' b.cols.length c', .slice B' b.rows.length d']] w (TabRet w (halfT a b true) (errJ a b)) := by
  obtain ⟨q, w3, hq, hw3, q0, q1, p0, p1, hxw, hqs, hz⟩ := box_tab3 w A B A' B' a.cols.length c a.rows.length d b.cols.length c' b.rows.length d' 25 25 25
  have HZ := Lib.hid hz
  have HC := Lib.hid (j_half a b true ok ok' A A' B B' c c' d d' w3 (hz0.ext hxw) (ha.ext hxw) (hb.ext hxw) hfa hfb hsa hsb)
  have HW3 := Lib.hid hw3
  have HG := Lib.hid hq
  have hqw : w.heap.size ≤ q := Nat.le_of_eq hq.symm
  have hle3 := hxw.le
  clear ha hb hz hw3 hq
  generalize halfT a b true = t at *
  generalize errJ a b = er at *
  generalize a.cols.length = n1 at *
  generalize a.rows.length = n2 at *
  generalize b.cols.length = n3 at *
  generalize b.rows.length = n4 at *
  go_enter Tryz.func21, Tryz.ntmps21
  go_upto_region 1 with (fail)
  rw [← HW3.out, ← HG.out]
  clear HW3 HG
  go_wp2_with (go_at_call 45; ((with_reducible refine (HC.out).mono ?_); rintro e w4 ⟨A4, B4, c4, d4, rfl, hc4, hd4, hT4, hx4⟩; obtain ⟨z0, z1, f0, f1⟩ := HZ.out w4 hx4))
  obtain ⟨W8, hW8⟩ : ∃ W8, W8 = (w4.setCell ⟨q + 1 + 1, 0, none⟩ (.slice A4 t.cols.length c4)).setCell ⟨q + 1 + 1, 1, none⟩ (.slice B4 t.rows.length d4) := ⟨_, rfl⟩
  obtain ⟨r0, r1⟩ := set2_cells (u0 := .slice A4 t.cols.length c4) (u1 := .slice B4 t.rows.length d4) z0 z1
  have HTA := Lib.hid ((hT4).set2 (u0 := .slice A4 t.cols.length c4) (u1 := .slice B4 t.rows.length d4) hqs hle3)
  have HEX := Lib.hid (show Ext w W8 by rw [hW8]; exact ((hxw.trans hx4).setCell (by simp; omega) _).setCell (by simp; omega) _)
  rw [← hW8] at r0 r1 HTA ⊢
  clear hW8 z0 z1 f0 f1
  go_wp2_with fail
  exact bodyPost_ret (v := .tuple #[.agg #[.slice A4 t.cols.length c4, .slice B4 t.rows.length d4], .int .i64 er]) (by simp [results, Tryz.results21, go_sem, r0, r1] <;> rfl) rfl (by exact ⟨A4, B4, c4, d4, rfl, hc4, hd4, HTA.out, HEX.out⟩)
set_option maxRecDepth 100000 in
set_option maxHeartbeats 1600000 in
theorem j_Anti (a b : Tab) (ok ok' : Nat → Prop) (A A' B B' : Option Addr) (c c' d d' : Nat) (w : World) (hz0 : ZeroAt w) (ha : TabAt w ok A B a) (hb : TabAt w ok' A' B' b) (hfa : TabFit a) (hfb : TabFit b) (hsa : ∀ s ∈ a.cols, s.size ≤ maxLen) (hsb : ∀ s ∈ b.cols, s.size ≤ maxLen) :
    Calls Tryz.prog 23 #[.agg #[.slice A a.cols.length c, .slice B a.rows.length d], .agg #[.slice A' b.cols.length c', .slice B' b.rows.length d']] w (TabRet w (halfT a b false) (errJ a b)) := by
  obtain ⟨q, w3, hq, hw3, q0, q1, p0, p1, hxw, hqs, hz⟩ := box_tab3 w A B A' B' a.cols.length c a.rows.length d b.cols.length c' b.rows.length d' 25 25 25
  have HZ := Lib.hid hz
  have HC := Lib.hid (j_half a b false ok ok' A A' B B' c c' d d' w3 (hz0.ext hxw) (ha.ext hxw) (hb.ext hxw) hfa hfb hsa hsb)
  have HW3 := Lib.hid hw3
  have HG := Lib.hid hq
  have hqw : w.heap.size ≤ q := Nat.le_of_eq hq.symm
  have hle3 := hxw.le
  clear ha hb hz hw3 hq
  generalize halfT a b false = t at *
  generalize errJ a b = er at *
  generalize a.cols.length = n1 at *
  generalize a.rows.length = n2 at *
  generalize b.cols.length = n3 at *
  generalize b.rows.length = n4 at *
  go_enter Tryz.func23, Tryz.ntmps23
  go_upto_region 1 with (fail)
  rw [← HW3.out, ← HG.out]
  clear HW3 HG
  go_wp2_with (go_at_call 45; ((with_reducible refine (HC.out).mono ?_); rintro e w4 ⟨A4, B4, c4, d4, rfl, hc4, hd4, hT4, hx4⟩; obtain ⟨z0, z1, f0, f1⟩ := HZ.out w4 hx4))
  obtain ⟨W8, hW8⟩ : ∃ W8, W8 = (w4.setCell ⟨q + 1 + 1, 0, none⟩ (.slice A4 t.cols.length c4)).setCell ⟨q + 1 + 1, 1, none⟩ (.slice B4 t.rows.length d4) := ⟨_, rfl⟩
  obtain ⟨r0, r1⟩ := set2_cells (u0 := .slice A4 t.cols.length c4) (u1 := .slice B4 t.rows.length d4) z0 z1
  have HTA := Lib.hid ((hT4).set2 (u0 := .slice A4 t.cols.length c4) (u1 := .slice B4 t.rows.length d4) hqs hle3)
  have HEX := Lib.hid (show Ext w W8 by rw [hW8]; exact ((hxw.trans hx4).setCell (by simp; omega) _).setCell (by simp; omega) _)
  rw [← hW8] at r0 r1 HTA ⊢
  clear hW8 z0 z1 f0 f1
  go_wp2_with fail
  exact bodyPost_ret (v := .tuple #[.agg #[.slice A4 t.cols.length c4, .slice B4 t.rows.length d4], .int .i64 er]) (by simp [results, Tryz.results23, go_sem, r0, r1] <;> rfl) rfl (by exact ⟨A4, B4, c4, d4, rfl, hc4, hd4, HTA.out, HEX.out⟩)
end Go.Proofs.YtbjddimafilflaaGreatDoor
