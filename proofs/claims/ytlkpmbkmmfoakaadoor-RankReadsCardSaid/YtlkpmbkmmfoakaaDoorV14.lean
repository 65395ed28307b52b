/- PARTS OF THE WALKS, joined: RkL, RkM, RkLaidD, Cat, RkO, RkP. -/
import Derived.Test.YtlkpmbkmmfoakaaDoorV13
import Derived.Test.YtlkpmbkmmfoakaaDoorV08
import Derived.Test.YtlkpmbkmmfoakaaDoorV06
import Derived.Test.YtlkpmbkmmfoakaaDoorV05
import Derived.Test.YtlkpmbkmmfoakaaDoorV09
/- THE WALKS over slices.Clone at shares and rank.Top; the order of Top, plain. -/
namespace Go.Proofs.YtlkpmbkmmfoakaaDoor
open Go.RowKit Go.Sort
theorem shares_flat {w : World} {ok : Nat → Prop} {A : Option Addr} {l : List Sh} (h : Shares w ok A l) : ∀ ad, A = some ad → ∀ (j : Nat) u, (l.flatMap Sh.cells)[j]? = some u → w.cell? (ad.add j) = some u := by
  intro ad e j u hu
  have hlen : (l.flatMap Sh.cells).length = l.length * 3 := flat_len Sh.cells 3 (fun _ => rfl) l
  have hj : j < l.length * 3 := by rw [← hlen]; exact (List.getElem?_eq_some_iff.1 hu).1
  obtain ⟨b, o, rfl, hc⟩ := h.2 (by omega)
  injection e with e
  subst e
  obtain ⟨k, i, hk, hi, rfl⟩ : ∃ k i, k < l.length ∧ i < 3 ∧ j = k * 3 + i := ⟨j / 3, j % 3, by omega, by omega, by omega⟩
  rw [flat_at3 l k i hk hi] at hu
  obtain ⟨-, c0, c1, c2⟩ := hc k hk
  rw [Addr.add_mid]
  have hi' : i = 0 ∨ i = 1 ∨ i = 2 := by omega
  rcases hi' with rfl | rfl | rfl <;> simp only [Sh.cells, List.getElem?_cons_zero, List.getElem?_cons_succ, Option.some.injEq] at hu <;> subst hu
  · exact c0
  · rw [← Nat.add_assoc]; exact c1
  · rw [← Nat.add_assoc]; exact c2
theorem shs_one (l : List Sh) : ∀ u ∈ l.flatMap Sh.cells, u.oneCell' = true := fun u hu => by
  obtain ⟨x, -, hx⟩ := List.mem_flatMap.1 hu
  exact Sh.cells_one x u hx
set_option maxRecDepth 100000 in
theorem c_Clone_share (n : Nat) (A : Option Addr) (c : Nat) (news : List Value) (w : World) (hA : A = none → n = 0) (hl : news.length = n * 3) (hs : ∀ ad, A = some ad → ∀ j u, news[j]? = some u → w.cell? (ad.add j) = some u) (h1 : ∀ u ∈ news, u.oneCell' = true) (hn : n ≤ 8000000) :
    Calls Tryd.prog 27 #[.slice A n c] w fun e w' => ∃ v, e = .returned v ∧ w'.ownsRow w.heap.size 42 3 v n news ∧ Ext w w' := by
  have hq := fun W => Lib.run_eql_slice_nil (P := Tryd.prog) W 22 42 A n c 0 0 Tryd.underlying22
  cases A with
  | none =>
    have h0 := hA rfl
    subst h0
    have HS := Lib.hid (List.eq_nil_of_length_eq_zero (show news.length = 0 by omega))
    clear hA hs hl
    simp only [Option.isNone_none] at hq
    go_enter Tryd.func27, Tryd.ntmps27
    go_wp2
    go_ret
    refine ⟨_, rfl, ?_, Ext.refl _⟩
    rw [HS.out]
    exact World.ownsRow_nil _ _ _ _
  | some ad =>
    have HF := Lib.hid (hs ad rfl)
    have HL := Lib.hid hl
    clear hs hA hl
    simp only [Option.isNone_some] at hq
    go_enter Tryd.func27, Tryd.ntmps27
    go_wp2_with (at_builtin; refine own_append El_share rfl (.tmp 5) (.tmp 6) rfl w _ 0 [] rfl (World.ownsRow_made w #[] 0 (Nat.le_refl _) (by unfold maxLen; omega) rfl) ((Ext.refl _).alloc _) ad n c news rfl HL.out (fun j u hu => ((Ext.refl w).alloc _).cell (HF.out j u hu)) h1 (by omega) (by decide) ?_; intro v' w' hown' hE')
    go_wp2_with fail
    go_ret
    exact ⟨v', rfl, by rw [Nat.zero_add, List.nil_append] at hown'; exact hown', hE'⟩
/-- the order of Top -/
def topC (a b : Sh) : Int := thenC (cmpS b.n b.d a.n a.d) (thenC (Lib.compareInt a.id b.id) 0)
theorem topC_anti (a b : Sh) : topC b a = - topC a b := by
  unfold topC
  rw [cmp_anti a.n a.d b.n b.d, TotC.int.anti a.id b.id, ← thenC_neg, ← thenC_neg]; rfl
theorem topC_id {a b : Sh} (h : topC a b = 0) : a.id = b.id := by
  unfold topC at h
  have h1 := (thenC_eq0.1 h).2
  exact (TotC.int.zero _ _).1 (thenC_eq0.1 h1).1
theorem topC_trans (a b c : Sh) (h : topC a b ≤ 0) (k : topC b c ≤ 0) : topC a c ≤ 0 := by
  unfold topC at *
  have t1 : ∀ {x y z : Sh}, cmpS y.n y.d x.n x.d ≤ 0 → cmpS z.n z.d y.n y.d ≤ 0 → cmpS z.n z.d x.n x.d ≤ 0 := fun h1 h2 => cmp_trans h2 h1
  have a1 := cmp_anti a.n a.d b.n b.d
  have a2 := cmp_anti b.n b.d c.n c.d
  have a3 := cmp_anti a.n a.d c.n c.d
  have i1 := TotC.int.trans a.id b.id c.id
  have z0 : ∀ x : Int, thenC x 0 = x := fun x => by unfold thenC; split <;> omega
  rw [z0] at *
  have g1 := t1 (x := a) (y := b) (z := c)
  have g2 := t1 (x := b) (y := c) (z := a)
  have g3 := t1 (x := c) (y := a) (z := b)
  unfold thenC at h k ⊢
  split at h <;> split at k <;> split <;> omega
/-- two rising lists of the same elements agree in whatever equal elements agree -/
theorem rise_map {α β : Type} {k : α → α → Int} (ha : ∀ x y, k y x = - k x y) (ht : ∀ x y z, k x y ≤ 0 → k y z ≤ 0 → k x z ≤ 0) {f : α → β} (hf : ∀ x y, k x y = 0 → f x = f y) :
    ∀ (n : Nat) {a b : List α}, a.length = n → a.length = b.length → (∀ x, (a.filter (fun y => decide (k x y = 0))).length = (b.filter (fun y => decide (k x y = 0))).length) → a.Pairwise (fun x y => k x y ≤ 0) → b.Pairwise (fun x y => k x y ≤ 0) → a.map f = b.map f := by
  intro n
  induction n with
  | zero =>
    intro a b h0 hl _ _ _
    have e1 := List.eq_nil_of_length_eq_zero h0
    have e2 := List.eq_nil_of_length_eq_zero (hl ▸ h0)
    rw [e1, e2]
  | succ n ih =>
    intro a b h0 hl hc hpa hpb
    cases a with
    | nil => cases h0
    | cons x a =>
      cases b with
      | nil => cases hl
      | cons y b =>
        have hr : ∀ z, k z z = 0 := fun z => by have := ha z z; omega
        have hpa' := List.pairwise_cons.1 hpa
        have hpb' := List.pairwise_cons.1 hpb
        have h1 : k y x ≤ 0 := by
          have h2 : 0 < ((y :: b).filter (fun z => decide (k x z = 0))).length := by
            rw [← hc x, List.filter_cons, if_pos (by simp [hr])]; simp
          obtain ⟨z, hz⟩ := List.exists_mem_of_length_pos h2
          rw [List.mem_filter] at hz
          have h3 := of_decide_eq_true hz.2
          have h4 : k y z ≤ 0 := by
            rcases List.mem_cons.1 hz.1 with e | e
            · rw [e, hr]; omega
            · exact hpb'.1 z e
          exact ht y z x h4 (by have := ha x z; omega)
        have h2 : k x y ≤ 0 := by
          have h2 : 0 < ((x :: a).filter (fun z => decide (k y z = 0))).length := by
            rw [hc y, List.filter_cons, if_pos (by simp [hr])]; simp
          obtain ⟨z, hz⟩ := List.exists_mem_of_length_pos h2
          rw [List.mem_filter] at hz
          have h3 := of_decide_eq_true hz.2
          have h4 : k x z ≤ 0 := by
            rcases List.mem_cons.1 hz.1 with e | e
            · rw [e, hr]; omega
            · exact hpa'.1 z e
          exact ht x z y h4 (by have := ha y z; omega)
        have h3 : k x y = 0 := by have := ha x y; omega
        rw [List.map_cons, List.map_cons, hf x y h3]
        congr 1
        refine ih (by simpa using h0) (by simpa using hl) (fun z => ?_) hpa'.2 hpb'.2
        have h4 := hc z
        have h5 : k z x = 0 ↔ k z y = 0 := by
          have e1 := ha x y
          have e2 := ha z x
          have e3 := ha z y
          have t1 := ht z x y
          have t2 := ht z y x
          have t3 := ht x y z
          have t4 := ht y x z
          constructor <;> intro h6 <;> omega
        rw [List.filter_cons, List.filter_cons] at h4
        by_cases h6 : k z x = 0
        · rw [if_pos (by simpa using h6), if_pos (by simpa using h5.1 h6)] at h4
          simpa using h4
        · rw [if_neg (by simpa using h6), if_neg (by simpa using fun h => h6 (h5.2 h))] at h4
          exact h4
theorem top_unique {a b : List Sh} (hp : a.Perm b) (ha : a.Pairwise (fun x y => topC x y ≤ 0)) (hb : b.Pairwise (fun x y => topC x y ≤ 0)) : a.map Sh.id = b.map Sh.id :=
  rise_map topC_anti topC_trans (fun _ _ h => topC_id h) a.length rfl hp.length_eq (fun _ => (hp.filter _).length_eq) ha hb
def topS (l : List Sh) : List Sh := l.mergeSort (fun x y => decide (topC x y ≤ 0))
theorem topS_perm (l : List Sh) : (topS l).Perm l := List.mergeSort_perm _ _
theorem topS_rise (l : List Sh) : (topS l).Pairwise (fun x y => topC x y ≤ 0) := by
  have h := List.pairwise_mergeSort (le := fun x y : Sh => decide (topC x y ≤ 0)) (fun a b c h1 h2 => decide_eq_true (topC_trans a b c (of_decide_eq_true h1) (of_decide_eq_true h2))) (fun a b => by
    have := topC_anti a b
    rw [Bool.or_eq_true]
    by_cases h : topC a b ≤ 0
    · exact .inl (decide_eq_true h)
    · exact .inr (decide_eq_true (by omega))) l
  exact h.imp (fun h => of_decide_eq_true h)
/-- the ids by falling shares -/
def topI (l : List Sh) : List Int := (topS l).map Sh.id
theorem topI_len (l : List Sh) : (topI l).length = l.length := by unfold topI; rw [List.length_map]; exact (topS_perm l).length_eq
theorem topI_of {l m : List Sh} (hp : m.Perm l) (hs : m.Pairwise (fun x y => topC x y ≤ 0)) : m.map Sh.id = topI l := top_unique (hp.trans (topS_perm l).symm) hs (topS_rise l)
theorem permIn_wholeM {α : Type} [Inhabited α] {d d' : Array α} (h : PermIn 0 d.size d d') : d'.toList.Perm d.toList := by
  have h1 := h.2.2
  have h2 : d'.extract 0 d.size = d' := by rw [← h.1]; exact Array.extract_size
  rw [h2, Array.extract_size] at h1
  exact h1
theorem sorted_riseM {d : Array Sh} (h : SortedIn (ltM topC) 0 d.size d) : d.toList.Pairwise (fun x y => topC x y ≤ 0) := by
  rw [List.pairwise_iff_getElem]
  intro i j hi hj hij
  rw [Array.length_toList] at hi hj
  have := h i j (Nat.zero_le _) hij hj
  rw [getElem!_pos d i hi, getElem!_pos d j hj] at this
  unfold ltM at this
  have h1 := of_decide_eq_false this
  rw [Array.getElem_toList, Array.getElem_toList]
  have h2 := topC_anti d[i] d[j]
  omega
theorem swo_ofM {k : Sh → Sh → Int} (ha : ∀ x y, k y x = - k x y) (ht : ∀ x y z, k x y ≤ 0 → k y z ≤ 0 → k x z ≤ 0) : SWO (ltM k) := by
  have hlt : ∀ {x y}, ltM k x y = true ↔ k x y < 0 := fun {x y} => by unfold ltM; exact decide_eq_true_iff
  have hle : ∀ {x y}, ltM k x y = false ↔ k y x ≤ 0 := fun {x y} => by
    unfold ltM; rw [decide_eq_false_iff_not]; have := ha x y; omega
  refine ⟨fun x => ?_, fun x y z h1 h2 => ?_, fun x y z h1 h2 => ?_⟩
  · rw [hle]; have := ha x x; omega
  · rw [hlt] at *
    have := ht x y z (by omega) (by omega)
    have h5 := ha x z
    by_cases h6 : k x z = 0
    · have h7 := ht z x y (by omega) (by omega)
      have h8 := ha y z
      omega
    · omega
  · rw [hle] at *
    exact ht z y x h2 h1
theorem topC_orL (a b : Sh) : orL [cmpS b.n b.d a.n a.d, Lib.compareInt a.id b.id] = topC a b := rfl
set_option maxRecDepth 100000 in
set_option maxHeartbeats 800000 in
theorem rk_Top1 (a b : Sh) (w : World) (hz : ZeroAt w) :
    Calls Tryd.prog 29 #[.agg #[.int .i64 a.id, .int .i64 a.n, .int .i64 a.d], .agg #[.int .i64 b.id, .int .i64 b.n, .int .i64 b.d]] w fun e w' => e = .returned (.int .i64 (topC a b)) ∧ Ext w w' := by
  obtain ⟨q, w2, hq, hw2, hc, hx⟩ : ∃ (q : Nat) (w2 : World), q = w.heap.size ∧ w2 = (w.alloc (.cells #[.int .i64 a.id, .int .i64 a.n, .int .i64 a.d] 42)).alloc (.cells #[.int .i64 b.id, .int .i64 b.n, .int .i64 b.d] 42) ∧ (w2.cell? ⟨q, 0, none⟩ = some (.int .i64 a.id) ∧ w2.cell? ⟨q, 1, none⟩ = some (.int .i64 a.n) ∧ w2.cell? ⟨q, 2, none⟩ = some (.int .i64 a.d) ∧ w2.cell? ⟨q + 1, 0, none⟩ = some (.int .i64 b.id) ∧ w2.cell? ⟨q + 1, 1, none⟩ = some (.int .i64 b.n) ∧ w2.cell? ⟨q + 1, 2, none⟩ = some (.int .i64 b.d)) ∧ Ext w w2 :=
    ⟨_, _, rfl, rfl, ⟨by go_simp, by go_simp, by go_simp, by go_simp, by go_simp, by go_simp⟩, (by with_reducible repeat (first | exact Ext.refl _ | assumption | refine Ext.drew ?_ | refine Ext.drewN ?_ _ | refine Ext.alloc ?_ _))⟩
  have HW := Lib.hid hw2
  have HG := Lib.hid hq
  have HT := Lib.hid (topC_orL a b)
  have HC := Lib.hid (fun W (e : Ext w2 W) => frac_Cmp b.n b.d a.n a.d W (hz.ext (hx.trans e)))
  have MK := Lib.hid (fun V (e : Ext w2 V) => (⟨e.cell hc.1, e.cell hc.2.1, e.cell hc.2.2.1, e.cell hc.2.2.2.1, e.cell hc.2.2.2.2.1, e.cell hc.2.2.2.2.2⟩ : V.cell? ⟨q, 0, none⟩ = some (.int .i64 a.id) ∧ V.cell? ⟨q, 1, none⟩ = some (.int .i64 a.n) ∧ V.cell? ⟨q, 2, none⟩ = some (.int .i64 a.d) ∧ V.cell? ⟨q + 1, 0, none⟩ = some (.int .i64 b.id) ∧ V.cell? ⟨q + 1, 1, none⟩ = some (.int .i64 b.n) ∧ V.cell? ⟨q + 1, 2, none⟩ = some (.int .i64 b.d)))
  clear hw2 hq hc
  generalize topC a b = tc at *
  generalize cmpS b.n b.d a.n a.d = c1 at *
  go_enter Tryd.func29, Tryd.ntmps29
  go_upto_region 1 with (fail)
  rw [← HW.out, ← HG.out]
  clear HW HG
  refine wp_region_held_drew (S := (fun V => V.cell? ⟨q, 0, none⟩ = some (.int .i64 a.id) ∧ V.cell? ⟨q, 1, none⟩ = some (.int .i64 a.n) ∧ V.cell? ⟨q, 2, none⟩ = some (.int .i64 a.d) ∧ V.cell? ⟨q + 1, 0, none⟩ = some (.int .i64 b.id) ∧ V.cell? ⟨q + 1, 1, none⟩ = some (.int .i64 b.n) ∧ V.cell? ⟨q + 1, 2, none⟩ = some (.int .i64 b.d))) (by kernel_rfl) ?hs1 (fun hHeld => ?go1)
  case hs1 => (exact MK.out _ (by with_reducible repeat (first | exact Ext.refl _ | assumption | refine Ext.drew ?_ | refine Ext.drewN ?_ _ | refine Ext.alloc ?_ _)))
  refine wpAnyH_take (i := 0) (oi := ⟨(some 5), (.fieldAddr 42 (.tmp 3) 1), 0, "rank.go:155", #[], none⟩) (v := ?v2) rfl (by kernel_rfl) (by kernel_rfl) (by kernel_rfl) (fun _ _ _ h => h) (Or.inl ⟨rfl, ?hy2⟩) hHeld ?rest2
  case hy2 => (intro w _; go_simp <;> rfl)
  (try simp only [PU])
  refine wpAnyH_take (i := 1) (oi := ⟨(some 6), (.load 25 (.tmp 5)), 25, "rank.go:155", #[⟨0, .data⟩], none⟩) (v := ?v3) rfl (by kernel_rfl) (by kernel_rfl) (by kernel_rfl) (fun _ _ _ h => h) (Or.inl ⟨rfl, ?hy3⟩) hHeld ?rest3
  case hy3 => (intro w hSw; (try dsimp only at hSw); go_simp <;> first | with_reducible rfl | rw [if_neg (by omega)] | rw [if_pos (by omega)])
  (try simp only [PU])
  refine wpAnyH_take (i := 2) (oi := ⟨(some 7), (.fieldAddr 42 (.tmp 2) 1), 0, "rank.go:155", #[], none⟩) (v := ?v4) rfl (by kernel_rfl) (by kernel_rfl) (by kernel_rfl) (fun _ _ _ h => h) (Or.inl ⟨rfl, ?hy4⟩) hHeld ?rest4
  case hy4 => (intro w _; go_simp <;> rfl)
  (try simp only [PU])
  refine wpAnyH_take (i := 3) (oi := ⟨(some 8), (.load 25 (.tmp 7)), 25, "rank.go:155", #[⟨2, .data⟩], none⟩) (v := ?v5) rfl (by kernel_rfl) (by kernel_rfl) (by kernel_rfl) (fun _ _ _ h => h) (Or.inl ⟨rfl, ?hy5⟩) hHeld ?rest5
  case hy5 => (intro w hSw; (try dsimp only at hSw); go_simp <;> first | with_reducible rfl | rw [if_neg (by omega)] | rw [if_pos (by omega)])
  (try simp only [PU])
  refine wpAnyH_take (i := 5) (oi := ⟨(some 10), (.fieldAddr 42 (.tmp 2) 0), 0, "rank.go:155", #[], none⟩) (v := ?v6) rfl (by kernel_rfl) (by kernel_rfl) (by kernel_rfl) (fun _ _ _ h => h) (Or.inl ⟨rfl, ?hy6⟩) hHeld ?rest6
  case hy6 => (intro w _; go_simp <;> rfl)
  (try simp only [PU])
  refine wpAnyH_take (i := 6) (oi := ⟨(some 11), (.load 3 (.tmp 10)), 3, "rank.go:155", #[⟨5, .data⟩], none⟩) (v := ?v7) rfl (by kernel_rfl) (by kernel_rfl) (by kernel_rfl) (fun _ _ _ h => h) (Or.inl ⟨rfl, ?hy7⟩) hHeld ?rest7
  case hy7 => (intro w hSw; (try dsimp only at hSw); go_simp <;> first | with_reducible rfl | rw [if_neg (by omega)] | rw [if_pos (by omega)])
  (try simp only [PU])
  refine wpAnyH_take (i := 7) (oi := ⟨(some 12), (.fieldAddr 42 (.tmp 3) 0), 0, "rank.go:155", #[], none⟩) (v := ?v8) rfl (by kernel_rfl) (by kernel_rfl) (by kernel_rfl) (fun _ _ _ h => h) (Or.inl ⟨rfl, ?hy8⟩) hHeld ?rest8
  case hy8 => (intro w _; go_simp <;> rfl)
  (try simp only [PU])
  refine wpAnyH_take (i := 8) (oi := ⟨(some 13), (.load 3 (.tmp 12)), 3, "rank.go:155", #[⟨7, .data⟩], none⟩) (v := ?v9) rfl (by kernel_rfl) (by kernel_rfl) (by kernel_rfl) (fun _ _ _ h => h) (Or.inl ⟨rfl, ?hy9⟩) hHeld ?rest9
  case hy9 => (intro w hSw; (try dsimp only at hSw); go_simp <;> first | with_reducible rfl | rw [if_neg (by omega)] | rw [if_pos (by omega)])
  (try simp only [PU])
  refine wpAnyH_ready (rs := [4]) (by kernel_rfl) (by simp) ?_
  refine AllReadyH.cons (o := ⟨(some 9), (.call { callee := (.value (.func 31)), args := #[(.tmp 6), (.tmp 8)], argTypes := #[25, 25] }), 3, "rank.go:155", #[⟨1, .data⟩, ⟨3, .data⟩], none⟩) rfl (fun K hK => ?step10x0) ?more10x0
  case more10x0 => exact AllReadyH.nil
  go_simp
  (refine (HC.out _ (by with_reducible repeat (first | exact Ext.refl _ | assumption | refine Ext.drew ?_ | refine Ext.drewN ?_ _ | refine Ext.alloc ?_ _))).mono ?_; rintro e w3 ⟨rfl, hb3⟩; replace hb3 : Ext w2 w3 := Ext.trans (by with_reducible repeat (first | exact Ext.refl _ | assumption | refine Ext.drew ?_ | refine Ext.drewN ?_ _ | refine Ext.alloc ?_ _)) (of_below hb3))
  refine hK.out _ _ ?hS10x0 (fun hHeld10 => ?rest10x0)
  case hS10x0 => first | (exact MK.out _ (by with_reducible repeat (first | exact Ext.refl _ | assumption | refine Ext.drew ?_ | refine Ext.drewN ?_ _ | refine Ext.alloc ?_ _))) | ((try dsimp only); (exact MK.out _ (by with_reducible repeat (first | exact Ext.refl _ | assumption | refine Ext.drew ?_ | refine Ext.drewN ?_ _ | refine Ext.alloc ?_ _))))
  clear hK K
  clear hHeld
  (try simp only [PU])
  refine wpAnyH_ready (rs := [9]) (by kernel_rfl) (by simp) ?_
  refine AllReadyH.cons (o := ⟨(some 14), (.call { callee := (.value (.func 32)), args := #[(.tmp 11), (.tmp 13)], argTypes := #[3, 3] }), 3, "rank.go:155", #[⟨6, .data⟩, ⟨8, .data⟩, ⟨4, .chain⟩], none⟩) rfl (fun K hK => ?step11x0) ?more11x0
  case more11x0 => exact AllReadyH.nil
  go_simp
  (refine (c_cmp_int _ _ _).mono ?_; rintro e w4 ⟨rfl, rfl⟩)
  refine hK.out _ _ ?hS11x0 (fun hHeld11 => ?rest11x0)
  case hS11x0 => first | (exact MK.out _ (by with_reducible repeat (first | exact Ext.refl _ | assumption | refine Ext.drew ?_ | refine Ext.drewN ?_ _ | refine Ext.alloc ?_ _))) | ((try dsimp only); (exact MK.out _ (by with_reducible repeat (first | exact Ext.refl _ | assumption | refine Ext.drew ?_ | refine Ext.drewN ?_ _ | refine Ext.alloc ?_ _))))
  clear hK K
  clear hHeld10
  (try simp only [PU])
  refine wpAnyH_ready (rs := [10]) (by kernel_rfl) (by simp) ?_
  refine AllReadyH.cons (o := ⟨(some 15), (.buildSlice 28 2 #[(0, (.tmp 9)), (1, (.tmp 14))]), 28, "rank.go:155", #[⟨4, .data⟩, ⟨9, .data⟩], none⟩) rfl (fun K hK => ?step12x0) ?more12x0
  case more12x0 => exact AllReadyH.nil
  go_simp
  refine hK.out _ _ ?hS12x0 (fun hHeld12 => ?rest12x0)
  case hS12x0 => first | (exact MK.out _ (by with_reducible repeat (first | exact Ext.refl _ | assumption | refine Ext.drew ?_ | refine Ext.drewN ?_ _ | refine Ext.alloc ?_ _))) | ((try dsimp only); (exact MK.out _ (by with_reducible repeat (first | exact Ext.refl _ | assumption | refine Ext.drew ?_ | refine Ext.drewN ?_ _ | refine Ext.alloc ?_ _))))
  clear hK K
  clear hHeld11
  (try simp only [PU])
  refine wpAnyH_ready (rs := [11]) (by kernel_rfl) (by simp) ?_
  refine AllReadyH.cons (o := ⟨(some 16), (.call { callee := (.value (.func 30)), args := #[(.tmp 15)], argTypes := #[28] }), 3, "rank.go:155", #[⟨10, .data⟩, ⟨9, .chain⟩], none⟩) rfl (fun K hK => ?step13x0) ?more13x0
  case more13x0 => exact AllReadyH.nil
  go_simp
  (refine Calls.mono (c_or_int _ [c1, Lib.compareInt a.id b.id] _ (by simp) ?hcs) ?_; (case hcs => (intro j hj; have hj6 : j = 0 ∨ j = 1 := (by simp at hj; omega); rcases hj6 with rfl | rfl <;> (go_simp; done))); rintro e w5 ⟨rfl, rfl⟩)
  refine hK.out _ _ ?hS13x0 (fun hHeld13 => ?rest13x0)
  case hS13x0 => first | (exact MK.out _ (by with_reducible repeat (first | exact Ext.refl _ | assumption | refine Ext.drew ?_ | refine Ext.drewN ?_ _ | refine Ext.alloc ?_ _))) | ((try dsimp only); (exact MK.out _ (by with_reducible repeat (first | exact Ext.refl _ | assumption | refine Ext.drew ?_ | refine Ext.drewN ?_ _ | refine Ext.alloc ?_ _))))
  clear hK K
  clear hHeld12
  (try simp only [PU])
  refine wpAnyH_take (i := 12) (oi := ⟨(some 4), (.assign (.tmp 16)), 3, "rank.go:155", #[⟨11, .data⟩, ⟨11, .chain⟩, ⟨0, .phase⟩, ⟨1, .phase⟩, ⟨2, .phase⟩, ⟨3, .phase⟩, ⟨4, .phase⟩, ⟨5, .phase⟩, ⟨6, .phase⟩, ⟨7, .phase⟩, ⟨8, .phase⟩, ⟨9, .phase⟩, ⟨10, .phase⟩, ⟨11, .phase⟩], none⟩) (v := ?v14) rfl (by kernel_rfl) (by kernel_rfl) (by kernel_rfl) (fun _ _ _ h => h) (Or.inl ⟨rfl, ?hy14⟩) hHeld13 ?rest14
  case hy14 => (intro w _; go_simp <;> first | with_reducible rfl | rw [if_neg (by omega)] | rw [if_pos (by omega)])
  (try simp only [PU])
  refine wpAnyH_done (by kernel_rfl) ?_ _
  clear hHeld13
  go_wp2_with fail
  go_ret
  exact ⟨by first | rfl | (rw [← HT.out]; rfl) | rw [HT.out], hx.trans (by with_reducible repeat (first | exact Ext.refl _ | assumption | refine Ext.drew ?_ | refine Ext.drewN ?_ _ | refine Ext.alloc ?_ _))⟩
theorem eg_Top1 (args : Array Value) (w : World) : (callFunc 29 args).run Tryd.prog w = .ok (.enter 29 args) w :=
  run_enter (c := Tryd.f29.body.get!) Tryd.func29 (by kernel_rfl) (by kernel_rfl) args w
theorem ZeroAt.grownM {w w' : World} {g : Nat} (h : ZeroAt w) (hg : w.grownBy w' (some g)) (hne : 0 ≠ g) : ZeroAt w' :=
  ⟨hg.cell h.1 (fun e => hne (Option.some.inj e)), hg.cell h.2.1 (fun e => hne (Option.some.inj e)), Nat.lt_of_lt_of_le h.2.2 hg.size⟩
set_option maxRecDepth 100000 in
set_option maxHeartbeats 800000 in
theorem sm_none (A : Option Addr) (c : Nat) (fv : Value) (w : World) : Calls Tryd.prog 80 #[.slice A 0 c, .int .i64 0, .int .i64 0, fv] w fun e w' => e = .returned (.tuple #[]) ∧ w = w' := by
  go_enter Tryd.func80, Tryd.ntmps80
  go_wp2
  go_loopw [8] (fun u W => u = .int .i64 1 ∧ W = w) (fun _ _ => 0)
  case atStart => exact ⟨rfl, rfl⟩
  case round =>
    obtain ⟨rfl, rfl⟩ := hrel
    go_wp2
    go_end0
    exact ⟨rfl, rfl⟩
set_option maxRecDepth 100000 in
set_option maxHeartbeats 800000 in
theorem sm_stable0 (A : Option Addr) (c : Nat) (fv : Value) (w : World) : Calls Tryd.prog 56 #[.slice A 0 c, .int .i64 0, fv] w fun e w' => e = .returned (.tuple #[]) ∧ w = w' := by
  go_enter Tryd.func56, Tryd.ntmps56
  go_wp2_with fail
  go_loopw [7, 8] (fun u v W => u = .int .i64 0 ∧ v = .int .i64 20 ∧ W = w) (fun _ _ _ => 0)
  case atStart => exact ⟨rfl, rfl, rfl⟩
  case round =>
    obtain ⟨rfl, rfl, rfl⟩ := hrel
    go_wp2_with (go_at_call 80; refine (sm_none _ _ _ _).mono ?_; rintro e w' ⟨rfl, rfl⟩)
    go_loopw [6] (fun u W => u = .int .i64 20 ∧ W = wr) (fun _ _ => 0)
    case atStart => exact ⟨rfl, rfl⟩
    case round =>
      obtain ⟨rfl, rfl⟩ := hrel
      go_wp2
      go_end0
      exact ⟨rfl, rfl⟩
set_option maxRecDepth 100000 in
theorem sm_sort0 (A : Option Addr) (c : Nat) (fv : Value) (w : World) : Calls Tryd.prog 28 #[.slice A 0 c, fv] w fun e w' => e = .returned (.tuple #[]) ∧ w = w' := by
  go_enter Tryd.func28, Tryd.ntmps28
  go_wp2_with (go_at_call 56; refine (sm_stable0 _ _ _ _).mono ?_; rintro e w' ⟨rfl, rfl⟩)
  go_end0
  exact ⟨rfl, rfl⟩
/-- the tail of Top, over a row of shares -/
theorem ids_take (d : List Sh) (k : Nat) (h : k < d.length) : ((d.take (k + 1)).map Sh.id).map (Value.int .i64) = ((d.take k).map Sh.id).map (Value.int .i64) ++ [Value.int .i64 d[k]!.id] := by
  rw [List.take_succ_eq_append_getElem h, List.map_append, List.map_append, getElem!_pos d k h]; rfl
set_option maxRecDepth 100000 in
set_option maxHeartbeats 1600000 in
theorem rk_Top_of (l : List Sh) (ok : Nat → Prop) (A : Option Addr) (c : Nat) (w : World) (hz : ZeroAt w) (hl : Shares w ok A l) (hlen : l.length ≤ 8000000)
    (hsort : ∀ (w2 : World) (g cap : Nat), CmpOkM Tryd.prog 29 #[] topC w2 g → SortM w2 w.heap.size g cap 42 l.toArray w2 → Calls Tryd.prog 28 #[.slice (some ⟨g, 0, none⟩) l.toArray.size cap, .func (.func 29) #[] #[]] w2 fun e w' => e = .returned (.tuple #[]) ∧ ∃ d', SortM w2 w.heap.size g cap 42 d' w' ∧ PermIn 0 l.toArray.size l.toArray d' ∧ SortedIn (ltM topC) 0 l.toArray.size d') :
    Calls Tryd.prog 10 #[.slice A l.length c] w fun e w' => ∃ A' c', e = .returned (.slice A' (topI l).length c') ∧ (topI l).length ≤ c' ∧ Nums w' (fun b => w.heap.size ≤ b) A' (topI l) ∧ Ext w w' := by
  have HCL := Lib.hid (c_Clone_share l.length A c (l.flatMap Sh.cells) w (fun h => hl.none_ h) (flat_len Sh.cells 3 (fun _ => rfl) l) (shares_flat hl) (shs_one l) hlen)
  have HN := Lib.hid (topI_len l)
  by_cases h0 : l.length = 0
  · have hl0 : l = [] := List.eq_nil_of_length_eq_zero h0
    subst hl0
    have HTI := Lib.hid (show topI [] = [] from List.eq_nil_of_length_eq_zero (HN.out))
    clear hl h0 hlen HN hsort
    rw [HTI.out]
    go_enter Tryd.func10, Tryd.ntmps10
    go_wp2_with fail
    refine (HCL.out).mono ?_
    rintro e w2 ⟨v, rfl, hown, hx⟩
    obtain ⟨A2, c2, rfl⟩ := own_form hown
    clear hown
    go_wp2_with (go_at_call 28; refine (sm_sort0 _ _ _ _).mono ?_; rintro e w' ⟨rfl, rfl⟩)
    go_loopw [4, 13] (fun v u W => v = .slice none 0 0 ∧ u = .int .i64 0 ∧ Ext w W) (fun _ _ _ => 0)
    case atStart => exact ⟨rfl, rfl, hx⟩
    case round =>
      obtain ⟨rfl, rfl, hEr⟩ := hrel
      go_wp2
      go_ret
      exact ⟨none, 0, rfl, Nat.le_refl _, SliceR.nil _ _ _, hEr⟩
  · have HNE := Lib.hid h0
    clear hl h0
    go_enter Tryd.func10, Tryd.ntmps10
    go_wp2_with fail
    refine (HCL.out).mono ?_
    rintro e w2 ⟨v, rfl, hown, hx⟩
    obtain ⟨g, cap, rfl, hgb, hgs⟩ : ∃ g cap, v = .slice (some ⟨g, 0, none⟩) l.length cap ∧ w.heap.size ≤ g ∧ g < w2.heap.size := by
      rcases hown.2 with ⟨-, h1⟩ | ⟨g, cap, cur, hv, hb, hh, -⟩
      · exact absurd h1 HNE.out
      · exact ⟨g, cap, hv, hb, (Array.getElem?_eq_some_iff.1 hh).1⟩
    have hzg : 0 ≠ g := by have := hz.2.2; omega
    have HSO := Lib.hid (hsort w2 g cap (fun W hg x y => rk_Top1 x y W ((hz.ext hx).grownM hg hzg)) (SortM.start (by simpa using hown)))
    simp only [List.size_toArray] at HSO
    clear hown HCL hz hzg hsort
    go_wp2_with fail
    refine (HSO.out).mono ?_
    rintro e w3 ⟨rfl, d, hs, hp, hso⟩
    have hds : d.size = l.length := hp.1
    have HTI := Lib.hid (show d.toList.map Sh.id = topI l from topI_of (permIn_wholeM (d := l.toArray) (by simpa using hp)) (sorted_riseM (by rw [hds]; exact hso)))
    have HDS := Lib.hid hds
    have HS := Lib.hid hs
    have hx3 : Ext w w3 := hx.grown hs.gr (fun k hk => by rw [← Option.some.inj hk]; exact hgb)
    have HS0 := Lib.hid (fun W : World => World.ownsRow_nil W W.heap.size 3 1)
    clear hs hp hso hds HSO hx hgs
    go_wp2_with fail
    go_loopw [4, 13] (fun v u W => ∃ k : Nat, u = .int .i64 k ∧ k ≤ l.length ∧ Hid (W.ownsRow w3.heap.size 3 1 v k (((d.toList.take k).map Sh.id).map (Value.int .i64))) ∧ Ext w3 W) (fun _ u _ => l.length - (intOf u).toNat)
    case atStart => exact ⟨0, rfl, Nat.zero_le _, Lib.hid (HS0.out _), Ext.refl _⟩
    case round =>
      clear HS0
      obtain ⟨k, rfl, hk, HO, hEr⟩ := hrel
      by_cases hlt : k < l.length
      · obtain ⟨a0, a1, a2⟩ := (HS.out.ext hEr).cells (show k < d.size by rw [HDS.out]; exact hlt)
        have HT := Lib.hid (ids_take d.toList k (by rw [Array.length_toList, HDS.out]; exact hlt))
        have HE := Lib.hid (show d.toList[k]! = d[k]! from by rw [getElem!_pos d k (by rw [HDS.out]; exact hlt), getElem!_pos d.toList k (by rw [Array.length_toList, HDS.out]; exact hlt)]; rfl)
        rw [HE.out] at HT
        obtain ⟨y, w4, hy, hw4, n0, n1, n2, hx4⟩ := box_share wr d[k]! 42
        have HW4 := Lib.hid hw4
        have HY := Lib.hid hy
        have HO4 := Lib.hid (own_ext HO.out hx4)
        have hkb : k + 1 ≤ 8388608 := by omega
        clear hy hw4 HE HO
        generalize d[k]! = x at *
        go_upto_region 7 with (fail)
        rw [← HW4.out, ← HY.out]
        clear HW4 HY a0 a1 a2
        go_wp2_with (at_builtin; refine own_pushF El_int rfl (.tmp 17) (.tmp 20) rfl w3 w4 _ k _ [.int .i64 x.id] rfl HO4.out (hEr.trans hx4) rfl rfl rfl (by simp [Value.oneCell']) hkb (by decide) ?_; intro v2 w5 hown2 hx5 _)
        have HO5 := Lib.hid (show w5.ownsRow w3.heap.size 3 1 v2 (k + 1) (((d.toList.take (k + 1)).map Sh.id).map (Value.int .i64)) by rw [HT.out]; exact hown2)
        clear hown2 HO4
        go_wp2_with fail
        go_roundw
        case rel => exact ⟨k + 1, by go_num, by omega, HO5, hx5⟩
        case measure => simp [intOf]; omega
      · have hof := HO.out
        rw [List.take_of_length_le (by rw [Array.length_toList, HDS.out]; omega), HTI.out] at hof
        have HOF := Lib.hid hof
        clear hof
        have hkn : k = (topI l).length := by rw [HN.out]; omega
        obtain ⟨A9, c9, rfl, h9, hS9⟩ := nums_of_own HOF.out hkn (by rw [HN.out]; omega)
        have HS9 := Lib.hid hS9
        have HK := Lib.hid hkn
        clear HO HOF hS9 hkn HN HTI
        go_wp2_with fail
        go_ret
        exact ⟨A9, c9, rfl, h9, SliceR.mono HS9.out (fun _ _ _ _ h => ⟨Nat.le_trans hx3.le h.1, h.2⟩), hx3.trans hEr⟩
theorem rk_Top (l : List Sh) (ok : Nat → Prop) (A : Option Addr) (c : Nat) (w : World) (hz : ZeroAt w) (hl : Shares w ok A l) (hlen : l.length ≤ 8000000) :
    Calls Tryd.prog 10 #[.slice A l.length c] w fun e w' => ∃ A' c', e = .returned (.slice A' (topI l).length c') ∧ (topI l).length ≤ c' ∧ Nums w' (fun b => w.heap.size ≤ b) A' (topI l) ∧ Ext w w' :=
  rk_Top_of l ok A c w hz hl hlen (fun w2 g cap hc hs => sm_sortStable w2 w.heap.size g cap topC 29 #[] l.toArray w2 eg_Top1 hc (swo_ofM topC_anti topC_trans) hs (by simpa using hlen))
set_option maxRecDepth 100000 in
set_option maxHeartbeats 800000 in
theorem sm_stableS (w0 : World) (B g cap : Nat) (cf : Sh → Sh → Int) (f : Nat) (cb : Array Value) (d : Array Sh) (w : World)
    (eg : ∀ args w, (callFunc f args).run Tryd.prog w = .ok (.enter f args) w) (hcmp : CmpOkM Tryd.prog f cb cf w0 g) (hS : SWO (ltM cf)) (hs : SortM w0 B g cap 42 d w) (hsz : d.size ≤ 19) :
    Calls Tryd.prog 56 #[.slice (some ⟨g, 0, none⟩) d.size cap, .int .i64 d.size, .func (.func f) #[] cb] w fun e w' => e = .returned (.tuple #[]) ∧ ∃ d', SortM w0 B g cap 42 d' w' ∧ PermIn 0 d.size d d' ∧ SortedIn (ltM cf) 0 d.size d' := by
  have HI := Lib.hid (sm_insert w0 B g cap cf f cb d 0 d.size w eg hcmp hS hs (Nat.zero_le _) (Nat.le_refl _) (by omega))
  clear hs hcmp hS
  generalize d.size = n at *
  go_enter Tryd.func56, Tryd.ntmps56
  go_wp2_with fail
  go_loopw [7, 8] (fun u v W => u = .int .i64 0 ∧ v = .int .i64 20 ∧ W = w) (fun _ _ _ => 0)
  case atStart => exact ⟨rfl, rfl, rfl⟩
  case round =>
    obtain ⟨rfl, rfl, rfl⟩ := hrel
    go_wp2_with (go_at_call 80; refine (HI.out).mono ?_; rintro e w' ⟨rfl, HE⟩; replace HE := Lib.hid HE)
    go_loopw [6] (fun u W => u = .int .i64 20 ∧ W = w') (fun _ _ => 0)
    case atStart => exact ⟨rfl, rfl⟩
    case round =>
      obtain ⟨rfl, rfl⟩ := hrel
      go_wp2
      go_end0
      exact ⟨rfl, HE.out⟩
set_option maxRecDepth 100000 in
theorem sm_sortS (w0 : World) (B g cap : Nat) (cf : Sh → Sh → Int) (f : Nat) (cb : Array Value) (d : Array Sh) (w : World)
    (eg : ∀ args w, (callFunc f args).run Tryd.prog w = .ok (.enter f args) w) (hcmp : CmpOkM Tryd.prog f cb cf w0 g) (hS : SWO (ltM cf)) (hs : SortM w0 B g cap 42 d w) (hsz : d.size ≤ 19) :
    Calls Tryd.prog 28 #[.slice (some ⟨g, 0, none⟩) d.size cap, .func (.func f) #[] cb] w fun e w' => e = .returned (.tuple #[]) ∧ ∃ d', SortM w0 B g cap 42 d' w' ∧ PermIn 0 d.size d d' ∧ SortedIn (ltM cf) 0 d.size d' := by
  have HS := Lib.hid (sm_stableS w0 B g cap cf f cb d w eg hcmp hS hs hsz)
  clear hs hcmp hS
  go_enter Tryd.func28, Tryd.ntmps28
  go_wp2_with (go_at_call 56; refine HS.out.mono ?_; rintro r w1 ⟨rfl, HE⟩; replace HE := Lib.hid HE)
  go_end0
  exact ⟨rfl, HE.out⟩
/-- Top of few shares: the insertion sort alone -/
theorem rk_TopS (l : List Sh) (ok : Nat → Prop) (A : Option Addr) (c : Nat) (w : World) (hz : ZeroAt w) (hl : Shares w ok A l) (hlen : l.length ≤ 19) :
    Calls Tryd.prog 10 #[.slice A l.length c] w fun e w' => ∃ A' c', e = .returned (.slice A' (topI l).length c') ∧ (topI l).length ≤ c' ∧ Nums w' (fun b => w.heap.size ≤ b) A' (topI l) ∧ Ext w w' :=
  rk_Top_of l ok A c w hz hl (by omega) (fun w2 g cap hc hs => sm_sortS w2 w.heap.size g cap topC 29 #[] l.toArray w2 eg_Top1 hc (swo_ofM topC_anti topC_trans) hs (by simpa using hlen))
end Go.Proofs.YtlkpmbkmmfoakaaDoor

/- THE WALKS over the law's three, alive, few (chapter 51). -/
namespace Go.Proofs.YtlkpmbkmmfoakaaDoor
open Go.RowKit Go.Sort
def gT : GraphG := ⟨[⟨1, [], []⟩, ⟨2, [], []⟩, ⟨3, [], []⟩], [⟨1, 1, 2, ⟨#[84]⟩, []⟩, ⟨2, 1, 3, ⟨#[84]⟩, []⟩, ⟨3, 2, 3, ⟨#[84]⟩, []⟩], 4, 4⟩
theorem nodeC_lit {W : World} {b o : Nat} {i : Int} (h0 : W.cell? ⟨b, o, none⟩ = some (.int .i64 i)) (h1 : W.cell? ⟨b, o + 1, none⟩ = some (.slice none 0 0)) (h2 : W.cell? ⟨b, o + 2, none⟩ = some (.slice none 0 0)) : NodeC W (fun _ => True) b o ⟨i, [], []⟩ :=
  ⟨trivial, h0, none, 0, none, 0, h1, Nat.le_refl _, SliceR.nil _ _ _, h2, Nat.le_refl _, SliceR.nil _ _ _⟩
theorem edgeC_lit {W : World} {b o : Nat} {i f t : Int} {s : ByteArray} (h0 : W.cell? ⟨b, o, none⟩ = some (.int .i64 i)) (h1 : W.cell? ⟨b, o + 1, none⟩ = some (.int .i64 f)) (h2 : W.cell? ⟨b, o + 2, none⟩ = some (.int .i64 t)) (h3 : W.cell? ⟨b, o + 3, none⟩ = some (.string s)) (h4 : W.cell? ⟨b, o + 4, none⟩ = some (.slice none 0 0)) : EdgeC W (fun _ => True) b o ⟨i, f, t, s, []⟩ :=
  ⟨trivial, h0, h1, h2, h3, none, 0, h4, Nat.le_refl _, SliceR.nil _ _ _⟩
theorem nodes_lit (w : World) (q : Nat) (hq : q = w.heap.size) : Nodes (w.alloc (.cells #[.int .i64 1, .slice none 0 0, .slice none 0 0, .int .i64 2, .slice none 0 0, .slice none 0 0, .int .i64 3, .slice none 0 0, .slice none 0 0] 45)) (fun _ => True) (some ⟨q, 0, none⟩) gT.nodes := by
  subst hq
  refine ⟨by decide, fun _ => ⟨_, _, rfl, fun k hk => ?_⟩⟩
  have h3 : k < 3 := hk
  have hk' : k = 0 ∨ k = 1 ∨ k = 2 := by omega
  rcases hk' with rfl | rfl | rfl <;> exact nodeC_lit (by go_simp) (by go_simp) (by go_simp)
theorem edges_lit (w : World) (q : Nat) (hq : q = w.heap.size) : Edges (w.alloc (.cells #[.int .i64 1, .int .i64 1, .int .i64 2, .string ⟨#[84]⟩, .slice none 0 0, .int .i64 2, .int .i64 1, .int .i64 3, .string ⟨#[84]⟩, .slice none 0 0, .int .i64 3, .int .i64 2, .int .i64 3, .string ⟨#[84]⟩, .slice none 0 0] 55)) (fun _ => True) (some ⟨q, 0, none⟩) gT.edges := by
  subst hq
  refine ⟨by decide, fun _ => ⟨_, _, rfl, fun k hk => ?_⟩⟩
  have h3 : k < 3 := hk
  have hk' : k = 0 ∨ k = 1 ∨ k = 2 := by omega
  rcases hk' with rfl | rfl | rfl <;> exact edgeC_lit (by go_simp) (by go_simp) (by go_simp) (by go_simp) (by go_simp)
set_option maxRecDepth 100000 in
set_option maxHeartbeats 800000 in
theorem l_three (w : World) : Calls Tryd.prog 22 #[] w fun e w' => ∃ A B, e = .returned (.agg #[.slice A 3 3, .slice B 3 3, .int .i64 4, .int .i64 4]) ∧ GraphAt w' (fun _ => True) A B gT ∧ Ext w w' := by
  go_enter Tryd.func22, Tryd.ntmps22
  go_wp2_with fail
  refine bodyPost_ret (v := .agg #[.slice (some ⟨w.heap.size + 1, 0, none⟩) 3 3, .slice (some ⟨w.heap.size + 1 + 1, 0, none⟩) 3 3, .int .i64 4, .int .i64 4]) (by simp [results, Tryd.results22, go_sem]) rfl ⟨_, _, rfl, ⟨(nodes_lit _ _ (by simp)).ext ((Ext.refl _).alloc _), edges_lit _ _ (by simp)⟩, (((Ext.refl _).alloc _).alloc _).alloc _⟩
def sT : List Sh := [⟨1, 1, 3⟩, ⟨2, 1, 3⟩, ⟨3, 1, 3⟩]
def lT : List Sh := [⟨1, 2, 9⟩, ⟨2, 11, 36⟩, ⟨3, 17, 36⟩]
theorem chk_T : chkG gT = 0 := by decide +kernel
theorem start_T : startR gT = sT := by rw [startR_ok chk_T]; rfl
theorem step_T : stepP gT [] (1, 2) sT = (lT, 0) := by decide +kernel
theorem run_T : runP gT [] (1, 2) 9 = ([], 1) := runP_arg chk_T (by decide)
theorem tot_T : totV lT = (1, 1, true) := by decide +kernel
theorem top_T : topI lT = [3, 2, 1] := (topI_of (m := lT.reverse) (List.reverse_perm _) (by decide +kernel)).symm
section
variable (W : World) (A B : Option Addr)
theorem t_Start (h : GraphAt W (fun _ => True) A B gT) : Calls Tryd.prog 19 #[.agg #[.slice A 3 3, .slice B 3 3, .int .i64 4, .int .i64 4]] W fun e w' => ∃ A' c', e = .returned (.slice A' 3 c') ∧ Shares w' (fun _ => True) A' sT ∧ Ext W w' :=
  (rk_Start gT (fun _ => True) A B 3 3 W h).mono fun e w' ⟨A', c', h1, _, h3, h4⟩ => by
    rw [start_T] at h1 h3
    exact ⟨A', c', h1, h3.keep (fun _ _ _ _ hc => ⟨hc, trivial⟩), h4⟩
theorem t_Step (hz : ZeroAt W) (S : Option Addr) (f : Nat) (h : GraphAt W (fun _ => True) A B gT) (hs : Shares W (fun _ => True) S sT) : Calls Tryd.prog 20 #[.agg #[.slice A 3 3, .slice B 3 3, .int .i64 4, .int .i64 4], .slice none 0 0, .agg #[.int .i64 1, .int .i64 2], .slice S 3 f] W fun e w' => ∃ A' c', e = .returned (.tuple #[.slice A' 3 c', .int .i64 0]) ∧ Shares w' (fun _ => True) A' lT ∧ Ext W w' :=
  (rk_Step gT [] (1, 2) sT (fun _ => True) (fun _ => True) (fun _ => True) A B none S 3 3 0 f W hz h (SliceR.nil _ _ _) hs).mono fun e w' h => by
    rw [step_T] at h
    obtain ⟨⟨A', c', h1, _, h3⟩, h4⟩ := h
    exact ⟨A', c', h1, h3.keep (fun _ _ _ _ hc => ⟨hc, trivial⟩), h4⟩
theorem t_Run (hz : ZeroAt W) (h : GraphAt W (fun _ => True) A B gT) : Calls Tryd.prog 13 #[.agg #[.slice A 3 3, .slice B 3 3, .int .i64 4, .int .i64 4], .slice none 0 0, .agg #[.int .i64 1, .int .i64 2], .int .i64 9] W fun e w' => ∃ A' c', e = .returned (.tuple #[.slice A' 0 c', .int .i64 1]) ∧ Ext W w' :=
  (rk_Run gT [] (1, 2) 9 (fun _ => True) (fun _ => True) A B none 3 3 0 W hz h (SliceR.nil _ _ _)).mono fun e w' h => by
    rw [run_T] at h
    obtain ⟨⟨A', c', h1, _, _⟩, h4⟩ := h
    exact ⟨A', c', h1, h4⟩
theorem t_Total (hz : ZeroAt W) (f : Nat) (hs : Shares W (fun _ => True) A lT) : Calls Tryd.prog 8 #[.slice A 3 f] W fun e w' => e = .returned (.tuple #[.agg #[.int .i64 1, .int .i64 1], .bool true]) ∧ Ext W w' :=
  (rk_Total lT (fun _ => True) A f W hz hs (by decide)).mono fun e w' ⟨h1, h2⟩ => by
    rw [tot_T] at h1
    exact ⟨h1, h2⟩
theorem t_Top (hz : ZeroAt W) (f : Nat) (hs : Shares W (fun _ => True) A lT) : Calls Tryd.prog 10 #[.slice A 3 f] W fun e w' => ∃ b o c', e = .returned (.slice (some ⟨b, o, none⟩) 3 c') ∧ w'.cell? ⟨b, o, none⟩ = some (.int .i64 3) ∧ w'.cell? ⟨b, o + 2, none⟩ = some (.int .i64 1) ∧ Ext W w' :=
  (rk_TopS lT (fun _ => True) A f W hz hs (by decide)).mono fun e w' ⟨A', c', h1, _, h3, h4⟩ => by
    rw [top_T] at h1 h3
    obtain ⟨b, o, rfl, hc⟩ := h3.2 (by decide)
    exact ⟨b, o, c', h1, (hc 0 (by decide)).2, (hc 2 (by decide)).2, h4⟩
end
theorem shs_at {W : World} {ok : Nat → Prop} {A : Option Addr} {l : List Sh} (h : Shares W ok A l) (hn : 0 < l.length) : ∃ b o, A = some ⟨b, o, none⟩ ∧ ∀ k, k < l.length → W.cell? ⟨b, o + k * 3, none⟩ = some (.int .i64 l[k]!.id) ∧ W.cell? ⟨b, o + k * 3 + 1, none⟩ = some (.int .i64 l[k]!.n) ∧ W.cell? ⟨b, o + k * 3 + 2, none⟩ = some (.int .i64 l[k]!.d) := by
  obtain ⟨b, o, rfl, hc⟩ := h.at_ hn
  exact ⟨b, o, rfl, fun k hk => (hc k hk).2⟩
set_option maxRecDepth 100000 in
set_option maxHeartbeats 3200000 in
theorem l_alive (w : World) (hz : ZeroAt w) : Calls Tryd.prog 7 #[] w fun e w' => e = .returned (.bool true) ∧ Ext w w' := by
  have HZ := Lib.hid hz
  clear hz
  go_enter Tryd.func7, Tryd.ntmps7
  go_wp2_with fail
  refine (l_three w).mono ?_
  rintro e w1 ⟨A1, B1, rfl, hG1, x1⟩
  go_wp2_with fail
  refine (t_Start w1 A1 B1 hG1).mono ?_
  rintro e w2 ⟨S2, c2, rfl, hS2, x2⟩
  go_wp2_with fail
  refine (l_three w2).mono ?_
  rintro e w3 ⟨A3, B3, rfl, hG3, x3⟩
  go_wp2_with fail
  refine (t_Step w3 A3 B3 (HZ.out.ext (x1.trans (x2.trans x3))) S2 c2 hG3 (hS2.ext x3)).mono ?_
  rintro e w4 ⟨S4, c4, rfl, hS4, x4⟩
  go_wp2_with fail
  refine (l_three w4).mono ?_
  rintro e w5 ⟨A5, B5, rfl, hG5, x5⟩
  go_wp2_with fail
  refine (t_Run w5 A5 B5 (HZ.out.ext (x1.trans (x2.trans (x3.trans (x4.trans x5))))) hG5).mono ?_
  rintro e w6 ⟨S6, c6, rfl, x6⟩
  go_wp2_with fail
  have x06 := x1.trans (x2.trans (x3.trans (x4.trans (x5.trans x6))))
  refine (t_Total w6 S4 (HZ.out.ext x06) c4 (hS4.ext (x5.trans x6))).mono ?_
  rintro e w7 ⟨rfl, x7⟩
  obtain ⟨q, w8, hq, hw8, q0, q1, -, -, x8⟩ := box_frac w7 1 1 25
  go_upto_region 5 with (fail)
  rw [← hw8, ← hq]
  clear hq hw8
  go_wp2_with fail
  refine (t_Top w8 S4 (HZ.out.ext (x06.trans (x7.trans x8))) c4 (hS4.ext (x5.trans (x6.trans (x7.trans x8))))).mono ?_
  rintro e w9 ⟨b9, o9, c9, rfl, t0, t2, x9⟩
  have x09 := x06.trans (x7.trans (x8.trans x9))
  obtain ⟨b2, o2, rfl, k2⟩ := shs_at (hS2.ext (x3.trans (x4.trans (x5.trans (x6.trans (x7.trans (x8.trans x9))))))) (by decide)
  obtain ⟨b4, o4, rfl, k4⟩ := shs_at (hS4.ext (x5.trans (x6.trans (x7.trans (x8.trans x9))))) (by decide)
  replace q0 := x9.cell q0
  replace q1 := x9.cell q1
  have a1 := (k2 1 (by decide)).2
  have a2 := (k4 0 (by decide)).2
  have a3 := (k4 1 (by decide)).2
  have a4 := (k4 2 (by decide)).2
  change w9.cell? ⟨b2, o2 + 3 + 1, none⟩ = some (.int .i64 1) ∧ w9.cell? ⟨b2, o2 + 3 + 2, none⟩ = some (.int .i64 3) at a1
  change w9.cell? ⟨b4, o4 + 1, none⟩ = some (.int .i64 2) ∧ w9.cell? ⟨b4, o4 + 2, none⟩ = some (.int .i64 9) at a2
  change w9.cell? ⟨b4, o4 + 3 + 1, none⟩ = some (.int .i64 11) ∧ w9.cell? ⟨b4, o4 + 3 + 2, none⟩ = some (.int .i64 36) at a3
  change w9.cell? ⟨b4, o4 + 6 + 1, none⟩ = some (.int .i64 17) ∧ w9.cell? ⟨b4, o4 + 6 + 2, none⟩ = some (.int .i64 36) at a4
  obtain ⟨a10, a11⟩ := a1
  obtain ⟨a20, a21⟩ := a2
  obtain ⟨a30, a31⟩ := a3
  obtain ⟨a40, a41⟩ := a4
  clear k2 k4 hS2 hS4 hG1 hG3 hG5 x1 x2 x3 x4 x5 x6 x7 x8 x9 x06 HZ
  go_wp2_with fail
  go_ret
  exact ⟨rfl, x09⟩
end Go.Proofs.YtlkpmbkmmfoakaaDoor

/- WHAT THE ROWS OF CHAPTER 51 LIST; fractions and shares that come in. -/
namespace Go.Proofs.YtlkpmbkmmfoakaaDoor
open Go.ChangeShapes Go.WideShapes Go.ChangeAt Go.RowKit
open Go.ChangeMaps (open_string shut_string)
theorem gZero : Tryd.prog.globalNamed "graphdb/frac.zero" = some 0 := by kernel_rfl
theorem gZeroType : (Tryd.prog.globals[0]?).map (·.type) = some 25 := by kernel_rfl
theorem cellsFrac : Tryd.prog.cellsOf 25 = 2 := by kernel_rfl
abbrev laidList : List (String × DataW Unit) := Rows.rankReadsRow.laid
theorem zero_of {W : World} (h : laidMetH Tryd.prog laidList W) : ZeroAt W := by
  have h0 : laidMet Tryd.prog laidList W := h
  obtain ⟨ps, ⟨g', t', cs, fuel, p, q, hg', ht', hvar, hd, -, -⟩, -⟩ := h0
  obtain rfl := Option.some.inj (gZero.symm.trans hg')
  obtain rfl := Option.some.inj (gZeroType.symm.trans ht')
  obtain ⟨y0, y1, n, hx, hl, h0, h1⟩ := trod_struct2 Tryd.underlying25 hd
  rw [cellsFrac] at hl
  obtain ⟨c0, c1, rfl⟩ := Joins.array2 (show cs.size = 2 by simpa using hl)
  obtain ⟨a, e0, x0, -⟩ := DataW.trod_int (k := .i64) Tryd.underlying3 h0
  obtain ⟨b, e1, x1, -⟩ := DataW.trod_int (k := .i64) Tryd.underlying3 h1
  rw [x0, x1] at hx
  simp only [Rows.laid_graphdb_frac_zero, Prod.mk.injEq, DataW.agg.injEq, List.cons.injEq, DataW.lit.injEq, Lit.int.injEq] at hx
  have k0 : c0 = .int .i64 a := by simpa [show Tryd.prog.cellsOf 3 = 1 from by kernel_rfl] using e0
  have k1 : c1 = .int .i64 b := by simpa [show Tryd.prog.cellsOf 3 = 1 from by kernel_rfl] using e1
  have ha : (0 : Int) = a := hx.1.1.2
  have hb : (1 : Int) = b := hx.1.2.1.2
  subst ha hb k0 k1
  have z0 := World.var?_cell gZero hvar 0
  have z1 := World.var?_cell gZero hvar 1
  refine ⟨z0, z1, ?_⟩
  unfold World.var? at hvar
  rw [gZero] at hvar
  rcases Nat.lt_or_ge 0 W.heap.size with k | k
  · exact k
  · simp only [Option.bind_some, Array.getElem?_eq_none k] at hvar; cases hvar
/-- The laid heap meets the condition. -/
theorem door_met (os : Os) (args : Array Value) : laidMetH Tryd.prog laidList ((World.laidAll Tryd.prog os laidList).forCall (fun _ _ => 0) ⟨#[], args, []⟩).memory := by
  rw [MakeChecks.laidMetH_plain _ _ _ (by kernel_rfl)]
  exact laidMet_laidAll _ (by kernel_rfl) (by kernel_rfl)
theorem cellsShare : Tryd.prog.cellsOf 42 = 3 := by kernel_rfl
theorem bytesShare : 0 < Tryd.prog.bytesOf 42 := of_decide_eq_true (by kernel_rfl)
section
variable {H : Type} {enc : TypeId × Value → H} {w : World} {base : Nat} {spare : Nat → Bool} {held : Bool}
theorem open_frac {fuel : Nat} {cs : List Value} {x : DataW H × List MemPlace} (h : DataW.trod enc Tryd.prog w base spare held fuel 25 cs = some x) : ∃ a b : Int, cs = [.int .i64 a, .int .i64 b] := by
  obtain ⟨xs, m, hm, hxx, hl, hlen, hg⟩ := DataW.trod_struct Tryd.underlying25 h
  rw [cellsFrac] at hl
  obtain ⟨c0, c1, rfl⟩ := twoL hl
  obtain ⟨y0, y1, rfl⟩ := twoL (show xs.length = 2 from hlen)
  have g0 : DataW.trod enc Tryd.prog w base spare held m 3 (([c0, c1].drop 0).take (Tryd.prog.cellsOf 3)) = some y0 := hg 0 _ rfl
  rw [cellsInt] at g0
  have g1 : DataW.trod enc Tryd.prog w base spare held m 3 (([c0, c1].drop 1).take (Tryd.prog.cellsOf 3)) = some y1 := hg 1 _ rfl
  rw [cellsInt] at g1
  obtain ⟨k0, e0, -, -⟩ := DataW.trod_int (k := .i64) Tryd.underlying3 g0
  obtain ⟨k1, e1, -, -⟩ := DataW.trod_int (k := .i64) Tryd.underlying3 g1
  cases e0; cases e1
  exact ⟨k0, k1, rfl⟩
set_option maxRecDepth 100000 in
theorem open_share {fuel : Nat} {cs : List Value} {x : DataW H × List MemPlace} (_hwt : ∀ k ∈ x.1.weights Tryd.prog 42, k ≤ reachBytes) (h : DataW.trod enc Tryd.prog w base spare held fuel 42 cs = some x) : ∃ v : Sh, (True) ∧ ∀ b o, (∀ j u, cs[j]? = some u → w.cell? ⟨b, o + j, none⟩ = some u) → ShC w (fun _ => True) b o v := by
  obtain ⟨xs, m, hm, hxx, hl, hlen, hg⟩ := DataW.trod_struct Tryd.underlying42 h
  rw [cellsShare] at hl
  obtain ⟨c0, c1, c2, rfl⟩ := three_L hl
  obtain ⟨y0, y1, rfl⟩ := twoL (show xs.length = 2 from hlen)
  have g0 : DataW.trod enc Tryd.prog w base spare held m 3 (([c0, c1, c2].drop 0).take (Tryd.prog.cellsOf 3)) = some y0 := hg 0 _ rfl
  rw [cellsInt] at g0
  have g1 : DataW.trod enc Tryd.prog w base spare held m 25 (([c0, c1, c2].drop 1).take (Tryd.prog.cellsOf 25)) = some y1 := hg 1 _ rfl
  rw [cellsFrac] at g1
  obtain ⟨k0, e0, -, -⟩ := DataW.trod_int (k := .i64) Tryd.underlying3 g0
  obtain ⟨a, b, e1⟩ := open_frac g1
  cases e0; cases e1
  exact ⟨⟨k0, a, b⟩, trivial, fun b o hc => ⟨trivial, hc 0 _ rfl, hc 1 _ rfl, hc 2 _ rfl⟩⟩
theorem open_shares {fuel : Nat} {cs : List Value} {x : DataW H × List MemPlace} (hwt : ∀ k ∈ x.1.weights Tryd.prog 22, k ≤ reachBytes) (h : DataW.trod enc Tryd.prog w base spare held fuel 22 cs = some x) :
    ∃ (l : List Sh) (A : Option Addr) (c : Nat), cs = [.slice A l.length c] ∧ l.length ≤ c ∧ SliceR (ShC w (fun _ => True)) 3 A l ∧ ∀ v ∈ l, True :=
  slice_gen (α := Sh) Tryd.underlying22 cellsShare bytesShare (by decide) (ShC w (fun _ => True)) (fun v => True) (fun _ _ _ _ hk hy => open_share hk hy) hwt h
set_option maxRecDepth 100000 in
theorem top_shares {r : Reach} {b0 : Nat} {v : Value} {dd : DataW H} {p : List MemPlace} (hw : Value.okWide Tryd.prog w r b0 22 v) (hwt : ∀ k ∈ dd.weights Tryd.prog 22, k ≤ reachBytes) (h : DataW.Trod enc Tryd.prog w base spare held 22 v dd p) : ∃ (l : List Sh) (A : Option Addr) (c : Nat), v = .slice A l.length c ∧ l.length ≤ c ∧ Shares w (fun _ => True) A l := by
  obtain ⟨fuel, hf⟩ := h
  obtain ⟨A', n', c', rfl⟩ := okWide_slice Tryd.underlying22 hw
  obtain ⟨l, A, c, e, h1, h2, -⟩ := open_shares hwt hf
  exact ⟨l, A, c, by simpa [Value.cells] using e, h1, h2⟩
end
end Go.Proofs.YtlkpmbkmmfoakaaDoor

/- APPENDS OF WHOLE SLICES, nil ones among them, to rows that a call owns. -/
namespace Go.Proofs.YtlkpmbkmmfoakaaDoor
open Go.RowKit
/-- nothing appended -/
theorem run_append_zero {P : Program} (w : World) (t ty e : TypeId) (z : Value) (size bytes : Nat) (ht : P.underlying t = some (.slice e)) (hi : (P.info? e).map (fun i => (i.zero, i.size, i.bytes)) = some (some z, size, bytes)) (B : Option Addr) (n cap : Nat) (hn : n ≤ cap) :
    (Builtin.append_ #[t, t] ty #[.slice B n cap, .slice none 0 0]).run P w = .ok (.slice B n cap) w := by
  obtain ⟨i, hi, hz0, hz1, hz2⟩ := info_parts hi
  cases B <;> simp [Builtin.append_, run_underlying ht, sizeOf, typeInfo, hi, Builtin.lenOf, run_firstCells_none, hn, storeCells]
theorem own_cat {P : Program} {t e size bytes : Nat} (T : ElT P t e size bytes) {ops : Array Oper} {rest : List Oper} {o : Oper} {a : Act} {Q : Exit → Act → World → Prop} {w : World} (hgd : o.guard = none) (s x : Operand)
    (ho : o.op = .call { callee := .builtin .append, args := #[s, x], argTypes := #[t, t] }) (wb : World) (v : Value) (n : Nat) (xs : List Value) (hs : a.eval s = v) (hown : w.ownsRow wb.heap.size e size v n xs) (hE : Ext wb w)
    (A : Option Addr) (m c : Nat) (news : List Value) (hx : a.eval x = .slice A m c) (hA : A = none → m = 0 ∧ c = 0) (hl : news.length = m * size) (hnews : ∀ ad, A = some ad → ∀ j u, news[j]? = some u → w.cell? (ad.add j) = some u) (h1 : ∀ u ∈ news, u.oneCell' = true)
    (h63 : n + m ≤ 8388608) (hbytes : bytes ≤ 1000000)
    (h : ∀ v' w', w'.ownsRow wb.heap.size e size v' (n + m) (xs ++ news) → Ext wb w' → wpList P ops Q rest (a.put o.dst v') w') : wpList P ops Q (o :: rest) a w := by
  cases A with
  | some ad => exact own_append T hgd s x ho wb v n xs hs hown hE ad m c news hx hl (hnews ad rfl) h1 h63 hbytes h
  | none =>
    obtain ⟨rfl, rfl⟩ := hA rfl
    obtain ⟨z, hz, hzc⟩ := T.hi
    have hn0 : news = [] := List.eq_nil_of_length_eq_zero (by rw [hl]; omega)
    subst hn0
    obtain ⟨B, cap, hv, hle⟩ : ∃ B cap, v = .slice B n cap ∧ n ≤ cap := by
      rcases hown.2 with ⟨hv, h0⟩ | ⟨g, cap, cur, hv, hb, hh, hc, _⟩
      · exact ⟨none, 0, by rw [hv, h0], by omega⟩
      · exact ⟨_, cap, hv, hc⟩
    have hr := run_append_zero (P := P) w t o.type e z size bytes T.ht hz B n cap hle
    refine wpList_plain hgd fun K hK => ?_
    unfold Oper.wp execOp
    simp only [ho, resolve, invoke, builtin, Sem.run_bind, Sem.run_pure, Result.andThen_ok, List.map_toArray, List.map_cons, List.map_nil, hs, hx, hv, hr]
    refine hK _ _ ?_
    rw [← hv]
    exact h v w (by simpa using hown) hE
end Go.Proofs.YtlkpmbkmmfoakaaDoor

/- THE WALKS over the reference's before and Top. -/
namespace Go.Proofs.YtlkpmbkmmfoakaaDoor
open Go.RowKit Go.Sort
theorem topC_cases (a b : Sh) : (0 < cmpS a.n a.d b.n b.d → decide (topC a b < 0) = true) ∧ (cmpS a.n a.d b.n b.d = 0 → decide (topC a b < 0) = decide (a.id < b.id)) ∧ (cmpS a.n a.d b.n b.d < 0 → decide (topC a b < 0) = false) := by
  have h := cmp_anti b.n b.d a.n a.d
  unfold topC
  rw [h]
  have z0 : ∀ x : Int, thenC x 0 = x := fun x => by unfold thenC; split <;> omega
  rw [z0]
  refine ⟨fun h => ?_, fun h => ?_, fun h => ?_⟩
  · rw [thenC_ne (by omega)]; exact decide_eq_true (by omega)
  · rw [h]; show decide (thenC 0 _ < 0) = _
    rw [thenC_zero]
    unfold Lib.compareInt
    by_cases h1 : a.id < b.id
    · rw [if_pos h1, decide_eq_true h1]; rfl
    · rw [if_neg h1, decide_eq_false h1]; split <;> first | rfl | exact decide_eq_false (by decide)
  · rw [thenC_ne (by omega)]; exact decide_eq_false (by omega)
set_option maxRecDepth 100000 in
set_option maxHeartbeats 800000 in
theorem r51_before (a b : Sh) (w : World) :
    Calls Tryd.prog 33 #[.agg #[.int .i64 a.id, .int .i64 a.n, .int .i64 a.d], .agg #[.int .i64 b.id, .int .i64 b.n, .int .i64 b.d]] w fun e w' => e = .returned (.bool (decide (topC a b < 0))) ∧ Ext w w' := by
  obtain ⟨q, w2, hq, hw2, hc, hx⟩ : ∃ (q : Nat) (w2 : World), q = w.heap.size ∧ w2 = (w.alloc (.cells #[.int .i64 a.id, .int .i64 a.n, .int .i64 a.d] 42)).alloc (.cells #[.int .i64 b.id, .int .i64 b.n, .int .i64 b.d] 42) ∧ (w2.cell? ⟨q, 0, none⟩ = some (.int .i64 a.id) ∧ w2.cell? ⟨q, 1, none⟩ = some (.int .i64 a.n) ∧ w2.cell? ⟨q, 2, none⟩ = some (.int .i64 a.d) ∧ w2.cell? ⟨q + 1, 0, none⟩ = some (.int .i64 b.id) ∧ w2.cell? ⟨q + 1, 1, none⟩ = some (.int .i64 b.n) ∧ w2.cell? ⟨q + 1, 2, none⟩ = some (.int .i64 b.d)) ∧ Ext w w2 :=
    ⟨_, _, rfl, rfl, ⟨by go_simp, by go_simp, by go_simp, by go_simp, by go_simp, by go_simp⟩, (by with_reducible repeat (first | exact Ext.refl _ | assumption | refine Ext.drew ?_ | refine Ext.drewN ?_ _ | refine Ext.alloc ?_ _))⟩
  have HW := Lib.hid hw2
  have HG := Lib.hid hq
  have HT := Lib.hid (topC_cases a b)
  have HC := Lib.hid (fun W => r3_Cmp a.n a.d b.n b.d W)
  obtain ⟨c0, c1, c2, c3, c4, c5⟩ := hc
  clear hw2 hq
  generalize decide (topC a b < 0) = tc at *
  generalize cmpS a.n a.d b.n b.d = z at *
  by_cases h1 : 0 < z
  · have HV := Lib.hid (HT.out.1 h1)
    clear HT
    go_enter Tryd.func33, Tryd.ntmps33
    go_upto_region 1 with (fail)
    rw [← HW.out, ← HG.out]
    clear HW HG
    go_wp2_with (go_at_call 16; ((with_reducible refine (HC.out _).mono ?_); rintro e w3 ⟨rfl, hb⟩; replace hb := of_below hb; replace c0 := hb.cell c0; replace c3 := hb.cell c3))
    go_ret
    exact ⟨ret_bool HV.out.symm, hx.trans hb⟩
  · by_cases h2 : z = 0
    · have HV := Lib.hid (HT.out.2.1 h2)
      subst h2
      clear HT h1
      by_cases h3 : a.id < b.id
      all_goals
        go_enter Tryd.func33, Tryd.ntmps33
        go_upto_region 1 with (fail)
        rw [← HW.out, ← HG.out]
        clear HW HG
        go_wp2_with (go_at_call 16; ((with_reducible refine (HC.out _).mono ?_); rintro e w3 ⟨rfl, hb⟩; replace hb := of_below hb; replace c0 := hb.cell c0; replace c3 := hb.cell c3))
        go_ret
        exact ⟨ret_bool (by simp [HV.out, h3]), hx.trans hb⟩
    · have HV := Lib.hid (HT.out.2.2 (by omega))
      have hz2 : (z == 0) = false := beq_eq_false_iff_ne.2 h2
      have hz3 : decide (0 < z) = false := decide_eq_false h1
      clear HT h1 h2
      go_enter Tryd.func33, Tryd.ntmps33
      go_upto_region 1 with (fail)
      rw [← HW.out, ← HG.out]
      clear HW HG
      go_wp2_with (go_at_call 16; ((with_reducible refine (HC.out _).mono ?_); rintro e w3 ⟨rfl, hb⟩; replace hb := of_below hb; replace c0 := hb.cell c0; replace c3 := hb.cell c3))
      go_ret
      exact ⟨ret_bool HV.out.symm, hx.trans hb⟩
theorem top_ins {L : List Sh} {x : Sh} {k : Nat} (hs : L.Pairwise (fun x y => topC x y ≤ 0)) (hk : k ≤ L.length) (hlo : k = 0 ∨ ¬ topC x L[k - 1]! < 0) (hhi : ∀ p, k ≤ p → p < L.length → topC x L[p]! < 0) :
    (L.take k ++ [x] ++ L.drop k).Pairwise (fun x y => topC x y ≤ 0) ∧ (L.take k ++ [x] ++ L.drop k).Perm (L ++ [x]) := by
  have hsp := List.pairwise_iff_getElem.1 hs
  have hmt : ∀ y ∈ L.take k, topC y x ≤ 0 := fun y hy => by
    obtain ⟨i, hi, rfl⟩ := List.getElem_of_mem hy
    rw [List.length_take] at hi
    rw [List.getElem_take]
    rcases hlo with h | h
    · omega
    · rw [getElem!_pos L (k - 1) (by omega)] at h
      have h1 := topC_anti x L[k - 1]
      have h2 : topC L[i] L[k - 1] ≤ 0 := by
        rcases Nat.lt_or_ge i (k - 1) with h3 | h3
        · exact hsp i (k - 1) (by omega) (by omega) h3
        · obtain rfl : i = k - 1 := by omega
          have := topC_anti L[k - 1] L[k - 1]; omega
      exact topC_trans _ _ _ h2 (by omega)
  have hmd : ∀ z ∈ L.drop k, topC x z ≤ 0 := fun z hz => by
    obtain ⟨i, hi, rfl⟩ := List.getElem_of_mem hz
    rw [List.length_drop] at hi
    rw [List.getElem_drop]
    have := hhi (k + i) (by omega) (by omega)
    rw [getElem!_pos L (k + i) (by omega)] at this
    omega
  refine ⟨?_, ?_⟩
  · have ht : (L.take k ++ L.drop k).Pairwise (fun x y => topC x y ≤ 0) := by rw [List.take_append_drop]; exact hs
    rw [List.pairwise_append] at ht ⊢
    rw [List.pairwise_append]
    refine ⟨⟨ht.1, List.pairwise_singleton _ _, fun y hy z hz => by rw [List.mem_singleton.1 hz]; exact hmt y hy⟩, ht.2.1, fun y hy z hz => ?_⟩
    rcases List.mem_append.1 hy with h | h
    · exact ht.2.2 y h z hz
    · rw [List.mem_singleton.1 h]; exact hmd z hz
  · have h1 : (L.take k ++ [x] ++ L.drop k).Perm (L.take k ++ (L.drop k ++ [x])) := by
      rw [List.append_assoc]; exact (List.perm_append_comm).append_left _
    rw [← List.append_assoc, List.take_append_drop] at h1
    exact h1
theorem own_capT {W : World} {B e sz n c : Nat} {A : Option Addr} {xs : List Value} (h : W.ownsRow B e sz (.slice A n c) n xs) : n ≤ c := by
  rcases h.2 with ⟨hv, h0⟩ | ⟨g, cap, cur, hv, hb, hh, hc, _⟩
  · omega
  · injection hv with h1 h2 h3; omega
theorem own_takeN {W : World} {B g n c : Nat} {L : List Sh} (h : W.ownsRow B 42 3 (.slice (some ⟨g, 0, none⟩) n c) n (L.flatMap Sh.cells)) (hL : L.length = n) (k : Nat) (hk : k ≤ n) : ∀ ad, some (⟨g, 0, none⟩ : Addr) = some ad → ∀ (j : Nat) u, ((L.take k).flatMap Sh.cells)[j]? = some u → W.cell? (ad.add j) = some u := by
  intro ad e j u hu
  injection e with e
  subst e
  have hlen : ((L.take k).flatMap Sh.cells).length = k * 3 := by rw [flat_len Sh.cells 3 (fun _ => rfl), List.length_take, hL, Nat.min_eq_left hk]
  have hj : j < k * 3 := by rw [← hlen]; exact (List.getElem?_eq_some_iff.1 hu).1
  rw [← flat_takeK Sh.cells 3 (fun _ => rfl), List.getElem?_take, if_pos hj] at hu
  rw [Addr.add_mid, Nat.zero_add, h.cellAt j (by omega)]; exact hu
theorem own_dropN {W : World} {B g n c : Nat} {L : List Sh} (h : W.ownsRow B 42 3 (.slice (some ⟨g, 0, none⟩) n c) n (L.flatMap Sh.cells)) (hL : L.length = n) (k o : Nat) (hk : k ≤ n) (ho : o = k * 3 ∨ k = n) : ∀ ad, some (⟨g, o, none⟩ : Addr) = some ad → ∀ (j : Nat) u, ((L.drop k).flatMap Sh.cells)[j]? = some u → W.cell? (ad.add j) = some u := by
  intro ad e j u hu
  injection e with e
  subst e
  have hlen : ((L.drop k).flatMap Sh.cells).length = (n - k) * 3 := by rw [flat_len Sh.cells 3 (fun _ => rfl), List.length_drop, hL]
  have hj : j < (n - k) * 3 := by rw [← hlen]; exact (List.getElem?_eq_some_iff.1 hu).1
  rcases ho with rfl | rfl
  · rw [← flat_dropK Sh.cells 3 (fun _ => rfl), List.getElem?_drop] at hu
    rw [Addr.add_mid, h.cellAt (k * 3 + j) (by omega)]; exact hu
  · omega
theorem ins_flat (L : List Sh) (k : Nat) (x : Sh) : ([] ++ (L.take k).flatMap Sh.cells ++ [Value.int .i64 x.id, Value.int .i64 x.n, Value.int .i64 x.d] ++ (L.drop k).flatMap Sh.cells) = (L.take k ++ [x] ++ L.drop k).flatMap Sh.cells := by
  rw [List.nil_append, List.flatMap_append, List.flatMap_append]; rfl
set_option maxRecDepth 100000 in
set_option maxHeartbeats 3200000 in
theorem r51_Top (l : List Sh) (ok : Nat → Prop) (A : Option Addr) (c : Nat) (w : World) (hl : Shares w ok A l) (hlen : l.length ≤ 8000000) :
    Calls Tryd.prog 11 #[.slice A l.length c] w fun e w' => ∃ A' c', e = .returned (.slice A' (topI l).length c') ∧ (topI l).length ≤ c' ∧ Nums w' (fun b => w.heap.size ≤ b) A' (topI l) ∧ Ext w w' := by
  have HL := Lib.hid (fun W (e : Ext w W) => hl.ext e)
  have HTI := Lib.hid (fun m => topI_of (l := l) (m := m))
  have HTN := Lib.hid (topI_len l)
  have HS0 := Lib.hid (World.ownsRow_nil w w.heap.size 42 3)
  generalize topI l = ti at *
  clear hl
  go_enter Tryd.func11, Tryd.ntmps11
  go_wp2_with fail
  go_loopw [3, 4] (fun v u W => ∃ (i : Nat) (L : List Sh), u = .int .i64 i ∧ i ≤ l.length ∧ Hid (W.ownsRow w.heap.size 42 3 v i (L.flatMap Sh.cells)) ∧ Hid (L.Perm (l.take i)) ∧ Hid (L.Pairwise (fun x y => topC x y ≤ 0)) ∧ Ext w W) (fun _ u _ => l.length - (intOf u).toNat)
  case atStart => exact ⟨0, [], rfl, Nat.zero_le _, HS0, Lib.hid (List.Perm.refl _), Lib.hid List.Pairwise.nil, Ext.refl _⟩
  case round =>
    clear HS0
    obtain ⟨i, L, rfl, hi, hown, hpe, hso, hEr⟩ := hrel
    have HLN := Lib.hid (show L.length = i by rw [hpe.out.length_eq, List.length_take]; omega)
    obtain ⟨A0, c0, rfl⟩ := own_form hown.out
    by_cases hlt : i < l.length
    · obtain ⟨bs, os, rfl, hc⟩ := (HL.out wr hEr).at_ hlt
      obtain ⟨-, a0, a1, a2⟩ := hc i hlt
      have HPN := Lib.hid (show (l.take (i + 1)) = l.take i ++ [l[i]!] by rw [List.take_succ_eq_append_getElem hlt, getElem!_pos l i hlt])
      obtain ⟨wo, hwo⟩ : ∃ V, V = wr := ⟨_, rfl⟩
      subst hwo
      clear hc
      generalize l[i]! = x at *
      go_wp2_with fail
      go_loopw [5] (fun u W => ∃ k : Nat, u = .int .i64 k ∧ k ≤ i ∧ Hid (∀ p, k ≤ p → p < i → topC x L[p]! < 0) ∧ Ext wo W) (fun u _ => (intOf u).toNat)
      case atStart => exact ⟨i, rfl, Nat.le_refl _, Lib.hid (fun p h1 h2 => absurd h2 (by omega)), (by with_reducible repeat (first | exact Ext.refl _ | assumption | refine Ext.drew ?_ | refine Ext.drewN ?_ _ | refine Ext.alloc ?_ _))⟩
      case round =>
        obtain ⟨k, rfl, hk, hhi, hE2⟩ := hrel
        have HOV := Lib.hid (own_ext hown.out hE2)
        by_cases hk0 : 0 < k
        · obtain ⟨kp, rfl⟩ : ∃ kp, k = kp + 1 := ⟨k - 1, by omega⟩
          obtain ⟨g, cap, hvv, hgb, hgl⟩ := World.ownsRow.form HOV.out (show 0 < i by omega)
          injection hvv with h1 h2 h3
          subst h1 h3
          have hsz : L.toArray.size = i := by rw [List.size_toArray]; exact HLN.out
          have HSM : SortM wr w.heap.size g c0 42 L.toArray wr := SortM.start (by rw [hsz]; exact HOV.out)
          obtain ⟨b0, b1, b2⟩ := HSM.cells (show kp < L.toArray.size by rw [List.size_toArray, HLN.out]; omega)
          rw [show L.toArray[kp]! = L[kp]! by simp] at b0 b1 b2
          replace a0 := hE2.cell a0
          replace a1 := hE2.cell a1
          replace a2 := hE2.cell a2
          have HBF := Lib.hid (fun W => r51_before x L[kp]! W)
          have HGO := Lib.hid (fun (h : topC x L[kp]! < 0) p (h1 : kp ≤ p) (h2 : p < i) => (by
            rcases Nat.eq_or_lt_of_le h1 with e | e
            · rw [← e]; exact h
            · exact hhi.out p e h2 : topC x L[p]! < 0))
          have HLO := Lib.hid (fun (h : ¬ topC x L[kp]! < 0) => (.inr (by rw [Nat.add_sub_cancel]; exact h) : kp + 1 = 0 ∨ ¬ topC x L[kp + 1 - 1]! < 0))
          have hwp : IntKind.i64.wrap (kp : Int) = (kp : Int) := by rw [IntKind.wrap_i64]; omega
          have z1 : (kp : Int) < (i : Int) := by omega
          have z2 : (i : Int) < (l.length : Int) := by omega
          have hkz : decide ((0 : Int) < (kp : Int) + 1) = true := decide_eq_true (by omega)
          have MK := Lib.hid (fun V (e : Ext wr V) => (⟨e.cell a0, e.cell a1, e.cell a2, e.cell b0, e.cell b1, e.cell b2⟩ : V.cell? ⟨bs, os + i * 3, none⟩ = some (.int .i64 x.id) ∧ V.cell? ⟨bs, os + i * 3 + 1, none⟩ = some (.int .i64 x.n) ∧ V.cell? ⟨bs, os + i * 3 + 2, none⟩ = some (.int .i64 x.d) ∧ V.cell? ⟨g, kp * 3, none⟩ = some (.int .i64 L[kp]!.id) ∧ V.cell? ⟨g, kp * 3 + 1, none⟩ = some (.int .i64 L[kp]!.n) ∧ V.cell? ⟨g, kp * 3 + 2, none⟩ = some (.int .i64 L[kp]!.d)))
          clear HSM b0 b1 b2 hsz h2
          by_cases hz : topC x L[kp]! < 0
          · have HG2 := Lib.hid (HGO.out hz)
            rw [decide_eq_true hz] at HBF
            clear hz HGO HLO
            generalize L[kp]! = y at *
            go_upto_region 6 with (fail)
            refine wp_region_held_drew (S := (fun V => V.cell? ⟨bs, os + i * 3, none⟩ = some (.int .i64 x.id) ∧ V.cell? ⟨bs, os + i * 3 + 1, none⟩ = some (.int .i64 x.n) ∧ V.cell? ⟨bs, os + i * 3 + 2, none⟩ = some (.int .i64 x.d) ∧ V.cell? ⟨g, kp * 3, none⟩ = some (.int .i64 y.id) ∧ V.cell? ⟨g, kp * 3 + 1, none⟩ = some (.int .i64 y.n) ∧ V.cell? ⟨g, kp * 3 + 2, none⟩ = some (.int .i64 y.d))) (by kernel_rfl) ?hs1 (fun hHeld => ?go1)
            case hs1 => (exact MK.out _ (by with_reducible repeat (first | exact Ext.refl _ | assumption | refine Ext.drew ?_ | refine Ext.drewN ?_ _ | refine Ext.alloc ?_ _)))
            refine wpAnyH_take (i := 0) (oi := ⟨(some 17), (.move (.tmp 5)), 3, "ref.go:166", #[], none⟩) (v := ?v2) rfl (by kernel_rfl) (by kernel_rfl) (by kernel_rfl) (fun _ _ _ h => h) (Or.inl ⟨rfl, ?hy2⟩) hHeld ?rest2
            case hy2 => (intro w _; go_simp <;> rfl)
            (try simp only [PU])
            refine wpAnyH_take (i := 1) (oi := ⟨(some 18), (.binOp .gtr 3 (.tmp 17) (.const (.int .i64 0)) 3), 4, "ref.go:166", #[⟨0, .data⟩], none⟩) (v := ?v3) rfl (by kernel_rfl) (by kernel_rfl) (by kernel_rfl) (fun _ _ _ h => h) (Or.inl ⟨rfl, ?hy3⟩) hHeld ?rest3
            case hy3 => (intro w _; go_simp <;> first | with_reducible rfl | rw [if_neg (by omega)] | rw [if_pos (by omega)])
            (try simp only [PU])
            refine wpAnyH_take (i := 2) (oi := ⟨(some 19), (.move (.tmp 18)), 4, "ref.go:166", #[⟨1, .data⟩], none⟩) (v := ?v4) rfl (by kernel_rfl) (by kernel_rfl) (by kernel_rfl) (fun _ _ _ h => h) (Or.inl ⟨rfl, ?hy4⟩) hHeld ?rest4
            case hy4 => (intro w _; go_simp <;> rfl)
            (try simp only [PU])
            refine wpAnyH_take (i := 3) (oi := ⟨(some 20), (.move (.tmp 0)), 22, "ref.go:166", #[⟨2, .guard⟩], (some (2, true))⟩) (v := ?v5) rfl (by kernel_rfl) (by kernel_rfl) (by kernel_rfl) (fun _ _ _ h => h) (Or.inl ⟨rfl, ?hy5⟩) hHeld ?rest5
            case hy5 => (intro w _; go_simp <;> rfl)
            (try simp only [PU])
            refine wpAnyH_take (i := 4) (oi := ⟨(some 21), (.move (.tmp 4)), 3, "ref.go:166", #[⟨2, .guard⟩], (some (2, true))⟩) (v := ?v6) rfl (by kernel_rfl) (by kernel_rfl) (by kernel_rfl) (fun _ _ _ h => h) (Or.inl ⟨rfl, ?hy6⟩) hHeld ?rest6
            case hy6 => (intro w _; go_simp <;> rfl)
            (try simp only [PU])
            refine wpAnyH_take (i := 5) (oi := ⟨(some 22), (.indexAddr 22 (.tmp 20) (.tmp 21)), 0, "ref.go:166", #[⟨3, .data⟩, ⟨4, .data⟩, ⟨2, .guard⟩], (some (2, true))⟩) (v := ?v7) rfl (by kernel_rfl) (by kernel_rfl) (by kernel_rfl) (fun _ _ _ h => h) (Or.inl ⟨rfl, ?hy7⟩) hHeld ?rest7
            case hy7 => (intro w _; go_simp <;> first | with_reducible rfl | rw [if_neg (by omega)] | rw [if_pos (by omega)])
            (try simp only [PU])
            refine wpAnyH_take (i := 6) (oi := ⟨(some 23), (.load 42 (.tmp 22)), 42, "ref.go:166", #[⟨5, .data⟩, ⟨2, .guard⟩], (some (2, true))⟩) (v := ?v8) rfl (by kernel_rfl) (by kernel_rfl) (by kernel_rfl) (fun _ _ _ h => h) (Or.inl ⟨rfl, ?hy8⟩) hHeld ?rest8
            case hy8 => (intro w hSw; (try dsimp only at hSw); go_simp <;> first | with_reducible rfl | rw [if_neg (by omega)] | rw [if_pos (by omega)])
            (try simp only [PU])
            refine wpAnyH_take (i := 7) (oi := ⟨(some 24), (.move (.tmp 3)), 22, "ref.go:166", #[⟨2, .guard⟩], (some (2, true))⟩) (v := ?v9) rfl (by kernel_rfl) (by kernel_rfl) (by kernel_rfl) (fun _ _ _ h => h) (Or.inl ⟨rfl, ?hy9⟩) hHeld ?rest9
            case hy9 => (intro w _; go_simp <;> rfl)
            (try simp only [PU])
            refine wpAnyH_take (i := 8) (oi := ⟨(some 25), (.move (.tmp 5)), 3, "ref.go:166", #[⟨2, .guard⟩], (some (2, true))⟩) (v := ?v10) rfl (by kernel_rfl) (by kernel_rfl) (by kernel_rfl) (fun _ _ _ h => h) (Or.inl ⟨rfl, ?hy10⟩) hHeld ?rest10
            case hy10 => (intro w _; go_simp <;> rfl)
            (try simp only [PU])
            refine wpAnyH_take (i := 9) (oi := ⟨(some 26), (.binOp .sub 3 (.tmp 25) (.const (.int .i64 1)) 3), 3, "ref.go:166", #[⟨8, .data⟩, ⟨2, .guard⟩], (some (2, true))⟩) (v := ?v11) rfl (by kernel_rfl) (by kernel_rfl) (by kernel_rfl) (fun _ _ _ h => h) (Or.inl ⟨rfl, ?hy11⟩) hHeld ?rest11
            case hy11 => (intro w _; go_simp <;> first | with_reducible rfl | rw [if_neg (by omega)] | rw [if_pos (by omega)])
            (try simp only [PU])
            refine wpAnyH_take (i := 10) (oi := ⟨(some 27), (.indexAddr 22 (.tmp 24) (.tmp 26)), 0, "ref.go:166", #[⟨7, .data⟩, ⟨9, .data⟩, ⟨2, .guard⟩], (some (2, true))⟩) (v := ?v12) rfl (by kernel_rfl) (by kernel_rfl) (by kernel_rfl) (fun _ _ _ h => h) (Or.inl ⟨rfl, ?hy12⟩) hHeld ?rest12
            case hy12 => (intro w _; go_simp <;> first | with_reducible rfl | rw [if_neg (by omega)] | rw [if_pos (by omega)])
            (try simp only [PU])
            refine wpAnyH_take (i := 11) (oi := ⟨(some 28), (.load 42 (.tmp 27)), 42, "ref.go:166", #[⟨10, .data⟩, ⟨2, .guard⟩], (some (2, true))⟩) (v := ?v13) rfl (by kernel_rfl) (by kernel_rfl) (by kernel_rfl) (fun _ _ _ h => h) (Or.inl ⟨rfl, ?hy13⟩) hHeld ?rest13
            case hy13 => (intro w hSw; (try dsimp only at hSw); go_simp <;> first | with_reducible rfl | rw [if_neg (by omega)] | rw [if_pos (by omega)])
            (try simp only [PU])
            refine wpAnyH_ready (rs := [12]) (by kernel_rfl) (by simp) ?_
            refine AllReadyH.cons (o := ⟨(some 29), (.call { callee := (.value (.func 33)), args := #[(.tmp 23), (.tmp 28)], argTypes := #[42, 42] }), 4, "ref.go:166", #[⟨6, .data⟩, ⟨11, .data⟩, ⟨2, .chain⟩, ⟨2, .guard⟩], (some (2, true))⟩) rfl (fun K hK => ?step14x0) ?more14x0
            case more14x0 => exact AllReadyH.nil
            go_simp
            (refine (HBF.out _).mono ?_; rintro e w4 ⟨rfl, hx4⟩; replace hx4 : Ext wr w4 := Ext.trans (by with_reducible repeat (first | exact Ext.refl _ | assumption | refine Ext.drew ?_ | refine Ext.drewN ?_ _ | refine Ext.alloc ?_ _)) hx4)
            refine hK.out _ _ ?hS14x0 (fun hHeld14 => ?rest14x0)
            case hS14x0 => first | (exact MK.out _ (by with_reducible repeat (first | exact Ext.refl _ | assumption | refine Ext.drew ?_ | refine Ext.drewN ?_ _ | refine Ext.alloc ?_ _))) | ((try dsimp only); (exact MK.out _ (by with_reducible repeat (first | exact Ext.refl _ | assumption | refine Ext.drew ?_ | refine Ext.drewN ?_ _ | refine Ext.alloc ?_ _))))
            clear hK K
            clear hHeld
            (try simp only [PU])
            refine wpAnyH_take (i := 13) (oi := ⟨(some 30), (.pick (.tmp 19) (.tmp 29) (.const (.bool false))), 4, "ref.go:166", #[⟨2, .data⟩, ⟨12, .data⟩], none⟩) (v := ?v15) rfl (by kernel_rfl) (by kernel_rfl) (by kernel_rfl) (fun _ _ _ h => h) (Or.inl ⟨rfl, ?hy15⟩) hHeld14 ?rest15
            case hy15 => (intro w _; go_simp <;> rfl)
            (try simp only [PU])
            refine wpAnyH_done (by kernel_rfl) ?_ _
            clear hHeld14
            go_wp2_with fail
            go_roundw
            case rel => exact ⟨kp, by first | rfl | go_num, by omega, HG2, hE2.trans hx4⟩
            case measure => simp [intOf]
          · have HL2 := Lib.hid (HLO.out hz)
            rw [decide_eq_false hz] at HBF
            clear hz HGO HLO
            generalize hy : L[kp]! = y at MK HBF
            go_upto_region 6 with (fail)
            refine wp_region_held_drew (S := (fun V => V.cell? ⟨bs, os + i * 3, none⟩ = some (.int .i64 x.id) ∧ V.cell? ⟨bs, os + i * 3 + 1, none⟩ = some (.int .i64 x.n) ∧ V.cell? ⟨bs, os + i * 3 + 2, none⟩ = some (.int .i64 x.d) ∧ V.cell? ⟨g, kp * 3, none⟩ = some (.int .i64 y.id) ∧ V.cell? ⟨g, kp * 3 + 1, none⟩ = some (.int .i64 y.n) ∧ V.cell? ⟨g, kp * 3 + 2, none⟩ = some (.int .i64 y.d))) (by kernel_rfl) ?hs16 (fun hHeld => ?go16)
            case hs16 => (exact MK.out _ (by with_reducible repeat (first | exact Ext.refl _ | assumption | refine Ext.drew ?_ | refine Ext.drewN ?_ _ | refine Ext.alloc ?_ _)))
            refine wpAnyH_take (i := 0) (oi := ⟨(some 17), (.move (.tmp 5)), 3, "ref.go:166", #[], none⟩) (v := ?v17) rfl (by kernel_rfl) (by kernel_rfl) (by kernel_rfl) (fun _ _ _ h => h) (Or.inl ⟨rfl, ?hy17⟩) hHeld ?rest17
            case hy17 => (intro w _; go_simp <;> rfl)
            (try simp only [PU])
            refine wpAnyH_take (i := 1) (oi := ⟨(some 18), (.binOp .gtr 3 (.tmp 17) (.const (.int .i64 0)) 3), 4, "ref.go:166", #[⟨0, .data⟩], none⟩) (v := ?v18) rfl (by kernel_rfl) (by kernel_rfl) (by kernel_rfl) (fun _ _ _ h => h) (Or.inl ⟨rfl, ?hy18⟩) hHeld ?rest18
            case hy18 => (intro w _; go_simp <;> first | with_reducible rfl | rw [if_neg (by omega)] | rw [if_pos (by omega)])
            (try simp only [PU])
            refine wpAnyH_take (i := 2) (oi := ⟨(some 19), (.move (.tmp 18)), 4, "ref.go:166", #[⟨1, .data⟩], none⟩) (v := ?v19) rfl (by kernel_rfl) (by kernel_rfl) (by kernel_rfl) (fun _ _ _ h => h) (Or.inl ⟨rfl, ?hy19⟩) hHeld ?rest19
            case hy19 => (intro w _; go_simp <;> rfl)
            (try simp only [PU])
            refine wpAnyH_take (i := 3) (oi := ⟨(some 20), (.move (.tmp 0)), 22, "ref.go:166", #[⟨2, .guard⟩], (some (2, true))⟩) (v := ?v20) rfl (by kernel_rfl) (by kernel_rfl) (by kernel_rfl) (fun _ _ _ h => h) (Or.inl ⟨rfl, ?hy20⟩) hHeld ?rest20
            case hy20 => (intro w _; go_simp <;> rfl)
            (try simp only [PU])
            refine wpAnyH_take (i := 4) (oi := ⟨(some 21), (.move (.tmp 4)), 3, "ref.go:166", #[⟨2, .guard⟩], (some (2, true))⟩) (v := ?v21) rfl (by kernel_rfl) (by kernel_rfl) (by kernel_rfl) (fun _ _ _ h => h) (Or.inl ⟨rfl, ?hy21⟩) hHeld ?rest21
            case hy21 => (intro w _; go_simp <;> rfl)
            (try simp only [PU])
            refine wpAnyH_take (i := 5) (oi := ⟨(some 22), (.indexAddr 22 (.tmp 20) (.tmp 21)), 0, "ref.go:166", #[⟨3, .data⟩, ⟨4, .data⟩, ⟨2, .guard⟩], (some (2, true))⟩) (v := ?v22) rfl (by kernel_rfl) (by kernel_rfl) (by kernel_rfl) (fun _ _ _ h => h) (Or.inl ⟨rfl, ?hy22⟩) hHeld ?rest22
            case hy22 => (intro w _; go_simp <;> first | with_reducible rfl | rw [if_neg (by omega)] | rw [if_pos (by omega)])
            (try simp only [PU])
            refine wpAnyH_take (i := 6) (oi := ⟨(some 23), (.load 42 (.tmp 22)), 42, "ref.go:166", #[⟨5, .data⟩, ⟨2, .guard⟩], (some (2, true))⟩) (v := ?v23) rfl (by kernel_rfl) (by kernel_rfl) (by kernel_rfl) (fun _ _ _ h => h) (Or.inl ⟨rfl, ?hy23⟩) hHeld ?rest23
            case hy23 => (intro w hSw; (try dsimp only at hSw); go_simp <;> first | with_reducible rfl | rw [if_neg (by omega)] | rw [if_pos (by omega)])
            (try simp only [PU])
            refine wpAnyH_take (i := 7) (oi := ⟨(some 24), (.move (.tmp 3)), 22, "ref.go:166", #[⟨2, .guard⟩], (some (2, true))⟩) (v := ?v24) rfl (by kernel_rfl) (by kernel_rfl) (by kernel_rfl) (fun _ _ _ h => h) (Or.inl ⟨rfl, ?hy24⟩) hHeld ?rest24
            case hy24 => (intro w _; go_simp <;> rfl)
            (try simp only [PU])
            refine wpAnyH_take (i := 8) (oi := ⟨(some 25), (.move (.tmp 5)), 3, "ref.go:166", #[⟨2, .guard⟩], (some (2, true))⟩) (v := ?v25) rfl (by kernel_rfl) (by kernel_rfl) (by kernel_rfl) (fun _ _ _ h => h) (Or.inl ⟨rfl, ?hy25⟩) hHeld ?rest25
            case hy25 => (intro w _; go_simp <;> rfl)
            (try simp only [PU])
            refine wpAnyH_take (i := 9) (oi := ⟨(some 26), (.binOp .sub 3 (.tmp 25) (.const (.int .i64 1)) 3), 3, "ref.go:166", #[⟨8, .data⟩, ⟨2, .guard⟩], (some (2, true))⟩) (v := ?v26) rfl (by kernel_rfl) (by kernel_rfl) (by kernel_rfl) (fun _ _ _ h => h) (Or.inl ⟨rfl, ?hy26⟩) hHeld ?rest26
            case hy26 => (intro w _; go_simp <;> first | with_reducible rfl | rw [if_neg (by omega)] | rw [if_pos (by omega)])
            (try simp only [PU])
            refine wpAnyH_take (i := 10) (oi := ⟨(some 27), (.indexAddr 22 (.tmp 24) (.tmp 26)), 0, "ref.go:166", #[⟨7, .data⟩, ⟨9, .data⟩, ⟨2, .guard⟩], (some (2, true))⟩) (v := ?v27) rfl (by kernel_rfl) (by kernel_rfl) (by kernel_rfl) (fun _ _ _ h => h) (Or.inl ⟨rfl, ?hy27⟩) hHeld ?rest27
            case hy27 => (intro w _; go_simp <;> first | with_reducible rfl | rw [if_neg (by omega)] | rw [if_pos (by omega)])
            (try simp only [PU])
            refine wpAnyH_take (i := 11) (oi := ⟨(some 28), (.load 42 (.tmp 27)), 42, "ref.go:166", #[⟨10, .data⟩, ⟨2, .guard⟩], (some (2, true))⟩) (v := ?v28) rfl (by kernel_rfl) (by kernel_rfl) (by kernel_rfl) (fun _ _ _ h => h) (Or.inl ⟨rfl, ?hy28⟩) hHeld ?rest28
            case hy28 => (intro w hSw; (try dsimp only at hSw); go_simp <;> first | with_reducible rfl | rw [if_neg (by omega)] | rw [if_pos (by omega)])
            (try simp only [PU])
            refine wpAnyH_ready (rs := [12]) (by kernel_rfl) (by simp) ?_
            refine AllReadyH.cons (o := ⟨(some 29), (.call { callee := (.value (.func 33)), args := #[(.tmp 23), (.tmp 28)], argTypes := #[42, 42] }), 4, "ref.go:166", #[⟨6, .data⟩, ⟨11, .data⟩, ⟨2, .chain⟩, ⟨2, .guard⟩], (some (2, true))⟩) rfl (fun K hK => ?step29x0) ?more29x0
            case more29x0 => exact AllReadyH.nil
            go_simp
            (refine (HBF.out _).mono ?_; rintro e w4 ⟨rfl, hx4⟩; replace hx4 : Ext wr w4 := Ext.trans (by with_reducible repeat (first | exact Ext.refl _ | assumption | refine Ext.drew ?_ | refine Ext.drewN ?_ _ | refine Ext.alloc ?_ _)) hx4)
            refine hK.out _ _ ?hS29x0 (fun hHeld29 => ?rest29x0)
            case hS29x0 => first | (exact MK.out _ (by with_reducible repeat (first | exact Ext.refl _ | assumption | refine Ext.drew ?_ | refine Ext.drewN ?_ _ | refine Ext.alloc ?_ _))) | ((try dsimp only); (exact MK.out _ (by with_reducible repeat (first | exact Ext.refl _ | assumption | refine Ext.drew ?_ | refine Ext.drewN ?_ _ | refine Ext.alloc ?_ _))))
            clear hK K
            clear hHeld
            (try simp only [PU])
            refine wpAnyH_take (i := 13) (oi := ⟨(some 30), (.pick (.tmp 19) (.tmp 29) (.const (.bool false))), 4, "ref.go:166", #[⟨2, .data⟩, ⟨12, .data⟩], none⟩) (v := ?v30) rfl (by kernel_rfl) (by kernel_rfl) (by kernel_rfl) (fun _ _ _ h => h) (Or.inl ⟨rfl, ?hy30⟩) hHeld29 ?rest30
            case hy30 => (intro w _; go_simp <;> rfl)
            (try simp only [PU])
            refine wpAnyH_done (by kernel_rfl) ?_ _
            clear hHeld29
            go_upto_region 8 with (fail)
            clear MK HBF hy z2
            obtain ⟨wz, hwz⟩ : ∃ V, V = w4 := ⟨_, rfl⟩
            have hxz : Ext wr wz := by rw [hwz]; exact hx4
            rw [← hwz]
            clear hwz
            have HIN := Lib.hid (top_ins (x := x) hso.out (show (kp + 1) ≤ L.length by rw [HLN.out]; omega) (HL2.out) (fun p h1 h2 => hhi.out p h1 (by rw [← HLN.out]; exact h2)))
            have HOV2 := Lib.hid (own_ext hown.out (hE2.trans hxz))
            have HXW := Lib.hid (hEr.trans (hE2.trans hxz))
            have HLT := Lib.hid (show ((L.take (kp + 1)).flatMap Sh.cells).length = (kp + 1) * 3 by rw [flat_len Sh.cells 3 (fun _ => rfl), List.length_take, HLN.out, Nat.min_eq_left (by omega)])
            have HLD := Lib.hid (show ((L.drop (kp + 1)).flatMap Sh.cells).length = (i - (kp + 1)) * 3 by rw [flat_len Sh.cells 3 (fun _ => rfl), List.length_drop, HLN.out])
            replace a0 := hxz.cell a0
            replace a1 := hxz.cell a1
            replace a2 := hxz.cell a2
            have z9 : (i : Int) < (l.length : Int) := by omega
            have hi8 : i + 1 ≤ 8000000 := by omega
            have hcap := own_capT HOV2.out
            have y1 : ((kp + 1) : Nat) ≤ c0 := by omega
            have y2 : ((((kp + 1) : Nat) : Int)) ≤ (c0 : Int) := by omega
            have y3 : ((((kp + 1) : Nat) : Int)) ≤ (i : Int) := by omega
            have hle : w.heap.size ≤ wz.heap.size := HXW.out.le
            go_upto_region 9 with (at_builtin; refine own_cat El_share rfl (.tmp 33) (.tmp 36) rfl wz _ 0 [] rfl (World.ownsRow_made wz #[] 0 (Nat.le_refl _) (by unfold maxLen; omega) rfl) ((Ext.refl _).alloc _) (some ⟨g, 0, none⟩) (kp + 1) c0 ((L.take (kp + 1)).flatMap Sh.cells) rfl (fun h => by cases h) HLT.out (own_takeN (own_ext HOV2.out ((Ext.refl _).alloc _)) HLN.out (kp + 1) (by omega)) (shs_one _) (by omega) (by decide) ?_; intro v5 w5 hown5 hE5)
            rw [Nat.zero_add] at hown5
            have HO5 := Lib.hid hown5
            replace a0 := hE5.cell a0
            replace a1 := hE5.cell a1
            replace a2 := hE5.cell a2
            clear hown5
            go_upto_region 10 with (at_builtin; refine own_pushF El_share rfl (.tmp 38) (.tmp 43) rfl wz w5 v5 (kp + 1) _ [.int .i64 x.id, .int .i64 x.n, .int .i64 x.d] rfl HO5.out hE5 rfl rfl rfl (by simp [Value.oneCell']) (by omega) (by decide) ?_; intro v6 w6 hown6 hE6 _)
            have HO6 := Lib.hid hown6
            clear hown6 HO5 a0 a1 a2
            by_cases hck : c0 = (kp + 1)
            · have y4 : ((c0 : Int) - (((kp + 1) : Nat) : Int)) = 0 := by omega
              go_upto_region 4 with (at_builtin; refine own_cat El_share rfl (.tmp 45) (.tmp 48) rfl wz v6 ((kp + 1) + 1) _ rfl HO6.out hE6 (some ⟨g, 0, none⟩) (i - (kp + 1)) _ ((L.drop (kp + 1)).flatMap Sh.cells) rfl (fun h => by cases h) HLD.out (own_dropN (own_ext HOV2.out hE6) HLN.out (kp + 1) 0 (by omega) (.inr (by omega))) (shs_one _) (by omega) (by decide) ?_; intro v7 w7 hown7 hE7)
              have HO7 := Lib.hid (show w7.ownsRow w.heap.size 42 3 v7 (i + 1) ((L.take (kp + 1) ++ [x] ++ L.drop (kp + 1)).flatMap Sh.cells) by rw [← ins_flat]; have h := own_mono hown7 HXW.out.le; rwa [show (kp + 1) + 1 + (i - (kp + 1)) = i + 1 by omega] at h)
              have HPR := Lib.hid (show (L.take (kp + 1) ++ [x] ++ L.drop (kp + 1)).Perm (l.take (i + 1)) by rw [HPN.out]; exact HIN.out.2.trans (hpe.out.append_right _))
              clear hown7 HO6
              go_wp2_with fail
              go_roundw
              case rel => exact ⟨i + 1, L.take (kp + 1) ++ [x] ++ L.drop (kp + 1), by go_num, by omega, HO7, HPR, Lib.hid HIN.out.1, HXW.out.trans hE7⟩
              case measure => simp [intOf]; omega
            · have y4 : ¬ ((c0 : Int) - (((kp + 1) : Nat) : Int)) = 0 := by omega
              go_upto_region 4 with (at_builtin; refine own_cat El_share rfl (.tmp 45) (.tmp 48) rfl wz v6 ((kp + 1) + 1) _ rfl HO6.out hE6 (some ⟨g, (kp + 1) * 3, none⟩) (i - (kp + 1)) _ ((L.drop (kp + 1)).flatMap Sh.cells) rfl (fun h => by cases h) HLD.out (own_dropN (own_ext HOV2.out hE6) HLN.out (kp + 1) ((kp + 1) * 3) (by omega) (.inl rfl)) (shs_one _) (by omega) (by decide) ?_; intro v7 w7 hown7 hE7)
              have HO7 := Lib.hid (show w7.ownsRow w.heap.size 42 3 v7 (i + 1) ((L.take (kp + 1) ++ [x] ++ L.drop (kp + 1)).flatMap Sh.cells) by rw [← ins_flat]; have h := own_mono hown7 HXW.out.le; rwa [show (kp + 1) + 1 + (i - (kp + 1)) = i + 1 by omega] at h)
              have HPR := Lib.hid (show (L.take (kp + 1) ++ [x] ++ L.drop (kp + 1)).Perm (l.take (i + 1)) by rw [HPN.out]; exact HIN.out.2.trans (hpe.out.append_right _))
              clear hown7 HO6
              go_wp2_with fail
              go_roundw
              case rel => exact ⟨i + 1, L.take (kp + 1) ++ [x] ++ L.drop (kp + 1), by go_num, by omega, HO7, HPR, Lib.hid HIN.out.1, HXW.out.trans hE7⟩
              case measure => simp [intOf]; omega
        · obtain rfl : k = 0 := by omega
          replace a0 := hE2.cell a0
          replace a1 := hE2.cell a1
          replace a2 := hE2.cell a2
          go_upto_region 6 with (fail)
          refine wp_region_held_drew (S := (fun V => V.cell? ⟨bs, os + i * 3, none⟩ = some (.int .i64 x.id))) (by kernel_rfl) ?hs31 (fun hHeld => ?go31)
          case hs31 => (exact Ext.cell (a := wr) (by with_reducible repeat (first | exact Ext.refl _ | assumption | refine Ext.drew ?_ | refine Ext.drewN ?_ _ | refine Ext.alloc ?_ _)) a0)
          refine wpAnyH_take (i := 0) (oi := ⟨(some 17), (.move (.tmp 5)), 3, "ref.go:166", #[], none⟩) (v := ?v32) rfl (by kernel_rfl) (by kernel_rfl) (by kernel_rfl) (fun _ _ _ h => h) (Or.inl ⟨rfl, ?hy32⟩) hHeld ?rest32
          case hy32 => (intro w _; go_simp <;> rfl)
          (try simp only [PU])
          refine wpAnyH_take (i := 1) (oi := ⟨(some 18), (.binOp .gtr 3 (.tmp 17) (.const (.int .i64 0)) 3), 4, "ref.go:166", #[⟨0, .data⟩], none⟩) (v := ?v33) rfl (by kernel_rfl) (by kernel_rfl) (by kernel_rfl) (fun _ _ _ h => h) (Or.inl ⟨rfl, ?hy33⟩) hHeld ?rest33
          case hy33 => (intro w _; go_simp <;> first | with_reducible rfl | rw [if_neg (by omega)] | rw [if_pos (by omega)])
          (try simp only [PU])
          refine wpAnyH_take (i := 2) (oi := ⟨(some 19), (.move (.tmp 18)), 4, "ref.go:166", #[⟨1, .data⟩], none⟩) (v := ?v34) rfl (by kernel_rfl) (by kernel_rfl) (by kernel_rfl) (fun _ _ _ h => h) (Or.inl ⟨rfl, ?hy34⟩) hHeld ?rest34
          case hy34 => (intro w _; go_simp <;> rfl)
          (try simp only [PU])
          refine wpAnyH_take (i := 3) (oi := ⟨(some 20), (.move (.tmp 0)), 22, "ref.go:166", #[⟨2, .guard⟩], (some (2, true))⟩) (v := undef) rfl (by kernel_rfl) (by kernel_rfl) (by kernel_rfl) (fun _ _ _ h => h) (Or.inr ⟨rfl, rfl⟩) hHeld ?rest35
          (try simp only [PU])
          refine wpAnyH_take (i := 4) (oi := ⟨(some 21), (.move (.tmp 4)), 3, "ref.go:166", #[⟨2, .guard⟩], (some (2, true))⟩) (v := undef) rfl (by kernel_rfl) (by kernel_rfl) (by kernel_rfl) (fun _ _ _ h => h) (Or.inr ⟨rfl, rfl⟩) hHeld ?rest36
          (try simp only [PU])
          refine wpAnyH_take (i := 5) (oi := ⟨(some 22), (.indexAddr 22 (.tmp 20) (.tmp 21)), 0, "ref.go:166", #[⟨3, .data⟩, ⟨4, .data⟩, ⟨2, .guard⟩], (some (2, true))⟩) (v := undef) rfl (by kernel_rfl) (by kernel_rfl) (by kernel_rfl) (fun _ _ _ h => h) (Or.inr ⟨rfl, rfl⟩) hHeld ?rest37
          (try simp only [PU])
          refine wpAnyH_take (i := 6) (oi := ⟨(some 23), (.load 42 (.tmp 22)), 42, "ref.go:166", #[⟨5, .data⟩, ⟨2, .guard⟩], (some (2, true))⟩) (v := undef) rfl (by kernel_rfl) (by kernel_rfl) (by kernel_rfl) (fun _ _ _ h => h) (Or.inr ⟨rfl, rfl⟩) hHeld ?rest38
          (try simp only [PU])
          refine wpAnyH_take (i := 7) (oi := ⟨(some 24), (.move (.tmp 3)), 22, "ref.go:166", #[⟨2, .guard⟩], (some (2, true))⟩) (v := undef) rfl (by kernel_rfl) (by kernel_rfl) (by kernel_rfl) (fun _ _ _ h => h) (Or.inr ⟨rfl, rfl⟩) hHeld ?rest39
          (try simp only [PU])
          refine wpAnyH_take (i := 8) (oi := ⟨(some 25), (.move (.tmp 5)), 3, "ref.go:166", #[⟨2, .guard⟩], (some (2, true))⟩) (v := undef) rfl (by kernel_rfl) (by kernel_rfl) (by kernel_rfl) (fun _ _ _ h => h) (Or.inr ⟨rfl, rfl⟩) hHeld ?rest40
          (try simp only [PU])
          refine wpAnyH_take (i := 9) (oi := ⟨(some 26), (.binOp .sub 3 (.tmp 25) (.const (.int .i64 1)) 3), 3, "ref.go:166", #[⟨8, .data⟩, ⟨2, .guard⟩], (some (2, true))⟩) (v := undef) rfl (by kernel_rfl) (by kernel_rfl) (by kernel_rfl) (fun _ _ _ h => h) (Or.inr ⟨rfl, rfl⟩) hHeld ?rest41
          (try simp only [PU])
          refine wpAnyH_take (i := 10) (oi := ⟨(some 27), (.indexAddr 22 (.tmp 24) (.tmp 26)), 0, "ref.go:166", #[⟨7, .data⟩, ⟨9, .data⟩, ⟨2, .guard⟩], (some (2, true))⟩) (v := undef) rfl (by kernel_rfl) (by kernel_rfl) (by kernel_rfl) (fun _ _ _ h => h) (Or.inr ⟨rfl, rfl⟩) hHeld ?rest42
          (try simp only [PU])
          refine wpAnyH_take (i := 11) (oi := ⟨(some 28), (.load 42 (.tmp 27)), 42, "ref.go:166", #[⟨10, .data⟩, ⟨2, .guard⟩], (some (2, true))⟩) (v := undef) rfl (by kernel_rfl) (by kernel_rfl) (by kernel_rfl) (fun _ _ _ h => h) (Or.inr ⟨rfl, rfl⟩) hHeld ?rest43
          (try simp only [PU])
          refine wpAnyH_take (i := 12) (oi := ⟨(some 29), (.call { callee := (.value (.func 33)), args := #[(.tmp 23), (.tmp 28)], argTypes := #[42, 42] }), 4, "ref.go:166", #[⟨6, .data⟩, ⟨11, .data⟩, ⟨2, .chain⟩, ⟨2, .guard⟩], (some (2, true))⟩) (v := undef) rfl (by kernel_rfl) (by kernel_rfl) (by kernel_rfl) (fun _ _ _ h => h) (Or.inr ⟨rfl, rfl⟩) hHeld ?rest44
          (try simp only [PU])
          refine wpAnyH_take (i := 13) (oi := ⟨(some 30), (.pick (.tmp 19) (.tmp 29) (.const (.bool false))), 4, "ref.go:166", #[⟨2, .data⟩, ⟨12, .data⟩], none⟩) (v := ?v45) rfl (by kernel_rfl) (by kernel_rfl) (by kernel_rfl) (fun _ _ _ h => h) (Or.inl ⟨rfl, ?hy45⟩) hHeld ?rest45
          case hy45 => (intro w _; go_simp <;> rfl)
          (try simp only [PU])
          refine wpAnyH_done (by kernel_rfl) ?_ _
          clear hHeld
          go_upto_region 8 with (fail)
          rcases HOV.out.2 with ⟨hv, h0⟩ | ⟨g, cap, cur, hv, hgb, hgl, -⟩
          · injection hv with h1 h2 h3
            subst h1 h3 h0
            simp only [Nat.zero_mul, Nat.add_zero] at a0 a1 a2
            obtain ⟨wz, hwz⟩ : ∃ V, V = wr.drew := ⟨_, rfl⟩
            have hxz : Ext wr wz := by rw [hwz]; exact (Ext.refl _).drew
            rw [← hwz]
            clear hwz
            have HIN := Lib.hid (top_ins (x := x) hso.out (show 0 ≤ L.length by rw [HLN.out]; omega) (.inl rfl) (fun p h1 h2 => hhi.out p h1 (by rw [← HLN.out]; exact h2)))
            have HOV2 := Lib.hid (own_ext hown.out (hE2.trans hxz))
            have HXW := Lib.hid (hEr.trans (hE2.trans hxz))
            have HLT := Lib.hid (show ((L.take 0).flatMap Sh.cells).length = 0 * 3 by rw [flat_len Sh.cells 3 (fun _ => rfl), List.length_take, HLN.out, Nat.min_eq_left (by omega)])
            have HLD := Lib.hid (show ((L.drop 0).flatMap Sh.cells).length = (0 - 0) * 3 by rw [flat_len Sh.cells 3 (fun _ => rfl), List.length_drop, HLN.out])
            replace a0 := hxz.cell a0
            replace a1 := hxz.cell a1
            replace a2 := hxz.cell a2
            have z9 : (0 : Int) < (l.length : Int) := by omega
            have hi8 : 0 + 1 ≤ 8000000 := by omega
            go_upto_region 9 with (at_builtin; refine own_cat El_share rfl (.tmp 33) (.tmp 36) rfl wz _ 0 [] rfl (World.ownsRow_made wz #[] 0 (Nat.le_refl _) (by unfold maxLen; omega) rfl) ((Ext.refl _).alloc _) none 0 0 ((L.take 0).flatMap Sh.cells) rfl (fun _ => ⟨rfl, rfl⟩) HLT.out (fun ad h => by cases h) (shs_one _) (by omega) (by decide) ?_; intro v5 w5 hown5 hE5)
            rw [Nat.zero_add] at hown5
            have HO5 := Lib.hid hown5
            replace a0 := hE5.cell a0
            replace a1 := hE5.cell a1
            replace a2 := hE5.cell a2
            clear hown5
            go_upto_region 10 with (at_builtin; refine own_pushF El_share rfl (.tmp 38) (.tmp 43) rfl wz w5 v5 0 _ [.int .i64 x.id, .int .i64 x.n, .int .i64 x.d] rfl HO5.out hE5 rfl rfl rfl (by simp [Value.oneCell']) (by omega) (by decide) ?_; intro v6 w6 hown6 hE6 _)
            have HO6 := Lib.hid hown6
            clear hown6 HO5 a0 a1 a2
            go_upto_region 4 with (at_builtin; refine own_cat El_share rfl (.tmp 45) (.tmp 48) rfl wz v6 (0 + 1) _ rfl HO6.out hE6 none (0 - 0) _ ((L.drop 0).flatMap Sh.cells) rfl (fun _ => ⟨rfl, rfl⟩) HLD.out (fun ad h => by cases h) (shs_one _) (by omega) (by decide) ?_; intro v7 w7 hown7 hE7)
            have HO7 := Lib.hid (show w7.ownsRow w.heap.size 42 3 v7 (0 + 1) ((L.take 0 ++ [x] ++ L.drop 0).flatMap Sh.cells) by rw [← ins_flat]; have h := own_mono hown7 HXW.out.le; rwa [show 0 + 1 + (0 - 0) = 0 + 1 by omega] at h)
            have HPR := Lib.hid (show (L.take 0 ++ [x] ++ L.drop 0).Perm (l.take (0 + 1)) by rw [HPN.out]; exact HIN.out.2.trans (hpe.out.append_right _))
            clear hown7 HO6
            go_wp2_with fail
            go_roundw
            case rel => exact ⟨0 + 1, L.take 0 ++ [x] ++ L.drop 0, by go_num, by omega, HO7, HPR, Lib.hid HIN.out.1, HXW.out.trans hE7⟩
            case measure => simp [intOf]; omega
          · injection hv with h1 h2 h3
            subst h1 h3
            clear h2 hgl
            obtain ⟨wz, hwz⟩ : ∃ V, V = wr.drew := ⟨_, rfl⟩
            have hxz : Ext wr wz := by rw [hwz]; exact (Ext.refl _).drew
            rw [← hwz]
            clear hwz
            have HIN := Lib.hid (top_ins (x := x) hso.out (show 0 ≤ L.length by rw [HLN.out]; omega) (.inl rfl) (fun p h1 h2 => hhi.out p h1 (by rw [← HLN.out]; exact h2)))
            have HOV2 := Lib.hid (own_ext hown.out (hE2.trans hxz))
            have HXW := Lib.hid (hEr.trans (hE2.trans hxz))
            have HLT := Lib.hid (show ((L.take 0).flatMap Sh.cells).length = 0 * 3 by rw [flat_len Sh.cells 3 (fun _ => rfl), List.length_take, HLN.out, Nat.min_eq_left (by omega)])
            have HLD := Lib.hid (show ((L.drop 0).flatMap Sh.cells).length = (i - 0) * 3 by rw [flat_len Sh.cells 3 (fun _ => rfl), List.length_drop, HLN.out])
            replace a0 := hxz.cell a0
            replace a1 := hxz.cell a1
            replace a2 := hxz.cell a2
            have z9 : (i : Int) < (l.length : Int) := by omega
            have hi8 : i + 1 ≤ 8000000 := by omega
            have hcap := own_capT HOV2.out
            have y1 : (0 : Nat) ≤ c0 := by omega
            have y2 : (((0 : Nat) : Int)) ≤ (c0 : Int) := by omega
            have y3 : (((0 : Nat) : Int)) ≤ (i : Int) := by omega
            have hle : w.heap.size ≤ wz.heap.size := HXW.out.le
            go_upto_region 9 with (at_builtin; refine own_cat El_share rfl (.tmp 33) (.tmp 36) rfl wz _ 0 [] rfl (World.ownsRow_made wz #[] 0 (Nat.le_refl _) (by unfold maxLen; omega) rfl) ((Ext.refl _).alloc _) (some ⟨g, 0, none⟩) 0 c0 ((L.take 0).flatMap Sh.cells) rfl (fun h => by cases h) HLT.out (own_takeN (own_ext HOV2.out ((Ext.refl _).alloc _)) HLN.out 0 (by omega)) (shs_one _) (by omega) (by decide) ?_; intro v5 w5 hown5 hE5)
            rw [Nat.zero_add] at hown5
            have HO5 := Lib.hid hown5
            replace a0 := hE5.cell a0
            replace a1 := hE5.cell a1
            replace a2 := hE5.cell a2
            clear hown5
            go_upto_region 10 with (at_builtin; refine own_pushF El_share rfl (.tmp 38) (.tmp 43) rfl wz w5 v5 0 _ [.int .i64 x.id, .int .i64 x.n, .int .i64 x.d] rfl HO5.out hE5 rfl rfl rfl (by simp [Value.oneCell']) (by omega) (by decide) ?_; intro v6 w6 hown6 hE6 _)
            have HO6 := Lib.hid hown6
            clear hown6 HO5 a0 a1 a2
            by_cases hck : c0 = 0
            · have y4 : ((c0 : Int) - ((0 : Nat) : Int)) = 0 := by omega
              go_upto_region 4 with (at_builtin; refine own_cat El_share rfl (.tmp 45) (.tmp 48) rfl wz v6 (0 + 1) _ rfl HO6.out hE6 (some ⟨g, 0, none⟩) (i - 0) _ ((L.drop 0).flatMap Sh.cells) rfl (fun h => by cases h) HLD.out (own_dropN (own_ext HOV2.out hE6) HLN.out 0 0 (by omega) (.inr (by omega))) (shs_one _) (by omega) (by decide) ?_; intro v7 w7 hown7 hE7)
              have HO7 := Lib.hid (show w7.ownsRow w.heap.size 42 3 v7 (i + 1) ((L.take 0 ++ [x] ++ L.drop 0).flatMap Sh.cells) by rw [← ins_flat]; have h := own_mono hown7 HXW.out.le; rwa [show 0 + 1 + (i - 0) = i + 1 by omega] at h)
              have HPR := Lib.hid (show (L.take 0 ++ [x] ++ L.drop 0).Perm (l.take (i + 1)) by rw [HPN.out]; exact HIN.out.2.trans (hpe.out.append_right _))
              clear hown7 HO6
              go_wp2_with fail
              go_roundw
              case rel => exact ⟨i + 1, L.take 0 ++ [x] ++ L.drop 0, by go_num, by omega, HO7, HPR, Lib.hid HIN.out.1, HXW.out.trans hE7⟩
              case measure => simp [intOf]; omega
            · have y4 : ¬ ((c0 : Int) - ((0 : Nat) : Int)) = 0 := by omega
              go_upto_region 4 with (at_builtin; refine own_cat El_share rfl (.tmp 45) (.tmp 48) rfl wz v6 (0 + 1) _ rfl HO6.out hE6 (some ⟨g, 0 * 3, none⟩) (i - 0) _ ((L.drop 0).flatMap Sh.cells) rfl (fun h => by cases h) HLD.out (own_dropN (own_ext HOV2.out hE6) HLN.out 0 (0 * 3) (by omega) (.inl rfl)) (shs_one _) (by omega) (by decide) ?_; intro v7 w7 hown7 hE7)
              have HO7 := Lib.hid (show w7.ownsRow w.heap.size 42 3 v7 (i + 1) ((L.take 0 ++ [x] ++ L.drop 0).flatMap Sh.cells) by rw [← ins_flat]; have h := own_mono hown7 HXW.out.le; rwa [show 0 + 1 + (i - 0) = i + 1 by omega] at h)
              have HPR := Lib.hid (show (L.take 0 ++ [x] ++ L.drop 0).Perm (l.take (i + 1)) by rw [HPN.out]; exact HIN.out.2.trans (hpe.out.append_right _))
              clear hown7 HO6
              go_wp2_with fail
              go_roundw
              case rel => exact ⟨i + 1, L.take 0 ++ [x] ++ L.drop 0, by go_num, by omega, HO7, HPR, Lib.hid HIN.out.1, HXW.out.trans hE7⟩
              case measure => simp [intOf]; omega
    · have hk' : i = l.length := by omega
      have HQ := Lib.hid (show L.map Sh.id = ti from HTI.out L (by have h := hpe.out; rwa [hk', List.take_length] at h) hso.out)
      obtain ⟨A9, c9, hv9, -, hS9⟩ := shares_of_own hown.out HLN.out.symm (by rw [HLN.out]; omega)
      injection hv9 with h1 h2 h3
      subst h1 h3
      have HSH := Lib.hid (hS9.keep (ok' := fun _ => True) (fun _ _ _ _ hc => ⟨hc, trivial⟩))
      have HK := Lib.hid hk'
      have hik : i ≤ l.length := by omega
      clear hpe hso hown HTI HL hS9 h2 hk'
      obtain ⟨wo, hwo⟩ : ∃ V, V = wr := ⟨_, rfl⟩
      subst hwo
      have HS1 := Lib.hid (fun W : World => World.ownsRow_nil W W.heap.size 3 1)
      go_wp2_with fail
      go_loopw [7, 8] (fun v u W => ∃ k : Nat, u = .int .i64 k ∧ k ≤ i ∧ Hid (W.ownsRow wo.heap.size 3 1 v k (((L.take k).map Sh.id).map (Value.int .i64))) ∧ Ext wo W) (fun _ u _ => i - (intOf u).toNat)
      case atStart => exact ⟨0, rfl, Nat.zero_le _, Lib.hid (HS1.out _), Ext.refl _⟩
      case round =>
        clear HS1
        obtain ⟨k, rfl, hk, HO, hE2⟩ := hrel
        by_cases hki : k < i
        · obtain ⟨b, o, rfl, hc⟩ := ((HSH.out.ext hE2).at_ (show k < L.length by rw [HLN.out]; exact hki))
          obtain ⟨-, b0, -, -⟩ := hc k (by rw [HLN.out]; exact hki)
          have HT := Lib.hid (ids_take L k (by rw [HLN.out]; exact hki))
          have hkb : k + 1 ≤ 8388608 := by omega
          clear hc
          generalize L[k]! = x at *
          go_wp2_with (at_builtin; refine own_pushF El_int rfl (.tmp 56) (.tmp 62) rfl wo wr _ k _ [.int .i64 x.id] rfl HO.out hE2 rfl rfl rfl (by simp [Value.oneCell']) hkb (by decide) ?_; intro v2 w5 hown2 hx5 _)
          have HO5 := Lib.hid (show w5.ownsRow wo.heap.size 3 1 v2 (k + 1) (((L.take (k + 1)).map Sh.id).map (Value.int .i64)) by rw [HT.out]; exact hown2)
          clear hown2 HO
          go_wp2_with fail
          go_roundw
          case rel => exact ⟨k + 1, by go_num, by omega, HO5, hx5⟩
          case measure => simp [intOf]; omega
        · have hof := HO.out
          rw [List.take_of_length_le (by rw [HLN.out]; omega), HQ.out] at hof
          have hkn : k = ti.length := by rw [HTN.out, ← HK.out]; omega
          obtain ⟨A8, c8, rfl, h8, hS8⟩ := nums_of_own hof hkn (by rw [HTN.out]; omega)
          have HS8 := Lib.hid hS8
          clear HO hof hS8 hkn HTN
          go_wp2_with fail
          go_ret
          exact ⟨A8, c8, rfl, h8, SliceR.mono HS8.out (fun _ _ _ _ h => ⟨Nat.le_trans hEr.le h.1, h.2⟩), hEr.trans hE2⟩
end Go.Proofs.YtlkpmbkmmfoakaaDoor

/- THE WALK over the law RankReads (chapter 51). -/
namespace Go.Proofs.YtlkpmbkmmfoakaaDoor
open Go.RowKit Go.Sort
theorem Nums.at_ {w : World} {ok : Nat → Prop} {A : Option Addr} {l : List Int} (h : Nums w ok A l) {i : Nat} (hi : i < l.length) : ∃ b o, A = some ⟨b, o, none⟩ ∧ ∀ k, k < l.length → w.cell? ⟨b, o + k, none⟩ = some (.int .i64 l[k]!) := by
  obtain ⟨b, o, hA, hc⟩ := h.2 (by omega)
  exact ⟨b, o, hA, fun k hk => by rw [getElem!_pos l k hk]; have := (hc k hk).2; rwa [Nat.mul_one] at this⟩
set_option maxRecDepth 100000 in
set_option maxHeartbeats 3200000 in
theorem l_RankReads (l : List Sh) (ok : Nat → Prop) (A : Option Addr) (c : Nat) (w : World) (hz : ZeroAt w) (hl : Shares w ok A l) :
    Calls Tryd.prog 3 #[.slice A l.length c] w fun e w' => e = .returned (.bool true) ∧ Ext w w' := by
  have hm := hl.len
  have HAL := Lib.hid (fun W (x : Ext w W) => l_alive W (hz.ext x))
  by_cases h60 : l.length ≤ 60
  · have q60 : decide (60 < (l.length : Int)) = false := decide_eq_false (by omega)
    have HT1 := Lib.hid (fun W (x : Ext w W) => rk_Total l ok A c W (hz.ext x) (hl.ext x) (by omega))
    have HT2 := Lib.hid (fun W (x : Ext w W) => r51_Total l ok A c W (hl.ext x) (by omega))
    have HP1 := Lib.hid (fun W (x : Ext w W) => rk_Top l ok A c W (hz.ext x) (hl.ext x) (by omega))
    have HP2 := Lib.hid (fun W (x : Ext w W) => r51_Top l ok A c W (hl.ext x) (by omega))
    have htn : (topI l).length ≤ 60 := by rw [topI_len]; exact h60
    clear hl hz h60
    generalize totV l = tv at *
    generalize topI l = ti at *
    obtain ⟨t1, t2, t3⟩ := tv
    dsimp only at HT1 HT2
    go_enter Tryd.func3, Tryd.ntmps3
    go_upto_region 4 with ((go_at_call 8; ((with_reducible refine (HT1.out w (Ext.refl _)).mono ?_); rintro e w1 ⟨rfl, hx1⟩; skip)))
    obtain ⟨q1, w2, hq1, hw2, a0, a1, -, -, hx2⟩ := box_frac w1 t1 t2 25
    rw [← hw2, ← hq1]
    have hE2 := hx1.trans hx2
    clear hq1 hw2 hx1 hx2 HT1
    go_upto_region 5 with ((go_at_call 9; ((with_reducible refine (HT2.out w2 hE2).mono ?_); rintro e w3 ⟨rfl, hx3⟩; skip)))
    obtain ⟨q2, w4, hq2, hw4, b0, b1, -, -, hx4⟩ := box_frac w3 t1 t2 25
    rw [← hw4, ← hq2]
    have hE4 := hE2.trans (hx3.trans hx4)
    replace a0 := (hx3.trans hx4).cell a0
    replace a1 := (hx3.trans hx4).cell a1
    clear hq2 hw4 hx3 hx4 HT2
    go_upto_region 6 with ((go_at_call 10; ((with_reducible refine (HP1.out w4 hE4).mono ?_); rintro e w5 ⟨A5, c5, rfl, hc5, hN5, hx5⟩; skip)))
    go_upto_region 7 with ((go_at_call 11; ((with_reducible refine (HP2.out w5 (hE4.trans hx5)).mono ?_); rintro e w6 ⟨A6, c6, rfl, hc6, hN6, hx6⟩; skip)))
    have HN5 := Lib.hid (hN5.ext hx6)
    have HN6 := Lib.hid hN6
    have hE6 := hE4.trans (hx5.trans hx6)
    replace a0 := (hx5.trans hx6).cell a0
    replace a1 := (hx5.trans hx6).cell a1
    replace b0 := (hx5.trans hx6).cell b0
    replace b1 := (hx5.trans hx6).cell b1
    clear hN5 hN6 hx5 hx6 HP1 HP2
    go_wp2_with fail
    go_loopw [9] (fun u W => ∃ k : Nat, u = .int .i64 k ∧ k ≤ ti.length ∧ Ext w6 W) (fun u _ => ti.length - (intOf u).toNat)
    case atStart => exact ⟨0, rfl, Nat.zero_le _, Ext.refl _⟩
    case round =>
      obtain ⟨k, rfl, hk, hEr⟩ := hrel
      by_cases hlt : k < ti.length
      · obtain ⟨ba, oa, rfl, ha⟩ := (HN5.out.ext hEr).at_ hlt
        obtain ⟨bb, ob, rfl, hb⟩ := (HN6.out.ext hEr).at_ hlt
        have ca := ha k hlt
        have cb := hb k hlt
        have MK := Lib.hid (fun V (e : Ext wr V) => (⟨e.cell ca, e.cell cb⟩ : V.cell? ⟨ba, oa + k, none⟩ = some (.int .i64 ti[k]!) ∧ V.cell? ⟨bb, ob + k, none⟩ = some (.int .i64 ti[k]!)))
        have z1 : (k : Int) < (ti.length : Int) := by omega
        clear ha hb ca cb
        generalize ti[k]! = x at *
        go_upto_region 12 with (fail)
        refine wp_region_held_drew (S := (fun V => V.cell? ⟨ba, oa + k, none⟩ = some (.int .i64 x) ∧ V.cell? ⟨bb, ob + k, none⟩ = some (.int .i64 x))) (by kernel_rfl) ?hs1 (fun hHeld => ?go1)
        case hs1 => (exact MK.out _ (by with_reducible repeat (first | exact Ext.refl _ | assumption | refine Ext.drew ?_ | refine Ext.drewN ?_ _ | refine Ext.alloc ?_ _)))
        refine wpAnyH_take (i := 0) (oi := ⟨(some 39), (.move (.tmp 7)), 28, "law.go:68", #[], none⟩) (v := ?v2) rfl (by kernel_rfl) (by kernel_rfl) (by kernel_rfl) (fun _ _ _ h => h) (Or.inl ⟨rfl, ?hy2⟩) hHeld ?rest2
        case hy2 => (intro w _; go_simp <;> rfl)
        (try simp only [PU])
        refine wpAnyH_take (i := 1) (oi := ⟨(some 40), (.move (.tmp 9)), 3, "law.go:68", #[], none⟩) (v := ?v3) rfl (by kernel_rfl) (by kernel_rfl) (by kernel_rfl) (fun _ _ _ h => h) (Or.inl ⟨rfl, ?hy3⟩) hHeld ?rest3
        case hy3 => (intro w _; go_simp <;> rfl)
        (try simp only [PU])
        refine wpAnyH_take (i := 2) (oi := ⟨(some 41), (.indexAddr 28 (.tmp 39) (.tmp 40)), 0, "law.go:68", #[⟨0, .data⟩, ⟨1, .data⟩], none⟩) (v := ?v4) rfl (by kernel_rfl) (by kernel_rfl) (by kernel_rfl) (fun _ _ _ h => h) (Or.inl ⟨rfl, ?hy4⟩) hHeld ?rest4
        case hy4 => (intro w _; go_simp <;> first | with_reducible rfl | rw [if_neg (by omega)] | rw [if_pos (by omega)])
        (try simp only [PU])
        refine wpAnyH_take (i := 3) (oi := ⟨(some 42), (.load 3 (.tmp 41)), 3, "law.go:68", #[⟨2, .data⟩], none⟩) (v := ?v5) rfl (by kernel_rfl) (by kernel_rfl) (by kernel_rfl) (fun _ _ _ h => h) (Or.inl ⟨rfl, ?hy5⟩) hHeld ?rest5
        case hy5 => (intro w hSw; (try dsimp only at hSw); go_simp <;> first | with_reducible rfl | rw [if_neg (by omega)] | rw [if_pos (by omega)])
        (try simp only [PU])
        refine wpAnyH_take (i := 4) (oi := ⟨(some 43), (.move (.tmp 8)), 28, "law.go:68", #[], none⟩) (v := ?v6) rfl (by kernel_rfl) (by kernel_rfl) (by kernel_rfl) (fun _ _ _ h => h) (Or.inl ⟨rfl, ?hy6⟩) hHeld ?rest6
        case hy6 => (intro w _; go_simp <;> rfl)
        (try simp only [PU])
        refine wpAnyH_take (i := 5) (oi := ⟨(some 44), (.move (.tmp 9)), 3, "law.go:68", #[], none⟩) (v := ?v7) rfl (by kernel_rfl) (by kernel_rfl) (by kernel_rfl) (fun _ _ _ h => h) (Or.inl ⟨rfl, ?hy7⟩) hHeld ?rest7
        case hy7 => (intro w _; go_simp <;> rfl)
        (try simp only [PU])
        refine wpAnyH_take (i := 6) (oi := ⟨(some 45), (.indexAddr 28 (.tmp 43) (.tmp 44)), 0, "law.go:68", #[⟨4, .data⟩, ⟨5, .data⟩], none⟩) (v := ?v8) rfl (by kernel_rfl) (by kernel_rfl) (by kernel_rfl) (fun _ _ _ h => h) (Or.inl ⟨rfl, ?hy8⟩) hHeld ?rest8
        case hy8 => (intro w _; go_simp <;> first | with_reducible rfl | rw [if_neg (by omega)] | rw [if_pos (by omega)])
        (try simp only [PU])
        refine wpAnyH_take (i := 7) (oi := ⟨(some 46), (.load 3 (.tmp 45)), 3, "law.go:68", #[⟨6, .data⟩], none⟩) (v := ?v9) rfl (by kernel_rfl) (by kernel_rfl) (by kernel_rfl) (fun _ _ _ h => h) (Or.inl ⟨rfl, ?hy9⟩) hHeld ?rest9
        case hy9 => (intro w hSw; (try dsimp only at hSw); go_simp <;> first | with_reducible rfl | rw [if_neg (by omega)] | rw [if_pos (by omega)])
        (try simp only [PU])
        refine wpAnyH_take (i := 8) (oi := ⟨(some 47), (.binOp .neq 3 (.tmp 42) (.tmp 46) 3), 4, "law.go:68", #[⟨3, .data⟩, ⟨7, .data⟩], none⟩) (v := ?v10) rfl (by kernel_rfl) (by kernel_rfl) (by kernel_rfl) (fun _ _ _ h => h) (Or.inl ⟨rfl, ?hy10⟩) hHeld ?rest10
        case hy10 => (intro w _; go_simp <;> first | with_reducible rfl | rw [if_neg (by omega)] | rw [if_pos (by omega)])
        (try simp only [PU])
        refine wpAnyH_done (by kernel_rfl) ?_ _
        clear hHeld
        go_wp2_with fail
        go_roundw
        case rel => exact ⟨k + 1, by go_num, by omega, hEr.trans (by with_reducible repeat (first | exact Ext.refl _ | assumption | refine Ext.drew ?_ | refine Ext.drewN ?_ _ | refine Ext.alloc ?_ _))⟩
        case measure => simp [intOf]; omega
      · replace a0 := hEr.cell a0
        replace a1 := hEr.cell a1
        replace b0 := hEr.cell b0
        replace b1 := hEr.cell b1
        go_wp2_with (go_at_call 7; ((with_reducible refine (HAL.out _ (hE6.trans hEr)).mono ?_); rintro e w7 ⟨rfl, hx7⟩; skip))
        go_ret
        exact ⟨rfl, hE6.trans (hEr.trans hx7)⟩
  · have q60 : decide (60 < (l.length : Int)) = true := decide_eq_true (by omega)
    clear hl hz h60
    go_enter Tryd.func3, Tryd.ntmps3
    go_wp2_with (go_at_call 7; ((with_reducible refine (HAL.out _ (Ext.refl _)).mono ?_); rintro e w7 ⟨rfl, hx7⟩; skip))
    go_ret
    exact ⟨rfl, hx7⟩
end Go.Proofs.YtlkpmbkmmfoakaaDoor
