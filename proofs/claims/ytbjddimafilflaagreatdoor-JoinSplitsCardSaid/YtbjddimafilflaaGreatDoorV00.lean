/- PARTS OF THE WALKS, joined: Tot, Merge, Ext, Own. -/
import Derived.Sort.Walk0
import Derived.Lib.Small
import Derived.Sort.LotA
import Derived.Below
import Derived.Laws.Rows
import Derived.Laws.OwnMore
import Derived.Deep.Draws
import Derived.Lib.Hide
import Derived.Test.YtbjddimafilflaaGreatDoorProg
import Derived.Laws.AppendOwn
import Derived.OwnWalk
import Derived.Deep.AppendLies
import Derived.Deep.MidRow
/- PLAIN: total orders told by a number; strings, byte by byte; lexicographic order. No program in sight. -/
namespace Go.Proofs.YtbjddimafilflaaGreatDoor
/-- a total order told by a number -/
structure TotC {α : Type} (c : α → α → Int) : Prop where
  rng : ∀ x y, c x y = -1 ∨ c x y = 0 ∨ c x y = 1
  zero : ∀ x y, c x y = 0 ↔ x = y
  anti : ∀ x y, c y x = - c x y
  trans : ∀ x y z, c x y ≤ 0 → c y z ≤ 0 → c x z ≤ 0
/-- the first that is not zero -/
def thenC (x y : Int) : Int := if x = 0 then y else x
theorem thenC_zero (y : Int) : thenC 0 y = y := rfl
theorem thenC_ne {x : Int} (h : x ≠ 0) (y : Int) : thenC x y = x := if_neg h
theorem thenC_rng {x y : Int} (hx : x = -1 ∨ x = 0 ∨ x = 1) (hy : y = -1 ∨ y = 0 ∨ y = 1) : thenC x y = -1 ∨ thenC x y = 0 ∨ thenC x y = 1 := by
  unfold thenC; split <;> assumption
theorem thenC_eq0 {x y : Int} : thenC x y = 0 ↔ x = 0 ∧ y = 0 := by
  unfold thenC; split
  · rename_i h; exact ⟨fun h2 => ⟨h, h2⟩, fun h2 => h2.2⟩
  · rename_i h; exact ⟨fun h2 => absurd h2 h, fun h2 => h2.1⟩
theorem thenC_neg (x y : Int) : thenC (-x) (-y) = -thenC x y := by
  unfold thenC; split <;> split <;> omega
theorem thenC_trans {α : Type} {c : α → α → Int} (hz : ∀ x y, c x y = 0 ↔ x = y) (ha : ∀ x y, c y x = - c x y) {x y z : α} (ht : c x y ≤ 0 → c y z ≤ 0 → c x z ≤ 0) {p q r : Int} (hp : p ≤ 0 → q ≤ 0 → r ≤ 0) :
    thenC (c x y) p ≤ 0 → thenC (c y z) q ≤ 0 → thenC (c x z) r ≤ 0 := by
  intro h1 h2
  by_cases e1 : c x y = 0
  · have := (hz _ _).1 e1; subst this
    rw [e1, thenC_zero] at h1
    by_cases e2 : c x z = 0
    · rw [e2, thenC_zero] at h2 ⊢; exact hp h1 h2
    · rw [thenC_ne e2] at h2 ⊢; exact h2
  · rw [thenC_ne e1] at h1
    by_cases e2 : c y z = 0
    · have := (hz _ _).1 e2; subst this
      rw [thenC_ne e1]; exact h1
    · rw [thenC_ne e2] at h2
      have h3 := ht h1 h2
      by_cases e3 : c x z = 0
      · have := (hz _ _).1 e3; subst this
        have := ha x y
        omega
      · rw [thenC_ne e3]; exact h3
theorem TotC.int : TotC Lib.compareInt := by
  constructor <;> intros <;> unfold Lib.compareInt at * <;> (repeat' split at *) <;> omega
/-- two texts, byte by byte -/
def cmpT (a b : ByteArray) : Int := if Op.bytesLess a.toList b.toList = true then -1 else if (a.toList == b.toList) = true then 0 else 1
theorem less_irrefl (a : List UInt8) : Op.bytesLess a a = false := by
  induction a with
  | nil => rfl
  | cons x r ih => simp [Op.bytesLess, ih]
theorem less_trans : ∀ (a b c : List UInt8), Op.bytesLess a b = true → Op.bytesLess b c = true → Op.bytesLess a c = true
  | _, [], _, h, _ => by simp [Op.bytesLess] at h
  | _, _ :: _, [], _, h => by simp [Op.bytesLess] at h
  | [], _ :: _, _ :: _, _, _ => rfl
  | x :: a, y :: b, z :: c, h1, h2 => by
    simp only [Op.bytesLess, Bool.or_eq_true, Bool.and_eq_true, decide_eq_true_iff, beq_iff_eq] at h1 h2 ⊢
    rcases h1 with h1 | ⟨h1, h1'⟩ <;> rcases h2 with h2 | ⟨h2, h2'⟩
    · exact .inl (UInt8.lt_trans h1 h2)
    · exact .inl (h2 ▸ h1)
    · exact .inl (h1 ▸ h2)
    · exact .inr ⟨h1.trans h2, less_trans a b c h1' h2'⟩
theorem less_tri : ∀ (a b : List UInt8), Op.bytesLess a b = true ∨ a = b ∨ Op.bytesLess b a = true
  | [], [] => .inr (.inl rfl)
  | [], _ :: _ => .inl rfl
  | _ :: _, [] => .inr (.inr rfl)
  | x :: a, y :: b => by
    simp only [Op.bytesLess, Bool.or_eq_true, Bool.and_eq_true, decide_eq_true_iff, beq_iff_eq, List.cons.injEq]
    by_cases h : x = y
    · subst h
      rcases less_tri a b with h | h | h
      · exact .inl (.inr ⟨rfl, h⟩)
      · exact .inr (.inl ⟨rfl, h⟩)
      · exact .inr (.inr (.inr ⟨rfl, h⟩))
    · have hn : x.toNat ≠ y.toNat := fun e => h (UInt8.toNat_inj.1 e)
      rcases Nat.lt_or_gt_of_ne hn with h | h
      · exact .inl (.inl (UInt8.lt_iff_toNat_lt.2 h))
      · exact .inr (.inr (.inl (UInt8.lt_iff_toNat_lt.2 h)))
theorem less_asymm {a b : List UInt8} (h : Op.bytesLess a b = true) : Op.bytesLess b a = false := by
  cases h2 : Op.bytesLess b a
  · rfl
  · have := less_trans _ _ _ h h2; rw [less_irrefl] at this; cases this
theorem bytes_eq {a b : ByteArray} (h : a.toList = b.toList) : a = b := by
  rw [ByteArray.toList_eq, ByteArray.toList_eq] at h
  exact ByteArray.ext (Array.toList_inj.1 h)
theorem cmpT_lt {a b : ByteArray} (h : Op.bytesLess a.toList b.toList = true) : cmpT a b = -1 := by unfold cmpT; rw [if_pos h]
theorem cmpT_eq (a : ByteArray) : cmpT a a = 0 := by unfold cmpT; rw [less_irrefl]; simp
theorem cmpT_gt {a b : ByteArray} (h : Op.bytesLess b.toList a.toList = true) : cmpT a b = 1 := by
  unfold cmpT; rw [less_asymm h, if_neg (by simp), if_neg]
  intro e; rw [beq_iff_eq] at e; rw [e, less_irrefl] at h; cases h
theorem cmpT_tri (a b : ByteArray) : (Op.bytesLess a.toList b.toList = true ∧ cmpT a b = -1 ∧ cmpT b a = 1) ∨ (a = b ∧ cmpT a b = 0) ∨ (Op.bytesLess b.toList a.toList = true ∧ cmpT a b = 1 ∧ cmpT b a = -1) := by
  rcases less_tri a.toList b.toList with h | h | h
  · exact .inl ⟨h, cmpT_lt h, cmpT_gt h⟩
  · have := bytes_eq h; subst this; exact .inr (.inl ⟨rfl, cmpT_eq _⟩)
  · exact .inr (.inr ⟨h, cmpT_gt h, cmpT_lt h⟩)
theorem TotC.str : TotC cmpT := by
  constructor
  · intro x y; rcases cmpT_tri x y with ⟨_, h, _⟩ | ⟨_, h⟩ | ⟨_, h, _⟩ <;> omega
  · intro x y; rcases cmpT_tri x y with ⟨h0, h, _⟩ | ⟨h0, h⟩ | ⟨h0, h, _⟩
    · exact ⟨fun e => by omega, fun e => by subst e; rw [less_irrefl] at h0; cases h0⟩
    · exact ⟨fun _ => h0, fun _ => h⟩
    · exact ⟨fun e => by omega, fun e => by subst e; rw [less_irrefl] at h0; cases h0⟩
  · intro x y; rcases cmpT_tri x y with ⟨_, h, h'⟩ | ⟨h0, h⟩ | ⟨_, h, h'⟩
    · omega
    · subst h0; omega
    · omega
  · intro x y z a b
    rcases cmpT_tri x y with ⟨h0, h, _⟩ | ⟨h0, h⟩ | ⟨h0, h, _⟩
    · rcases cmpT_tri y z with ⟨g0, g, _⟩ | ⟨g0, g⟩ | ⟨g0, g, _⟩
      · rw [cmpT_lt (less_trans _ _ _ h0 g0)]; omega
      · subst g0; omega
      · omega
    · subst h0; exact b
    · omega
theorem TotC.refl {α : Type} {c : α → α → Int} (h : TotC c) (x : α) : c x x = 0 := (h.zero _ _).2 rfl
theorem TotC.total {α : Type} {c : α → α → Int} (h : TotC c) (x y : α) : c x y ≤ 0 ∨ c y x ≤ 0 := by
  have := h.anti x y; rcases h.rng x y with e | e | e <;> omega
/-- two rising lists of the same elements are one -/
theorem rise_unique {α : Type} {c : α → α → Int} (h : TotC c) : ∀ {a b : List α}, a.Perm b → a.Pairwise (fun x y => c x y ≤ 0) → b.Pairwise (fun x y => c x y ≤ 0) → a = b
  | [], b, hp, _, _ => (List.nil_perm.1 hp).symm
  | x :: a, [], hp, _, _ => absurd hp.length_eq (by simp)
  | x :: a, y :: b, hp, ha, hb => by
    have ha' := List.pairwise_cons.1 ha
    have hb' := List.pairwise_cons.1 hb
    have hxy : x = y := by
      have h1 : c x y ≤ 0 := by
        rcases List.mem_cons.1 (hp.mem_iff.2 (List.mem_cons_self ..) : y ∈ x :: a) with e | e
        · rw [e, h.refl]; omega
        · exact ha'.1 _ e
      have h2 : c y x ≤ 0 := by
        rcases List.mem_cons.1 (hp.mem_iff.1 (List.mem_cons_self ..) : x ∈ y :: b) with e | e
        · rw [e, h.refl]; omega
        · exact hb'.1 _ e
      have := h.anti x y
      exact (h.zero _ _).1 (by omega)
    subst hxy
    rw [rise_unique h (List.perm_cons x |>.1 hp) ha'.2 hb'.2]
/-- one more element into a rising list, behind its equals -/
def insO {α : Type} (c : α → α → Int) (x : α) : List α → List α
  | [] => [x]
  | y :: ys => if c y x ≤ 0 then y :: insO c x ys else x :: y :: ys
def sortO {α : Type} (c : α → α → Int) (l : List α) : List α := l.foldl (fun s x => insO c x s) []
theorem insO_perm {α : Type} (c : α → α → Int) (x : α) : ∀ l : List α, (insO c x l).Perm (x :: l)
  | [] => List.Perm.refl _
  | y :: ys => by
    unfold insO; split
    · exact ((insO_perm c x ys).cons y).trans (List.Perm.swap ..)
    · exact List.Perm.refl _
theorem insO_rise {α : Type} {c : α → α → Int} (h : TotC c) (x : α) : ∀ {l : List α}, l.Pairwise (fun x y => c x y ≤ 0) → (insO c x l).Pairwise (fun x y => c x y ≤ 0)
  | [], _ => List.pairwise_singleton _ _
  | y :: ys, hp => by
    have hp' := List.pairwise_cons.1 hp
    unfold insO; split
    · rename_i hy
      refine List.pairwise_cons.2 ⟨fun z hz => ?_, insO_rise h x hp'.2⟩
      rcases List.mem_cons.1 ((insO_perm c x ys).mem_iff.1 hz) with e | e
      · rw [e]; exact hy
      · exact hp'.1 z e
    · rename_i hy
      have hxy : c x y ≤ 0 := by rcases h.total x y with e | e; exact e; exact absurd e hy
      refine List.pairwise_cons.2 ⟨fun z hz => ?_, hp⟩
      rcases List.mem_cons.1 hz with e | e
      · rw [e]; exact hxy
      · exact h.trans _ _ _ hxy (hp'.1 z e)
theorem sortO_aux {α : Type} {c : α → α → Int} (h : TotC c) : ∀ (l s : List α), s.Pairwise (fun x y => c x y ≤ 0) → (l.foldl (fun s x => insO c x s) s).Perm (s ++ l) ∧ (l.foldl (fun s x => insO c x s) s).Pairwise (fun x y => c x y ≤ 0)
  | [], s, hs => ⟨by simp, hs⟩
  | x :: l, s, hs => by
    obtain ⟨h1, h2⟩ := sortO_aux h l (insO c x s) (insO_rise h x hs)
    exact ⟨h1.trans (((insO_perm c x s).append_right l).trans (by simpa using (List.perm_middle (a := x) (l₁ := s) (l₂ := l)).symm)), h2⟩
theorem sortO_perm {α : Type} {c : α → α → Int} (h : TotC c) (l : List α) : (sortO c l).Perm l := (sortO_aux h l [] List.Pairwise.nil).1
theorem sortO_rise {α : Type} {c : α → α → Int} (h : TotC c) (l : List α) : (sortO c l).Pairwise (fun x y => c x y ≤ 0) := (sortO_aux h l [] List.Pairwise.nil).2
theorem sortO_eq {α : Type} {c : α → α → Int} (h : TotC c) {l m : List α} (hp : m.Perm l) (hs : m.Pairwise (fun x y => c x y ≤ 0)) : m = sortO c l :=
  rise_unique h (hp.trans (sortO_perm h l).symm) hs (sortO_rise h l)
theorem sortO_len {α : Type} {c : α → α → Int} (h : TotC c) (l : List α) : (sortO c l).length = l.length := (sortO_perm h l).length_eq
end Go.Proofs.YtbjddimafilflaaGreatDoor

/- PLAIN: MERGING IN PLACE, as slices.SortStableFunc does it: what its parts make of a row. No program in sight. -/
namespace Go.Proofs.YtbjddimafilflaaGreatDoor
open Go.Sort
variable {α : Type} [Inhabited α] {lt : α → α → Bool}
theorem swp_at (d : Array α) {i j : Nat} (hi : i < d.size) (hj : j < d.size) (k : Nat) : (swp d i j)[k]! = if k = j then d[i]! else if k = i then d[j]! else d[k]! := swp_get d hi hj k
/-- where the exchange of two ranges takes place x from -/
def swS (a b n x : Nat) : Nat := if a ≤ x ∧ x < a + n then x - a + b else if b ≤ x ∧ x < b + n then x - b + a else x
theorem swS_zero (a b x : Nat) : swS a b 0 x = x := by unfold swS; rw [if_neg (by omega), if_neg (by omega)]
theorem swS_step (d e : Array α) {a b n i : Nat} (hs : e.size = d.size) (hab : a + n ≤ b) (hi : i < n) (hb : b + n ≤ d.size) (h : ∀ x, e[x]! = d[swS a b i x]!) (x : Nat) : (swp e (a + i) (b + i))[x]! = d[swS a b (i + 1) x]! := by
  rw [swp_at e (by omega) (by omega)]
  split
  · rename_i hx
    rw [h]; congr 1; subst hx; unfold swS
    repeat' split
    all_goals omega
  · split
    · rename_i hx
      rw [h]; congr 1; subst hx; unfold swS
      repeat' split
      all_goals omega
    · rw [h]; congr 1; unfold swS
      repeat' split
      all_goals omega
/-- where a rotation takes place x from -/
def rotS (a m b x : Nat) : Nat := if a ≤ x ∧ x < b then (if x < a + (b - m) then m + (x - a) else x - (b - m)) else x
theorem rotS_left {m i j x : Nat} (hi : i ≤ m) (hij : j < i) : swS (m - i) m j (rotS (m - (i - j)) m (m + j) x) = rotS (m - i) m (m + j) x := by
  unfold rotS swS
  repeat' split
  all_goals omega
theorem rotS_right {m i j x : Nat} (hi : i ≤ m) (hij : i < j) : swS (m - i) (m + j - i) i (rotS (m - i) m (m + (j - i)) x) = rotS (m - i) m (m + j) x := by
  unfold rotS swS
  repeat' split
  all_goals omega
theorem rotS_end {m i x : Nat} (hi : i ≤ m) : swS (m - i) m i x = rotS (m - i) m (m + i) x := by
  unfold rotS swS
  repeat' split
  all_goals omega
theorem rotS_idl (m b x : Nat) : rotS m m b x = x := by
  unfold rotS
  repeat' split
  all_goals omega
theorem rotS_idr (a m x : Nat) : rotS a m m x = x := by
  unfold rotS
  repeat' split
  all_goals omega
/-- nothing of [m, b) is less than anything of [a, m) -/
def Cross (lt : α → α → Bool) (a m b : Nat) (d : Array α) : Prop := ∀ i j, a ≤ i → i < m → m ≤ j → j < b → lt d[j]! d[i]! = false
theorem srt_sub {a b a' b' : Nat} {d : Array α} (h : SortedIn lt a b d) (ha : a ≤ a') (hb : b' ≤ b) : SortedIn lt a' b' d := fun i j h1 h2 h3 => h i j (by omega) h2 (by omega)
theorem srt_kept {a b lo hi : Nat} {d e : Array α} (h : SortedIn lt a b d) (hp : PermIn lo hi d e) (ho : b ≤ lo ∨ hi ≤ a) : SortedIn lt a b e := fun i j h1 h2 h3 => by
  rw [hp.2.1 i (by omega), hp.2.1 j (by omega)]; exact h i j h1 h2 h3
theorem srt_glue {a m b : Nat} {d : Array α} (h1 : SortedIn lt a m d) (h2 : SortedIn lt m b d) (h : Cross lt a m b d) : SortedIn lt a b d := fun i j hi hij hj => by
  by_cases hm : j < m
  · exact h1 i j hi hij hm
  · by_cases hm' : m ≤ i
    · exact h2 i j hm' hij hj
    · exact h i j hi (by omega) (by omega) hj
theorem srt_le (hS : SWO lt) {a b : Nat} {d : Array α} (h : SortedIn lt a b d) {i j : Nat} (hi : a ≤ i) (hij : i ≤ j) (hj : j < b) : lt d[j]! d[i]! = false := by
  rcases Nat.lt_or_eq_of_le hij with h1 | h1
  · exact h i j hi h1 hj
  · subst h1; exact hS.irrefl _
theorem Cross.left {a m b : Nat} {d e : Array α} (hm : m ≤ d.size) (h : Cross lt a m b d) (hp : PermIn a m d e) : Cross lt a m b e := fun i j h1 h2 h3 h4 => by
  rw [hp.2.1 j (by omega)]
  exact permIn_all d e a m (fun u => lt d[j]! u = false) hm hp (fun i h1 h2 => h i j h1 h2 h3 h4) i h1 h2
theorem Cross.right {a m b : Nat} {d e : Array α} (hb : b ≤ d.size) (h : Cross lt a m b d) (hp : PermIn m b d e) : Cross lt a m b e := fun i j h1 h2 h3 h4 => by
  rw [hp.2.1 i (by omega)]
  exact permIn_all d e m b (fun u => lt u d[i]! = false) hb hp (fun j h3 h4 => h i j h1 h2 h3 h4) j h3 h4
/-- less and not less: 'x < y ≤ z' -/
theorem lt_le {β : Type} {lt : β → β → Bool} (hS : SWO lt) {x y z : β} (h1 : lt x y = true) (h2 : lt z y = false) : lt x z = true := by
  cases hz : lt x z with
  | true => rfl
  | false =>
    -- z ≤ x, x < y: but y ≤ z
    have := hS.ntrans x z y hz h2
    rw [h1] at this; cases this
theorem le_lt {β : Type} {lt : β → β → Bool} (hS : SWO lt) {x y z : β} (h1 : lt y x = false) (h2 : lt y z = true) : lt x z = true := by
  cases hz : lt x z with
  | true => rfl
  | false =>
    have := hS.ntrans y x z h1 hz
    rw [h2] at this; cases this
/-- THE SEARCH OF symMerge: where it begins and ends -/
def symLo (a m b : Nat) : Nat := if m > (a + b) / 2 then (a + b) / 2 + m - b else a
def symHi (a m b : Nat) : Nat := if m > (a + b) / 2 then (a + b) / 2 else m
theorem sym_rng {a m b : Nat} (h1 : a < m) (h2 : m < b) : a ≤ symLo a m b ∧ symLo a m b ≤ symHi a m b ∧ symHi a m b ≤ m ∧ symHi a m b ≤ (a + b) / 2 ∧ (a + b) / 2 + m - symLo a m b ≤ b ∧ b ≤ (a + b) / 2 + m + (b - m) := by
  unfold symLo symHi; split <;> omega
/-- what is known of the place s that it finds -/
structure SymAt (lt : α → α → Bool) (a m b s : Nat) (d : Array α) : Prop where
  lo : symLo a m b ≤ s
  hi : s ≤ symHi a m b
  up : symLo a m b < s → lt d[(a + b) / 2 + m - s]! d[s - 1]! = false
  dn : s < symHi a m b → lt d[(a + b) / 2 + m - s - 1]! d[s]! = true
theorem sym_cross (hS : SWO lt) {a m b s : Nat} {d : Array α} (h1 : a < m) (h2 : m < b) (hl : SortedIn lt a m d) (hr : SortedIn lt m b d) (h : SymAt lt a m b s d) :
    ∀ x y, (a ≤ x ∧ x < s ∨ m ≤ x ∧ x < (a + b) / 2 + m - s) → (s ≤ y ∧ y < m ∨ (a + b) / 2 + m - s ≤ y ∧ y < b) → lt d[y]! d[x]! = false := by
  have hlo := h.lo
  have hhi := h.hi
  have hr0 := sym_rng h1 h2
  intro x y hx hy
  rcases hx with hx | hx <;> rcases hy with hy | hy
  · exact hl x y hx.1 (by omega) hy.2
  · have hs : symLo a m b < s := by
      rcases Nat.lt_or_eq_of_le hlo with e | e
      · exact e
      · exfalso; unfold symLo at e; split at e <;> omega
    have e1 := srt_le hS hl hx.1 (show x ≤ s - 1 by omega) (show s - 1 < m by omega)
    have e2 := h.up hs
    have e3 := srt_le hS hr (show m ≤ (a + b) / 2 + m - s by omega) hy.1 hy.2
    exact hS.ntrans _ _ _ e3 (hS.ntrans _ _ _ e2 e1)
  · have hs : s < symHi a m b := by
      rcases Nat.lt_or_eq_of_le hhi with e | e
      · exact e
      · exfalso; unfold symHi at e; split at e <;> omega
    have e1 := srt_le hS hr hx.1 (show x ≤ (a + b) / 2 + m - s - 1 by omega) (by omega)
    have e2 := hS.asymmA (h.dn hs)
    have e3 := srt_le hS hl (show a ≤ s by omega) hy.1 hy.2
    exact hS.ntrans _ _ _ e3 (hS.ntrans _ _ _ e2 e1)
  · exact hr x y hx.1 (by omega) hy.2
/-- behind the rotation: four runs, and the two halves part -/
structure SymCut (lt : α → α → Bool) (a m b s : Nat) (e : Array α) : Prop where
  r1 : SortedIn lt a s e
  r2 : SortedIn lt s ((a + b) / 2) e
  r3 : SortedIn lt ((a + b) / 2) ((a + b) / 2 + m - s) e
  r4 : SortedIn lt ((a + b) / 2 + m - s) b e
  cross : Cross lt a ((a + b) / 2) b e
theorem sym_cut (hS : SWO lt) {a m b s : Nat} {d e : Array α} (h1 : a < m) (h2 : m < b) (hl : SortedIn lt a m d) (hr : SortedIn lt m b d) (h : SymAt lt a m b s d)
    (he : ∀ x, e[x]! = d[rotS s m ((a + b) / 2 + m - s) x]!) : SymCut lt a m b s e := by
  have hc := sym_cross hS h1 h2 hl hr h
  have hlo := h.lo
  have hhi := h.hi
  have hr0 := sym_rng h1 h2
  have src : ∀ x, rotS s m ((a + b) / 2 + m - s) x = if x < s then x else if x < (a + b) / 2 then m + (x - s) else if x < (a + b) / 2 + m - s then x - ((a + b) / 2 - s) else x := by
    intro x; unfold rotS
    repeat' split
    all_goals omega
  refine ⟨?_, ?_, ?_, ?_, ?_⟩
  · intro i j hi hij hj
    rw [he, he, src, src, if_pos (by omega), if_pos (by omega)]
    exact hl i j hi hij (by omega)
  · intro i j hi hij hj
    rw [he, he, src, src, if_neg (by omega), if_pos (by omega), if_neg (by omega), if_pos (by omega)]
    exact hr _ _ (by omega) (by omega) (by omega)
  · intro i j hi hij hj
    rw [he, he, src, src, if_neg (by omega), if_neg (by omega), if_pos (by omega), if_neg (by omega), if_neg (by omega), if_pos (by omega)]
    exact hl _ _ (by omega) (by omega) (by omega)
  · intro i j hi hij hj
    rw [he, he, src, src, if_neg (by omega), if_neg (by omega), if_neg (by omega), if_neg (by omega), if_neg (by omega), if_neg (by omega)]
    exact hr _ _ (by omega) (by omega) (by omega)
  · intro i j hi him hmj hj
    rw [he, he]
    refine hc _ _ ?_ ?_
    · rw [src]
      by_cases his : i < s
      · rw [if_pos his]; exact .inl ⟨by omega, by omega⟩
      · rw [if_neg his, if_pos (by omega)]; exact .inr ⟨by omega, by omega⟩
    · rw [src, if_neg (by omega), if_neg (by omega)]
      split
      · exact .inl ⟨by omega, by omega⟩
      · exact .inr ⟨by omega, by omega⟩
/-- THE LEFT RUN HAS ONE ELEMENT: it goes behind all that are less -/
theorem ins_left (hS : SWO lt) {a b i : Nat} {d e : Array α} (hai : a + 1 ≤ i) (hib : i ≤ b) (hr : SortedIn lt (a + 1) b d) (hlt : ∀ x, a + 1 ≤ x → x < i → lt d[x]! d[a]! = true) (hge : ∀ x, i ≤ x → x < b → lt d[x]! d[a]! = false)
    (he : ∀ x, e[x]! = if a ≤ x ∧ x < i - 1 then d[x + 1]! else if x = i - 1 then d[a]! else d[x]!) : SortedIn lt a b e := by
  intro p q hp hpq hq
  rw [he, he]
  repeat' split
  all_goals first | omega | skip
  · exact hr _ _ (by omega) (by omega) (by omega)
  · exact hS.asymmA (hlt _ (by omega) (by omega))
  · exact hr _ _ (by omega) (by omega) (by omega)
  · exact hge _ (by omega) (by omega)
  · exact hr _ _ (by omega) (by omega) (by omega)
/-- THE RIGHT RUN HAS ONE ELEMENT: it goes ahead of all that are greater -/
theorem ins_right (hS : SWO lt) {a m i : Nat} {d e : Array α} (hai : a ≤ i) (him : i ≤ m) (hl : SortedIn lt a m d) (hle : ∀ x, a ≤ x → x < i → lt d[m]! d[x]! = false) (hgt : ∀ x, i ≤ x → x < m → lt d[m]! d[x]! = true)
    (he : ∀ x, e[x]! = if i < x ∧ x ≤ m then d[x - 1]! else if x = i then d[m]! else d[x]!) : SortedIn lt a (m + 1) e := by
  intro p q hp hpq hq
  rw [he, he]
  repeat' split
  all_goals first | omega | skip
  · exact hl _ _ (by omega) (by omega) (by omega)
  · exact hS.asymmA (hgt _ (by omega) (by omega))
  · exact hl _ _ (by omega) (by omega) (by omega)
  · exact hle _ (by omega) (by omega)
  · exact hl _ _ (by omega) (by omega) (by omega)
/-- one exchange to the right, one to the left -/
theorem shiftR_step {d e : Array α} {a k : Nat} (hs : e.size = d.size) (hk : k + 1 < d.size) (hak : a ≤ k) (h : ∀ x, e[x]! = if a ≤ x ∧ x < k then d[x + 1]! else if x = k then d[a]! else d[x]!) (x : Nat) :
    (swp e k (k + 1))[x]! = if a ≤ x ∧ x < k + 1 then d[x + 1]! else if x = k + 1 then d[a]! else d[x]! := by
  rw [swp_at e (by omega) (by omega), h, h, h]
  repeat' split
  all_goals first | omega | rfl | skip
  all_goals (congr 1; omega)
theorem shiftL_step {d e : Array α} {m k : Nat} (hs : e.size = d.size) (hm : m < d.size) (hkm : k + 1 ≤ m) (h : ∀ x, e[x]! = if k + 1 < x ∧ x ≤ m then d[x - 1]! else if x = k + 1 then d[m]! else d[x]!) (x : Nat) :
    (swp e (k + 1) k)[x]! = if k < x ∧ x ≤ m then d[x - 1]! else if x = k then d[m]! else d[x]! := by
  rw [swp_at e (by omega) (by omega), h, h, h]
  repeat' split
  all_goals first | omega | rfl | skip
  all_goals (congr 1; omega)
/-- BLOCKS: runs of bs elements each rise -/
def Blocks (lt : α → α → Bool) (bs n : Nat) (d : Array α) : Prop := ∀ q, SortedIn lt (q * bs) (min (q * bs + bs) n) d
/-- behind some rounds of a level: runs of 2 bs up to a, runs of bs from there -/
structure Level (lt : α → α → Bool) (bs n a : Nat) (d : Array α) : Prop where
  two : ∀ q, q * (2 * bs) + 2 * bs ≤ a → SortedIn lt (q * (2 * bs)) (q * (2 * bs) + 2 * bs) d
  one : ∀ q, a ≤ q * bs → SortedIn lt (q * bs) (min (q * bs + bs) n) d
theorem Level.start {bs n : Nat} {d : Array α} (hb : 0 < bs) (h : Blocks lt bs n d) : Level lt bs n 0 d := ⟨fun q hq => by omega, fun q _ => h q⟩
theorem Level.step {bs n q : Nat} {d e : Array α} (hb : 0 < bs) (h : Level lt bs n (q * (2 * bs)) d) (hn : q * (2 * bs) + 2 * bs ≤ n) (hp : PermIn (q * (2 * bs)) (q * (2 * bs) + 2 * bs) d e) (hs : SortedIn lt (q * (2 * bs)) (q * (2 * bs) + 2 * bs) e) :
    Level lt bs n ((q + 1) * (2 * bs)) e := by
  have e1 : (q + 1) * (2 * bs) = q * (2 * bs) + 2 * bs := by rw [Nat.add_mul, Nat.one_mul]
  rw [e1]
  refine ⟨fun p hpq => ?_, fun p hpq => ?_⟩
  · rcases Nat.lt_trichotomy p q with h1 | h1 | h1
    · have h2 : (p + 1) * (2 * bs) ≤ q * (2 * bs) := Nat.mul_le_mul_right _ h1
      rw [Nat.add_mul, Nat.one_mul] at h2
      exact srt_kept (h.two p h2) hp (.inl h2)
    · subst h1; exact hs
    · have h2 : (q + 1) * (2 * bs) ≤ p * (2 * bs) := Nat.mul_le_mul_right _ h1
      omega
  · exact srt_kept (h.one p (by omega)) hp (.inr hpq)
/-- the last round of a level -/
theorem Level.last {bs n q : Nat} {d e : Array α} (h : Level lt bs n (q * (2 * bs)) d) (hn : n < q * (2 * bs) + 2 * bs) (ha : q * (2 * bs) ≤ n) (hp : PermIn (q * (2 * bs)) n d e) (hs : SortedIn lt (q * (2 * bs)) n e) : Blocks lt (bs * 2) n e := by
  intro p
  rw [Nat.mul_comm bs 2]
  rcases Nat.lt_trichotomy p q with h1 | h1 | h1
  · have h2 : (p + 1) * (2 * bs) ≤ q * (2 * bs) := Nat.mul_le_mul_right _ h1
    rw [Nat.add_mul, Nat.one_mul] at h2
    exact srt_sub (srt_kept (h.two p h2) hp (.inl h2)) (Nat.le_refl _) (by omega)
  · subst h1; exact srt_sub hs (Nat.le_refl _) (by omega)
  · have h2 : (q + 1) * (2 * bs) ≤ p * (2 * bs) := Nat.mul_le_mul_right _ h1
    rw [Nat.add_mul, Nat.one_mul] at h2
    intro i j hi hij hj
    omega
theorem Level.runs {bs n q : Nat} {d : Array α} (h : Level lt bs n (q * (2 * bs)) d) : SortedIn lt (q * (2 * bs)) (min (q * (2 * bs) + bs) n) d ∧ SortedIn lt (q * (2 * bs) + bs) (min (q * (2 * bs) + bs + bs) n) d := by
  have e1 : 2 * q * bs = q * (2 * bs) := by rw [Nat.mul_comm 2 q, Nat.mul_assoc]
  have e2 : (2 * q + 1) * bs = q * (2 * bs) + bs := by rw [Nat.add_mul, Nat.one_mul, e1]
  have h1 := h.one (2 * q) (by omega)
  have h2 := h.one (2 * q + 1) (by omega)
  rw [e1] at h1
  rw [e2] at h2
  exact ⟨h1, h2⟩
theorem Blocks.done {bs n : Nat} {d : Array α} (h : Blocks lt bs n d) (hn : n ≤ bs) : SortedIn lt 0 n d := by
  have := h 0
  rw [Nat.zero_mul] at this
  exact srt_sub this (Nat.le_refl _) (by omega)
/-- THE FIRST LEVEL: blocks sorted by insertion -/
def First (lt : α → α → Bool) (bs a : Nat) (d : Array α) : Prop := ∀ q, q * bs + bs ≤ a → SortedIn lt (q * bs) (q * bs + bs) d
theorem First.step {bs q : Nat} {d e : Array α} (h : First lt bs (q * bs) d) (hp : PermIn (q * bs) (q * bs + bs) d e) (hs : SortedIn lt (q * bs) (q * bs + bs) e) : First lt bs ((q + 1) * bs) e := by
  have e1 : (q + 1) * bs = q * bs + bs := by rw [Nat.add_mul, Nat.one_mul]
  rw [e1]
  intro p hpq
  rcases Nat.lt_trichotomy p q with h1 | h1 | h1
  · have h2 : (p + 1) * bs ≤ q * bs := Nat.mul_le_mul_right _ h1
    rw [Nat.add_mul, Nat.one_mul] at h2
    exact srt_kept (h p h2) hp (.inl h2)
  · subst h1; exact hs
  · have h2 : (q + 1) * bs ≤ p * bs := Nat.mul_le_mul_right _ h1
    intro i j hi hij hj
    omega
theorem First.last {bs n q : Nat} {d e : Array α} (h : First lt bs (q * bs) d) (hn : n < q * bs + bs) (hp : PermIn (q * bs) n d e) (hs : SortedIn lt (q * bs) n e) : Blocks lt bs n e := by
  intro p
  rcases Nat.lt_trichotomy p q with h1 | h1 | h1
  · have h2 : (p + 1) * bs ≤ q * bs := Nat.mul_le_mul_right _ h1
    rw [Nat.add_mul, Nat.one_mul] at h2
    exact srt_sub (srt_kept (h p h2) hp (.inl h2)) (Nat.le_refl _) (by omega)
  · subst h1; exact srt_sub hs (Nat.le_refl _) (by omega)
  · have h2 : (q + 1) * bs ≤ p * bs := Nat.mul_le_mul_right _ h1
    rw [Nat.add_mul, Nat.one_mul] at h2
    intro i j hi hij hj
    omega
end Go.Proofs.YtbjddimafilflaaGreatDoor

/- WORLDS THAT KEEP ALL THAT LAY IN MEMORY: a preorder on worlds, and what it keeps. -/
namespace Go.Proofs.YtbjddimafilflaaGreatDoor
open Go.RowKit
/-- all that lay in a lies in b as it was -/
def Ext (a b : World) : Prop := Below a.heap.size a b
theorem Ext.refl (w : World) : Ext w w := Below.refl _ _
theorem Ext.trans {a b c : World} (h : Ext a b) (k : Ext b c) : Ext a c := Below.trans h (Below.mono k h.size)
theorem Ext.cell {a b : World} (h : Ext a b) {p : Addr} {v : Value} (hc : a.cell? p = some v) : b.cell? p = some v := (Below.cell h (block_lt_of_cell hc)).trans hc
theorem Ext.heap {a b : World} (h : Ext a b) {k : Nat} {o : Obj} (hc : a.heap[k]? = some o) : b.heap[k]? = some o := by
  refine (h.block k ?_).trans hc
  rcases Nat.lt_or_ge k a.heap.size with hlt | hge
  · exact hlt
  · rw [Array.getElem?_eq_none hge] at hc; cases hc
theorem Ext.le {a b : World} (h : Ext a b) : a.heap.size ≤ b.heap.size := h.size
theorem Ext.drew {a b : World} (h : Ext a b) : Ext a b.drew := Below.drew h
theorem Ext.drewN {a b : World} (h : Ext a b) (n : Nat) : Ext a (b.drewN n) := ⟨h.os, h.tape, h.output, h.size, h.block⟩
theorem Ext.alloc {a b : World} (h : Ext a b) (o : Obj) : Ext a (b.alloc o) := Below.alloc h h.size o
theorem Ext.setCell {a b : World} (h : Ext a b) {p : Addr} (hp : a.heap.size ≤ p.block) (u : Value) : Ext a (b.setCell p u) := Below.setCell h hp u
theorem Ext.grown {a b c : World} {row : Option Nat} (h : Ext a b) (hg : b.grownBy c row) (hr : ∀ k, row = some k → a.heap.size ≤ k) : Ext a c := Below.grown h hg h.size hr
end Go.Proofs.YtbjddimafilflaaGreatDoor

/- SLICES THAT A CALL OWNS, element by element: one more element appended; read as a list. -/
namespace Go.Proofs.YtbjddimafilflaaGreatDoor
open Go.RowKit
/-- what is known of a slice type t over e: cells and bytes of an element -/
structure ElT (P : Program) (t e size bytes : Nat) : Prop where
  ht : P.underlying t = some (.slice e)
  hi : ∃ z : Value, (P.info? e).map (fun i => (i.zero, i.size, i.bytes)) = some (some z, size, bytes) ∧ z.cells.size = size
  hs : 0 < size
theorem own_push {P : Program} {t e size bytes : Nat} (T : ElT P t e size bytes) {ops : Array Oper} {rest : List Oper} {o : Oper} {a : Act} {Q : Exit → Act → World → Prop} {w : World} (hgd : o.guard = none) (s x : Operand)
    (ho : o.op = .call { callee := .builtin .append, args := #[s, x], argTypes := #[t, t] }) (wb w0 : World) (v : Value) (n : Nat) (xs news : List Value) (hs : a.eval s = v) (hown : w0.ownsRow wb.heap.size e size v n xs) (hE : Ext wb w0)
    (hw : w = w0.alloc (.cells news.toArray e)) (hx : a.eval x = .slice (some ⟨w0.heap.size, 0, none⟩) 1 1) (hl : news.length = size) (h1 : ∀ u ∈ news, u.oneCell' = true)
    (h63 : n + 1 ≤ 8388608) (hbytes : bytes ≤ 1000000)
    (h : ∀ v' w', w'.ownsRow wb.heap.size e size v' (n + 1) (xs ++ news) → Ext wb w' → wpList P ops Q rest (a.put o.dst v') w') : wpList P ops Q (o :: rest) a w := by
  obtain ⟨z, hz, hzc⟩ := T.hi
  obtain ⟨i, hi, hz0, hz1, hz2⟩ := info_parts hz
  subst hw
  refine wpList_append_own _ hgd s x t ho wb.heap.size e i z size bytes T.ht hi hz0 hz1 hz2 hzc T.hs v n xs hs (hown.alloc _) ⟨w0.heap.size, 0, none⟩ 1 1 news hx (by omega) ?_ h1 (by unfold maxLen; omega) ?_ (Nat.le_trans hE.le (by simp)) ?_
  · intro j u hj
    rw [Addr.add_mid, cell_of_row _ _ _ _ _ _ (heap_alloc_new w0 _)]
    simpa using hj
  · exact Nat.le_trans (Nat.mul_le_mul h63 hbytes) (by decide)
  · intro v' w' h2 h3 _
    exact h v' w' h2 ((hE.alloc _).grown h3 (fun k hk => (hown.lt k hk).1))
theorem own_append {P : Program} {t e size bytes : Nat} (T : ElT P t e size bytes) {ops : Array Oper} {rest : List Oper} {o : Oper} {a : Act} {Q : Exit → Act → World → Prop} {w : World} (hgd : o.guard = none) (s x : Operand)
    (ho : o.op = .call { callee := .builtin .append, args := #[s, x], argTypes := #[t, t] }) (wb : World) (v : Value) (n : Nat) (xs : List Value) (hs : a.eval s = v) (hown : w.ownsRow wb.heap.size e size v n xs) (hE : Ext wb w)
    (ad : Addr) (m c : Nat) (news : List Value) (hx : a.eval x = .slice (some ad) m c) (hl : news.length = m * size) (hnews : ∀ j u, news[j]? = some u → w.cell? (ad.add j) = some u) (h1 : ∀ u ∈ news, u.oneCell' = true)
    (h63 : n + m ≤ 8388608) (hbytes : bytes ≤ 1000000)
    (h : ∀ v' w', w'.ownsRow wb.heap.size e size v' (n + m) (xs ++ news) → Ext wb w' → wpList P ops Q rest (a.put o.dst v') w') : wpList P ops Q (o :: rest) a w := by
  obtain ⟨z, hz, hzc⟩ := T.hi
  obtain ⟨i, hi, hz0, hz1, hz2⟩ := info_parts hz
  refine wpList_append_own _ hgd s x t ho wb.heap.size e i z size bytes T.ht hi hz0 hz1 hz2 hzc T.hs v n xs hs hown ad m c news hx hl hnews h1 (by unfold maxLen; omega) ?_ hE.le ?_
  · exact Nat.le_trans (Nat.mul_le_mul h63 hbytes) (by decide)
  · intro v' w' h2 h3 _
    exact h v' w' h2 (hE.grown h3 (fun k hk => (hown.lt k hk).1))
theorem own_ext {w w' : World} {base e size n : Nat} {v : Value} {xs : List Value} (h : w.ownsRow base e size v n xs) (x : Ext w w') : w'.ownsRow base e size v n xs :=
  ⟨h.1, h.2.imp id (fun ⟨g, cap, cur, h1, h2, h3, h4⟩ => ⟨g, cap, cur, h1, h2, x.heap h3, h4⟩)⟩
theorem own_mono {w : World} {base base' e size n : Nat} {v : Value} {xs : List Value} (h : w.ownsRow base e size v n xs) (hb : base' ≤ base) : w.ownsRow base' e size v n xs :=
  ⟨h.1, h.2.imp id (fun ⟨g, cap, cur, h1, h2, h3, h4⟩ => ⟨g, cap, cur, h1, Nat.le_trans hb h2, h3, h4⟩)⟩
theorem own_form {w : World} {base e size n : Nat} {v : Value} {xs : List Value} (h : w.ownsRow base e size v n xs) : ∃ A c, v = .slice A n c := by
  rcases h.2 with ⟨hv, h0⟩ | ⟨g, cap, cur, hv, _⟩
  · exact ⟨none, 0, by rw [hv, h0]⟩
  · exact ⟨_, _, hv⟩
/-- an element's cells out of the row -/
theorem flat_get {α : Type} (f : α → List Value) (size : Nat) (hf : ∀ x, (f x).length = size) : ∀ (l : List α) (k j : Nat) (hk : k < l.length), j < size → (l.flatMap f)[k * size + j]? = (f l[k])[j]?
  | [], k, j, hk, _ => absurd hk (by simp)
  | x :: l, 0, j, _, hj => by
    rw [List.flatMap_cons, Nat.zero_mul, Nat.zero_add, List.getElem?_append_left (by rw [hf]; exact hj)]; rfl
  | x :: l, k + 1, j, hk, hj => by
    have e : (k + 1) * size + j = size + (k * size + j) := by rw [Nat.add_mul]; omega
    rw [List.flatMap_cons, List.getElem?_append_right (by rw [hf]; omega), hf, e, Nat.add_sub_cancel_left]
    exact flat_get f size hf l k j (by simpa using hk) hj
/-- the cells of a slice that reads as a list -/
def Lies {α : Type} (f : α → List Value) (size : Nat) (w : World) (A : Option Addr) (l : List α) : Prop :=
  0 < l.length → ∃ b off, A = some ⟨b, off, none⟩ ∧ ∀ k (h : k < l.length) j u, (f l[k])[j]? = some u → w.cell? ⟨b, off + k * size + j, none⟩ = some u
theorem Lies.ext {α : Type} {f : α → List Value} {size : Nat} {a w : World} {A : Option Addr} {l : List α} (h : Lies f size a A l) (e : Ext a w) : Lies f size w A l := fun hp =>
  let ⟨b, off, hA, hc⟩ := h hp
  ⟨b, off, hA, fun k hk j u hu => e.cell (hc k hk j u hu)⟩
theorem Lies.nil {α : Type} (f : α → List Value) (size : Nat) (w : World) (A : Option Addr) : Lies f size w A ([] : List α) := fun h => absurd h (by simp)
end Go.Proofs.YtbjddimafilflaaGreatDoor
