/- PARTS OF THE WALKS, joined: Merge, SaM, Stage, SaB, SaA, SaC. -/
import Derived.Sort.LotA
import Derived.Test.YtnheioehadldmaaGreatS00
import Derived.Test.YtnheioehadldmaaGreatS05
import Derived.Deep.RegionHeld
import Derived.Deep.RegionHeld3
import Derived.WalkSpells
import Derived.Deep.Cut
import Derived.BigRegion
import Derived.WalkKit
import Derived.Laws.BitsAllLaws
/- PLAIN: MERGING IN PLACE, as slices.SortStableFunc does it: what its parts make of a row. No program in sight. -/
namespace Go.Proofs.YtnheioehadldmaaGreat
open Go.Sort
variable {α : Type} [Inhabited α] {lt : α → α → Bool}
theorem swp_at (d : Array α) {i j : Nat} (hi : i < d.size) (hj : j < d.size) (k : Nat) : (swp d i j)[k]! = if k = j then d[i]! else if k = i then d[j]! else d[k]! := swp_get d hi hj k
/-- where the exchange of two ranges takes place x from -/
def swS (a b n x : Nat) : Nat := if a ≤ x ∧ x < a + n then x - a + b else if b ≤ x ∧ x < b + n then x - b + a else x
theorem swS_zero (a b x : Nat) : swS a b 0 x = x := by unfold swS; rw [if_neg (by omega), if_neg (by omega)]
theorem swS_step (d e : Array α) {a b n i : Nat} (hs : e.size = d.size) (hab : a + n ≤ b) (hi : i < n) (hb : b + n ≤ d.size) (h : ∀ x, e[x]! = d[swS a b i x]!) (x : Nat) : (swp e (a + i) (b + i))[x]! = d[swS a b (i + 1) x]! := by
 rw [swp_at e (by omega) (by omega)]
 split
 ·rename_i hx
  rw [h]; congr 1; subst hx; unfold swS
  repeat' split
  all_goals omega
 ·split
  ·rename_i hx
   rw [h]; congr 1; subst hx; unfold swS
   repeat' split
   all_goals omega
  ·rw [h]; congr 1; unfold swS
   repeat' split
   all_goals omega
/-- where a rotation takes place x from -/
def rotS (a m b x : Nat) : Nat := if a ≤ x ∧ x < b then (if x < a + (b - m) then m + (x - a) else x - (b - m)) else x
theorem rotS_left {m i j x : Nat} (hi : i ≤ m) (hij : j < i) : swS (m - i) m j (rotS (m - (i - j)) m (m + j) x) = rotS (m - i) m (m + j) x := by
 unfold rotS swS
 repeat' split
 all_goals omega
theorem rotS_right {m i j x : Nat} (hi : i ≤ m) (hij : i < j) : swS (m - i) (m + j - i) i (rotS (m - i) m (m + (j - i)) x) = rotS (m - i) m (m + j) x := by
 unfold rotS swS
 repeat' split
 all_goals omega
theorem rotS_end {m i x : Nat} (hi : i ≤ m) : swS (m - i) m i x = rotS (m - i) m (m + i) x := by
 unfold rotS swS
 repeat' split
 all_goals omega
theorem rotS_idl (m b x : Nat) : rotS m m b x = x := by
 unfold rotS
 repeat' split
 all_goals omega
theorem rotS_idr (a m x : Nat) : rotS a m m x = x := by
 unfold rotS
 repeat' split
 all_goals omega
/-- nothing of [m, b) is less than anything of [a, m) -/
def Cross (lt : α → α → Bool) (a m b : Nat) (d : Array α) : Prop := ∀ i j, a ≤ i → i < m → m ≤ j → j < b → lt d[j]! d[i]! = false
theorem srt_sub {a b a' b' : Nat} {d : Array α} (h : SortedIn lt a b d) (ha : a ≤ a') (hb : b' ≤ b) : SortedIn lt a' b' d := fun i j h1 h2 h3 => h i j (by omega) h2 (by omega)
theorem srt_kept {a b lo hi : Nat} {d e : Array α} (h : SortedIn lt a b d) (hp : PermIn lo hi d e) (ho : b ≤ lo ∨ hi ≤ a) : SortedIn lt a b e := fun i j h1 h2 h3 => by
 rw [hp.2.1 i (by omega), hp.2.1 j (by omega)]; exact h i j h1 h2 h3
theorem srt_glue {a m b : Nat} {d : Array α} (h1 : SortedIn lt a m d) (h2 : SortedIn lt m b d) (h : Cross lt a m b d) : SortedIn lt a b d := fun i j hi hij hj => by
 by_cases hm : j < m
 ·exact h1 i j hi hij hm
 ·by_cases hm' : m ≤ i
  ·exact h2 i j hm' hij hj
  ·exact h i j hi (by omega) (by omega) hj
theorem srt_le (hS : SWO lt) {a b : Nat} {d : Array α} (h : SortedIn lt a b d) {i j : Nat} (hi : a ≤ i) (hij : i ≤ j) (hj : j < b) : lt d[j]! d[i]! = false := by
 rcases Nat.lt_or_eq_of_le hij with h1 | h1
 ·exact h i j hi h1 hj
 ·subst h1; exact hS.irrefl _
theorem Cross.left {a m b : Nat} {d e : Array α} (hm : m ≤ d.size) (h : Cross lt a m b d) (hp : PermIn a m d e) : Cross lt a m b e := fun i j h1 h2 h3 h4 => by
 rw [hp.2.1 j (by omega)]
 exact permIn_all d e a m (fun u => lt d[j]! u = false) hm hp (fun i h1 h2 => h i j h1 h2 h3 h4) i h1 h2
theorem Cross.right {a m b : Nat} {d e : Array α} (hb : b ≤ d.size) (h : Cross lt a m b d) (hp : PermIn m b d e) : Cross lt a m b e := fun i j h1 h2 h3 h4 => by
 rw [hp.2.1 i (by omega)]
 exact permIn_all d e m b (fun u => lt u d[i]! = false) hb hp (fun j h3 h4 => h i j h1 h2 h3 h4) j h3 h4
/-- less and not less: 'x < y ≤ z' -/
theorem lt_le {β : Type} {lt : β → β → Bool} (hS : SWO lt) {x y z : β} (h1 : lt x y = true) (h2 : lt z y = false) : lt x z = true := by
 cases hz : lt x z with
 | true => rfl
 | false =>
  -- z ≤ x, x < y: but y ≤ z
  have := hS.ntrans x z y hz h2
  rw [h1] at this; cases this
theorem le_lt {β : Type} {lt : β → β → Bool} (hS : SWO lt) {x y z : β} (h1 : lt y x = false) (h2 : lt y z = true) : lt x z = true := by
 cases hz : lt x z with
 | true => rfl
 | false =>
  have := hS.ntrans y x z h1 hz
  rw [h2] at this; cases this
/-- THE SEARCH OF symMerge: where it begins and ends -/
def symLo (a m b : Nat) : Nat := if m > (a + b) / 2 then (a + b) / 2 + m - b else a
def symHi (a m b : Nat) : Nat := if m > (a + b) / 2 then (a + b) / 2 else m
theorem sym_rng {a m b : Nat} (h1 : a < m) (h2 : m < b) : a ≤ symLo a m b ∧ symLo a m b ≤ symHi a m b ∧ symHi a m b ≤ m ∧ symHi a m b ≤ (a + b) / 2 ∧ (a + b) / 2 + m - symLo a m b ≤ b ∧ b ≤ (a + b) / 2 + m + (b - m) := by
 unfold symLo symHi; split <;> omega
/-- what is known of the place s that it finds -/
structure SymAt (lt : α → α → Bool) (a m b s : Nat) (d : Array α) : Prop where
 lo : symLo a m b ≤ s
 hi : s ≤ symHi a m b
 up : symLo a m b < s → lt d[(a + b) / 2 + m - s]! d[s - 1]! = false
 dn : s < symHi a m b → lt d[(a + b) / 2 + m - s - 1]! d[s]! = true
theorem sym_cross (hS : SWO lt) {a m b s : Nat} {d : Array α} (h1 : a < m) (h2 : m < b) (hl : SortedIn lt a m d) (hr : SortedIn lt m b d) (h : SymAt lt a m b s d) :
  ∀ x y, (a ≤ x ∧ x < s ∨ m ≤ x ∧ x < (a + b) / 2 + m - s) → (s ≤ y ∧ y < m ∨ (a + b) / 2 + m - s ≤ y ∧ y < b) → lt d[y]! d[x]! = false := by
 have hlo := h.lo
 have hhi := h.hi
 have hr0 := sym_rng h1 h2
 intro x y hx hy
 rcases hx with hx | hx <;> rcases hy with hy | hy
 ·exact hl x y hx.1 (by omega) hy.2
 ·have hs : symLo a m b < s := by
   rcases Nat.lt_or_eq_of_le hlo with e | e
   ·exact e
   ·exfalso; unfold symLo at e; split at e <;> omega
  have e1 := srt_le hS hl hx.1 (show x ≤ s - 1 by omega) (show s - 1 < m by omega)
  have e2 := h.up hs
  have e3 := srt_le hS hr (show m ≤ (a + b) / 2 + m - s by omega) hy.1 hy.2
  exact hS.ntrans _ _ _ e3 (hS.ntrans _ _ _ e2 e1)
 ·have hs : s < symHi a m b := by
   rcases Nat.lt_or_eq_of_le hhi with e | e
   ·exact e
   ·exfalso; unfold symHi at e; split at e <;> omega
  have e1 := srt_le hS hr hx.1 (show x ≤ (a + b) / 2 + m - s - 1 by omega) (by omega)
  have e2 := hS.asymmA (h.dn hs)
  have e3 := srt_le hS hl (show a ≤ s by omega) hy.1 hy.2
  exact hS.ntrans _ _ _ e3 (hS.ntrans _ _ _ e2 e1)
 ·exact hr x y hx.1 (by omega) hy.2
/-- behind the rotation: four runs, and the two halves part -/
structure SymCut (lt : α → α → Bool) (a m b s : Nat) (e : Array α) : Prop where
 r1 : SortedIn lt a s e
 r2 : SortedIn lt s ((a + b) / 2) e
 r3 : SortedIn lt ((a + b) / 2) ((a + b) / 2 + m - s) e
 r4 : SortedIn lt ((a + b) / 2 + m - s) b e
 cross : Cross lt a ((a + b) / 2) b e
theorem sym_cut (hS : SWO lt) {a m b s : Nat} {d e : Array α} (h1 : a < m) (h2 : m < b) (hl : SortedIn lt a m d) (hr : SortedIn lt m b d) (h : SymAt lt a m b s d)
  (he : ∀ x, e[x]! = d[rotS s m ((a + b) / 2 + m - s) x]!) : SymCut lt a m b s e := by
 have hc := sym_cross hS h1 h2 hl hr h
 have hlo := h.lo
 have hhi := h.hi
 have hr0 := sym_rng h1 h2
 have src : ∀ x, rotS s m ((a + b) / 2 + m - s) x = if x < s then x else if x < (a + b) / 2 then m + (x - s) else if x < (a + b) / 2 + m - s then x - ((a + b) / 2 - s) else x := by
  intro x; unfold rotS
  repeat' split
  all_goals omega
 refine ⟨?_, ?_, ?_, ?_, ?_⟩
 ·intro i j hi hij hj
  rw [he, he, src, src, if_pos (by omega), if_pos (by omega)]
  exact hl i j hi hij (by omega)
 ·intro i j hi hij hj
  rw [he, he, src, src, if_neg (by omega), if_pos (by omega), if_neg (by omega), if_pos (by omega)]
  exact hr _ _ (by omega) (by omega) (by omega)
 ·intro i j hi hij hj
  rw [he, he, src, src, if_neg (by omega), if_neg (by omega), if_pos (by omega), if_neg (by omega), if_neg (by omega), if_pos (by omega)]
  exact hl _ _ (by omega) (by omega) (by omega)
 ·intro i j hi hij hj
  rw [he, he, src, src, if_neg (by omega), if_neg (by omega), if_neg (by omega), if_neg (by omega), if_neg (by omega), if_neg (by omega)]
  exact hr _ _ (by omega) (by omega) (by omega)
 ·intro i j hi him hmj hj
  rw [he, he]
  refine hc _ _ ?_ ?_
  ·rw [src]
   by_cases his : i < s
   ·rw [if_pos his]; exact .inl ⟨by omega, by omega⟩
   ·rw [if_neg his, if_pos (by omega)]; exact .inr ⟨by omega, by omega⟩
  ·rw [src, if_neg (by omega), if_neg (by omega)]
   split
   ·exact .inl ⟨by omega, by omega⟩
   ·exact .inr ⟨by omega, by omega⟩
/-- THE LEFT RUN HAS ONE ELEMENT: it goes behind all that are less -/
theorem ins_left (hS : SWO lt) {a b i : Nat} {d e : Array α} (hai : a + 1 ≤ i) (hib : i ≤ b) (hr : SortedIn lt (a + 1) b d) (hlt : ∀ x, a + 1 ≤ x → x < i → lt d[x]! d[a]! = true) (hge : ∀ x, i ≤ x → x < b → lt d[x]! d[a]! = false)
  (he : ∀ x, e[x]! = if a ≤ x ∧ x < i - 1 then d[x + 1]! else if x = i - 1 then d[a]! else d[x]!) : SortedIn lt a b e := by
 intro p q hp hpq hq
 rw [he, he]
 repeat' split
 all_goals first | omega | skip
 ·exact hr _ _ (by omega) (by omega) (by omega)
 ·exact hS.asymmA (hlt _ (by omega) (by omega))
 ·exact hr _ _ (by omega) (by omega) (by omega)
 ·exact hge _ (by omega) (by omega)
 ·exact hr _ _ (by omega) (by omega) (by omega)
/-- THE RIGHT RUN HAS ONE ELEMENT: it goes ahead of all that are greater -/
theorem ins_right (hS : SWO lt) {a m i : Nat} {d e : Array α} (hai : a ≤ i) (him : i ≤ m) (hl : SortedIn lt a m d) (hle : ∀ x, a ≤ x → x < i → lt d[m]! d[x]! = false) (hgt : ∀ x, i ≤ x → x < m → lt d[m]! d[x]! = true)
  (he : ∀ x, e[x]! = if i < x ∧ x ≤ m then d[x - 1]! else if x = i then d[m]! else d[x]!) : SortedIn lt a (m + 1) e := by
 intro p q hp hpq hq
 rw [he, he]
 repeat' split
 all_goals first | omega | skip
 ·exact hl _ _ (by omega) (by omega) (by omega)
 ·exact hS.asymmA (hgt _ (by omega) (by omega))
 ·exact hl _ _ (by omega) (by omega) (by omega)
 ·exact hle _ (by omega) (by omega)
 ·exact hl _ _ (by omega) (by omega) (by omega)
/-- one exchange to the right, one to the left -/
theorem shiftR_step {d e : Array α} {a k : Nat} (hs : e.size = d.size) (hk : k + 1 < d.size) (hak : a ≤ k) (h : ∀ x, e[x]! = if a ≤ x ∧ x < k then d[x + 1]! else if x = k then d[a]! else d[x]!) (x : Nat) :
  (swp e k (k + 1))[x]! = if a ≤ x ∧ x < k + 1 then d[x + 1]! else if x = k + 1 then d[a]! else d[x]! := by
 rw [swp_at e (by omega) (by omega), h, h, h]
 repeat' split
 all_goals first | omega | rfl | skip
 all_goals (congr 1; omega)
theorem shiftL_step {d e : Array α} {m k : Nat} (hs : e.size = d.size) (hm : m < d.size) (hkm : k + 1 ≤ m) (h : ∀ x, e[x]! = if k + 1 < x ∧ x ≤ m then d[x - 1]! else if x = k + 1 then d[m]! else d[x]!) (x : Nat) :
  (swp e (k + 1) k)[x]! = if k < x ∧ x ≤ m then d[x - 1]! else if x = k then d[m]! else d[x]! := by
 rw [swp_at e (by omega) (by omega), h, h, h]
 repeat' split
 all_goals first | omega | rfl | skip
 all_goals (congr 1; omega)
/-- BLOCKS: runs of bs elements each rise -/
def Blocks (lt : α → α → Bool) (bs n : Nat) (d : Array α) : Prop := ∀ q, SortedIn lt (q * bs) (min (q * bs + bs) n) d
/-- behind some rounds of a level: runs of 2 bs up to a, runs of bs from there -/
structure Level (lt : α → α → Bool) (bs n a : Nat) (d : Array α) : Prop where
 two : ∀ q, q * (2 * bs) + 2 * bs ≤ a → SortedIn lt (q * (2 * bs)) (q * (2 * bs) + 2 * bs) d
 one : ∀ q, a ≤ q * bs → SortedIn lt (q * bs) (min (q * bs + bs) n) d
theorem Level.start {bs n : Nat} {d : Array α} (hb : 0 < bs) (h : Blocks lt bs n d) : Level lt bs n 0 d := ⟨fun q hq => by omega, fun q _ => h q⟩
theorem Level.step {bs n q : Nat} {d e : Array α} (hb : 0 < bs) (h : Level lt bs n (q * (2 * bs)) d) (hn : q * (2 * bs) + 2 * bs ≤ n) (hp : PermIn (q * (2 * bs)) (q * (2 * bs) + 2 * bs) d e) (hs : SortedIn lt (q * (2 * bs)) (q * (2 * bs) + 2 * bs) e) :
  Level lt bs n ((q + 1) * (2 * bs)) e := by
 have e1 : (q + 1) * (2 * bs) = q * (2 * bs) + 2 * bs := by rw [Nat.add_mul, Nat.one_mul]
 rw [e1]
 refine ⟨fun p hpq => ?_, fun p hpq => ?_⟩
 ·rcases Nat.lt_trichotomy p q with h1 | h1 | h1
  ·have h2 : (p + 1) * (2 * bs) ≤ q * (2 * bs) := Nat.mul_le_mul_right _ h1
   rw [Nat.add_mul, Nat.one_mul] at h2
   exact srt_kept (h.two p h2) hp (.inl h2)
  ·subst h1; exact hs
  ·have h2 : (q + 1) * (2 * bs) ≤ p * (2 * bs) := Nat.mul_le_mul_right _ h1
   omega
 ·exact srt_kept (h.one p (by omega)) hp (.inr hpq)
/-- the last round of a level -/
theorem Level.last {bs n q : Nat} {d e : Array α} (h : Level lt bs n (q * (2 * bs)) d) (hn : n < q * (2 * bs) + 2 * bs) (ha : q * (2 * bs) ≤ n) (hp : PermIn (q * (2 * bs)) n d e) (hs : SortedIn lt (q * (2 * bs)) n e) : Blocks lt (bs * 2) n e := by
 intro p
 rw [Nat.mul_comm bs 2]
 rcases Nat.lt_trichotomy p q with h1 | h1 | h1
 ·have h2 : (p + 1) * (2 * bs) ≤ q * (2 * bs) := Nat.mul_le_mul_right _ h1
  rw [Nat.add_mul, Nat.one_mul] at h2
  exact srt_sub (srt_kept (h.two p h2) hp (.inl h2)) (Nat.le_refl _) (by omega)
 ·subst h1; exact srt_sub hs (Nat.le_refl _) (by omega)
 ·have h2 : (q + 1) * (2 * bs) ≤ p * (2 * bs) := Nat.mul_le_mul_right _ h1
  rw [Nat.add_mul, Nat.one_mul] at h2
  intro i j hi hij hj
  omega
theorem Level.runs {bs n q : Nat} {d : Array α} (h : Level lt bs n (q * (2 * bs)) d) : SortedIn lt (q * (2 * bs)) (min (q * (2 * bs) + bs) n) d ∧ SortedIn lt (q * (2 * bs) + bs) (min (q * (2 * bs) + bs + bs) n) d := by
 have e1 : 2 * q * bs = q * (2 * bs) := by rw [Nat.mul_comm 2 q, Nat.mul_assoc]
 have e2 : (2 * q + 1) * bs = q * (2 * bs) + bs := by rw [Nat.add_mul, Nat.one_mul, e1]
 have h1 := h.one (2 * q) (by omega)
 have h2 := h.one (2 * q + 1) (by omega)
 rw [e1] at h1
 rw [e2] at h2
 exact ⟨h1, h2⟩
theorem Blocks.done {bs n : Nat} {d : Array α} (h : Blocks lt bs n d) (hn : n ≤ bs) : SortedIn lt 0 n d := by
 have := h 0
 rw [Nat.zero_mul] at this
 exact srt_sub this (Nat.le_refl _) (by omega)
/-- THE FIRST LEVEL: blocks sorted by insertion -/
def First (lt : α → α → Bool) (bs a : Nat) (d : Array α) : Prop := ∀ q, q * bs + bs ≤ a → SortedIn lt (q * bs) (q * bs + bs) d
theorem First.step {bs q : Nat} {d e : Array α} (h : First lt bs (q * bs) d) (hp : PermIn (q * bs) (q * bs + bs) d e) (hs : SortedIn lt (q * bs) (q * bs + bs) e) : First lt bs ((q + 1) * bs) e := by
 have e1 : (q + 1) * bs = q * bs + bs := by rw [Nat.add_mul, Nat.one_mul]
 rw [e1]
 intro p hpq
 rcases Nat.lt_trichotomy p q with h1 | h1 | h1
 ·have h2 : (p + 1) * bs ≤ q * bs := Nat.mul_le_mul_right _ h1
  rw [Nat.add_mul, Nat.one_mul] at h2
  exact srt_kept (h p h2) hp (.inl h2)
 ·subst h1; exact hs
 ·have h2 : (q + 1) * bs ≤ p * bs := Nat.mul_le_mul_right _ h1
  intro i j hi hij hj
  omega
theorem First.last {bs n q : Nat} {d e : Array α} (h : First lt bs (q * bs) d) (hn : n < q * bs + bs) (hp : PermIn (q * bs) n d e) (hs : SortedIn lt (q * bs) n e) : Blocks lt bs n e := by
 intro p
 rcases Nat.lt_trichotomy p q with h1 | h1 | h1
 ·have h2 : (p + 1) * bs ≤ q * bs := Nat.mul_le_mul_right _ h1
  rw [Nat.add_mul, Nat.one_mul] at h2
  exact srt_sub (srt_kept (h p h2) hp (.inl h2)) (Nat.le_refl _) (by omega)
 ·subst h1; exact srt_sub hs (Nat.le_refl _) (by omega)
 ·have h2 : (q + 1) * bs ≤ p * bs := Nat.mul_le_mul_right _ h1
  rw [Nat.add_mul, Nat.one_mul] at h2
  intro i j hi hij hj
  omega
end Go.Proofs.YtnheioehadldmaaGreat

/- A ROW OF ENTRIES THAT IS SORTED IN PLACE: the worlds that such a sort passes through. -/
namespace Go.Proofs.YtnheioehadldmaaGreat
open Go.RowKit Go.Sort
theorem grown_transM {a b c : World} {row : Option Nat} (h : a.grownBy b row) (k : b.grownBy c row) : a.grownBy c row :=
 ⟨k.os.trans h.os, k.tape.trans h.tape, k.output.trans h.output, Nat.le_trans h.size k.size, fun i hi hne => (k.block i (Nat.lt_of_lt_of_le hi h.size) hne).trans (h.block i hi hne)⟩
theorem Ext.grownM {a b : World} (h : Ext a b) (row : Option Nat) : a.grownBy b row := ⟨h.os, h.tape, h.output, h.size, fun k hk _ => h.block k hk⟩
/-- block g holds the shares of d (and spare cells behind them); all other blocks of w0 are as they were -/
structure SortM (w0 : World) (B g cap : Nat) (t : TypeId) (d : Array Sh) (W : World) : Prop where
 gr : w0.grownBy W (some g)
 own : W.ownsRow B t 3 (.slice (some ⟨g, 0, none⟩) d.size cap) d.size (d.toList.flatMap Sh.cells)
theorem flat_set3 (l : List Sh) (j : Nat) (x : Sh) : (((l.flatMap Sh.cells).set (j * 3) (.int .i64 x.id)).set (j * 3 + 1) (.int .i64 x.n)).set (j * 3 + 2) (.int .i64 x.d) = (l.set j x).flatMap Sh.cells := by
 induction l generalizing j with
 | nil => rfl
 | cons y l ih =>
  cases j with
  | zero => rfl
  | succ j =>
   rw [List.flatMap_cons, List.set_cons_succ, List.flatMap_cons, ← ih j]
   simp only [Sh.cells, List.cons_append, List.nil_append, show (j + 1) * 3 = j * 3 + 1 + 1 + 1 by omega, List.set_cons_succ]
theorem flat_at3 (l : List Sh) (j i : Nat) (hj : j < l.length) (hi : i < 3) : (l.flatMap Sh.cells)[j * 3 + i]? = (Sh.cells l[j])[i]? := flat_get Sh.cells 3 (fun _ => rfl) l j i hj hi
section
variable {w0 : World} {B g cap : Nat} {t : TypeId} {d : Array Sh} {W : World}
theorem SortM.start (h : w0.ownsRow B t 3 (.slice (some ⟨g, 0, none⟩) d.size cap) d.size (d.toList.flatMap Sh.cells)) : SortM w0 B g cap t d w0 := ⟨World.grownBy.refl _ _, h⟩
theorem SortM.ext {W' : World} (h : SortM w0 B g cap t d W) (e : Ext W W') : SortM w0 B g cap t d W' := ⟨grown_transM h.gr (e.grownM _), own_ext h.own e⟩
theorem SortM.drew (h : SortM w0 B g cap t d W) : SortM w0 B g cap t d W.drew := h.ext ((Ext.refl _).drew)
theorem SortM.cell (h : SortM w0 B g cap t d W) {j : Nat} (hj : j < d.size) (i : Nat) (hi : i < 3) : W.cell? ⟨g, j * 3 + i, none⟩ = (Sh.cells d[j]!)[i]? := by
 rw [h.own.cellAt (j * 3 + i) (by omega), flat_at3 _ j i (by simpa using hj) hi]
 rw [getElem!_pos d j hj]; rfl
theorem SortM.cells (h : SortM w0 B g cap t d W) {j : Nat} (hj : j < d.size) : W.cell? ⟨g, j * 3, none⟩ = some (.int .i64 d[j]!.id) ∧ W.cell? ⟨g, j * 3 + 1, none⟩ = some (.int .i64 d[j]!.n) ∧ W.cell? ⟨g, j * 3 + 2, none⟩ = some (.int .i64 d[j]!.d) :=
 ⟨h.cell hj 0 (by omega), h.cell hj 1 (by omega), h.cell hj 2 (by omega)⟩
theorem SortM.frozen (h : SortM w0 B g cap t d W) (j : Nat) : W.frozen? ⟨g, j, none⟩ = false := h.own.frozenAt j
theorem SortM.set (h : SortM w0 B g cap t d W) (j : Nat) (x : Sh) : SortM w0 B g cap t (d.setIfInBounds j x) (((W.setCell ⟨g, j * 3, none⟩ (.int .i64 x.id)).setCell ⟨g, j * 3 + 1, none⟩ (.int .i64 x.n)).setCell ⟨g, j * 3 + 2, none⟩ (.int .i64 x.d)) := by
 obtain ⟨h1, k1⟩ := h.own.stored (j * 3) (.int .i64 x.id)
 obtain ⟨h2, k2⟩ := h1.stored (j * 3 + 1) (.int .i64 x.n)
 obtain ⟨h3, k3⟩ := h2.stored (j * 3 + 2) (.int .i64 x.d)
 refine ⟨grown_transM h.gr (grown_transM k1 (grown_transM k2 k3)), ?_⟩
 rw [flat_set3] at h3
 rw [Array.size_setIfInBounds, Array.toList_setIfInBounds]; exact h3
theorem SortM.swap (h : SortM w0 B g cap t d W) (i j : Nat) : SortM w0 B g cap t (swp d i j) ((((((W.setCell ⟨g, i * 3, none⟩ (.int .i64 d[j]!.id)).setCell ⟨g, i * 3 + 1, none⟩ (.int .i64 d[j]!.n)).setCell ⟨g, i * 3 + 2, none⟩ (.int .i64 d[j]!.d)).setCell ⟨g, j * 3, none⟩ (.int .i64 d[i]!.id)).setCell ⟨g, j * 3 + 1, none⟩ (.int .i64 d[i]!.n)).setCell ⟨g, j * 3 + 2, none⟩ (.int .i64 d[i]!.d)) := (h.set i d[j]!).set j d[i]!
/-- what is asked of the order -/
def CmpOkM (P : Program) (f : Nat) (cb : Array Value) (cf : Sh → Sh → Int) (w0 : World) (g : Nat) : Prop :=
 ∀ W, w0.grownBy W (some g) → ∀ x y : Sh, Calls P f (#[.agg #[.int .i64 x.id, .int .i64 x.n, .int .i64 x.d], .agg #[.int .i64 y.id, .int .i64 y.n, .int .i64 y.d]] ++ cb) W fun e W' => e = .returned (.int .i64 (cf x y)) ∧ Ext W W'
def ltM (cf : Sh → Sh → Int) (x y : Sh) : Bool := decide (cf x y < 0)
theorem ltM_t {cf : Sh → Sh → Int} {x y : Sh} (h : cf x y < 0) : ltM cf x y = true := decide_eq_true h
theorem ltM_f {cf : Sh → Sh → Int} {x y : Sh} (h : ¬ cf x y < 0) : ltM cf x y = false := decide_eq_false h
end
end Go.Proofs.YtnheioehadldmaaGreat

/- A DRAWN REGION THAT READS CELLS FIRST AND WRITES THEM LATER: what the reads need is kept only until operation E comes up. -/
namespace Go.Proofs.YtnheioehadldmaaGreat
open Go.RowKit
section
variable {P : Program} {ops : Array Oper} {Q : Exit → Act → World → Prop} {md : Region.Mode} {S : World → Prop} {E : Nat}
/-- any order; S holds behind each operation that comes up ahead of E -/
def AnyE (P : Program) (md : Region.Mode) (ops : Array Oper) (Q : Exit → Act → World → Prop) (S : World → Prop) (E : Nat) : Nat → Array Bool → Act → World → Prop
 | 0, l, a, w => Region.ready md ops l = [] ∧ Q .normal a w
 | f + 1, l, a, w => (Region.ready md ops l = [] → Q .normal a w) ∧
  ∀ i ∈ Region.ready md ops l, wpOp P ops Q i (fun a' w' => ((l.setIfInBounds i true).getD E false = false → S w') ∧ AnyE P md ops Q S E f (l.setIfInBounds i true) a' w') a w
theorem AnyE.any : ∀ (f : Nat) (l : Array Bool) (a : Act) (w : World), AnyE P md ops Q S E f l a w → wpAny P md ops Q f l a w
 | 0, _, _, _, h => h
 | f + 1, _, _, _, h => ⟨h.1, fun i hi => wpOp_mono (fun a' w' hk => AnyE.any f _ a' w' hk.2) (h.2 i hi)⟩
theorem AnyE.start {id : Nat} {a : Act} {w : World} (hm : P.follows .mixedOrders = true) (hS : S w.drew) (h : S w.drew → AnyE P .any ops Q S E ops.size (Array.replicate ops.size false) a w.drew) : (Code.region id ops true).wp P Q a w :=
 wp_region_any hm (AnyE.any _ _ _ _ (h hS))
theorem AnyE.done {l : Array Bool} {a : Act} {w : World} (hr : Region.ready md ops l = []) (h : Q .normal a w) : ∀ f, AnyE P md ops Q S E f l a w
 | 0 => ⟨hr, h⟩
 | _ + 1 => ⟨fun _ => h, fun i hi => by rw [hr] at hi; cases hi⟩
/-- does E wait for i -/
def waitsOn (md : Region.Mode) (ops : Array Oper) (E i : Nat) : Bool := match ops[E]? with
 | some o => o.after.any (fun e => Region.binds md e && e.on == i)
 | none => false
theorem AnyE.first {i : Nat} {oi : Oper} {v : Value} (hi : ops[i]? = some oi) (hs : Region.noSelect ops = true) (hQ : ∀ c a w, Q (.panic c) (a.put oi.dst v) w → Q (.panic c) a w) (hE : waitsOn md ops E i = true) (hne : i ≠ E) (hlE : ∀ l : Array Bool, l.getD i true = false → E ∈ Region.ready md ops l → False) :
  ∀ (f : Nat) (l : Array Bool) (a : Act) (w : World), (∀ j oj, ops[j]? = some oj → j ≠ i → l.getD j true = false → (∀ e ∈ oj.after, Region.binds md e = true → e.on ≠ i) → oi.apart ops oj = true) →
   i ∈ Region.ready md ops l → l.getD E false = false → YieldsIf P ops S oi v a → S w → AnyE P md ops Q S E f (l.setIfInBounds i true) (a.put oi.dst v) w → AnyE P md ops Q S E (f + 1) l a w := by
 intro f
 induction f with
 | zero =>
  intro l a w _ hr _ hy hS H
  refine ⟨fun h => absurd hr (by rw [h]; exact List.not_mem_nil), fun j hj => ?_⟩
  rcases Nat.decEq j i with hji | hji
  ·have hk := ready_mono hj hji
   rw [H.1] at hk
   exact absurd hk List.not_mem_nil
  ·subst hji
   exact hy.wpOp hi hS ⟨fun _ => hS, H⟩
 | succ f ih =>
  intro l a w hfree hr hlf hy hS H
  refine ⟨fun h => absurd hr (by rw [h]; exact List.not_mem_nil), fun j hj => ?_⟩
  rcases Nat.decEq j i with hji | hji
  ·have hun := (mem_ready.1 hr).1
   have hjE : j ≠ E := fun e => hlE l hun (e ▸ hj)
   obtain ⟨hjun, oj, hoj, hall⟩ := mem_ready.1 hj
   have hno : ∀ e ∈ oj.after, Region.binds md e = true → e.on ≠ i := fun e he hb heq => by
    have h1 := hall e he hb
    rw [heq] at h1
    rcases Nat.lt_or_ge i l.size with hlt | hge
    ·simp [hlt] at hun h1
     exact Bool.noConfusion (hun.symm.trans h1)
    ·simp [Array.getElem?_eq_none hge] at h1
   have h2 := wpOp_putIf hoj (hfree j oj hoj hji hjun hno) (fun cs b => Region.noSelect_spec hs i oi cs b hi) (fun cs b => Region.noSelect_spec hs j oj cs b hoj) hQ hy (H.2 j (ready_mono hj hji))
   refine wpOp_mono (fun a' w' hk => ?_) h2
   have hS' : S w' := hk.2.1 (by rw [getD_set_ne false hjE, getD_set_ne false hne]; exact hlf)
   refine ⟨fun _ => hS', ih (l.setIfInBounds j true) a' w' (fun k ok hok hki hunk hnok => ?_) (ready_mono hr (fun e => hji e.symm)) (by rw [getD_set_ne false hjE]; exact hlf) hk.1 hS' ?_⟩
   ·refine hfree k ok hok hki ?_ hnok
    rcases Nat.decEq j k with hjk | hjk
    ·rw [getD_set_ne true hjk] at hunk; exact hunk
    ·subst hjk; exact hjun
   ·rw [Array.setIfInBounds_comm _ _ hji]
    exact hk.2.2
  ·subst hji
   exact hy.wpOp hi hS ⟨fun _ => hS, H⟩
theorem AnyE.firstP {i : Nat} {oi : Oper} {v : Value} (hi : ops[i]? = some oi) (hs : Region.noSelect ops = true) (hQ : ∀ c a w, Q (.panic c) (a.put oi.dst v) w → Q (.panic c) a w) (hne : i ≠ E) :
  ∀ (f : Nat) (l : Array Bool) (a : Act) (w : World), (∀ j oj, ops[j]? = some oj → j ≠ i → l.getD j true = false → (∀ e ∈ oj.after, Region.binds md e = true → e.on ≠ i) → oi.apart ops oj = true) →
   i ∈ Region.ready md ops l → YieldsIf P ops (fun _ => True) oi v a → (l.getD E false = false → S w) → AnyE P md ops Q S E f (l.setIfInBounds i true) (a.put oi.dst v) w → AnyE P md ops Q S E (f + 1) l a w := by
 intro f
 induction f with
 | zero =>
  intro l a w _ hr hy hS H
  refine ⟨fun h => absurd hr (by rw [h]; exact List.not_mem_nil), fun j hj => ?_⟩
  rcases Nat.decEq j i with hji | hji
  ·have hk := ready_mono hj hji
   rw [H.1] at hk
   exact absurd hk List.not_mem_nil
  ·subst hji
   exact hy.wpOp hi trivial ⟨fun h => hS (by rw [getD_set_ne false hne] at h; exact h), H⟩
 | succ f ih =>
  intro l a w hfree hr hy hS H
  refine ⟨fun h => absurd hr (by rw [h]; exact List.not_mem_nil), fun j hj => ?_⟩
  rcases Nat.decEq j i with hji | hji
  ·have hun := (mem_ready.1 hr).1
   obtain ⟨hjun, oj, hoj, hall⟩ := mem_ready.1 hj
   have hno : ∀ e ∈ oj.after, Region.binds md e = true → e.on ≠ i := fun e he hb heq => by
    have h1 := hall e he hb
    rw [heq] at h1
    rcases Nat.lt_or_ge i l.size with hlt | hge
    ·simp [hlt] at hun h1
     exact Bool.noConfusion (hun.symm.trans h1)
    ·simp [Array.getElem?_eq_none hge] at h1
   have h2 := wpOp_putIf hoj (hfree j oj hoj hji hjun hno) (fun cs b => Region.noSelect_spec hs i oi cs b hi) (fun cs b => Region.noSelect_spec hs j oj cs b hoj) hQ hy (H.2 j (ready_mono hj hji))
   refine wpOp_mono (fun a' w' hk => ?_) h2
   have hS' : (l.setIfInBounds j true).getD E false = false → S w' := fun h => hk.2.1 (by rw [Array.setIfInBounds_comm _ _ (fun e => hji e.symm), getD_set_ne false hne]; exact h)
   refine ⟨hS', ih (l.setIfInBounds j true) a' w' (fun k ok hok hki hunk hnok => ?_) (ready_mono hr (fun e => hji e.symm)) hk.1 hS' ?_⟩
   ·refine hfree k ok hok hki ?_ hnok
    rcases Nat.decEq j k with hjk | hjk
    ·rw [getD_set_ne true hjk] at hunk; exact hunk
    ·subst hjk; exact hjun
   ·rw [Array.setIfInBounds_comm _ _ hji]
    exact hk.2.2
  ·subst hji
   exact hy.wpOp hi trivial ⟨fun h => hS (by rw [getD_set_ne false hne] at h; exact h), H⟩
theorem waits_not {i : Nat} (h : waitsOn md ops E i = true) : ∀ l : Array Bool, l.getD i true = false → E ∈ Region.ready md ops l → False := fun l hl hr => by
 obtain ⟨-, o, ho, hall⟩ := mem_ready.1 hr
 unfold waitsOn at h
 rw [ho] at h
 obtain ⟨k, hk, he⟩ := Array.any_eq_true.1 h
 rw [Bool.and_eq_true] at he
 have h1 := hall o.after[k] (Array.getElem_mem hk) he.1
 rw [show o.after[k].on = i by simpa using he.2] at h1
 rcases Nat.lt_or_ge i l.size with hlt | hge
 ·simp [hlt] at hl h1
  exact Bool.noConfusion (hl.symm.trans h1)
 ·simp [Array.getElem?_eq_none hge] at h1
theorem AnyE.take {i : Nat} {oi : Oper} {v : Value} {f : Nat} {l : Array Bool} {a : Act} {w : World} (hi : ops[i]? = some oi) (hs : Region.noSelect ops = true) (hf : Region.free md ops l i = true) (hr : (Region.ready md ops l).contains i = true)
  (hQ : ∀ c a w, Q (.panic c) (a.put oi.dst v) w → Q (.panic c) a w) (hE : waitsOn md ops E i = true) (hne : (i == E) = false) (hl : l.getD E false = false) (hy : YieldsIf P ops S oi v a) (hS : S w)
  (h : AnyE P md ops Q S E f (l.setIfInBounds i true) (a.put oi.dst v) w) : AnyE P md ops Q S E (f + 1) l a w :=
 AnyE.first hi hs hQ hE (by simpa using hne) (waits_not hE) f l a w (Region.free_spec hi hf) (by simpa using hr) hl hy hS h
theorem AnyE.takeP {i : Nat} {oi : Oper} {v : Value} {f : Nat} {l : Array Bool} {a : Act} {w : World} (hi : ops[i]? = some oi) (hs : Region.noSelect ops = true) (hf : Region.free md ops l i = true) (hr : (Region.ready md ops l).contains i = true)
  (hQ : ∀ c a w, Q (.panic c) (a.put oi.dst v) w → Q (.panic c) a w) (hne : (i == E) = false) (hy : YieldsIf P ops (fun _ => True) oi v a) (hS : l.getD E false = false → S w)
  (h : AnyE P md ops Q S E f (l.setIfInBounds i true) (a.put oi.dst v) w) : AnyE P md ops Q S E (f + 1) l a w :=
 AnyE.firstP hi hs hQ (by simpa using hne) f l a w (Region.free_spec hi hf) (by simpa using hr) hy hS h
/-- each of those that may come up -/
def AllE (P : Program) (md : Region.Mode) (ops : Array Oper) (Q : Exit → Act → World → Prop) (S : World → Prop) (E : Nat) (f : Nat) (l : Array Bool) (a : Act) (w : World) (rs : List Nat) : Prop :=
 ∀ i ∈ rs, wpOp P ops Q i (fun a' w' => ((l.setIfInBounds i true).getD E false = false → S w') ∧ AnyE P md ops Q S E f (l.setIfInBounds i true) a' w') a w
theorem AllE.nil {f : Nat} {l : Array Bool} {a : Act} {w : World} : AllE P md ops Q S E f l a w [] := fun _ h => absurd h List.not_mem_nil
theorem AllE.cons {f : Nat} {l : Array Bool} {a : Act} {w : World} {i : Nat} {o : Oper} {rs : List Nat} (ho : ops[i]? = some o)
  (h : ∀ K : Act → World → Prop, Shut (∀ a w, ((l.setIfInBounds i true).getD E false = false → S w) → (((l.setIfInBounds i true).getD E false = false → S w) → AnyE P md ops Q S E f (l.setIfInBounds i true) a w) → K a w) → if Region.wanted o (yielded ops a.tmps) = true then Oper.wp P o a w K Q else K (a.put o.dst undef) w)
  (hs : AllE P md ops Q S E f l a w rs) : AllE P md ops Q S E f l a w (i :: rs) := fun j hj => by
 rcases List.mem_cons.1 hj with rfl | hj
 ·exact wpOp_step ho (fun K hK => h K (fun a w h1 h2 => hK a w ⟨h1, h2 h1⟩))
 ·exact hs j hj
theorem AnyE.ready {rs : List Nat} {f : Nat} {l : Array Bool} {a : Act} {w : World} (hr : Region.ready md ops l = rs) (hne : rs ≠ []) (h : AllE P md ops Q S E f l a w rs) : AnyE P md ops Q S E (f + 1) l a w := by
 subst hr
 exact ⟨fun e => absurd e hne, h⟩
end
end Go.Proofs.YtnheioehadldmaaGreat

/- THE WALK over slices.insertionSortCmpFunc, at entries. -/
namespace Go.Proofs.YtnheioehadldmaaGreat
open Go.RowKit Go.Sort
set_option maxRecDepth 100000 in
set_option maxHeartbeats 1600000 in
theorem sm_insert (w0 : World) (B g cap : Nat) (cf : Sh → Sh → Int) (f : Nat) (cb : Array Value) (d : Array Sh) (a b : Nat) (w : World)
  (eg : ∀ args w, (callFunc f args).run Tryz.prog w = .ok (.enter f args) w) (hcmp : CmpOkM Tryz.prog f cb cf w0 g) (hS : SWO (ltM cf)) (hs : SortM w0 B g cap 41 d w) (hab : a ≤ b) (hb : b ≤ d.size) (hsz : d.size ≤ 8000000) :
  Calls Tryz.prog 92 #[.slice (some ⟨g, 0, none⟩) d.size cap, .int .i64 a, .int .i64 b, .func (.func f) #[] cb] w fun e w' => e = .returned (.tuple #[]) ∧ ∃ d', SortM w0 B g cap 41 d' w' ∧ PermIn a b d d' ∧ SortedIn (ltM cf) a b d' := by
 have HS := Lib.hid hs
 have HC := Lib.hid hcmp
 have HW := Lib.hid hS
 clear hs hcmp hS
 go_enter Tryz.func92, Tryz.ntmps92
 go_wp2
 go_loopw [8] (fun u W => ∃ (i : Nat) (e : Array Sh), u = .int .i64 i ∧ a < i ∧ Hid (i ≤ b ∨ i = a + 1) ∧ Hid (SortM w0 B g cap 41 e W) ∧ Hid (SortedIn (ltM cf) a i e) ∧ Hid (PermIn a b d e)) (fun u _ => b + 1 - (intOf u).toNat)
 case atStart => exact ⟨a + 1, d, by go_num, by omega, Lib.hid (.inr rfl), HS, Lib.hid (fun p q h1 h2 h3 => by omega), Lib.hid (permIn_refl _ _ _)⟩
 case round =>
  obtain ⟨i, e, rfl, hai, hib, he, hso, hp⟩ := hrel
  by_cases hlt : i < b
  ·go_wp2_with fail
   go_loopw [9] (fun u W => ∃ (j : Nat) (e : Array Sh), u = .int .i64 j ∧ a ≤ j ∧ j ≤ i ∧ Hid (SortM w0 B g cap 41 e W) ∧ Hid (Ins (ltM cf) a j i e) ∧ Hid (PermIn a b d e)) (fun u _ => (intOf u).toNat)
   case atStart => exact ⟨i, e, rfl, by omega, Nat.le_refl _, he, Lib.hid ⟨fun p q hap hpq hqi _ hq => hso.out p q hap hpq (by omega), fun q h1 h2 => by omega⟩, hp⟩
   case round =>
    clear he hso hp hib
    obtain ⟨j, e, rfl, haj, hji, he, hin, hp⟩ := hrel
    have hes := hp.out.1
    by_cases hja : a < j
    ·obtain ⟨jp, rfl⟩ : ∃ jp, j = jp + 1 := ⟨j - 1, by omega⟩
     obtain ⟨c10, c11, c12⟩ := he.out.cells (show jp + 1 < e.size by omega)
     obtain ⟨c20, c21, c22⟩ := he.out.cells (show jp < e.size by omega)
     have HN := Lib.hid (fun V (h : Ext wr V) => ((he.out.ext h).swap (jp + 1) jp).drew)
     have HX := Lib.hid (fun V (h : Ext wr V) => he.out.ext h)
     have HQ := Lib.hid (fun V (h : Ext wr V) => HC.out V (he.out.ext h).gr e[jp + 1]! e[jp]!)
     have HG := Lib.hid (fun (h : cf e[jp + 1]! e[jp]! < 0) => hin.out.step (ltM_t h) (by omega) (by omega))
     have HE := Lib.hid (fun (h : ¬ cf e[jp + 1]! e[jp]! < 0) => hin.out.stop HW.out (.inr (ltM_f h)))
     have HP := Lib.hid (permIn_trans _ _ _ a b hp.out (swp_permIn e a b (jp + 1) jp (by omega) (by omega) (by omega) (by omega) (by omega)))
     generalize cf e[jp + 1]! e[jp]! = z at *
     generalize e[jp + 1]! = x1 at *
     generalize e[jp]! = x2 at *
     have MK := Lib.hid (fun V (e : Ext wr V) => (⟨e.cell c10, e.cell c11, e.cell c12, e.cell c20, e.cell c21, e.cell c22, e⟩ : V.cell? ⟨g, (jp + 1) * 3, none⟩ = some (.int .i64 x1.id) ∧ V.cell? ⟨g, (jp + 1) * 3 + 1, none⟩ = some (.int .i64 x1.n) ∧ V.cell? ⟨g, (jp + 1) * 3 + 2, none⟩ = some (.int .i64 x1.d) ∧ V.cell? ⟨g, jp * 3, none⟩ = some (.int .i64 x2.id) ∧ V.cell? ⟨g, jp * 3 + 1, none⟩ = some (.int .i64 x2.n) ∧ V.cell? ⟨g, jp * 3 + 2, none⟩ = some (.int .i64 x2.d) ∧ Ext wr V))
     have hwp : IntKind.i64.wrap (jp : Int) = (jp : Int) := by rw [IntKind.wrap_i64]; omega
     have b1 : (jp : Int) + 1 < (d.size : Int) := by omega
     have b2 : (jp : Int) < (d.size : Int) := by omega
     have b3 : (0 : Int) ≤ (jp : Int) + 1 := by omega
     have b4 : ((jp : Int) + 1).toNat = jp + 1 := by omega
     have hjaz' : (a : Int) < (jp : Int) + 1 := by omega
     by_cases hz : z < 0
     ·have hg := Lib.hid (HG.out hz)
      clear HG HE c10 c11 c12 c20 c21 c22
      go_wp2_with fail
      go_region_held3 (fun V => V.cell? ⟨g, (jp + 1) * 3, none⟩ = some (.int .i64 x1.id) ∧ V.cell? ⟨g, (jp + 1) * 3 + 1, none⟩ = some (.int .i64 x1.n) ∧ V.cell? ⟨g, (jp + 1) * 3 + 2, none⟩ = some (.int .i64 x1.d) ∧ V.cell? ⟨g, jp * 3, none⟩ = some (.int .i64 x2.id) ∧ V.cell? ⟨g, jp * 3 + 1, none⟩ = some (.int .i64 x2.n) ∧ V.cell? ⟨g, jp * 3 + 2, none⟩ = some (.int .i64 x2.d) ∧ Ext wr V) ((exact MK.out _ (by solve_by_elim [X0, X1, X2, X3]))) ((refine (HQ.out _ (by solve_by_elim [X0, X1, X2, X3])).mono ?_; rintro e w' ⟨rfl, hb⟩; replace hb : Ext wr w' := Ext.trans (by solve_by_elim [X0, X1, X2, X3]) hb))
      rename_i hHeld
      have hN := Lib.hid (HN.out w' hb)
      obtain ⟨g10, g11, g12, g20, g21, g22, -⟩ := hHeld
      have f10 := (HX.out w' hb).frozen ((jp + 1) * 3)
      have f11 := (HX.out w' hb).frozen ((jp + 1) * 3 + 1)
      have f12 := (HX.out w' hb).frozen ((jp + 1) * 3 + 2)
      have f20 := (HX.out w' hb).frozen (jp * 3)
      have f21 := (HX.out w' hb).frozen (jp * 3 + 1)
      have f22 := (HX.out w' hb).frozen (jp * 3 + 2)
      clear HN HX HQ MK
      have MKE := Lib.hid (fun V (e : Ext w' V) => (⟨e.cell g10, e.cell g11, e.cell g12, e.cell g20, e.cell g21, e.cell g22⟩ : V.cell? ⟨g, (jp + 1) * 3, none⟩ = some (.int .i64 x1.id) ∧ V.cell? ⟨g, (jp + 1) * 3 + 1, none⟩ = some (.int .i64 x1.n) ∧ V.cell? ⟨g, (jp + 1) * 3 + 2, none⟩ = some (.int .i64 x1.d) ∧ V.cell? ⟨g, jp * 3, none⟩ = some (.int .i64 x2.id) ∧ V.cell? ⟨g, jp * 3 + 1, none⟩ = some (.int .i64 x2.n) ∧ V.cell? ⟨g, jp * 3 + 2, none⟩ = some (.int .i64 x2.d)))
      go_upto_region 6 with (fail)
      refine AnyE.start (S := (fun V => V.cell? ⟨g, (jp + 1) * 3, none⟩ = some (.int .i64 x1.id) ∧ V.cell? ⟨g, (jp + 1) * 3 + 1, none⟩ = some (.int .i64 x1.n) ∧ V.cell? ⟨g, (jp + 1) * 3 + 2, none⟩ = some (.int .i64 x1.d) ∧ V.cell? ⟨g, jp * 3, none⟩ = some (.int .i64 x2.id) ∧ V.cell? ⟨g, jp * 3 + 1, none⟩ = some (.int .i64 x2.n) ∧ V.cell? ⟨g, jp * 3 + 2, none⟩ = some (.int .i64 x2.d))) (E := 15) (by kernel_rfl) ?hs1 (fun hHeld => ?go1)
      case hs1 => (exact MKE.out _ (by solve_by_elim [X0, X1, X2, X3]))
      refine AnyE.takeP (i := 0) (oi := ⟨_, _, _, _, _, _⟩) (v := ?v2) rfl (by kernel_rfl) (by kernel_rfl) (by kernel_rfl) (fun _ _ _ h => h) rfl (Or.inl ⟨rfl, ?hy2⟩) (fun _ => hHeld) ?_
      case hy2 => (intro w _; go_simp <;> rfl)
      (try simp only [PU])
      refine AnyE.takeP (i := 1) (oi := ⟨_, _, _, _, _, _⟩) (v := ?v3) rfl (by kernel_rfl) (by kernel_rfl) (by kernel_rfl) (fun _ _ _ h => h) rfl (Or.inl ⟨rfl, ?hy3⟩) (fun _ => hHeld) ?_
      case hy3 => (intro w _; go_simp <;> rfl)
      (try simp only [PU])
      refine AnyE.takeP (i := 2) (oi := ⟨_, _, _, _, _, _⟩) (v := ?v4) rfl (by kernel_rfl) (by kernel_rfl) (by kernel_rfl) (fun _ _ _ h => h) rfl (Or.inl ⟨rfl, ?hy4⟩) (fun _ => hHeld) ?_
      case hy4 => (intro w _; go_simp <;> rfl)
      (try simp only [PU])
      refine AnyE.takeP (i := 3) (oi := ⟨_, _, _, _, _, _⟩) (v := ?v5) rfl (by kernel_rfl) (by kernel_rfl) (by kernel_rfl) (fun _ _ _ h => h) rfl (Or.inl ⟨rfl, ?hy5⟩) (fun _ => hHeld) ?_
      case hy5 => (intro w _; go_simp <;> rfl)
      (try simp only [PU])
      refine AnyE.takeP (i := 4) (oi := ⟨_, _, _, _, _, _⟩) (v := ?v6) rfl (by kernel_rfl) (by kernel_rfl) (by kernel_rfl) (fun _ _ _ h => h) rfl (Or.inl ⟨rfl, ?hy6⟩) (fun _ => hHeld) ?_
      case hy6 => (intro w _; go_simp <;> first | with_reducible rfl | rw [if_neg (by omega)] | rw [if_pos (by omega)])
      (try simp only [PU])
      refine AnyE.takeP (i := 5) (oi := ⟨_, _, _, _, _, _⟩) (v := ?v7) rfl (by kernel_rfl) (by kernel_rfl) (by kernel_rfl) (fun _ _ _ h => h) rfl (Or.inl ⟨rfl, ?hy7⟩) (fun _ => hHeld) ?_
      case hy7 => (intro w _; go_simp <;> rfl)
      (try simp only [PU])
      refine AnyE.takeP (i := 6) (oi := ⟨_, _, _, _, _, _⟩) (v := ?v8) rfl (by kernel_rfl) (by kernel_rfl) (by kernel_rfl) (fun _ _ _ h => h) rfl (Or.inl ⟨rfl, ?hy8⟩) (fun _ => hHeld) ?_
      case hy8 => (intro w _; go_simp <;> rfl)
      (try simp only [PU])
      refine AnyE.takeP (i := 7) (oi := ⟨_, _, _, _, _, _⟩) (v := ?v9) rfl (by kernel_rfl) (by kernel_rfl) (by kernel_rfl) (fun _ _ _ h => h) rfl (Or.inl ⟨rfl, ?hy9⟩) (fun _ => hHeld) ?_
      case hy9 => (intro w _; go_simp <;> first | with_reducible rfl | rw [if_neg (by omega)] | rw [if_pos (by omega)])
      (try simp only [PU])
      refine AnyE.takeP (i := 8) (oi := ⟨_, _, _, _, _, _⟩) (v := ?v10) rfl (by kernel_rfl) (by kernel_rfl) (by kernel_rfl) (fun _ _ _ h => h) rfl (Or.inl ⟨rfl, ?hy10⟩) (fun _ => hHeld) ?_
      case hy10 => (intro w _; go_simp <;> first | with_reducible rfl | rw [if_neg (by omega)] | rw [if_pos (by omega)])
      (try simp only [PU])
      refine AnyE.take (i := 9) (oi := ⟨_, _, _, _, _, _⟩) (v := ?v11) rfl (by kernel_rfl) (by kernel_rfl) (by kernel_rfl) (fun _ _ _ h => h) (by kernel_rfl) rfl (by kernel_rfl) (Or.inl ⟨rfl, ?hy11⟩) hHeld ?_
      case hy11 => (intro w hSw; (try dsimp only at hSw); go_simp <;> first | with_reducible rfl | rw [if_neg (by omega)] | rw [if_pos (by omega)])
      (try simp only [PU])
      refine AnyE.takeP (i := 10) (oi := ⟨_, _, _, _, _, _⟩) (v := ?v12) rfl (by kernel_rfl) (by kernel_rfl) (by kernel_rfl) (fun _ _ _ h => h) rfl (Or.inl ⟨rfl, ?hy12⟩) (fun _ => hHeld) ?_
      case hy12 => (intro w _; go_simp <;> rfl)
      (try simp only [PU])
      refine AnyE.takeP (i := 11) (oi := ⟨_, _, _, _, _, _⟩) (v := ?v13) rfl (by kernel_rfl) (by kernel_rfl) (by kernel_rfl) (fun _ _ _ h => h) rfl (Or.inl ⟨rfl, ?hy13⟩) (fun _ => hHeld) ?_
      case hy13 => (intro w _; go_simp <;> rfl)
      (try simp only [PU])
      refine AnyE.takeP (i := 12) (oi := ⟨_, _, _, _, _, _⟩) (v := ?v14) rfl (by kernel_rfl) (by kernel_rfl) (by kernel_rfl) (fun _ _ _ h => h) rfl (Or.inl ⟨rfl, ?hy14⟩) (fun _ => hHeld) ?_
      case hy14 => (intro w _; go_simp <;> first | with_reducible rfl | rw [if_neg (by omega)] | rw [if_pos (by omega)])
      (try simp only [PU])
      refine AnyE.take (i := 13) (oi := ⟨_, _, _, _, _, _⟩) (v := ?v15) rfl (by kernel_rfl) (by kernel_rfl) (by kernel_rfl) (fun _ _ _ h => h) (by kernel_rfl) rfl (by kernel_rfl) (Or.inl ⟨rfl, ?hy15⟩) hHeld ?_
      case hy15 => (intro w hSw; (try dsimp only at hSw); go_simp <;> first | with_reducible rfl | rw [if_neg (by omega)] | rw [if_pos (by omega)])
      (try simp only [PU])
      refine AnyE.takeP (i := 14) (oi := ⟨_, _, _, _, _, _⟩) (v := ?v16) rfl (by kernel_rfl) (by kernel_rfl) (by kernel_rfl) (fun _ _ _ h => h) rfl (Or.inl ⟨rfl, ?hy16⟩) (fun _ => hHeld) ?_
      case hy16 => (intro w _; go_simp <;> first | with_reducible rfl | rw [if_neg (by omega)] | rw [if_pos (by omega)])
      (try simp only [PU])
      refine AnyE.ready (rs := [15]) (by kernel_rfl) (by simp) ?_
      refine AllE.cons (o := ⟨_, _, _, _, _, _⟩) rfl (fun K hK => ?step17x0) ?more17x0
      case more17x0 => exact AllE.nil
      go_simp
      refine hK.out _ _ ?hS17x0 (fun H17 => ?_)
      case hS17x0 => first | (intro h; exact absurd h (by decide)) | (intro h; simp at h)
      clear hK K
      clear hHeld
      refine AnyE.ready (rs := [16]) (by kernel_rfl) (by simp) ?_
      refine AllE.cons (o := ⟨_, _, _, _, _, _⟩) rfl (fun K hK => ?step18x0) ?more18x0
      case more18x0 => exact AllE.nil
      go_simp
      refine hK.out _ _ ?hS18x0 (fun H18 => ?_)
      case hS18x0 => first | (intro h; exact absurd h (by decide)) | (intro h; simp at h)
      clear hK K
      clear H17
      (try simp only [PU])
      refine AnyE.ready (rs := [17]) (by kernel_rfl) (by simp) ?_
      refine AllE.cons (o := ⟨_, _, _, _, _, _⟩) rfl (fun K hK => ?step19x0) ?more19x0
      case more19x0 => exact AllE.nil
      go_simp
      refine hK.out _ _ ?hS19x0 (fun H19 => ?_)
      case hS19x0 => first | (intro h; exact absurd h (by decide)) | (intro h; simp at h)
      clear hK K
      clear H18
      refine AnyE.done (by kernel_rfl) ?_ _
      clear H19
      go_wp2_with fail

      go_roundw
      case rel => exact ⟨jp, swp e (jp + 1) jp, by first | rfl | go_num, by omega, by omega, hN, hg, HP⟩
      case measure => simp [intOf]
     ·have he := Lib.hid (HE.out hz)
      clear HG HE HN c10 c11 c12 c20 c21 c22
      go_wp2_with fail
      go_region_held3 (fun V => V.cell? ⟨g, (jp + 1) * 3, none⟩ = some (.int .i64 x1.id) ∧ V.cell? ⟨g, (jp + 1) * 3 + 1, none⟩ = some (.int .i64 x1.n) ∧ V.cell? ⟨g, (jp + 1) * 3 + 2, none⟩ = some (.int .i64 x1.d) ∧ V.cell? ⟨g, jp * 3, none⟩ = some (.int .i64 x2.id) ∧ V.cell? ⟨g, jp * 3 + 1, none⟩ = some (.int .i64 x2.n) ∧ V.cell? ⟨g, jp * 3 + 2, none⟩ = some (.int .i64 x2.d) ∧ Ext wr V) ((exact MK.out _ (by solve_by_elim [X0, X1, X2, X3]))) ((refine (HQ.out _ (by solve_by_elim [X0, X1, X2, X3])).mono ?_; rintro e w' ⟨rfl, hb⟩; replace hb : Ext wr w' := Ext.trans (by solve_by_elim [X0, X1, X2, X3]) hb))
      have hN := Lib.hid (HX.out w' hb)
      clear HX HQ MK
      go_wp2
      go_roundw
      case rel => exact ⟨i + 1, e, by go_num, by omega, Lib.hid (.inl (by omega)), hN, he, hp⟩
      case measure => simp [intOf]; omega
    ·have hja2 : j = a := by omega
     subst hja2
     have HE := Lib.hid (hin.out.stop HW.out (.inl (Nat.le_refl _)))
     have hjaz : decide ((j : Int) > (j : Int)) = false := decide_eq_false (by omega)
     go_wp2_with fail
     go_big_region
     all_goals go_wp2
     all_goals go_roundw
     case rel => exact ⟨i + 1, e, by go_num, by omega, Lib.hid (.inl (by omega)), Lib.hid he.out.drew, HE, hp⟩
     case measure => simp [intOf]; omega
  ·have HE := Lib.hid (show SortedIn (ltM cf) a b e from by
    rcases hib.out with h | h
    ·have : i = b := by omega
     subst this; exact hso.out
    ·intro p q h1 h2 h3; omega)
   go_wp2
   go_end0
   exact ⟨rfl, e, he.out, hp.out, HE.out⟩
end Go.Proofs.YtnheioehadldmaaGreat

/- THE WALKS over slices.swapRangeCmpFunc, rotateCmpFunc, at entries. -/
namespace Go.Proofs.YtnheioehadldmaaGreat
open Go.RowKit Go.Sort
set_option maxRecDepth 100000 in
set_option maxHeartbeats 1600000 in
theorem sm_range (w0 : World) (B g cap : Nat) (d : Array Sh) (a b n : Nat) (fv : Value) (w : World) (hs : SortM w0 B g cap 41 d w) (hab : a + n ≤ b) (hb : b + n ≤ d.size) (hsz : d.size ≤ 8000000) (lo hi : Nat) (hlo : lo ≤ a) (hhi : b + n ≤ hi) (hhs : hi ≤ d.size) :
  Calls Tryz.prog 120 #[.slice (some ⟨g, 0, none⟩) d.size cap, .int .i64 a, .int .i64 b, .int .i64 n, fv] w fun e w' => e = .returned (.tuple #[]) ∧ ∃ d', SortM w0 B g cap 41 d' w' ∧ d'.size = d.size ∧ (∀ x, d'[x]! = d[swS a b n x]!) ∧ PermIn lo hi d d' := by
 have HS := Lib.hid hs
 clear hs
 go_enter Tryz.func120, Tryz.ntmps120
 go_wp2
 go_loopw [10] (fun u W => ∃ (i : Nat) (e : Array Sh), u = .int .i64 i ∧ i ≤ n ∧ Hid (SortM w0 B g cap 41 e W) ∧ e.size = d.size ∧ Hid (∀ x, e[x]! = d[swS a b i x]!) ∧ Hid (PermIn lo hi d e)) (fun u _ => n - (intOf u).toNat)
 case atStart => exact ⟨0, d, rfl, Nat.zero_le _, HS, rfl, Lib.hid (fun x => by rw [swS_zero]), Lib.hid (permIn_refl _ _ _)⟩
 case round =>
  obtain ⟨i, e, rfl, hi', he, hes, hx, hp⟩ := hrel
  by_cases hlt : i < n
  ·have HX := Lib.hid (swS_step d e hes hab hlt (by omega) hx.out)
   have HP := Lib.hid (permIn_trans _ _ _ lo hi hp.out (swp_permIn e lo hi (a + i) (b + i) (by omega) (by omega) (by omega) (by omega) (by omega)))
   have HZ := Lib.hid (size_swp e (a + i) (b + i))
   obtain ⟨c10, c11, c12⟩ := he.out.cells (show a + i < e.size by omega)
   obtain ⟨c20, c21, c22⟩ := he.out.cells (show b + i < e.size by omega)
   have f10 := he.out.frozen ((a + i) * 3)
   have f11 := he.out.frozen ((a + i) * 3 + 1)
   have f12 := he.out.frozen ((a + i) * 3 + 2)
   have f20 := he.out.frozen ((b + i) * 3)
   have f21 := he.out.frozen ((b + i) * 3 + 1)
   have f22 := he.out.frozen ((b + i) * 3 + 2)
   have HN := Lib.hid ((he.out.swap (a + i) (b + i)).drew)
   generalize e[a + i]! = x1 at *
   generalize e[b + i]! = x2 at *
   have MKE := Lib.hid (fun V (e : Ext wr V) => (⟨e.cell c10, e.cell c11, e.cell c12, e.cell c20, e.cell c21, e.cell c22⟩ : V.cell? ⟨g, (a + i) * 3, none⟩ = some (.int .i64 x1.id) ∧ V.cell? ⟨g, (a + i) * 3 + 1, none⟩ = some (.int .i64 x1.n) ∧ V.cell? ⟨g, (a + i) * 3 + 2, none⟩ = some (.int .i64 x1.d) ∧ V.cell? ⟨g, (b + i) * 3, none⟩ = some (.int .i64 x2.id) ∧ V.cell? ⟨g, (b + i) * 3 + 1, none⟩ = some (.int .i64 x2.n) ∧ V.cell? ⟨g, (b + i) * 3 + 2, none⟩ = some (.int .i64 x2.d)))
   have wa : IntKind.i64.wrap ((a : Int) + (i : Int)) = (a : Int) + (i : Int) := by rw [IntKind.wrap_i64]; omega
   have wb : IntKind.i64.wrap ((b : Int) + (i : Int)) = (b : Int) + (i : Int) := by rw [IntKind.wrap_i64]; omega
   have ta : ((a : Int) + (i : Int)).toNat = a + i := by omega
   have tb : ((b : Int) + (i : Int)).toNat = b + i := by omega
   have ba : (a : Int) + (i : Int) < (d.size : Int) := by omega
   have bb : (b : Int) + (i : Int) < (d.size : Int) := by omega
   have za : (0 : Int) ≤ (a : Int) + (i : Int) := by omega
   have zb : (0 : Int) ≤ (b : Int) + (i : Int) := by omega
   go_upto_region 3 with (fail)
   refine AnyE.start (S := (fun V => V.cell? ⟨g, (a + i) * 3, none⟩ = some (.int .i64 x1.id) ∧ V.cell? ⟨g, (a + i) * 3 + 1, none⟩ = some (.int .i64 x1.n) ∧ V.cell? ⟨g, (a + i) * 3 + 2, none⟩ = some (.int .i64 x1.d) ∧ V.cell? ⟨g, (b + i) * 3, none⟩ = some (.int .i64 x2.id) ∧ V.cell? ⟨g, (b + i) * 3 + 1, none⟩ = some (.int .i64 x2.n) ∧ V.cell? ⟨g, (b + i) * 3 + 2, none⟩ = some (.int .i64 x2.d))) (E := 21) (by kernel_rfl) ?hs1 (fun hHeld => ?go1)
   case hs1 => (exact MKE.out _ (by solve_by_elim [X0, X1, X2, X3]))
   refine AnyE.takeP (i := 0) (oi := ⟨_, _, _, _, _, _⟩) (v := ?v2) rfl (by kernel_rfl) (by kernel_rfl) (by kernel_rfl) (fun _ _ _ h => h) rfl (Or.inl ⟨rfl, ?hy2⟩) (fun _ => hHeld) ?_
   case hy2 => (intro w _; go_simp <;> rfl)
   (try simp only [PU])
   refine AnyE.takeP (i := 1) (oi := ⟨_, _, _, _, _, _⟩) (v := ?v3) rfl (by kernel_rfl) (by kernel_rfl) (by kernel_rfl) (fun _ _ _ h => h) rfl (Or.inl ⟨rfl, ?hy3⟩) (fun _ => hHeld) ?_
   case hy3 => (intro w _; go_simp <;> rfl)
   (try simp only [PU])
   refine AnyE.takeP (i := 2) (oi := ⟨_, _, _, _, _, _⟩) (v := ?v4) rfl (by kernel_rfl) (by kernel_rfl) (by kernel_rfl) (fun _ _ _ h => h) rfl (Or.inl ⟨rfl, ?hy4⟩) (fun _ => hHeld) ?_
   case hy4 => (intro w _; go_simp <;> rfl)
   (try simp only [PU])
   refine AnyE.takeP (i := 3) (oi := ⟨_, _, _, _, _, _⟩) (v := ?v5) rfl (by kernel_rfl) (by kernel_rfl) (by kernel_rfl) (fun _ _ _ h => h) rfl (Or.inl ⟨rfl, ?hy5⟩) (fun _ => hHeld) ?_
   case hy5 => (intro w _; go_simp <;> first | with_reducible rfl | rw [if_neg (by omega)] | rw [if_pos (by omega)])
   (try simp only [PU])
   refine AnyE.takeP (i := 4) (oi := ⟨_, _, _, _, _, _⟩) (v := ?v6) rfl (by kernel_rfl) (by kernel_rfl) (by kernel_rfl) (fun _ _ _ h => h) rfl (Or.inl ⟨rfl, ?hy6⟩) (fun _ => hHeld) ?_
   case hy6 => (intro w _; go_simp <;> rfl)
   (try simp only [PU])
   refine AnyE.takeP (i := 5) (oi := ⟨_, _, _, _, _, _⟩) (v := ?v7) rfl (by kernel_rfl) (by kernel_rfl) (by kernel_rfl) (fun _ _ _ h => h) rfl (Or.inl ⟨rfl, ?hy7⟩) (fun _ => hHeld) ?_
   case hy7 => (intro w _; go_simp <;> rfl)
   (try simp only [PU])
   refine AnyE.takeP (i := 6) (oi := ⟨_, _, _, _, _, _⟩) (v := ?v8) rfl (by kernel_rfl) (by kernel_rfl) (by kernel_rfl) (fun _ _ _ h => h) rfl (Or.inl ⟨rfl, ?hy8⟩) (fun _ => hHeld) ?_
   case hy8 => (intro w _; go_simp <;> rfl)
   (try simp only [PU])
   refine AnyE.takeP (i := 7) (oi := ⟨_, _, _, _, _, _⟩) (v := ?v9) rfl (by kernel_rfl) (by kernel_rfl) (by kernel_rfl) (fun _ _ _ h => h) rfl (Or.inl ⟨rfl, ?hy9⟩) (fun _ => hHeld) ?_
   case hy9 => (intro w _; go_simp <;> first | with_reducible rfl | rw [if_neg (by omega)] | rw [if_pos (by omega)])
   (try simp only [PU])
   refine AnyE.takeP (i := 8) (oi := ⟨_, _, _, _, _, _⟩) (v := ?v10) rfl (by kernel_rfl) (by kernel_rfl) (by kernel_rfl) (fun _ _ _ h => h) rfl (Or.inl ⟨rfl, ?hy10⟩) (fun _ => hHeld) ?_
   case hy10 => (intro w _; go_simp <;> rfl)
   (try simp only [PU])
   refine AnyE.takeP (i := 9) (oi := ⟨_, _, _, _, _, _⟩) (v := ?v11) rfl (by kernel_rfl) (by kernel_rfl) (by kernel_rfl) (fun _ _ _ h => h) rfl (Or.inl ⟨rfl, ?hy11⟩) (fun _ => hHeld) ?_
   case hy11 => (intro w _; go_simp <;> rfl)
   (try simp only [PU])
   refine AnyE.takeP (i := 10) (oi := ⟨_, _, _, _, _, _⟩) (v := ?v12) rfl (by kernel_rfl) (by kernel_rfl) (by kernel_rfl) (fun _ _ _ h => h) rfl (Or.inl ⟨rfl, ?hy12⟩) (fun _ => hHeld) ?_
   case hy12 => (intro w _; go_simp <;> rfl)
   (try simp only [PU])
   refine AnyE.takeP (i := 11) (oi := ⟨_, _, _, _, _, _⟩) (v := ?v13) rfl (by kernel_rfl) (by kernel_rfl) (by kernel_rfl) (fun _ _ _ h => h) rfl (Or.inl ⟨rfl, ?hy13⟩) (fun _ => hHeld) ?_
   case hy13 => (intro w _; go_simp <;> first | with_reducible rfl | rw [if_neg (by omega)] | rw [if_pos (by omega)])
   (try simp only [PU])
   refine AnyE.takeP (i := 12) (oi := ⟨_, _, _, _, _, _⟩) (v := ?v14) rfl (by kernel_rfl) (by kernel_rfl) (by kernel_rfl) (fun _ _ _ h => h) rfl (Or.inl ⟨rfl, ?hy14⟩) (fun _ => hHeld) ?_
   case hy14 => (intro w _; go_simp <;> first | with_reducible rfl | rw [if_neg (by omega)] | rw [if_pos (by omega)])
   (try simp only [PU])
   refine AnyE.take (i := 13) (oi := ⟨_, _, _, _, _, _⟩) (v := ?v15) rfl (by kernel_rfl) (by kernel_rfl) (by kernel_rfl) (fun _ _ _ h => h) (by kernel_rfl) rfl (by kernel_rfl) (Or.inl ⟨rfl, ?hy15⟩) hHeld ?_
   case hy15 => (intro w hSw; (try dsimp only at hSw); go_simp <;> first | with_reducible rfl | rw [if_neg (by omega)] | rw [if_pos (by omega)])
   (try simp only [PU])
   refine AnyE.takeP (i := 14) (oi := ⟨_, _, _, _, _, _⟩) (v := ?v16) rfl (by kernel_rfl) (by kernel_rfl) (by kernel_rfl) (fun _ _ _ h => h) rfl (Or.inl ⟨rfl, ?hy16⟩) (fun _ => hHeld) ?_
   case hy16 => (intro w _; go_simp <;> rfl)
   (try simp only [PU])
   refine AnyE.takeP (i := 15) (oi := ⟨_, _, _, _, _, _⟩) (v := ?v17) rfl (by kernel_rfl) (by kernel_rfl) (by kernel_rfl) (fun _ _ _ h => h) rfl (Or.inl ⟨rfl, ?hy17⟩) (fun _ => hHeld) ?_
   case hy17 => (intro w _; go_simp <;> rfl)
   (try simp only [PU])
   refine AnyE.takeP (i := 16) (oi := ⟨_, _, _, _, _, _⟩) (v := ?v18) rfl (by kernel_rfl) (by kernel_rfl) (by kernel_rfl) (fun _ _ _ h => h) rfl (Or.inl ⟨rfl, ?hy18⟩) (fun _ => hHeld) ?_
   case hy18 => (intro w _; go_simp <;> rfl)
   (try simp only [PU])
   refine AnyE.takeP (i := 17) (oi := ⟨_, _, _, _, _, _⟩) (v := ?v19) rfl (by kernel_rfl) (by kernel_rfl) (by kernel_rfl) (fun _ _ _ h => h) rfl (Or.inl ⟨rfl, ?hy19⟩) (fun _ => hHeld) ?_
   case hy19 => (intro w _; go_simp <;> first | with_reducible rfl | rw [if_neg (by omega)] | rw [if_pos (by omega)])
   (try simp only [PU])
   refine AnyE.takeP (i := 18) (oi := ⟨_, _, _, _, _, _⟩) (v := ?v20) rfl (by kernel_rfl) (by kernel_rfl) (by kernel_rfl) (fun _ _ _ h => h) rfl (Or.inl ⟨rfl, ?hy20⟩) (fun _ => hHeld) ?_
   case hy20 => (intro w _; go_simp <;> first | with_reducible rfl | rw [if_neg (by omega)] | rw [if_pos (by omega)])
   (try simp only [PU])
   refine AnyE.take (i := 19) (oi := ⟨_, _, _, _, _, _⟩) (v := ?v21) rfl (by kernel_rfl) (by kernel_rfl) (by kernel_rfl) (fun _ _ _ h => h) (by kernel_rfl) rfl (by kernel_rfl) (Or.inl ⟨rfl, ?hy21⟩) hHeld ?_
   case hy21 => (intro w hSw; (try dsimp only at hSw); go_simp <;> first | with_reducible rfl | rw [if_neg (by omega)] | rw [if_pos (by omega)])
   (try simp only [PU])
   refine AnyE.takeP (i := 20) (oi := ⟨_, _, _, _, _, _⟩) (v := ?v22) rfl (by kernel_rfl) (by kernel_rfl) (by kernel_rfl) (fun _ _ _ h => h) rfl (Or.inl ⟨rfl, ?hy22⟩) (fun _ => hHeld) ?_
   case hy22 => (intro w _; go_simp <;> first | with_reducible rfl | rw [if_neg (by omega)] | rw [if_pos (by omega)])
   (try simp only [PU])
   refine AnyE.ready (rs := [21]) (by kernel_rfl) (by simp) ?_
   refine AllE.cons (o := ⟨_, _, _, _, _, _⟩) rfl (fun K hK => ?step23x0) ?more23x0
   case more23x0 => exact AllE.nil
   go_simp
   refine hK.out _ _ ?hS23x0 (fun H23 => ?_)
   case hS23x0 => first | (intro h; exact absurd h (by decide)) | (intro h; simp at h)
   clear hK K
   clear hHeld
   refine AnyE.ready (rs := [22]) (by kernel_rfl) (by simp) ?_
   refine AllE.cons (o := ⟨_, _, _, _, _, _⟩) rfl (fun K hK => ?step24x0) ?more24x0
   case more24x0 => exact AllE.nil
   go_simp
   refine hK.out _ _ ?hS24x0 (fun H24 => ?_)
   case hS24x0 => first | (intro h; exact absurd h (by decide)) | (intro h; simp at h)
   clear hK K
   clear H23
   (try simp only [PU])
   refine AnyE.ready (rs := [23]) (by kernel_rfl) (by simp) ?_
   refine AllE.cons (o := ⟨_, _, _, _, _, _⟩) rfl (fun K hK => ?step25x0) ?more25x0
   case more25x0 => exact AllE.nil
   go_simp
   refine hK.out _ _ ?hS25x0 (fun H25 => ?_)
   case hS25x0 => first | (intro h; exact absurd h (by decide)) | (intro h; simp at h)
   clear hK K
   clear H24
   refine AnyE.done (by kernel_rfl) ?_ _
   clear H25
   go_wp2_with fail
   go_roundw
   case rel => exact ⟨i + 1, swp e (a + i) (b + i), by go_num, by omega, HN, by rw [HZ.out]; exact hes, HX, HP⟩
   case measure => simp [intOf]; omega
  ·have hk : i = n := by omega
   subst hk
   go_wp2
   go_end0
   exact ⟨rfl, e, he.out, hes, hx.out, hp.out⟩
set_option maxRecDepth 100000 in
set_option maxHeartbeats 1600000 in
theorem sm_rotate (w0 : World) (B g cap : Nat) (d : Array Sh) (a m b : Nat) (fv : Value) (w : World) (hs : SortM w0 B g cap 41 d w) (ham : a < m) (hmb : m < b) (hb : b ≤ d.size) (hsz : d.size ≤ 8000000) :
  Calls Tryz.prog 108 #[.slice (some ⟨g, 0, none⟩) d.size cap, .int .i64 a, .int .i64 m, .int .i64 b, fv] w fun e w' => e = .returned (.tuple #[]) ∧ ∃ d', SortM w0 B g cap 41 d' w' ∧ d'.size = d.size ∧ (∀ x, d'[x]! = d[rotS a m b x]!) ∧ PermIn a b d d' := by
 have HS := Lib.hid hs
 clear hs
 go_enter Tryz.func108, Tryz.ntmps108
 go_wp2
 go_loopw [10, 11] (fun u v W => ∃ (i j : Nat) (e : Array Sh), u = .int .i64 i ∧ v = .int .i64 j ∧ 0 < i ∧ 0 < j ∧ a + i ≤ m ∧ m + j ≤ b ∧ Hid (SortM w0 B g cap 41 e W) ∧ e.size = d.size ∧ Hid (∀ x, e[rotS (m - i) m (m + j) x]! = d[rotS a m b x]!) ∧ Hid (PermIn a b d e)) (fun u v _ => (intOf u + intOf v).toNat)
 case atStart => exact ⟨m - a, b - m, d, by go_num, by go_num, by omega, by omega, by omega, by omega, HS, rfl, Lib.hid (fun x => by rw [show m - (m - a) = a by omega, show m + (b - m) = b by omega]), Lib.hid (permIn_refl _ _ _)⟩
 case round =>
  obtain ⟨i, j, e, rfl, rfl, hi0, hj0, hia, hjb, he, hes, hx, hp⟩ := hrel
  rcases Nat.lt_trichotomy j i with hij | hij | hij
  ·have HC := Lib.hid (sm_range w0 B g cap e (m - i) m j fv wr he.out (by omega) (by omega) (by omega) a b (by omega) (by omega) (by omega))
   rw [hes] at HC
   have HX := Lib.hid hx.out
   have im : i ≤ m := by omega
   have hmi : ((m - i : Nat) : Int) = (m : Int) - (i : Int) := by omega
   rw [hmi] at HC
   have hji : ((i - j : Nat) : Int) = (i : Int) - (j : Int) := by omega
   clear hx hmi
   go_wp2_with (go_at_call 120; refine (HC.out).mono ?_; rintro e' w' ⟨rfl, d', hs', hz', hx', hp'⟩; replace hs' := Lib.hid hs'; replace hx' := Lib.hid hx'; replace hp' := Lib.hid hp')
   go_roundw
   case rel => exact ⟨i - j, j, d', by rw [hji], rfl, by omega, hj0, by omega, hjb, hs', hz', Lib.hid (fun x => by rw [hx'.out, rotS_left im hij, HX.out]), Lib.hid (permIn_trans _ _ _ a b hp.out hp'.out)⟩
   case measure => simp [intOf]; omega
  ·subst hij
   have HC := Lib.hid (sm_range w0 B g cap e (m - j) m j fv wr he.out (by omega) (by omega) (by omega) a b (by omega) (by omega) (by omega))
   rw [hes] at HC
   have im : j ≤ m := by omega
   have hmi : ((m - j : Nat) : Int) = (m : Int) - (j : Int) := by omega
   rw [hmi] at HC
   clear hmi
   go_wp2_with (go_at_call 120; refine (HC.out).mono ?_; rintro e' w' ⟨rfl, d', hs', hz', hx', hp'⟩; replace hs' := Lib.hid hs'; replace hx' := Lib.hid hx'; replace hp' := Lib.hid hp')
   go_end0
   exact ⟨rfl, d', hs'.out, hz', fun x => by rw [hx'.out, rotS_end im, hx.out], permIn_trans _ _ _ a b hp.out hp'.out⟩
  ·have HC := Lib.hid (sm_range w0 B g cap e (m - i) (m + j - i) i fv wr he.out (by omega) (by omega) (by omega) a b (by omega) (by omega) (by omega))
   rw [hes] at HC
   have HX := Lib.hid hx.out
   have im : i ≤ m := by omega
   have hmi : ((m - i : Nat) : Int) = (m : Int) - (i : Int) := by omega
   have hmj : ((m + j - i : Nat) : Int) = (m : Int) + (j : Int) - (i : Int) := by omega
   rw [hmi, hmj] at HC
   have hji : ((j - i : Nat) : Int) = (j : Int) - (i : Int) := by omega
   clear hx hmi hmj
   go_wp2_with (go_at_call 120; refine (HC.out).mono ?_; rintro e' w' ⟨rfl, d', hs', hz', hx', hp'⟩; replace hs' := Lib.hid hs'; replace hx' := Lib.hid hx'; replace hp' := Lib.hid hp')
   go_roundw
   case rel => exact ⟨i, j - i, d', rfl, by rw [hji], hi0, by omega, hia, by omega, hs', hz', Lib.hid (fun x => by rw [hx'.out, rotS_right im hij, HX.out]), Lib.hid (permIn_trans _ _ _ a b hp.out hp'.out)⟩
   case measure => simp [intOf]; omega
end Go.Proofs.YtnheioehadldmaaGreat

/- THE WALK over slices.symMergeCmpFunc, at entries. -/
namespace Go.Proofs.YtnheioehadldmaaGreat
open Go.RowKit Go.Sort
set_option maxRecDepth 100000 in
set_option maxHeartbeats 6400000 in
theorem sm_symA (w0 : World) (B g cap : Nat) (cf : Sh → Sh → Int) (f : Nat) (cb : Array Value) (d : Array Sh) (a m b : Nat) (w : World)
  (eg : ∀ args w, (callFunc f args).run Tryz.prog w = .ok (.enter f args) w) (hcmp : CmpOkM Tryz.prog f cb cf w0 g) (hS : SWO (ltM cf)) (hs : SortM w0 B g cap 41 d w) (h1 : m = a + 1) (h2 : m < b) (hb : b ≤ d.size) (hsz : d.size ≤ 8000000) (hr : SortedIn (ltM cf) m b d) :
  Calls Tryz.prog 93 #[.slice (some ⟨g, 0, none⟩) d.size cap, .int .i64 a, .int .i64 m, .int .i64 b, .func (.func f) #[] cb] w fun e w' => e = .returned (.tuple #[]) ∧ ∃ d', SortM w0 B g cap 41 d' w' ∧ PermIn a b d d' ∧ SortedIn (ltM cf) a b d' := by
 have HM := Lib.hid (show SortedIn (ltM cf) (a + 1) b d ∧ m = a + 1 from ⟨by rw [← h1]; exact hr, h1⟩)
 have hm1 : a + 1 ≤ m := by omega
 have hm2 : m ≤ a + 1 := by omega
 clear h1
 have HS := Lib.hid hs
 have HC := Lib.hid hcmp
 have HW := Lib.hid hS
 have H2 := Lib.hid hr
 clear hs hcmp hS hr
 have hma : (((m : Int) - (a : Int)) == 1) = true := by rw [beq_iff_eq]; omega
 go_enter Tryz.func93, Tryz.ntmps93
 go_wp2_with fail
 clear hma
 go_loopw [10, 11] (fun u v W => ∃ (i j : Nat), u = .int .i64 i ∧ v = .int .i64 j ∧ m ≤ i ∧ i ≤ j ∧ j ≤ b ∧ Hid (SortM w0 B g cap 41 d W) ∧ Hid (∀ x, m ≤ x → x < i → ltM cf d[x]! d[a]! = true) ∧ Hid (∀ x, j ≤ x → x < b → ltM cf d[x]! d[a]! = false)) (fun u v _ => (intOf v - intOf u).toNat)
 case atStart => exact ⟨m, b, rfl, rfl, Nat.le_refl _, by omega, Nat.le_refl _, HS, Lib.hid (fun x h1 h2 => by omega), Lib.hid (fun x h1 h2 => by omega)⟩
 case round =>
  obtain ⟨i, j, rfl, rfl, hai, hij, hjb, he, hlo, hhi⟩ := hrel
  by_cases hlt : i < j
  ·have q1 : (0 : Int) ≤ ((i : Int) + (j : Int)) / 2 := by omega
   have q2 : ((i : Int) + (j : Int)) / 2 < (d.size : Int) := by omega
   have q3 : (((i : Int) + (j : Int)) / 2).toNat = (i + j) / 2 := by omega
   have q4 : (a : Int) < (d.size : Int) := by omega
   have HG := Lib.hid (fun (h : cf d[(i + j) / 2]! d[a]! < 0) => fun x (h1 : m ≤ x) (h2 : x < (i + j) / 2 + 1) => le_lt HW.out (srt_le HW.out H2.out h1 (show x ≤ (i + j) / 2 by omega) (by omega)) (ltM_t h))
   have HE := Lib.hid (fun (h : ¬ cf d[(i + j) / 2]! d[a]! < 0) => fun x (h1 : (i + j) / 2 ≤ x) (h2 : x < b) => HW.out.ntrans _ _ _ (srt_le HW.out H2.out (show m ≤ (i + j) / 2 by omega) h1 h2) (ltM_f h))
   obtain ⟨c10, c11, c12⟩ := he.out.cells (show (i + j) / 2 < d.size by omega)
   obtain ⟨c20, c21, c22⟩ := he.out.cells (show a < d.size by omega)
   have HX := Lib.hid (fun V (h : Ext wr V) => he.out.ext h)
   have HQ := Lib.hid (fun V (h : Ext wr V) => HC.out V (he.out.ext h).gr d[(i + j) / 2]! d[a]!)
   generalize cf d[(i + j) / 2]! d[a]! = z at *
   generalize d[(i + j) / 2]! = x1 at *
   generalize d[a]! = x2 at *
   have MK := Lib.hid (fun V (e : Ext wr V) => (⟨e.cell c10, e.cell c11, e.cell c12, e.cell c20, e.cell c21, e.cell c22, e⟩ : V.cell? ⟨g, ((i + j) / 2) * 3, none⟩ = some (.int .i64 x1.id) ∧ V.cell? ⟨g, ((i + j) / 2) * 3 + 1, none⟩ = some (.int .i64 x1.n) ∧ V.cell? ⟨g, ((i + j) / 2) * 3 + 2, none⟩ = some (.int .i64 x1.d) ∧ V.cell? ⟨g, a * 3, none⟩ = some (.int .i64 x2.id) ∧ V.cell? ⟨g, a * 3 + 1, none⟩ = some (.int .i64 x2.n) ∧ V.cell? ⟨g, a * 3 + 2, none⟩ = some (.int .i64 x2.d) ∧ Ext wr V))
   by_cases hz : z < 0
   ·have hg := Lib.hid (HG.out hz)
    clear HG HE
    clear c10 c11 c12 c20 c21 c22
    go_wp2_with fail
    go_region_held3 (fun V => V.cell? ⟨g, ((i + j) / 2) * 3, none⟩ = some (.int .i64 x1.id) ∧ V.cell? ⟨g, ((i + j) / 2) * 3 + 1, none⟩ = some (.int .i64 x1.n) ∧ V.cell? ⟨g, ((i + j) / 2) * 3 + 2, none⟩ = some (.int .i64 x1.d) ∧ V.cell? ⟨g, a * 3, none⟩ = some (.int .i64 x2.id) ∧ V.cell? ⟨g, a * 3 + 1, none⟩ = some (.int .i64 x2.n) ∧ V.cell? ⟨g, a * 3 + 2, none⟩ = some (.int .i64 x2.d) ∧ Ext wr V) ((exact MK.out _ (by solve_by_elim [X0, X1, X2, X3]))) ((refine (HQ.out _ (by solve_by_elim [X0, X1, X2, X3])).mono ?_; rintro e w' ⟨rfl, hb⟩; replace hb : Ext wr w' := Ext.trans (by solve_by_elim [X0, X1, X2, X3]) hb))
    have hN := Lib.hid (HX.out w' hb)
    clear HX HQ MK
    go_wp2_with fail
    go_roundw
    case rel => exact ⟨(i + j) / 2 + 1, j, congrArg (Value.int .i64) (by omega), rfl, by omega, by omega, hjb, hN, hg, hhi⟩
    case measure => simp [intOf]; omega
   ·have hg := Lib.hid (HE.out hz)
    clear HG HE
    clear c10 c11 c12 c20 c21 c22
    go_wp2_with fail
    go_region_held3 (fun V => V.cell? ⟨g, ((i + j) / 2) * 3, none⟩ = some (.int .i64 x1.id) ∧ V.cell? ⟨g, ((i + j) / 2) * 3 + 1, none⟩ = some (.int .i64 x1.n) ∧ V.cell? ⟨g, ((i + j) / 2) * 3 + 2, none⟩ = some (.int .i64 x1.d) ∧ V.cell? ⟨g, a * 3, none⟩ = some (.int .i64 x2.id) ∧ V.cell? ⟨g, a * 3 + 1, none⟩ = some (.int .i64 x2.n) ∧ V.cell? ⟨g, a * 3 + 2, none⟩ = some (.int .i64 x2.d) ∧ Ext wr V) ((exact MK.out _ (by solve_by_elim [X0, X1, X2, X3]))) ((refine (HQ.out _ (by solve_by_elim [X0, X1, X2, X3])).mono ?_; rintro e w' ⟨rfl, hb⟩; replace hb : Ext wr w' := Ext.trans (by solve_by_elim [X0, X1, X2, X3]) hb))
    have hN := Lib.hid (HX.out w' hb)
    clear HX HQ MK
    go_wp2_with fail
    go_roundw
    case rel => exact ⟨i, (i + j) / 2, rfl, congrArg (Value.int .i64) (by omega), hai, by omega, by omega, hN, hlo, hg⟩
    case measure => simp [intOf]; omega
  ·obtain rfl : i = j := by omega
   go_wp2_with fail
   go_loopw [13] (fun u W => ∃ (k : Nat) (e : Array Sh), u = .int .i64 k ∧ a ≤ k ∧ k ≤ i - 1 ∧ Hid (SortM w0 B g cap 41 e W) ∧ e.size = d.size ∧ Hid (∀ x, e[x]! = if a ≤ x ∧ x < k then d[x + 1]! else if x = k then d[a]! else d[x]!) ∧ Hid (PermIn a b d e)) (fun u _ => i - (intOf u).toNat)
   case atStart => exact ⟨a, d, rfl, Nat.le_refl _, by omega, he, rfl, Lib.hid (fun x => by rw [if_neg (by omega)]; split; (rename_i h; rw [h]); rfl), Lib.hid (permIn_refl _ _ _)⟩
   case round =>
    clear he
    obtain ⟨k, e, rfl, hak, hki, he, hes, hx, hp⟩ := hrel
    by_cases hlt : k < i - 1
    ·have q5 : (k : Int) < (i : Int) - 1 := by omega
     have q6 : (k : Int) + 1 < (d.size : Int) := by omega
     have q7 : ((k : Int) + 1).toNat = k + 1 := by omega
     have HXn := Lib.hid (shiftR_step (k := k) hes (by omega) hak hx.out)
     have HP := Lib.hid (permIn_trans _ _ _ a b hp.out (swp_permIn e a b k (k + 1) (by omega) (by omega) (by omega) (by omega) (by omega)))
     have HZ := Lib.hid (size_swp e k (k + 1))
     obtain ⟨c10, c11, c12⟩ := he.out.cells (show k < e.size by omega)
     obtain ⟨c20, c21, c22⟩ := he.out.cells (show k + 1 < e.size by omega)
     have f10 := he.out.frozen (k * 3)
     have f11 := he.out.frozen (k * 3 + 1)
     have f12 := he.out.frozen (k * 3 + 2)
     have f20 := he.out.frozen ((k + 1) * 3)
     have f21 := he.out.frozen ((k + 1) * 3 + 1)
     have f22 := he.out.frozen ((k + 1) * 3 + 2)
     have HN := Lib.hid ((he.out.swap (k) (k + 1)).drew)
     generalize e[k]! = x1 at *
     generalize e[k + 1]! = x2 at *
     have MKE := Lib.hid (fun V (e : Ext wr V) => (⟨e.cell c10, e.cell c11, e.cell c12, e.cell c20, e.cell c21, e.cell c22⟩ : V.cell? ⟨g, k * 3, none⟩ = some (.int .i64 x1.id) ∧ V.cell? ⟨g, k * 3 + 1, none⟩ = some (.int .i64 x1.n) ∧ V.cell? ⟨g, k * 3 + 2, none⟩ = some (.int .i64 x1.d) ∧ V.cell? ⟨g, (k + 1) * 3, none⟩ = some (.int .i64 x2.id) ∧ V.cell? ⟨g, (k + 1) * 3 + 1, none⟩ = some (.int .i64 x2.n) ∧ V.cell? ⟨g, (k + 1) * 3 + 2, none⟩ = some (.int .i64 x2.d)))
     have wk : IntKind.i64.wrap ((k : Int) + 1) = (k : Int) + 1 := by rw [IntKind.wrap_i64]; omega
     have zk : (0 : Int) ≤ (k : Int) + 1 := by omega
     have bk : (k : Int) < (d.size : Int) := by omega
     go_upto_region 11 with (fail)
     refine AnyE.start (S := (fun V => V.cell? ⟨g, k * 3, none⟩ = some (.int .i64 x1.id) ∧ V.cell? ⟨g, k * 3 + 1, none⟩ = some (.int .i64 x1.n) ∧ V.cell? ⟨g, k * 3 + 2, none⟩ = some (.int .i64 x1.d) ∧ V.cell? ⟨g, (k + 1) * 3, none⟩ = some (.int .i64 x2.id) ∧ V.cell? ⟨g, (k + 1) * 3 + 1, none⟩ = some (.int .i64 x2.n) ∧ V.cell? ⟨g, (k + 1) * 3 + 2, none⟩ = some (.int .i64 x2.d))) (E := 15) (by kernel_rfl) ?hs1 (fun hHeld => ?go1)
     case hs1 => (exact MKE.out _ (by solve_by_elim [X0, X1, X2, X3]))
     refine AnyE.takeP (i := 0) (oi := ⟨_, _, _, _, _, _⟩) (v := ?v2) rfl (by kernel_rfl) (by kernel_rfl) (by kernel_rfl) (fun _ _ _ h => h) rfl (Or.inl ⟨rfl, ?hy2⟩) (fun _ => hHeld) ?_
     case hy2 => (intro w _; go_simp <;> rfl)
     (try simp only [PU])
     refine AnyE.takeP (i := 1) (oi := ⟨_, _, _, _, _, _⟩) (v := ?v3) rfl (by kernel_rfl) (by kernel_rfl) (by kernel_rfl) (fun _ _ _ h => h) rfl (Or.inl ⟨rfl, ?hy3⟩) (fun _ => hHeld) ?_
     case hy3 => (intro w _; go_simp <;> rfl)
     (try simp only [PU])
     refine AnyE.takeP (i := 2) (oi := ⟨_, _, _, _, _, _⟩) (v := ?v4) rfl (by kernel_rfl) (by kernel_rfl) (by kernel_rfl) (fun _ _ _ h => h) rfl (Or.inl ⟨rfl, ?hy4⟩) (fun _ => hHeld) ?_
     case hy4 => (intro w _; go_simp <;> rfl)
     (try simp only [PU])
     refine AnyE.takeP (i := 3) (oi := ⟨_, _, _, _, _, _⟩) (v := ?v5) rfl (by kernel_rfl) (by kernel_rfl) (by kernel_rfl) (fun _ _ _ h => h) rfl (Or.inl ⟨rfl, ?hy5⟩) (fun _ => hHeld) ?_
     case hy5 => (intro w _; go_simp <;> rfl)
     (try simp only [PU])
     refine AnyE.takeP (i := 4) (oi := ⟨_, _, _, _, _, _⟩) (v := ?v6) rfl (by kernel_rfl) (by kernel_rfl) (by kernel_rfl) (fun _ _ _ h => h) rfl (Or.inl ⟨rfl, ?hy6⟩) (fun _ => hHeld) ?_
     case hy6 => (intro w _; go_simp <;> first | with_reducible rfl | rw [if_neg (by omega)] | rw [if_pos (by omega)])
     (try simp only [PU])
     refine AnyE.takeP (i := 5) (oi := ⟨_, _, _, _, _, _⟩) (v := ?v7) rfl (by kernel_rfl) (by kernel_rfl) (by kernel_rfl) (fun _ _ _ h => h) rfl (Or.inl ⟨rfl, ?hy7⟩) (fun _ => hHeld) ?_
     case hy7 => (intro w _; go_simp <;> rfl)
     (try simp only [PU])
     refine AnyE.takeP (i := 6) (oi := ⟨_, _, _, _, _, _⟩) (v := ?v8) rfl (by kernel_rfl) (by kernel_rfl) (by kernel_rfl) (fun _ _ _ h => h) rfl (Or.inl ⟨rfl, ?hy8⟩) (fun _ => hHeld) ?_
     case hy8 => (intro w _; go_simp <;> rfl)
     (try simp only [PU])
     refine AnyE.takeP (i := 7) (oi := ⟨_, _, _, _, _, _⟩) (v := ?v9) rfl (by kernel_rfl) (by kernel_rfl) (by kernel_rfl) (fun _ _ _ h => h) rfl (Or.inl ⟨rfl, ?hy9⟩) (fun _ => hHeld) ?_
     case hy9 => (intro w _; go_simp <;> first | with_reducible rfl | rw [if_neg (by omega)] | rw [if_pos (by omega)])
     (try simp only [PU])
     refine AnyE.takeP (i := 8) (oi := ⟨_, _, _, _, _, _⟩) (v := ?v10) rfl (by kernel_rfl) (by kernel_rfl) (by kernel_rfl) (fun _ _ _ h => h) rfl (Or.inl ⟨rfl, ?hy10⟩) (fun _ => hHeld) ?_
     case hy10 => (intro w _; go_simp <;> first | with_reducible rfl | rw [if_neg (by omega)] | rw [if_pos (by omega)])
     (try simp only [PU])
     refine AnyE.take (i := 9) (oi := ⟨_, _, _, _, _, _⟩) (v := ?v11) rfl (by kernel_rfl) (by kernel_rfl) (by kernel_rfl) (fun _ _ _ h => h) (by kernel_rfl) rfl (by kernel_rfl) (Or.inl ⟨rfl, ?hy11⟩) hHeld ?_
     case hy11 => (intro w hSw; (try dsimp only at hSw); go_simp <;> first | with_reducible rfl | rw [if_neg (by omega)] | rw [if_pos (by omega)])
     (try simp only [PU])
     refine AnyE.takeP (i := 10) (oi := ⟨_, _, _, _, _, _⟩) (v := ?v12) rfl (by kernel_rfl) (by kernel_rfl) (by kernel_rfl) (fun _ _ _ h => h) rfl (Or.inl ⟨rfl, ?hy12⟩) (fun _ => hHeld) ?_
     case hy12 => (intro w _; go_simp <;> rfl)
     (try simp only [PU])
     refine AnyE.takeP (i := 11) (oi := ⟨_, _, _, _, _, _⟩) (v := ?v13) rfl (by kernel_rfl) (by kernel_rfl) (by kernel_rfl) (fun _ _ _ h => h) rfl (Or.inl ⟨rfl, ?hy13⟩) (fun _ => hHeld) ?_
     case hy13 => (intro w _; go_simp <;> rfl)
     (try simp only [PU])
     refine AnyE.takeP (i := 12) (oi := ⟨_, _, _, _, _, _⟩) (v := ?v14) rfl (by kernel_rfl) (by kernel_rfl) (by kernel_rfl) (fun _ _ _ h => h) rfl (Or.inl ⟨rfl, ?hy14⟩) (fun _ => hHeld) ?_
     case hy14 => (intro w _; go_simp <;> first | with_reducible rfl | rw [if_neg (by omega)] | rw [if_pos (by omega)])
     (try simp only [PU])
     refine AnyE.take (i := 13) (oi := ⟨_, _, _, _, _, _⟩) (v := ?v15) rfl (by kernel_rfl) (by kernel_rfl) (by kernel_rfl) (fun _ _ _ h => h) (by kernel_rfl) rfl (by kernel_rfl) (Or.inl ⟨rfl, ?hy15⟩) hHeld ?_
     case hy15 => (intro w hSw; (try dsimp only at hSw); go_simp <;> first | with_reducible rfl | rw [if_neg (by omega)] | rw [if_pos (by omega)])
     (try simp only [PU])
     refine AnyE.takeP (i := 14) (oi := ⟨_, _, _, _, _, _⟩) (v := ?v16) rfl (by kernel_rfl) (by kernel_rfl) (by kernel_rfl) (fun _ _ _ h => h) rfl (Or.inl ⟨rfl, ?hy16⟩) (fun _ => hHeld) ?_
     case hy16 => (intro w _; go_simp <;> first | with_reducible rfl | rw [if_neg (by omega)] | rw [if_pos (by omega)])
     (try simp only [PU])
     refine AnyE.ready (rs := [15]) (by kernel_rfl) (by simp) ?_
     refine AllE.cons (o := ⟨_, _, _, _, _, _⟩) rfl (fun K hK => ?step17x0) ?more17x0
     case more17x0 => exact AllE.nil
     go_simp
     refine hK.out _ _ ?hS17x0 (fun H17 => ?_)
     case hS17x0 => first | (intro h; exact absurd h (by decide)) | (intro h; simp at h)
     clear hK K
     clear hHeld
     refine AnyE.ready (rs := [16]) (by kernel_rfl) (by simp) ?_
     refine AllE.cons (o := ⟨_, _, _, _, _, _⟩) rfl (fun K hK => ?step18x0) ?more18x0
     case more18x0 => exact AllE.nil
     go_simp
     refine hK.out _ _ ?hS18x0 (fun H18 => ?_)
     case hS18x0 => first | (intro h; exact absurd h (by decide)) | (intro h; simp at h)
     clear hK K
     clear H17
     (try simp only [PU])
     refine AnyE.ready (rs := [17]) (by kernel_rfl) (by simp) ?_
     refine AllE.cons (o := ⟨_, _, _, _, _, _⟩) rfl (fun K hK => ?step19x0) ?more19x0
     case more19x0 => exact AllE.nil
     go_simp
     refine hK.out _ _ ?hS19x0 (fun H19 => ?_)
     case hS19x0 => first | (intro h; exact absurd h (by decide)) | (intro h; simp at h)
     clear hK K
     clear H18
     refine AnyE.done (by kernel_rfl) ?_ _
     clear H19
     go_wp2_with fail
     go_roundw
     case rel => exact ⟨k + 1, swp e k (k + 1), by go_num, by omega, by omega, HN, by rw [HZ.out]; exact hes, HXn, HP⟩
     case measure => simp [intOf]; omega
    ·obtain rfl : k = i - 1 := by omega
     have q5 : ¬ (((i - 1 : Nat) : Int) < (i : Int) - 1) := by omega
     have HE := Lib.hid (ins_left HW.out (show a + 1 ≤ i by omega) hjb HM.out.1 (by rw [← HM.out.2]; exact hlo.out) hhi.out hx.out)
     go_wp2
     (try simp only [Exit.inBlock, Exit.then])
     refine bodyPost_ret (results_none rfl _ _ _) rfl ?_
     exact ⟨rfl, e, he.out, hp.out, HE.out⟩
set_option maxRecDepth 100000 in
set_option maxHeartbeats 6400000 in
theorem sm_symB (w0 : World) (B g cap : Nat) (cf : Sh → Sh → Int) (f : Nat) (cb : Array Value) (d : Array Sh) (a m b : Nat) (w : World)
  (eg : ∀ args w, (callFunc f args).run Tryz.prog w = .ok (.enter f args) w) (hcmp : CmpOkM Tryz.prog f cb cf w0 g) (hS : SWO (ltM cf)) (hs : SortM w0 B g cap 41 d w) (h0 : m ≠ a + 1) (h1 : a < m) (h2 : b = m + 1) (hb : b ≤ d.size) (hsz : d.size ≤ 8000000) (hl : SortedIn (ltM cf) a m d) :
  Calls Tryz.prog 93 #[.slice (some ⟨g, 0, none⟩) d.size cap, .int .i64 a, .int .i64 m, .int .i64 b, .func (.func f) #[] cb] w fun e w' => e = .returned (.tuple #[]) ∧ ∃ d', SortM w0 B g cap 41 d' w' ∧ PermIn a b d d' ∧ SortedIn (ltM cf) a b d' := by
 have HM := Lib.hid h2
 have hm1 : m + 1 ≤ b := by omega
 have hm2 : b ≤ m + 1 := by omega
 have hm3 : ¬ (m ≤ a + 1) := by omega
 clear h2 h0
 have HS := Lib.hid hs
 have HC := Lib.hid hcmp
 have HW := Lib.hid hS
 have H1 := Lib.hid hl
 clear hs hcmp hS hl
 have hma : (((m : Int) - (a : Int)) == 1) = false := by rw [beq_eq_false_iff_ne]; omega
 have hmb' : (((b : Int) - (m : Int)) == 1) = true := by rw [beq_iff_eq]; omega
 go_enter Tryz.func93, Tryz.ntmps93
 go_wp2_with fail
 clear hma hmb'
 go_loopw [14, 15] (fun u v W => ∃ (i j : Nat), u = .int .i64 i ∧ v = .int .i64 j ∧ a ≤ i ∧ i ≤ j ∧ j ≤ m ∧ Hid (SortM w0 B g cap 41 d W) ∧ Hid (∀ x, a ≤ x → x < i → ltM cf d[m]! d[x]! = false) ∧ Hid (∀ x, j ≤ x → x < m → ltM cf d[m]! d[x]! = true)) (fun u v _ => (intOf v - intOf u).toNat)
 case atStart => exact ⟨a, m, rfl, rfl, Nat.le_refl _, by omega, Nat.le_refl _, HS, Lib.hid (fun x h1 h2 => by omega), Lib.hid (fun x h1 h2 => by omega)⟩
 case round =>
  obtain ⟨i, j, rfl, rfl, hai, hij, hjb, he, hlo, hhi⟩ := hrel
  by_cases hlt : i < j
  ·have q1 : (0 : Int) ≤ ((i : Int) + (j : Int)) / 2 := by omega
   have q2 : ((i : Int) + (j : Int)) / 2 < (d.size : Int) := by omega
   have q3 : (((i : Int) + (j : Int)) / 2).toNat = (i + j) / 2 := by omega
   have q4 : (m : Int) < (d.size : Int) := by omega
   have HG := Lib.hid (fun (h : cf d[m]! d[(i + j) / 2]! < 0) => fun x (h1 : (i + j) / 2 ≤ x) (h2 : x < m) => lt_le HW.out (ltM_t h) (srt_le HW.out H1.out (show a ≤ (i + j) / 2 by omega) h1 h2))
   have HE := Lib.hid (fun (h : ¬ cf d[m]! d[(i + j) / 2]! < 0) => fun x (h1 : a ≤ x) (h2 : x < (i + j) / 2 + 1) => HW.out.ntrans _ _ _ (ltM_f h) (srt_le HW.out H1.out h1 (show x ≤ (i + j) / 2 by omega) (by omega)))
   obtain ⟨c10, c11, c12⟩ := he.out.cells (show m < d.size by omega)
   obtain ⟨c20, c21, c22⟩ := he.out.cells (show (i + j) / 2 < d.size by omega)
   have HX := Lib.hid (fun V (h : Ext wr V) => he.out.ext h)
   have HQ := Lib.hid (fun V (h : Ext wr V) => HC.out V (he.out.ext h).gr d[m]! d[(i + j) / 2]!)
   generalize cf d[m]! d[(i + j) / 2]! = z at *
   generalize d[m]! = x1 at *
   generalize d[(i + j) / 2]! = x2 at *
   have MK := Lib.hid (fun V (e : Ext wr V) => (⟨e.cell c10, e.cell c11, e.cell c12, e.cell c20, e.cell c21, e.cell c22, e⟩ : V.cell? ⟨g, m * 3, none⟩ = some (.int .i64 x1.id) ∧ V.cell? ⟨g, m * 3 + 1, none⟩ = some (.int .i64 x1.n) ∧ V.cell? ⟨g, m * 3 + 2, none⟩ = some (.int .i64 x1.d) ∧ V.cell? ⟨g, ((i + j) / 2) * 3, none⟩ = some (.int .i64 x2.id) ∧ V.cell? ⟨g, ((i + j) / 2) * 3 + 1, none⟩ = some (.int .i64 x2.n) ∧ V.cell? ⟨g, ((i + j) / 2) * 3 + 2, none⟩ = some (.int .i64 x2.d) ∧ Ext wr V))
   by_cases hz : z < 0
   ·have hg := Lib.hid (HG.out hz)
    clear HG HE
    clear c10 c11 c12 c20 c21 c22
    go_wp2_with fail
    go_region_held3 (fun V => V.cell? ⟨g, m * 3, none⟩ = some (.int .i64 x1.id) ∧ V.cell? ⟨g, m * 3 + 1, none⟩ = some (.int .i64 x1.n) ∧ V.cell? ⟨g, m * 3 + 2, none⟩ = some (.int .i64 x1.d) ∧ V.cell? ⟨g, ((i + j) / 2) * 3, none⟩ = some (.int .i64 x2.id) ∧ V.cell? ⟨g, ((i + j) / 2) * 3 + 1, none⟩ = some (.int .i64 x2.n) ∧ V.cell? ⟨g, ((i + j) / 2) * 3 + 2, none⟩ = some (.int .i64 x2.d) ∧ Ext wr V) ((exact MK.out _ (by solve_by_elim [X0, X1, X2, X3]))) ((refine (HQ.out _ (by solve_by_elim [X0, X1, X2, X3])).mono ?_; rintro e w' ⟨rfl, hb⟩; replace hb : Ext wr w' := Ext.trans (by solve_by_elim [X0, X1, X2, X3]) hb))
    have hN := Lib.hid (HX.out w' hb)
    clear HX HQ MK
    go_wp2_with fail
    go_roundw
    case rel => exact ⟨i, (i + j) / 2, rfl, congrArg (Value.int .i64) (by omega), hai, by omega, by omega, hN, hlo, hg⟩
    case measure => simp [intOf]; omega
   ·have hg := Lib.hid (HE.out hz)
    have hz' : decide (z < 0) = false := decide_eq_false hz
    clear HG HE hz
    clear c10 c11 c12 c20 c21 c22
    go_wp2_with fail
    go_region_held3 (fun V => V.cell? ⟨g, m * 3, none⟩ = some (.int .i64 x1.id) ∧ V.cell? ⟨g, m * 3 + 1, none⟩ = some (.int .i64 x1.n) ∧ V.cell? ⟨g, m * 3 + 2, none⟩ = some (.int .i64 x1.d) ∧ V.cell? ⟨g, ((i + j) / 2) * 3, none⟩ = some (.int .i64 x2.id) ∧ V.cell? ⟨g, ((i + j) / 2) * 3 + 1, none⟩ = some (.int .i64 x2.n) ∧ V.cell? ⟨g, ((i + j) / 2) * 3 + 2, none⟩ = some (.int .i64 x2.d) ∧ Ext wr V) ((exact MK.out _ (by solve_by_elim [X0, X1, X2, X3]))) ((refine (HQ.out _ (by solve_by_elim [X0, X1, X2, X3])).mono ?_; rintro e w' ⟨rfl, hb⟩; replace hb : Ext wr w' := Ext.trans (by solve_by_elim [X0, X1, X2, X3]) hb))
    have hN := Lib.hid (HX.out w' hb)
    clear HX HQ MK
    go_wp2_with fail
    go_roundw
    case rel => exact ⟨(i + j) / 2 + 1, j, congrArg (Value.int .i64) (by omega), rfl, by omega, by omega, hjb, hN, hg, hhi⟩
    case measure => simp [intOf]; omega
  ·obtain rfl : i = j := by omega
   go_wp2_with fail
   go_loopw [17] (fun u W => ∃ (k : Nat) (e : Array Sh), u = .int .i64 k ∧ i ≤ k ∧ k ≤ m ∧ Hid (SortM w0 B g cap 41 e W) ∧ e.size = d.size ∧ Hid (∀ x, e[x]! = if k < x ∧ x ≤ m then d[x - 1]! else if x = k then d[m]! else d[x]!) ∧ Hid (PermIn a b d e)) (fun u _ => (intOf u).toNat)
   case atStart => exact ⟨m, d, rfl, by omega, Nat.le_refl _, he, rfl, Lib.hid (fun x => by rw [if_neg (by omega)]; split; (rename_i h; rw [h]); rfl), Lib.hid (permIn_refl _ _ _)⟩
   case round =>
    clear he
    obtain ⟨k, e, rfl, hak, hki, he, hes, hx, hp⟩ := hrel
    by_cases hlt : i < k
    ·obtain ⟨kp, rfl⟩ : ∃ kp, k = kp + 1 := ⟨k - 1, by omega⟩
     have q5 : (i : Int) < (kp : Int) + 1 := by omega
     have q6 : (kp : Int) + 1 < (d.size : Int) := by omega
     have q7 : ((kp : Int) + 1).toNat = kp + 1 := by omega
     have q8 : (0 : Int) ≤ (kp : Int) + 1 := by omega
     have q9 : (kp : Int) < (d.size : Int) := by omega
     have hwp : IntKind.i64.wrap (kp : Int) = (kp : Int) := by rw [IntKind.wrap_i64]; omega
     have HXn := Lib.hid (shiftL_step (k := kp) hes (by omega) hki hx.out)
     have HP := Lib.hid (permIn_trans _ _ _ a b hp.out (swp_permIn e a b (kp + 1) kp (by omega) (by omega) (by omega) (by omega) (by omega)))
     have HZ := Lib.hid (size_swp e (kp + 1) kp)
     obtain ⟨c10, c11, c12⟩ := he.out.cells (show kp + 1 < e.size by omega)
     obtain ⟨c20, c21, c22⟩ := he.out.cells (show kp < e.size by omega)
     have f10 := he.out.frozen ((kp + 1) * 3)
     have f11 := he.out.frozen ((kp + 1) * 3 + 1)
     have f12 := he.out.frozen ((kp + 1) * 3 + 2)
     have f20 := he.out.frozen (kp * 3)
     have f21 := he.out.frozen (kp * 3 + 1)
     have f22 := he.out.frozen (kp * 3 + 2)
     have HN := Lib.hid ((he.out.swap (kp + 1) (kp)).drew)
     generalize e[kp + 1]! = x1 at *
     generalize e[kp]! = x2 at *
     have MKE := Lib.hid (fun V (e : Ext wr V) => (⟨e.cell c10, e.cell c11, e.cell c12, e.cell c20, e.cell c21, e.cell c22⟩ : V.cell? ⟨g, (kp + 1) * 3, none⟩ = some (.int .i64 x1.id) ∧ V.cell? ⟨g, (kp + 1) * 3 + 1, none⟩ = some (.int .i64 x1.n) ∧ V.cell? ⟨g, (kp + 1) * 3 + 2, none⟩ = some (.int .i64 x1.d) ∧ V.cell? ⟨g, kp * 3, none⟩ = some (.int .i64 x2.id) ∧ V.cell? ⟨g, kp * 3 + 1, none⟩ = some (.int .i64 x2.n) ∧ V.cell? ⟨g, kp * 3 + 2, none⟩ = some (.int .i64 x2.d)))
     go_upto_region 23 with (fail)
     refine AnyE.start (S := (fun V => V.cell? ⟨g, (kp + 1) * 3, none⟩ = some (.int .i64 x1.id) ∧ V.cell? ⟨g, (kp + 1) * 3 + 1, none⟩ = some (.int .i64 x1.n) ∧ V.cell? ⟨g, (kp + 1) * 3 + 2, none⟩ = some (.int .i64 x1.d) ∧ V.cell? ⟨g, kp * 3, none⟩ = some (.int .i64 x2.id) ∧ V.cell? ⟨g, kp * 3 + 1, none⟩ = some (.int .i64 x2.n) ∧ V.cell? ⟨g, kp * 3 + 2, none⟩ = some (.int .i64 x2.d))) (E := 15) (by kernel_rfl) ?hs20 (fun hHeld => ?go20)
     case hs20 => (exact MKE.out _ (by solve_by_elim [X0, X1, X2, X3]))
     refine AnyE.takeP (i := 0) (oi := ⟨_, _, _, _, _, _⟩) (v := ?v21) rfl (by kernel_rfl) (by kernel_rfl) (by kernel_rfl) (fun _ _ _ h => h) rfl (Or.inl ⟨rfl, ?hy21⟩) (fun _ => hHeld) ?_
     case hy21 => (intro w _; go_simp <;> rfl)
     (try simp only [PU])
     refine AnyE.takeP (i := 1) (oi := ⟨_, _, _, _, _, _⟩) (v := ?v22) rfl (by kernel_rfl) (by kernel_rfl) (by kernel_rfl) (fun _ _ _ h => h) rfl (Or.inl ⟨rfl, ?hy22⟩) (fun _ => hHeld) ?_
     case hy22 => (intro w _; go_simp <;> rfl)
     (try simp only [PU])
     refine AnyE.takeP (i := 2) (oi := ⟨_, _, _, _, _, _⟩) (v := ?v23) rfl (by kernel_rfl) (by kernel_rfl) (by kernel_rfl) (fun _ _ _ h => h) rfl (Or.inl ⟨rfl, ?hy23⟩) (fun _ => hHeld) ?_
     case hy23 => (intro w _; go_simp <;> rfl)
     (try simp only [PU])
     refine AnyE.takeP (i := 3) (oi := ⟨_, _, _, _, _, _⟩) (v := ?v24) rfl (by kernel_rfl) (by kernel_rfl) (by kernel_rfl) (fun _ _ _ h => h) rfl (Or.inl ⟨rfl, ?hy24⟩) (fun _ => hHeld) ?_
     case hy24 => (intro w _; go_simp <;> rfl)
     (try simp only [PU])
     refine AnyE.takeP (i := 4) (oi := ⟨_, _, _, _, _, _⟩) (v := ?v25) rfl (by kernel_rfl) (by kernel_rfl) (by kernel_rfl) (fun _ _ _ h => h) rfl (Or.inl ⟨rfl, ?hy25⟩) (fun _ => hHeld) ?_
     case hy25 => (intro w _; go_simp <;> first | with_reducible rfl | rw [if_neg (by omega)] | rw [if_pos (by omega)])
     (try simp only [PU])
     refine AnyE.takeP (i := 5) (oi := ⟨_, _, _, _, _, _⟩) (v := ?v26) rfl (by kernel_rfl) (by kernel_rfl) (by kernel_rfl) (fun _ _ _ h => h) rfl (Or.inl ⟨rfl, ?hy26⟩) (fun _ => hHeld) ?_
     case hy26 => (intro w _; go_simp <;> rfl)
     (try simp only [PU])
     refine AnyE.takeP (i := 6) (oi := ⟨_, _, _, _, _, _⟩) (v := ?v27) rfl (by kernel_rfl) (by kernel_rfl) (by kernel_rfl) (fun _ _ _ h => h) rfl (Or.inl ⟨rfl, ?hy27⟩) (fun _ => hHeld) ?_
     case hy27 => (intro w _; go_simp <;> rfl)
     (try simp only [PU])
     refine AnyE.takeP (i := 7) (oi := ⟨_, _, _, _, _, _⟩) (v := ?v28) rfl (by kernel_rfl) (by kernel_rfl) (by kernel_rfl) (fun _ _ _ h => h) rfl (Or.inl ⟨rfl, ?hy28⟩) (fun _ => hHeld) ?_
     case hy28 => (intro w _; go_simp <;> first | with_reducible rfl | rw [if_neg (by omega)] | rw [if_pos (by omega)])
     (try simp only [PU])
     refine AnyE.takeP (i := 8) (oi := ⟨_, _, _, _, _, _⟩) (v := ?v29) rfl (by kernel_rfl) (by kernel_rfl) (by kernel_rfl) (fun _ _ _ h => h) rfl (Or.inl ⟨rfl, ?hy29⟩) (fun _ => hHeld) ?_
     case hy29 => (intro w _; go_simp <;> first | with_reducible rfl | rw [if_neg (by omega)] | rw [if_pos (by omega)])
     (try simp only [PU])
     refine AnyE.take (i := 9) (oi := ⟨_, _, _, _, _, _⟩) (v := ?v30) rfl (by kernel_rfl) (by kernel_rfl) (by kernel_rfl) (fun _ _ _ h => h) (by kernel_rfl) rfl (by kernel_rfl) (Or.inl ⟨rfl, ?hy30⟩) hHeld ?_
     case hy30 => (intro w hSw; (try dsimp only at hSw); go_simp <;> first | with_reducible rfl | rw [if_neg (by omega)] | rw [if_pos (by omega)])
     (try simp only [PU])
     refine AnyE.takeP (i := 10) (oi := ⟨_, _, _, _, _, _⟩) (v := ?v31) rfl (by kernel_rfl) (by kernel_rfl) (by kernel_rfl) (fun _ _ _ h => h) rfl (Or.inl ⟨rfl, ?hy31⟩) (fun _ => hHeld) ?_
     case hy31 => (intro w _; go_simp <;> rfl)
     (try simp only [PU])
     refine AnyE.takeP (i := 11) (oi := ⟨_, _, _, _, _, _⟩) (v := ?v32) rfl (by kernel_rfl) (by kernel_rfl) (by kernel_rfl) (fun _ _ _ h => h) rfl (Or.inl ⟨rfl, ?hy32⟩) (fun _ => hHeld) ?_
     case hy32 => (intro w _; go_simp <;> rfl)
     (try simp only [PU])
     refine AnyE.takeP (i := 12) (oi := ⟨_, _, _, _, _, _⟩) (v := ?v33) rfl (by kernel_rfl) (by kernel_rfl) (by kernel_rfl) (fun _ _ _ h => h) rfl (Or.inl ⟨rfl, ?hy33⟩) (fun _ => hHeld) ?_
     case hy33 => (intro w _; go_simp <;> first | with_reducible rfl | rw [if_neg (by omega)] | rw [if_pos (by omega)])
     (try simp only [PU])
     refine AnyE.take (i := 13) (oi := ⟨_, _, _, _, _, _⟩) (v := ?v34) rfl (by kernel_rfl) (by kernel_rfl) (by kernel_rfl) (fun _ _ _ h => h) (by kernel_rfl) rfl (by kernel_rfl) (Or.inl ⟨rfl, ?hy34⟩) hHeld ?_
     case hy34 => (intro w hSw; (try dsimp only at hSw); go_simp <;> first | with_reducible rfl | rw [if_neg (by omega)] | rw [if_pos (by omega)])
     (try simp only [PU])
     refine AnyE.takeP (i := 14) (oi := ⟨_, _, _, _, _, _⟩) (v := ?v35) rfl (by kernel_rfl) (by kernel_rfl) (by kernel_rfl) (fun _ _ _ h => h) rfl (Or.inl ⟨rfl, ?hy35⟩) (fun _ => hHeld) ?_
     case hy35 => (intro w _; go_simp <;> first | with_reducible rfl | rw [if_neg (by omega)] | rw [if_pos (by omega)])
     (try simp only [PU])
     refine AnyE.ready (rs := [15]) (by kernel_rfl) (by simp) ?_
     refine AllE.cons (o := ⟨_, _, _, _, _, _⟩) rfl (fun K hK => ?step36x0) ?more36x0
     case more36x0 => exact AllE.nil
     go_simp
     refine hK.out _ _ ?hS36x0 (fun H36 => ?_)
     case hS36x0 => first | (intro h; exact absurd h (by decide)) | (intro h; simp at h)
     clear hK K
     clear hHeld
     refine AnyE.ready (rs := [16]) (by kernel_rfl) (by simp) ?_
     refine AllE.cons (o := ⟨_, _, _, _, _, _⟩) rfl (fun K hK => ?step37x0) ?more37x0
     case more37x0 => exact AllE.nil
     go_simp
     refine hK.out _ _ ?hS37x0 (fun H37 => ?_)
     case hS37x0 => first | (intro h; exact absurd h (by decide)) | (intro h; simp at h)
     clear hK K
     clear H36
     (try simp only [PU])
     refine AnyE.ready (rs := [17]) (by kernel_rfl) (by simp) ?_
     refine AllE.cons (o := ⟨_, _, _, _, _, _⟩) rfl (fun K hK => ?step38x0) ?more38x0
     case more38x0 => exact AllE.nil
     go_simp
     refine hK.out _ _ ?hS38x0 (fun H38 => ?_)
     case hS38x0 => first | (intro h; exact absurd h (by decide)) | (intro h; simp at h)
     clear hK K
     clear H37
     refine AnyE.done (by kernel_rfl) ?_ _
     clear H38
     go_wp2_with fail
     go_roundw
     case rel => exact ⟨kp, swp e (kp + 1) kp, by first | rfl | go_num, by omega, by omega, HN, by rw [HZ.out]; exact hes, HXn, HP⟩
     case measure => simp [intOf]
    ·obtain rfl : k = i := by omega
     have HE := Lib.hid (show SortedIn (ltM cf) a b e by rw [HM.out]; exact ins_right HW.out hai hjb H1.out hlo.out hhi.out hx.out)
     go_wp2
     (try simp only [Exit.inBlock, Exit.then])
     refine bodyPost_ret (results_none rfl _ _ _) rfl ?_
     exact ⟨rfl, e, he.out, hp.out, HE.out⟩
end Go.Proofs.YtnheioehadldmaaGreat
