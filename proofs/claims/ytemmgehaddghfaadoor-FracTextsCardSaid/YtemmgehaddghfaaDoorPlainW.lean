/- PLAIN: numbers of fourteen digits in base 1000. No program. -/
import Derived.Test.YtemmgehaddghfaaDoorPlainA
namespace Go.Proofs.YtemmgehaddghfaaDoor

/-- the first n digits -/
def valN : Nat → (Nat → Nat) → Nat
  | 0, _ => 0
  | n + 1, f => valN n f + f n * 1000 ^ n
theorem valW_exists (f : Nat → Nat) : ∃ v, ∀ n, n = 14 → v = valN n f := ⟨valN 14 f, fun n h => by rw [h]⟩
/-- the number (closed to unfolding: its powers are great) -/
noncomputable def valW (f : Nat → Nat) : Nat := Classical.choose (valW_exists f)
theorem valW_def (f : Nat → Nat) {n : Nat} (h : n = 14) : valW f = valN n f := Classical.choose_spec (valW_exists f) n h
/-- digits -/
def SmallW (f : Nat → Nat) : Prop := ∀ i, f i < 1000
def updW (f : Nat → Nat) (k v : Nat) : Nat → Nat := fun i => if i = k then v else f i
theorem updW_at (f : Nat → Nat) (k v : Nat) : updW f k v k = v := if_pos rfl
theorem updW_ne (f : Nat → Nat) {k i : Nat} (v : Nat) (h : i ≠ k) : updW f k v i = f i := if_neg h
theorem smallW_upd {f : Nat → Nat} {k v : Nat} (h : SmallW f) (hv : v < 1000) : SmallW (updW f k v) := by
  intro i; unfold updW; split
  · exact hv
  · exact h i
theorem valN_upd_ge (f : Nat → Nat) (k v : Nat) : ∀ n, n ≤ k → valN n (updW f k v) = valN n f
  | 0, _ => rfl
  | n + 1, h => by
    unfold valN
    rw [valN_upd_ge f k v n (by omega), updW_ne f v (by omega)]
theorem valN_upd (f : Nat → Nat) (k v : Nat) : ∀ n, k < n → valN n (updW f k v) + f k * 1000 ^ k = valN n f + v * 1000 ^ k
  | 0, h => absurd h (by omega)
  | n + 1, h => by
    unfold valN
    by_cases e : k = n
    · subst e
      rw [valN_upd_ge f k v k (Nat.le_refl _), updW_at]; omega
    · rw [updW_ne f v (show n ≠ k from fun q => e q.symm)]
      have := valN_upd f k v n (by omega)
      omega
theorem valW_upd (f : Nat → Nat) (k v : Nat) (h : k < 14) : valW (updW f k v) + f k * 1000 ^ k = valW f + v * 1000 ^ k := by
  obtain ⟨n, hn⟩ : ∃ n : Nat, n = 14 := ⟨_, rfl⟩
  rw [valW_def _ hn, valW_def _ hn]; exact valN_upd f k v n (by omega)
theorem valN_zero : ∀ n, valN n (fun _ => 0) = 0
  | 0 => rfl
  | n + 1 => by unfold valN; rw [valN_zero n]; simp
theorem valN_lt {f : Nat → Nat} (h : SmallW f) : ∀ n, valN n f < 1000 ^ n
  | 0 => by simp [valN]
  | n + 1 => by
    unfold valN
    have h1 := valN_lt h n
    have h2 := h n
    have h3 : f n * 1000 ^ n ≤ 999 * 1000 ^ n := Nat.mul_le_mul_right _ (by omega)
    rw [Nat.pow_succ]; omega
theorem pow_big {k : Nat} (h : 14 ≤ k) : 1000000000000000000000000000000000000000000 ≤ 1000 ^ k :=
  Nat.le_trans (by decide) (Nat.pow_le_pow_right (show 0 < 1000 by omega) h)

/-! times -/
/-- the round within: what the digits and the rest come to -/
structure InnerI (f : Nat → Nat) (i k c y d b T : Nat) : Prop where
  small : SmallW f
  sum : valW f + 1000 ^ k * (y + d * c) = T
  left : c * 1000 ^ k ≤ b * 1000 ^ i
  carry : y ≤ 1000
theorem InnerI.room {f : Nat → Nat} {i k c y d b T : Nat} (h : InnerI f i k c y d b T) (hb : b ≤ 1000000000000000) (hi : i ≤ 5) (hT : T ≤ 1000000000000000000000000000000) (hg : 0 < c ∨ 0 < y) : k < 14 := by
  rcases Nat.lt_or_ge k 14 with k1 | k1
  · exact k1
  · exfalso
    have hp := pow_big k1
    rcases hg with hc | hy
    · have h1 : b * 1000 ^ i ≤ 1000000000000000 * 1000 ^ 5 := Nat.mul_le_mul hb (Nat.pow_le_pow_right (by omega) hi)
      have h2 : 1000 ^ k ≤ c * 1000 ^ k := Nat.le_mul_of_pos_left _ hc
      have h3 := h.left
      have h4 : 1000000000000000 * 1000 ^ 5 = 1000000000000000000000000000000 := by decide
      omega
    · have h1 := h.sum
      have h2 : 1000 ^ k * 1 ≤ 1000 ^ k * (y + d * c) := Nat.mul_le_mul_left _ (by omega)
      omega
theorem InnerI.step {f : Nat → Nat} {i k c y d b T : Nat} (h : InnerI f i k c y d b T) (hd : d < 1000) (hk : k < 14) :
    InnerI (updW f k ((y + f k + d * (c % 1000)) % 1000)) i (k + 1) (c / 1000) ((y + f k + d * (c % 1000)) / 1000) d b T := by
  have hs := h.small k
  have hy := h.carry
  have hm : d * (c % 1000) ≤ 999 * 999 := Nat.mul_le_mul (by omega) (by omega)
  have hc : d * c = d * (c % 1000) + 1000 * (d * (c / 1000)) := by
    have := Nat.div_add_mod c 1000
    calc d * c = d * (1000 * (c / 1000) + c % 1000) := by rw [this]
      _ = _ := by rw [Nat.mul_add, Nat.mul_left_comm]; omega
  refine ⟨smallW_upd h.small (Nat.mod_lt _ (by omega)), ?_, ?_, by omega⟩
  · have e := h.sum
    have u := valW_upd f k ((y + f k + d * (c % 1000)) % 1000) hk
    rw [hc] at e
    rw [Nat.pow_succ]
    generalize d * (c % 1000) = m at *
    generalize d * (c / 1000) = n at *
    generalize f k = z at *
    generalize 1000 ^ k = p at *
    have q := Nat.div_add_mod (y + z + m) 1000
    generalize (y + z + m) / 1000 = t at *
    generalize (y + z + m) % 1000 = r at *
    generalize valW f = v at *
    generalize valW (updW f k r) = v' at *
    have e1 : p * 1000 * (t + n) = p * (1000 * t) + p * (1000 * n) := by grind
    have e2 : p * (y + (m + 1000 * n)) = p * y + p * m + p * (1000 * n) := by grind
    have e3 : p * (1000 * t) + p * r = p * y + p * z + p * m := by
      have : p * (1000 * t + r) = p * (y + z + m) := by rw [q]
      grind
    rw [Nat.mul_comm z p, Nat.mul_comm r p] at u
    omega
  · have l := h.left
    rw [Nat.pow_succ]
    have : c / 1000 * (1000 ^ k * 1000) ≤ c * 1000 ^ k := by
      rw [Nat.mul_comm (1000 ^ k), ← Nat.mul_assoc]
      exact Nat.mul_le_mul_right _ (Nat.div_mul_le_self c 1000)
    omega
structure OuterI (f : Nat → Nat) (i a b a0 : Nat) : Prop where
  small : SmallW f
  sum : valW f + 1000 ^ i * (a * b) = a0 * b
  left : a * 1000 ^ i ≤ a0
theorem OuterI.room {f : Nat → Nat} {i a b a0 : Nat} (h : OuterI f i a b a0) (ha : a0 ≤ 1000000000000000) (hg : 0 < a) : i ≤ 5 := by
  rcases Nat.lt_or_ge i 6 with k | k
  · omega
  · exfalso
    have h1 : 1000 ^ 6 ≤ 1000 ^ i := Nat.pow_le_pow_right (by omega) k
    have h2 : 1000 ^ i ≤ a * 1000 ^ i := Nat.le_mul_of_pos_left _ hg
    have := h.left
    have h4 : 1000 ^ 6 = 1000000000000000000 := by decide
    omega
theorem OuterI.start (a0 b : Nat) : OuterI (fun _ => 0) 0 a0 b a0 := by
  refine ⟨fun _ => by omega, ?_, by simp⟩
  obtain ⟨n, hn⟩ : ∃ n : Nat, n = 14 := ⟨_, rfl⟩
  rw [valW_def _ hn, valN_zero]; simp
theorem OuterI.enter {f : Nat → Nat} {i a b a0 : Nat} (h : OuterI f i a b a0) : InnerI f i i b 0 (a % 1000) b (valW f + 1000 ^ i * (a % 1000 * b)) := by
  refine ⟨h.small, by simp, Nat.le_refl _, by omega⟩
theorem OuterI.total {f : Nat → Nat} {i a b a0 : Nat} (h : OuterI f i a b a0) : valW f + 1000 ^ i * (a % 1000 * b) ≤ a0 * b := by
  have := h.sum
  have h1 : a % 1000 * b ≤ a * b := Nat.mul_le_mul_right _ (Nat.mod_le _ _)
  have h2 : 1000 ^ i * (a % 1000 * b) ≤ 1000 ^ i * (a * b) := Nat.mul_le_mul_left _ h1
  omega
theorem OuterI.leave {f g : Nat → Nat} {i k a b a0 : Nat} (h : OuterI f i a b a0) (hI : InnerI g i k 0 0 (a % 1000) b (valW f + 1000 ^ i * (a % 1000 * b))) : OuterI g (i + 1) (a / 1000) b a0 := by
  refine ⟨hI.small, ?_, ?_⟩
  · have e := h.sum
    have e2 := hI.sum
    simp only [Nat.mul_zero, Nat.add_zero] at e2
    rw [e2, Nat.pow_succ]
    have q := Nat.div_add_mod a 1000
    have e3 : 1000 ^ i * (a * b) = 1000 ^ i * (a % 1000 * b) + 1000 ^ i * 1000 * (a / 1000 * b) := by
      calc 1000 ^ i * (a * b) = 1000 ^ i * ((1000 * (a / 1000) + a % 1000) * b) := by rw [q]
        _ = _ := by grind
    omega
  · have l := h.left
    rw [Nat.pow_succ]
    have : a / 1000 * (1000 ^ i * 1000) ≤ a * 1000 ^ i := by
      rw [Nat.mul_comm (1000 ^ i), ← Nat.mul_assoc]
      exact Nat.mul_le_mul_right _ (Nat.div_mul_le_self a 1000)
    omega
theorem OuterI.done {f : Nat → Nat} {i b a0 : Nat} (h : OuterI f i 0 b a0) : valW f = a0 * b := by
  have := h.sum; simpa using this

/-! plus, minus -/
structure PlusI (x y f : Nat → Nat) (k c : Nat) : Prop where
  small : SmallW f
  sum : valN k f + 1000 ^ k * c = valN k x + valN k y
  carry : c ≤ 1
theorem PlusI.start (x y : Nat → Nat) : PlusI x y (fun _ => 0) 0 0 := ⟨fun _ => by omega, rfl, by omega⟩
theorem PlusI.step {x y f : Nat → Nat} {k c : Nat} (h : PlusI x y f k c) (hx : SmallW x) (hy : SmallW y) : PlusI x y (updW f k ((c + x k + y k) % 1000)) (k + 1) ((c + x k + y k) / 1000) := by
  have h1 := hx k
  have h2 := hy k
  have h3 := h.carry
  refine ⟨smallW_upd h.small (Nat.mod_lt _ (by omega)), ?_, by omega⟩
  unfold valN
  rw [valN_upd_ge f k _ k (Nat.le_refl _), updW_at, Nat.pow_succ]
  have e := h.sum
  have q := Nat.div_add_mod (c + x k + y k) 1000
  generalize (c + x k + y k) / 1000 = t at *
  generalize (c + x k + y k) % 1000 = r at *
  generalize 1000 ^ k = p at *
  have e3 : r * p + p * 1000 * t = p * c + x k * p + y k * p := by
    have : p * (1000 * t + r) = p * (c + x k + y k) := by rw [q]
    grind
  omega
theorem PlusI.done {x y f : Nat → Nat} {n c : Nat} (hn : n = 14) (h : PlusI x y f n c) (hs : valW x + valW y < 1000000000000000000000000000000000000000000) : valW f = valW x + valW y := by
  have e := h.sum
  have hc := h.carry
  have hp := pow_big (show 14 ≤ n by omega)
  rw [valW_def _ hn, valW_def _ hn] at hs
  rw [valW_def _ hn, valW_def _ hn, valW_def _ hn]
  rcases Nat.eq_zero_or_pos c with k | k
  · subst k; omega
  · obtain rfl : c = 1 := by omega
    omega
structure MinusI (x y f : Nat → Nat) (k : Nat) (c : Int) : Prop where
  small : SmallW f
  sum : (valN k f : Int) + 1000 ^ k * c = valN k x - valN k y
  carry : -1 ≤ c ∧ c ≤ 0
theorem MinusI.start (x y : Nat → Nat) : MinusI x y (fun _ => 0) 0 0 := ⟨fun _ => by omega, rfl, by omega⟩
theorem MinusI.low {x y f : Nat → Nat} {k : Nat} {c : Int} (h : MinusI x y f k c) (hx : SmallW x) (hy : SmallW y) (hn : c + x k - y k < 0) : MinusI x y (updW f k (c + x k - y k + 1000).toNat) (k + 1) (-1) := by
  have h1 := hx k
  have h2 := hy k
  have h3 := h.carry
  refine ⟨smallW_upd h.small (by omega), ?_, by omega⟩
  unfold valN
  rw [valN_upd_ge f k _ k (Nat.le_refl _), updW_at, Int.pow_succ]
  have e := h.sum
  have q : (((c + x k - y k + 1000).toNat : Nat) : Int) = c + x k - y k + 1000 := by omega
  simp only [Int.natCast_add, Int.natCast_mul, Int.natCast_pow, q]
  generalize ((1000 : Nat) : Int) ^ k = p at *
  grind
theorem MinusI.high {x y f : Nat → Nat} {k : Nat} {c : Int} (h : MinusI x y f k c) (hx : SmallW x) (hy : SmallW y) (hn : ¬ c + x k - y k < 0) : MinusI x y (updW f k (c + x k - y k).toNat) (k + 1) 0 := by
  have h1 := hx k
  have h2 := hy k
  have h3 := h.carry
  refine ⟨smallW_upd h.small (by omega), ?_, by omega⟩
  unfold valN
  rw [valN_upd_ge f k _ k (Nat.le_refl _), updW_at, Int.pow_succ]
  have e := h.sum
  have q : (((c + x k - y k).toNat : Nat) : Int) = c + x k - y k := by omega
  simp only [Int.natCast_add, Int.natCast_mul, Int.natCast_pow, q]
  generalize ((1000 : Nat) : Int) ^ k = p at *
  grind
theorem MinusI.done {x y f : Nat → Nat} {n : Nat} {c : Int} (hn : n = 14) (h : MinusI x y f n c) (hs : valW y ≤ valW x) : valW f = valW x - valW y := by
  have e := h.sum
  have hc := h.carry
  have hl := valN_lt h.small n
  rw [valW_def _ hn, valW_def _ hn] at hs
  rw [valW_def _ hn, valW_def _ hn, valW_def _ hn]
  rcases (show c = 0 ∨ c = -1 by omega) with k | k
  · subst k; omega
  · subst k
    have : ((1000 : Int) ^ n) = ((1000 ^ n : Nat) : Int) := by simp
    rw [this] at e
    omega

/-! from the top -/
/-- the digits from k on -/
def hiW (f : Nat → Nat) (k : Nat) : Nat := if h : k < 14 then f k + 1000 * hiW f (k + 1) else 0
termination_by 14 - k
theorem hiW_end (f : Nat → Nat) : hiW f 14 = 0 := by rw [hiW, dif_neg (by omega)]
theorem hiW_stop (f : Nat → Nat) {k : Nat} (h : 14 ≤ k) : hiW f k = 0 := by rw [hiW, dif_neg (by omega)]
theorem hiW_step (f : Nat → Nat) {k : Nat} (h : k < 14) : hiW f k = f k + 1000 * hiW f (k + 1) := by rw [hiW, dif_pos h]
theorem val_hi (f : Nat → Nat) : ∀ n k, n + k = 14 → valN k f + 1000 ^ k * hiW f k = valW f
  | 0, k, h => by rw [valW_def f (show k = 14 by omega), hiW_stop f (by omega)]; simp
  | n + 1, k, h => by
    have ih := val_hi f n (k + 1) (by omega)
    rw [hiW_step f (by omega)]
    unfold valN at ih
    rw [Nat.pow_succ] at ih
    rw [← ih]; grind
theorem hiW_zero (f : Nat → Nat) : hiW f 0 = valW f := by
  have := val_hi f 14 0 rfl
  unfold valN at this
  simpa using this
theorem hiW_upd (f : Nat → Nat) (k v : Nat) : ∀ n j, n + j = 14 → k < j → hiW (updW f k v) j = hiW f j
  | 0, j, h, _ => by rw [hiW_stop _ (by omega), hiW_stop _ (by omega)]
  | n + 1, j, h, hk => by
    rw [hiW_step _ (show j < 14 by omega), hiW_step _ (show j < 14 by omega), hiW_upd f k v n (j + 1) (by omega) (by omega), updW_ne f v (by omega)]
/-- the long division -/
structure PartI (x f : Nat → Nat) (d k r : Nat) : Prop where
  small : SmallW f
  sum : hiW x k = d * hiW f k + r
  rest : r < d
theorem PartI.start (x : Nat → Nat) {d : Nat} (h : 0 < d) : PartI x (fun _ => 0) d 14 0 := ⟨fun _ => by omega, by rw [hiW_end, hiW_end]; simp, h⟩
theorem PartI.step {x f : Nat → Nat} {d k r : Nat} (h : PartI x f d (k + 1) r) (hx : SmallW x) (hk : k < 14) : PartI x (updW f k ((r * 1000 + x k) / d)) d k ((r * 1000 + x k) % d) := by
  have hd : 0 < d := by have := h.rest; omega
  have h1 := hx k
  have h2 := h.rest
  refine ⟨smallW_upd h.small ?_, ?_, Nat.mod_lt _ hd⟩
  · rw [Nat.div_lt_iff_lt_mul hd]
    have : r * 1000 + 1000 ≤ d * 1000 := by omega
    omega
  · rw [hiW_step x hk, hiW_step _ hk, updW_at, hiW_upd f k _ (14 - (k + 1)) (k + 1) (by omega) (by omega), h.sum]
    have q := Nat.div_add_mod (r * 1000 + x k) d
    generalize (r * 1000 + x k) / d = t at *
    generalize (r * 1000 + x k) % d = s at *
    grind
theorem PartI.done {x f : Nat → Nat} {d r : Nat} (h : PartI x f d 0 r) : valW f = valW x / d ∧ r = valW x % d := by
  have e := h.sum
  rw [hiW_zero, hiW_zero] at e
  have hr := h.rest
  constructor
  · rw [e, Nat.mul_comm, Nat.add_comm, Nat.add_mul_div_right _ _ (by omega), Nat.div_eq_of_lt hr]; omega
  · rw [e, Nat.mul_comm, Nat.add_comm, Nat.add_mul_mod_self_right, Nat.mod_eq_of_lt hr]
theorem hi_le (x : Nat → Nat) {k : Nat} (hk : k ≤ 14) : hiW x k * 1000 ^ k ≤ valW x := by
  have := val_hi x (14 - k) k (by omega)
  rw [Nat.mul_comm]; omega
/-- narrow: too great ahead of the end -/
theorem narrow_big {x : Nat → Nat} {k : Nat} (hk : k < 14) (h : 1000000000000 < hiW x (k + 1)) : 1000000000000000 < valW x := by
  have h1 := hi_le x (show k + 1 ≤ 14 by omega)
  have h2 : 1 ≤ 1000 ^ k := Nat.one_le_pow _ _ (by omega)
  have h3 : hiW x (k + 1) * (1000 * 1) ≤ hiW x (k + 1) * 1000 ^ (k + 1) := Nat.mul_le_mul_left _ (by rw [Nat.pow_succ, Nat.mul_comm]; exact Nat.mul_le_mul_right _ h2)
  omega
/-- order: the first digit from the top that differs decides -/
def SameFrom (x y : Nat → Nat) (k : Nat) : Prop := hiW x k = hiW y k
theorem order_lt {x y : Nat → Nat} {k : Nat} (hx : SmallW x) (hk : k < 14) (h : SameFrom x y (k + 1)) (hl : x k < y k) : valW x < valW y := by
  have e1 := val_hi x (14 - (k + 1)) (k + 1) (by omega)
  have e2 := val_hi y (14 - (k + 1)) (k + 1) (by omega)
  unfold SameFrom at h
  rw [h] at e1
  have b := valN_lt hx k
  unfold valN at e1 e2
  have : x k * 1000 ^ k + 1000 ^ k ≤ y k * 1000 ^ k := by
    have := Nat.mul_le_mul_right (1000 ^ k) (show x k + 1 ≤ y k by omega)
    rw [Nat.add_mul, Nat.one_mul] at this; exact this
  omega
theorem SameFrom.step {x y : Nat → Nat} {k : Nat} (hk : k < 14) (h : SameFrom x y (k + 1)) (he : x k = y k) : SameFrom x y k := by
  unfold SameFrom at *; rw [hiW_step x hk, hiW_step y hk, h, he]
theorem SameFrom.symm {x y : Nat → Nat} {k : Nat} (h : SameFrom x y k) : SameFrom y x k := Eq.symm h
theorem SameFrom.start (x y : Nat → Nat) : SameFrom x y 14 := by unfold SameFrom; rw [hiW_end, hiW_end]
theorem SameFrom.done {x y : Nat → Nat} (h : SameFrom x y 0) : valW x = valW y := by unfold SameFrom at h; rw [hiW_zero, hiW_zero] at h; exact h
end Go.Proofs.YtemmgehaddghfaaDoor
