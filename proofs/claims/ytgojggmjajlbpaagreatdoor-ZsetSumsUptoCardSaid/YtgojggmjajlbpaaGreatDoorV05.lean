/- PARTS OF THE WALKS, joined: PlainW, FracS, FracT, FracTb, FracP, FracQ. -/
import Derived.Test.YtgojggmjajlbpaaGreatDoorV00
import Derived.Test.YtgojggmjajlbpaaGreatDoorV03
/- PLAIN: numbers of fourteen digits in base 1000. No program. -/
namespace Go.Proofs.YtgojggmjajlbpaaGreatDoor
/-- the first n digits -/
def valN : Nat → (Nat → Nat) → Nat
  | 0, _ => 0
  | n + 1, f => valN n f + f n * 1000 ^ n
theorem valW_exists (f : Nat → Nat) : ∃ v, ∀ n, n = 14 → v = valN n f := ⟨valN 14 f, fun n h => by rw [h]⟩
/-- the number (closed to unfolding: its powers are great) -/
noncomputable def valW (f : Nat → Nat) : Nat := Classical.choose (valW_exists f)
theorem valW_def (f : Nat → Nat) {n : Nat} (h : n = 14) : valW f = valN n f := Classical.choose_spec (valW_exists f) n h
/-- digits -/
def SmallW (f : Nat → Nat) : Prop := ∀ i, f i < 1000
def updW (f : Nat → Nat) (k v : Nat) : Nat → Nat := fun i => if i = k then v else f i
theorem updW_at (f : Nat → Nat) (k v : Nat) : updW f k v k = v := if_pos rfl
theorem updW_ne (f : Nat → Nat) {k i : Nat} (v : Nat) (h : i ≠ k) : updW f k v i = f i := if_neg h
theorem smallW_upd {f : Nat → Nat} {k v : Nat} (h : SmallW f) (hv : v < 1000) : SmallW (updW f k v) := by
  intro i; unfold updW; split
  · exact hv
  · exact h i
theorem valN_upd_ge (f : Nat → Nat) (k v : Nat) : ∀ n, n ≤ k → valN n (updW f k v) = valN n f
  | 0, _ => rfl
  | n + 1, h => by
    unfold valN
    rw [valN_upd_ge f k v n (by omega), updW_ne f v (by omega)]
theorem valN_upd (f : Nat → Nat) (k v : Nat) : ∀ n, k < n → valN n (updW f k v) + f k * 1000 ^ k = valN n f + v * 1000 ^ k
  | 0, h => absurd h (by omega)
  | n + 1, h => by
    unfold valN
    by_cases e : k = n
    · subst e
      rw [valN_upd_ge f k v k (Nat.le_refl _), updW_at]; omega
    · rw [updW_ne f v (show n ≠ k from fun q => e q.symm)]
      have := valN_upd f k v n (by omega)
      omega
theorem valW_upd (f : Nat → Nat) (k v : Nat) (h : k < 14) : valW (updW f k v) + f k * 1000 ^ k = valW f + v * 1000 ^ k := by
  obtain ⟨n, hn⟩ : ∃ n : Nat, n = 14 := ⟨_, rfl⟩
  rw [valW_def _ hn, valW_def _ hn]; exact valN_upd f k v n (by omega)
theorem valN_zero : ∀ n, valN n (fun _ => 0) = 0
  | 0 => rfl
  | n + 1 => by unfold valN; rw [valN_zero n]; simp
theorem valN_lt {f : Nat → Nat} (h : SmallW f) : ∀ n, valN n f < 1000 ^ n
  | 0 => by simp [valN]
  | n + 1 => by
    unfold valN
    have h1 := valN_lt h n
    have h2 := h n
    have h3 : f n * 1000 ^ n ≤ 999 * 1000 ^ n := Nat.mul_le_mul_right _ (by omega)
    rw [Nat.pow_succ]; omega
theorem pow_big {k : Nat} (h : 14 ≤ k) : 1000000000000000000000000000000000000000000 ≤ 1000 ^ k :=
  Nat.le_trans (by decide) (Nat.pow_le_pow_right (show 0 < 1000 by omega) h)
/-! times -/
/-- the round within: what the digits and the rest come to -/
structure InnerI (f : Nat → Nat) (i k c y d b T : Nat) : Prop where
  small : SmallW f
  sum : valW f + 1000 ^ k * (y + d * c) = T
  left : c * 1000 ^ k ≤ b * 1000 ^ i
  carry : y ≤ 1000
theorem InnerI.room {f : Nat → Nat} {i k c y d b T : Nat} (h : InnerI f i k c y d b T) (hb : b ≤ 1000000000000000) (hi : i ≤ 5) (hT : T ≤ 1000000000000000000000000000000) (hg : 0 < c ∨ 0 < y) : k < 14 := by
  rcases Nat.lt_or_ge k 14 with k1 | k1
  · exact k1
  · exfalso
    have hp := pow_big k1
    rcases hg with hc | hy
    · have h1 : b * 1000 ^ i ≤ 1000000000000000 * 1000 ^ 5 := Nat.mul_le_mul hb (Nat.pow_le_pow_right (by omega) hi)
      have h2 : 1000 ^ k ≤ c * 1000 ^ k := Nat.le_mul_of_pos_left _ hc
      have h3 := h.left
      have h4 : 1000000000000000 * 1000 ^ 5 = 1000000000000000000000000000000 := by decide
      omega
    · have h1 := h.sum
      have h2 : 1000 ^ k * 1 ≤ 1000 ^ k * (y + d * c) := Nat.mul_le_mul_left _ (by omega)
      omega
theorem InnerI.step {f : Nat → Nat} {i k c y d b T : Nat} (h : InnerI f i k c y d b T) (hd : d < 1000) (hk : k < 14) :
    InnerI (updW f k ((y + f k + d * (c % 1000)) % 1000)) i (k + 1) (c / 1000) ((y + f k + d * (c % 1000)) / 1000) d b T := by
  have hs := h.small k
  have hy := h.carry
  have hm : d * (c % 1000) ≤ 999 * 999 := Nat.mul_le_mul (by omega) (by omega)
  have hc : d * c = d * (c % 1000) + 1000 * (d * (c / 1000)) := by
    have := Nat.div_add_mod c 1000
    calc d * c = d * (1000 * (c / 1000) + c % 1000) := by rw [this]
      _ = _ := by rw [Nat.mul_add, Nat.mul_left_comm]; omega
  refine ⟨smallW_upd h.small (Nat.mod_lt _ (by omega)), ?_, ?_, by omega⟩
  · have e := h.sum
    have u := valW_upd f k ((y + f k + d * (c % 1000)) % 1000) hk
    rw [hc] at e
    rw [Nat.pow_succ]
    generalize d * (c % 1000) = m at *
    generalize d * (c / 1000) = n at *
    generalize f k = z at *
    generalize 1000 ^ k = p at *
    have q := Nat.div_add_mod (y + z + m) 1000
    generalize (y + z + m) / 1000 = t at *
    generalize (y + z + m) % 1000 = r at *
    generalize valW f = v at *
    generalize valW (updW f k r) = v' at *
    have e1 : p * 1000 * (t + n) = p * (1000 * t) + p * (1000 * n) := by grind
    have e2 : p * (y + (m + 1000 * n)) = p * y + p * m + p * (1000 * n) := by grind
    have e3 : p * (1000 * t) + p * r = p * y + p * z + p * m := by
      have : p * (1000 * t + r) = p * (y + z + m) := by rw [q]
      grind
    rw [Nat.mul_comm z p, Nat.mul_comm r p] at u
    omega
  · have l := h.left
    rw [Nat.pow_succ]
    have : c / 1000 * (1000 ^ k * 1000) ≤ c * 1000 ^ k := by
      rw [Nat.mul_comm (1000 ^ k), ← Nat.mul_assoc]
      exact Nat.mul_le_mul_right _ (Nat.div_mul_le_self c 1000)
    omega
structure OuterI (f : Nat → Nat) (i a b a0 : Nat) : Prop where
  small : SmallW f
  sum : valW f + 1000 ^ i * (a * b) = a0 * b
  left : a * 1000 ^ i ≤ a0
theorem OuterI.room {f : Nat → Nat} {i a b a0 : Nat} (h : OuterI f i a b a0) (ha : a0 ≤ 1000000000000000) (hg : 0 < a) : i ≤ 5 := by
  rcases Nat.lt_or_ge i 6 with k | k
  · omega
  · exfalso
    have h1 : 1000 ^ 6 ≤ 1000 ^ i := Nat.pow_le_pow_right (by omega) k
    have h2 : 1000 ^ i ≤ a * 1000 ^ i := Nat.le_mul_of_pos_left _ hg
    have := h.left
    have h4 : 1000 ^ 6 = 1000000000000000000 := by decide
    omega
theorem OuterI.start (a0 b : Nat) : OuterI (fun _ => 0) 0 a0 b a0 := by
  refine ⟨fun _ => by omega, ?_, by simp⟩
  obtain ⟨n, hn⟩ : ∃ n : Nat, n = 14 := ⟨_, rfl⟩
  rw [valW_def _ hn, valN_zero]; simp
theorem OuterI.enter {f : Nat → Nat} {i a b a0 : Nat} (h : OuterI f i a b a0) : InnerI f i i b 0 (a % 1000) b (valW f + 1000 ^ i * (a % 1000 * b)) := by
  refine ⟨h.small, by simp, Nat.le_refl _, by omega⟩
theorem OuterI.total {f : Nat → Nat} {i a b a0 : Nat} (h : OuterI f i a b a0) : valW f + 1000 ^ i * (a % 1000 * b) ≤ a0 * b := by
  have := h.sum
  have h1 : a % 1000 * b ≤ a * b := Nat.mul_le_mul_right _ (Nat.mod_le _ _)
  have h2 : 1000 ^ i * (a % 1000 * b) ≤ 1000 ^ i * (a * b) := Nat.mul_le_mul_left _ h1
  omega
theorem OuterI.leave {f g : Nat → Nat} {i k a b a0 : Nat} (h : OuterI f i a b a0) (hI : InnerI g i k 0 0 (a % 1000) b (valW f + 1000 ^ i * (a % 1000 * b))) : OuterI g (i + 1) (a / 1000) b a0 := by
  refine ⟨hI.small, ?_, ?_⟩
  · have e := h.sum
    have e2 := hI.sum
    simp only [Nat.mul_zero, Nat.add_zero] at e2
    rw [e2, Nat.pow_succ]
    have q := Nat.div_add_mod a 1000
    have e3 : 1000 ^ i * (a * b) = 1000 ^ i * (a % 1000 * b) + 1000 ^ i * 1000 * (a / 1000 * b) := by
      calc 1000 ^ i * (a * b) = 1000 ^ i * ((1000 * (a / 1000) + a % 1000) * b) := by rw [q]
        _ = _ := by grind
    omega
  · have l := h.left
    rw [Nat.pow_succ]
    have : a / 1000 * (1000 ^ i * 1000) ≤ a * 1000 ^ i := by
      rw [Nat.mul_comm (1000 ^ i), ← Nat.mul_assoc]
      exact Nat.mul_le_mul_right _ (Nat.div_mul_le_self a 1000)
    omega
theorem OuterI.done {f : Nat → Nat} {i b a0 : Nat} (h : OuterI f i 0 b a0) : valW f = a0 * b := by
  have := h.sum; simpa using this
/-! plus, minus -/
structure PlusI (x y f : Nat → Nat) (k c : Nat) : Prop where
  small : SmallW f
  sum : valN k f + 1000 ^ k * c = valN k x + valN k y
  carry : c ≤ 1
theorem PlusI.start (x y : Nat → Nat) : PlusI x y (fun _ => 0) 0 0 := ⟨fun _ => by omega, rfl, by omega⟩
theorem PlusI.step {x y f : Nat → Nat} {k c : Nat} (h : PlusI x y f k c) (hx : SmallW x) (hy : SmallW y) : PlusI x y (updW f k ((c + x k + y k) % 1000)) (k + 1) ((c + x k + y k) / 1000) := by
  have h1 := hx k
  have h2 := hy k
  have h3 := h.carry
  refine ⟨smallW_upd h.small (Nat.mod_lt _ (by omega)), ?_, by omega⟩
  unfold valN
  rw [valN_upd_ge f k _ k (Nat.le_refl _), updW_at, Nat.pow_succ]
  have e := h.sum
  have q := Nat.div_add_mod (c + x k + y k) 1000
  generalize (c + x k + y k) / 1000 = t at *
  generalize (c + x k + y k) % 1000 = r at *
  generalize 1000 ^ k = p at *
  have e3 : r * p + p * 1000 * t = p * c + x k * p + y k * p := by
    have : p * (1000 * t + r) = p * (c + x k + y k) := by rw [q]
    grind
  omega
theorem PlusI.done {x y f : Nat → Nat} {n c : Nat} (hn : n = 14) (h : PlusI x y f n c) (hs : valW x + valW y < 1000000000000000000000000000000000000000000) : valW f = valW x + valW y := by
  have e := h.sum
  have hc := h.carry
  have hp := pow_big (show 14 ≤ n by omega)
  rw [valW_def _ hn, valW_def _ hn] at hs
  rw [valW_def _ hn, valW_def _ hn, valW_def _ hn]
  rcases Nat.eq_zero_or_pos c with k | k
  · subst k; omega
  · obtain rfl : c = 1 := by omega
    omega
structure MinusI (x y f : Nat → Nat) (k : Nat) (c : Int) : Prop where
  small : SmallW f
  sum : (valN k f : Int) + 1000 ^ k * c = valN k x - valN k y
  carry : -1 ≤ c ∧ c ≤ 0
theorem MinusI.start (x y : Nat → Nat) : MinusI x y (fun _ => 0) 0 0 := ⟨fun _ => by omega, rfl, by omega⟩
theorem MinusI.low {x y f : Nat → Nat} {k : Nat} {c : Int} (h : MinusI x y f k c) (hx : SmallW x) (hy : SmallW y) (hn : c + x k - y k < 0) : MinusI x y (updW f k (c + x k - y k + 1000).toNat) (k + 1) (-1) := by
  have h1 := hx k
  have h2 := hy k
  have h3 := h.carry
  refine ⟨smallW_upd h.small (by omega), ?_, by omega⟩
  unfold valN
  rw [valN_upd_ge f k _ k (Nat.le_refl _), updW_at, Int.pow_succ]
  have e := h.sum
  have q : (((c + x k - y k + 1000).toNat : Nat) : Int) = c + x k - y k + 1000 := by omega
  simp only [Int.natCast_add, Int.natCast_mul, Int.natCast_pow, q]
  generalize ((1000 : Nat) : Int) ^ k = p at *
  grind
theorem MinusI.high {x y f : Nat → Nat} {k : Nat} {c : Int} (h : MinusI x y f k c) (hx : SmallW x) (hy : SmallW y) (hn : ¬ c + x k - y k < 0) : MinusI x y (updW f k (c + x k - y k).toNat) (k + 1) 0 := by
  have h1 := hx k
  have h2 := hy k
  have h3 := h.carry
  refine ⟨smallW_upd h.small (by omega), ?_, by omega⟩
  unfold valN
  rw [valN_upd_ge f k _ k (Nat.le_refl _), updW_at, Int.pow_succ]
  have e := h.sum
  have q : (((c + x k - y k).toNat : Nat) : Int) = c + x k - y k := by omega
  simp only [Int.natCast_add, Int.natCast_mul, Int.natCast_pow, q]
  generalize ((1000 : Nat) : Int) ^ k = p at *
  grind
theorem MinusI.done {x y f : Nat → Nat} {n : Nat} {c : Int} (hn : n = 14) (h : MinusI x y f n c) (hs : valW y ≤ valW x) : valW f = valW x - valW y := by
  have e := h.sum
  have hc := h.carry
  have hl := valN_lt h.small n
  rw [valW_def _ hn, valW_def _ hn] at hs
  rw [valW_def _ hn, valW_def _ hn, valW_def _ hn]
  rcases (show c = 0 ∨ c = -1 by omega) with k | k
  · subst k; omega
  · subst k
    have : ((1000 : Int) ^ n) = ((1000 ^ n : Nat) : Int) := by simp
    rw [this] at e
    omega
/-! from the top -/
/-- the digits from k on -/
def hiW (f : Nat → Nat) (k : Nat) : Nat := if h : k < 14 then f k + 1000 * hiW f (k + 1) else 0
termination_by 14 - k
theorem hiW_end (f : Nat → Nat) : hiW f 14 = 0 := by rw [hiW, dif_neg (by omega)]
theorem hiW_stop (f : Nat → Nat) {k : Nat} (h : 14 ≤ k) : hiW f k = 0 := by rw [hiW, dif_neg (by omega)]
theorem hiW_step (f : Nat → Nat) {k : Nat} (h : k < 14) : hiW f k = f k + 1000 * hiW f (k + 1) := by rw [hiW, dif_pos h]
theorem val_hi (f : Nat → Nat) : ∀ n k, n + k = 14 → valN k f + 1000 ^ k * hiW f k = valW f
  | 0, k, h => by rw [valW_def f (show k = 14 by omega), hiW_stop f (by omega)]; simp
  | n + 1, k, h => by
    have ih := val_hi f n (k + 1) (by omega)
    rw [hiW_step f (by omega)]
    unfold valN at ih
    rw [Nat.pow_succ] at ih
    rw [← ih]; grind
theorem hiW_zero (f : Nat → Nat) : hiW f 0 = valW f := by
  have := val_hi f 14 0 rfl
  unfold valN at this
  simpa using this
theorem hiW_upd (f : Nat → Nat) (k v : Nat) : ∀ n j, n + j = 14 → k < j → hiW (updW f k v) j = hiW f j
  | 0, j, h, _ => by rw [hiW_stop _ (by omega), hiW_stop _ (by omega)]
  | n + 1, j, h, hk => by
    rw [hiW_step _ (show j < 14 by omega), hiW_step _ (show j < 14 by omega), hiW_upd f k v n (j + 1) (by omega) (by omega), updW_ne f v (by omega)]
/-- the long division -/
structure PartI (x f : Nat → Nat) (d k r : Nat) : Prop where
  small : SmallW f
  sum : hiW x k = d * hiW f k + r
  rest : r < d
theorem PartI.start (x : Nat → Nat) {d : Nat} (h : 0 < d) : PartI x (fun _ => 0) d 14 0 := ⟨fun _ => by omega, by rw [hiW_end, hiW_end]; simp, h⟩
theorem PartI.step {x f : Nat → Nat} {d k r : Nat} (h : PartI x f d (k + 1) r) (hx : SmallW x) (hk : k < 14) : PartI x (updW f k ((r * 1000 + x k) / d)) d k ((r * 1000 + x k) % d) := by
  have hd : 0 < d := by have := h.rest; omega
  have h1 := hx k
  have h2 := h.rest
  refine ⟨smallW_upd h.small ?_, ?_, Nat.mod_lt _ hd⟩
  · rw [Nat.div_lt_iff_lt_mul hd]
    have : r * 1000 + 1000 ≤ d * 1000 := by omega
    omega
  · rw [hiW_step x hk, hiW_step _ hk, updW_at, hiW_upd f k _ (14 - (k + 1)) (k + 1) (by omega) (by omega), h.sum]
    have q := Nat.div_add_mod (r * 1000 + x k) d
    generalize (r * 1000 + x k) / d = t at *
    generalize (r * 1000 + x k) % d = s at *
    grind
theorem PartI.done {x f : Nat → Nat} {d r : Nat} (h : PartI x f d 0 r) : valW f = valW x / d ∧ r = valW x % d := by
  have e := h.sum
  rw [hiW_zero, hiW_zero] at e
  have hr := h.rest
  constructor
  · rw [e, Nat.mul_comm, Nat.add_comm, Nat.add_mul_div_right _ _ (by omega), Nat.div_eq_of_lt hr]; omega
  · rw [e, Nat.mul_comm, Nat.add_comm, Nat.add_mul_mod_self_right, Nat.mod_eq_of_lt hr]
/-- order: the first digit from the top that differs decides -/
def SameFrom (x y : Nat → Nat) (k : Nat) : Prop := hiW x k = hiW y k
theorem order_lt {x y : Nat → Nat} {k : Nat} (hx : SmallW x) (hk : k < 14) (h : SameFrom x y (k + 1)) (hl : x k < y k) : valW x < valW y := by
  have e1 := val_hi x (14 - (k + 1)) (k + 1) (by omega)
  have e2 := val_hi y (14 - (k + 1)) (k + 1) (by omega)
  unfold SameFrom at h
  rw [h] at e1
  have b := valN_lt hx k
  unfold valN at e1 e2
  have : x k * 1000 ^ k + 1000 ^ k ≤ y k * 1000 ^ k := by
    have := Nat.mul_le_mul_right (1000 ^ k) (show x k + 1 ≤ y k by omega)
    rw [Nat.add_mul, Nat.one_mul] at this; exact this
  omega
theorem SameFrom.step {x y : Nat → Nat} {k : Nat} (hk : k < 14) (h : SameFrom x y (k + 1)) (he : x k = y k) : SameFrom x y k := by
  unfold SameFrom at *; rw [hiW_step x hk, hiW_step y hk, h, he]
theorem SameFrom.symm {x y : Nat → Nat} {k : Nat} (h : SameFrom x y k) : SameFrom y x k := Eq.symm h
theorem SameFrom.start (x y : Nat → Nat) : SameFrom x y 14 := by unfold SameFrom; rw [hiW_end, hiW_end]
theorem SameFrom.done {x y : Nat → Nat} (h : SameFrom x y 0) : valW x = valW y := by unfold SameFrom at h; rw [hiW_zero, hiW_zero] at h; exact h
end Go.Proofs.YtgojggmjajlbpaaGreatDoor

/- THE WALKS over the reference's wide numbers: times. -/
namespace Go.Proofs.YtgojggmjajlbpaaGreatDoor
open Go.RowKit
/-- a block of fourteen digits that may be written -/
def RowW (V : World) (g : Nat) (f : Nat → Nat) : Prop := g < V.heap.size ∧ ∀ i, i < 14 → V.cell? ⟨g, i, none⟩ = some (.int .i64 ((f i : Nat) : Int)) ∧ V.frozen? ⟨g, i, none⟩ = false
theorem RowW.step {V V' : World} {g : Nat} {f : Nat → Nat} (h : RowW V g f) (hb : Below V.heap.size V V') : RowW V' g f := by
  obtain ⟨h0, h1⟩ := h
  obtain ⟨hc, hf⟩ := bcell hb
  have hs := hb.size
  exact ⟨by omega, fun i hi => ⟨(hc _ _ h0).trans (h1 i hi).1, (hf _ _ h0).trans (h1 i hi).2⟩⟩
theorem RowW.set {V : World} {g : Nat} {f : Nat → Nat} (h : RowW V g f) {k : Nat} (hk : k < 14) (v : Nat) : RowW (V.setCell ⟨g, k, none⟩ (.int .i64 (v : Int))) g (updW f k v) := by
  obtain ⟨h0, h1⟩ := h
  refine ⟨by simpa using h0, fun i hi => ?_⟩
  obtain ⟨a, b⟩ := h1 i hi
  obtain ⟨a', b'⟩ := h1 k hk
  by_cases e : i = k
  · subst e
    rw [updW_at]
    exact ⟨by go_simp, by go_simp⟩
  · rw [updW_ne f v e]
    have e2 : ¬ k = i := fun q => e q.symm
    exact ⟨by go_simp, by go_simp⟩
set_option maxRecDepth 100000 in
theorem run_make14 (w : World) : (Instr.makeSlice 92 (.int .i64 14) (.int .i64 14)).run Tryz.prog w = .ok (.slice (some ⟨w.heap.size, 0, none⟩) 14 14) (w.alloc (.cells #[.int .i64 0, .int .i64 0, .int .i64 0, .int .i64 0, .int .i64 0, .int .i64 0, .int .i64 0, .int .i64 0, .int .i64 0, .int .i64 0, .int .i64 0, .int .i64 0, .int .i64 0, .int .i64 0] 3)) := by kernel_rfl
theorem RowW.new (w : World) (t : TypeId) : RowW (w.alloc (.cells #[.int .i64 0, .int .i64 0, .int .i64 0, .int .i64 0, .int .i64 0, .int .i64 0, .int .i64 0, .int .i64 0, .int .i64 0, .int .i64 0, .int .i64 0, .int .i64 0, .int .i64 0, .int .i64 0] t)) w.heap.size (fun _ => 0) := by
  refine ⟨by simp, fun i hi => ?_⟩
  match i, hi with
  | 0, _ | 1, _ | 2, _ | 3, _ | 4, _ | 5, _ | 6, _ | 7, _ | 8, _ | 9, _ | 10, _ | 11, _ | 12, _ | 13, _ => exact ⟨by go_simp, by go_simp⟩
set_option maxRecDepth 100000 in
set_option maxHeartbeats 1600000 in
theorem r3_times (a b : Nat) (w : World) (ha : a ≤ 1000000000000000) (hb : b ≤ 1000000000000000) :
    Calls Tryz.prog 82 #[.int .i64 a, .int .i64 b] w fun e w' => ∃ (g : Nat) (f : Nat → Nat), e = .returned (.slice (some ⟨g, 0, none⟩) 14 14) ∧ w.heap.size ≤ g ∧ RowW w' g f ∧ SmallW f ∧ valW f = a * b ∧ Below w.heap.size w w' := by
  go_enter Tryz.func82, Tryz.ntmps82
  have hmk := run_make14
  have hab : a * b ≤ 1000000000000000000000000000000 := Nat.le_trans (Nat.mul_le_mul ha hb) (by decide)
  have HAB := Lib.hid hab
  have HA := Lib.hid ha
  have HB := Lib.hid hb
  go_wp2_with fail
  have hrow := RowW.new w 3
  have hbe := (Below.refl w.heap.size w).alloc (Nat.le_refl _) (.cells #[.int .i64 0, .int .i64 0, .int .i64 0, .int .i64 0, .int .i64 0, .int .i64 0, .int .i64 0, .int .i64 0, .int .i64 0, .int .i64 0, .int .i64 0, .int .i64 0, .int .i64 0, .int .i64 0] 3)
  refine forget_world (fun W => RowW W w.heap.size (fun _ => 0) ∧ Below w.heap.size w W) ⟨hrow, hbe⟩ ?_
  clear hrow hbe hmk hab ha hb
  rintro W ⟨hrow, hbe⟩
  go_loopw [0, 6] (fun u v wr => ∃ (a' i : Nat) (f : Nat → Nat), u = .int .i64 a' ∧ v = .int .i64 i ∧ Hid (OuterI f i a' b a) ∧ a' ≤ 1000000000000000 ∧ i ≤ 14 ∧ RowW wr w.heap.size f ∧ Below w.heap.size w wr) (fun u _ _ => (intOf u).toNat)
  case atStart => exact ⟨a, 0, _, rfl, rfl, Lib.hid (OuterI.start a b), HA.out, by omega, hrow, hbe⟩
  case round =>
    obtain ⟨a', i, f, rfl, rfl, hO, ha', hi14, hrow', hbe'⟩ := hrel
    clear hrow hbe
    by_cases h0 : 0 < a'
    · have hi : i ≤ 5 := hO.out.room HA.out h0
      have h0' : decide (0 < (a' : Int)) = true := decide_eq_true (by omega)
      have hE := Lib.hid hO.out.enter
      have hTT : Hid (valW f + 1000 ^ i * (a' % 1000 * b) ≤ 1000000000000000000000000000000) := Lib.hid (Nat.le_trans hO.out.total HAB.out)
      have HOO : Hid (∀ (g : Nat → Nat) (k : Nat), InnerI g i k 0 0 (a' % 1000) b (valW f + 1000 ^ i * (a' % 1000 * b)) → OuterI g (i + 1) (a' / 1000) b a) := fun g k hI => hO.out.leave hI
      generalize valW f + 1000 ^ i * (a' % 1000 * b) = T at *
      clear hO
      go_wp2_with fail
      obtain ⟨wo, rfl⟩ : ∃ wo : World, wo = wr := ⟨_, rfl⟩
      have HR0 := Lib.hid hrow'
      have HBE0 := Lib.hid hbe'
      clear hrow' hbe'
      go_loopw [8, 9, 10] (fun u v x wx => ∃ (c y k : Nat) (g : Nat → Nat), u = .int .i64 c ∧ v = .int .i64 y ∧ x = .int .i64 k ∧ Hid (InnerI g i k c y (a' % 1000) b T) ∧ c ≤ 1000000000000000 ∧ y ≤ 1000 ∧ k ≤ 14 ∧ RowW wx w.heap.size g ∧ Below w.heap.size w wx) (fun _ _ x _ => 14 - (intOf x).toNat)
      case atStart => exact ⟨b, 0, i, f, rfl, rfl, rfl, hE, HB.out, by omega, by omega, HR0.out, HBE0.out⟩
      case round =>
        obtain ⟨c, y, k, g, rfl, rfl, rfl, hI, hc, hy, hk14, hrg, hbg⟩ := hrel
        by_cases hgo : 0 < c ∨ 0 < y
        · have hk : k < 14 := hI.out.room HB.out hi hTT.out hgo
          obtain ⟨z, hz⟩ : ∃ z, Hid (g k = z) := ⟨_, rfl⟩
          have hz1 : z ≤ 999 := by have h1 := hI.out.small k; have h2 := hz.out; omega
          have hcell : _ ∧ _ := hrg.2 k hk
          rw [hz.out] at hcell
          obtain ⟨hcell, hfro⟩ := hcell
          have hgs := hrg.1
          have hS := Lib.hid (hI.out.step (Nat.mod_lt _ (by omega)) hk)
          rw [hz.out] at hS
          have hm : a' % 1000 * (c % 1000) ≤ 999 * 999 := Nat.mul_le_mul (by omega) (by omega)
          obtain ⟨m, hmm⟩ : ∃ m : Nat, Hid (a' % 1000 * (c % 1000) = m) := ⟨_, rfl⟩
          rw [hmm.out] at hS hm
          have hm1 : (a' : Int) % 1000 * ((c : Int) % 1000) = (m : Int) := by have := hmm.out; rw [← this]; simp
          have J1 : IntKind.i64.wrap ((a' : Int) % 1000 * ((c : Int) % 1000)) = (m : Int) := by rw [hm1]; exact IntWalk.i64_in _ ⟨by omega, by omega⟩
          have hrs := hrg.set hk ((y + z + m) % 1000)
          have e1 : (((y + z + m) % 1000 : Nat) : Int) = ((y : Int) + z + m) % 1000 := by omega
          rw [e1] at hrs
          have hbs := hbg.setCell (p := ⟨w.heap.size, k, none⟩) (Nat.le_refl _) (.int .i64 (((y : Int) + z + m) % 1000))
          have HRS := Lib.hid hrs
          have HBS := Lib.hid hbs
          clear hrs hbs hrg hbg e1 hm1
          rcases Nat.eq_zero_or_pos c with hc0 | hc0
          · subst hc0
            obtain rfl : m = 0 := by have h := hmm.out; simpa using h.symm
            have HRS2 : Hid (RowW (wr.setCell ⟨w.heap.size, k, none⟩ (.int .i64 (((y : Int) + z) % 1000))) w.heap.size (updW g k ((y + z) % 1000))) := Lib.hid (by have h := HRS.out; simpa using h)
            have HBS2 : Hid (Below w.heap.size w (wr.setCell ⟨w.heap.size, k, none⟩ (.int .i64 (((y : Int) + z) % 1000)))) := Lib.hid (by have h := HBS.out; simpa using h)
            have hS2 : Hid (InnerI (updW g k ((y + z) % 1000)) i (k + 1) 0 ((y + z) / 1000) (a' % 1000) b T) := Lib.hid (by have h := hS.out; simpa using h)
            have d1 : decide (0 < ((0 : Nat) : Int)) = false := by decide
            have d2 : decide (0 < (y : Int)) = true := decide_eq_true (by omega)
            go_wp2_with fail
            go_roundw
            case rel => exact ⟨0, (y + z) / 1000, k + 1, _, by go_num, by go_num, by go_num, hS2, by omega, by omega, by omega, HRS2.out, HBS2.out⟩
            case measure => simp [intOf]; omega
          · have d1 : decide (0 < (c : Int)) = true := decide_eq_true (by omega)
            go_wp2_with fail
            go_roundw
            case rel => exact ⟨c / 1000, (y + z + m) / 1000, k + 1, _, by go_num, by go_num, by go_num, hS, by omega, by omega, by omega, HRS.out, HBS.out⟩
            case measure => simp [intOf]; omega
        · obtain rfl : c = 0 := by omega
          obtain rfl : y = 0 := by omega
          have hO2 := Lib.hid (HOO.out g k hI.out)
          go_wp2_with fail
          go_roundw
          case rel => exact ⟨a' / 1000, i + 1, g, by go_num, by go_num, hO2, by omega, by omega, hrg, hbg⟩
          case measure => simp [intOf]; omega
    · obtain rfl : a' = 0 := by omega
      go_wp2_with fail
      go_ret
      exact ⟨_, f, rfl, Nat.le_refl _, hrow', hO.out.small, hO.out.done, hbe'⟩
end Go.Proofs.YtgojggmjajlbpaaGreatDoor

/- THE WALKS over the reference's wide numbers: plus, minus, order, parts, narrow. -/
namespace Go.Proofs.YtgojggmjajlbpaaGreatDoor
open Go.RowKit
theorem RowW.old {w V : World} {g : Nat} {f : Nat → Nat} (h : RowW w g f) (hb : Below w.heap.size w V) : RowW V g f := h.step hb
theorem RowW.drewN {V : World} {g : Nat} {f : Nat → Nat} (h : RowW V g f) (n : Nat) : RowW (V.drewN n) g f := h.step (below_drewN' (Below.refl _ _) n)
/-- a wide result -/
def WideR (v : Nat) (w : World) (e : Ending) (w' : World) : Prop := ∃ (g : Nat) (f : Nat → Nat), e = .returned (.slice (some ⟨g, 0, none⟩) 14 14) ∧ w.heap.size ≤ g ∧ RowW w' g f ∧ SmallW f ∧ valW f = v ∧ Below w.heap.size w w'
set_option maxRecDepth 100000 in
set_option maxHeartbeats 1600000 in
theorem r3_plus (gx gy : Nat) (x y : Nat → Nat) (w : World) (hx : RowW w gx x) (hy : RowW w gy y) (sx : SmallW x) (sy : SmallW y) (hs : valW x + valW y < 1000000000000000000000000000000000000000000) :
    Calls Tryz.prog 102 #[.slice (some ⟨gx, 0, none⟩) 14 14, .slice (some ⟨gy, 0, none⟩) 14 14] w (WideR (valW x + valW y) w) := by
  have hmk := run_make14
  have HX := Lib.hid (And.intro hx sx)
  have HY := Lib.hid (And.intro hy sy)
  have HS := Lib.hid hs
  clear hx hy sx sy hs
  go_enter Tryz.func102, Tryz.ntmps102
  go_wp2_with fail
  have hrow := RowW.new w 3
  have hbe := (Below.refl w.heap.size w).alloc (Nat.le_refl _) (.cells #[.int .i64 0, .int .i64 0, .int .i64 0, .int .i64 0, .int .i64 0, .int .i64 0, .int .i64 0, .int .i64 0, .int .i64 0, .int .i64 0, .int .i64 0, .int .i64 0, .int .i64 0, .int .i64 0] 3)
  refine forget_world (fun W => RowW W w.heap.size (fun _ => 0) ∧ Below w.heap.size w W) ⟨hrow, hbe⟩ ?_
  clear hrow hbe hmk
  rintro W ⟨hrow, hbe⟩
  have HR0 := Lib.hid hrow
  have HBE0 := Lib.hid hbe
  clear hrow hbe
  go_loopw [6, 7] (fun u v wr => ∃ (c k : Nat) (f : Nat → Nat), u = .int .i64 c ∧ v = .int .i64 k ∧ Hid (PlusI x y f k c) ∧ c ≤ 1 ∧ k ≤ 14 ∧ RowW wr w.heap.size f ∧ Below w.heap.size w wr) (fun _ v _ => 14 - (intOf v).toNat)
  case atStart => exact ⟨0, 0, _, rfl, rfl, Lib.hid (PlusI.start x y), by omega, by omega, HR0.out, HBE0.out⟩
  case round =>
    obtain ⟨c, k, f, rfl, rfl, hI, hc, hk14, hrf, hbf⟩ := hrel
    by_cases hk : k < 14
    · obtain ⟨p, hp⟩ : ∃ p, Hid (x k = p) := ⟨_, rfl⟩
      obtain ⟨q, hq⟩ : ∃ q, Hid (y k = q) := ⟨_, rfl⟩
      have p1 : p ≤ 999 := by have h1 := HX.out.2 k; have h2 := hp.out; omega
      have q1 : q ≤ 999 := by have h1 := HY.out.2 k; have h2 := hq.out; omega
      have cx := ((HX.out.1.old hbf).2 k hk).1
      have cy := ((HY.out.1.old hbf).2 k hk).1
      rw [hp.out] at cx
      rw [hq.out] at cy
      have hS := Lib.hid (hI.out.step HX.out.2 HY.out.2)
      rw [hp.out, hq.out] at hS
      have hfro := (hrf.2 k hk).2
      have hcel := (hrf.2 k hk).1
      have HRF := Lib.hid hrf
      have HBF := Lib.hid hbf
      have k1 : (0 : Int) ≤ (k : Int) := by omega
      have k2 : (k : Int) < 14 := by omega
      clear hrf hbf
      go_wp2_with fail
      go_quiet (fail)
      go_wp2_with fail
      go_roundw
      case rel => 
        have e1 : (((c + p + q) % 1000 : Nat) : Int) = ((c : Int) + p + q) % 1000 := by omega
        have hrs := (HRF.out.drewN nq).set hk ((c + p + q) % 1000)
        rw [e1] at hrs
        have hbs := (below_drewN' HBF.out nq).setCell (p := ⟨w.heap.size, k, none⟩) (Nat.le_refl _) (.int .i64 (((c : Int) + p + q) % 1000))
        exact ⟨(c + p + q) / 1000, k + 1, _, by go_num, by go_num, hS, by omega, by omega, hrs, hbs⟩
      case measure => simp [intOf]; omega
    · have hk' : k = 14 := by omega
      have HD := Lib.hid (hI.out.done hk' HS.out)
      go_wp2_with fail
      go_ret
      exact ⟨_, f, rfl, Nat.le_refl _, hrf, hI.out.small, HD.out, hbf⟩
set_option maxRecDepth 100000 in
set_option maxHeartbeats 1600000 in
theorem r3_minus (gx gy : Nat) (x y : Nat → Nat) (w : World) (hx : RowW w gx x) (hy : RowW w gy y) (sx : SmallW x) (sy : SmallW y) (hs : valW y ≤ valW x) :
    Calls Tryz.prog 104 #[.slice (some ⟨gx, 0, none⟩) 14 14, .slice (some ⟨gy, 0, none⟩) 14 14] w (WideR (valW x - valW y) w) := by
  have hmk := run_make14
  have HX := Lib.hid (And.intro hx sx)
  have HY := Lib.hid (And.intro hy sy)
  have HS := Lib.hid hs
  clear hx hy sx sy hs
  go_enter Tryz.func104, Tryz.ntmps104
  go_wp2_with fail
  have hrow := RowW.new w 3
  have hbe := (Below.refl w.heap.size w).alloc (Nat.le_refl _) (.cells #[.int .i64 0, .int .i64 0, .int .i64 0, .int .i64 0, .int .i64 0, .int .i64 0, .int .i64 0, .int .i64 0, .int .i64 0, .int .i64 0, .int .i64 0, .int .i64 0, .int .i64 0, .int .i64 0] 3)
  refine forget_world (fun W => RowW W w.heap.size (fun _ => 0) ∧ Below w.heap.size w W) ⟨hrow, hbe⟩ ?_
  clear hrow hbe hmk
  rintro W ⟨hrow, hbe⟩
  have HR0 := Lib.hid hrow
  have HBE0 := Lib.hid hbe
  clear hrow hbe
  go_loopw [6, 7] (fun u v wr => ∃ (c : Int) (k : Nat) (f : Nat → Nat), u = .int .i64 c ∧ v = .int .i64 k ∧ Hid (MinusI x y f k c) ∧ (-1 ≤ c ∧ c ≤ 0) ∧ k ≤ 14 ∧ RowW wr w.heap.size f ∧ Below w.heap.size w wr) (fun _ v _ => 14 - (intOf v).toNat)
  case atStart => exact ⟨0, 0, _, rfl, rfl, Lib.hid (MinusI.start x y), by omega, by omega, HR0.out, HBE0.out⟩
  case round =>
    obtain ⟨c, k, f, rfl, rfl, hI, ⟨hc1, hc2⟩, hk14, hrf, hbf⟩ := hrel
    by_cases hk : k < 14
    · obtain ⟨p, hp⟩ : ∃ p, Hid (x k = p) := ⟨_, rfl⟩
      obtain ⟨q, hq⟩ : ∃ q, Hid (y k = q) := ⟨_, rfl⟩
      have p1 : p ≤ 999 := by have h1 := HX.out.2 k; have h2 := hp.out; omega
      have q1 : q ≤ 999 := by have h1 := HY.out.2 k; have h2 := hq.out; omega
      have cx := ((HX.out.1.old hbf).2 k hk).1
      have cy := ((HY.out.1.old hbf).2 k hk).1
      rw [hp.out] at cx
      rw [hq.out] at cy
      have hfro := (hrf.2 k hk).2
      have hcel := (hrf.2 k hk).1
      have HRF := Lib.hid hrf
      have HBF := Lib.hid hbf
      have k1 : (0 : Int) ≤ (k : Int) := by omega
      have k2 : (k : Int) < 14 := by omega
      clear hrf hbf
      by_cases hn : c + p - q < 0
      · have hS := Lib.hid (hI.out.low HX.out.2 HY.out.2 (by rw [hp.out, hq.out]; exact hn))
        rw [hp.out, hq.out] at hS
        go_wp2_with fail
        go_quiet (fail)
        go_wp2_with fail
        go_roundw
        case rel =>
          have e1 : (((c + p - q + 1000).toNat : Nat) : Int) = c + p - q + 1000 := by omega
          have hrs := (HRF.out.drewN nq).set hk (c + p - q + 1000).toNat
          rw [e1] at hrs
          have hbs := (below_drewN' HBF.out nq).setCell (p := ⟨w.heap.size, k, none⟩) (Nat.le_refl _) (.int .i64 (c + p - q + 1000))
          exact ⟨-1, k + 1, _, rfl, by go_num, hS, by omega, by omega, hrs, hbs⟩
        case measure => simp [intOf]; omega
      · have hS := Lib.hid (hI.out.high HX.out.2 HY.out.2 (by rw [hp.out, hq.out]; exact hn))
        rw [hp.out, hq.out] at hS
        go_wp2_with fail
        go_quiet (fail)
        go_wp2_with fail
        go_roundw
        case rel =>
          have e1 : (((c + p - q).toNat : Nat) : Int) = c + p - q := by omega
          have hrs := (HRF.out.drewN nq).set hk (c + p - q).toNat
          rw [e1] at hrs
          have hbs := (below_drewN' HBF.out nq).setCell (p := ⟨w.heap.size, k, none⟩) (Nat.le_refl _) (.int .i64 (c + p - q))
          exact ⟨0, k + 1, _, rfl, by go_num, hS, by omega, by omega, hrs, hbs⟩
        case measure => simp [intOf]; omega
    · have hk' : k = 14 := by omega
      have HD := Lib.hid (hI.out.done hk' HS.out)
      go_wp2_with fail
      go_ret
      exact ⟨_, f, rfl, Nat.le_refl _, hrf, hI.out.small, HD.out, hbf⟩
set_option maxRecDepth 100000 in
set_option maxHeartbeats 1600000 in
theorem r3_order (gx gy : Nat) (x y : Nat → Nat) (w : World) (hx : RowW w gx x) (hy : RowW w gy y) (sx : SmallW x) (sy : SmallW y) :
    Calls Tryz.prog 103 #[.slice (some ⟨gx, 0, none⟩) 14 14, .slice (some ⟨gy, 0, none⟩) 14 14] w fun e w' => e = .returned (.int .i64 (sgn ((valW x : Int) - valW y))) ∧ Below w.heap.size w w' := by
  have HX := Lib.hid (And.intro hx sx)
  have HY := Lib.hid (And.intro hy sy)
  clear hx hy sx sy
  have HBE0 := Lib.hid (Below.refl w.heap.size w)
  go_enter Tryz.func103, Tryz.ntmps103
  go_wp2_with fail
  go_loopw [5] (fun v wr => ∃ (z : Int), v = .int .i64 z ∧ Hid (SameFrom x y (z + 1).toNat) ∧ -1 ≤ z ∧ z ≤ 13 ∧ Below w.heap.size w wr) (fun v _ => (intOf v + 1).toNat)
  case atStart => exact ⟨13, rfl, Lib.hid (SameFrom.start x y), by omega, by omega, HBE0.out⟩
  case round =>
    obtain ⟨z, rfl, hI, hz1, hz2, hbf⟩ := hrel
    by_cases hz : 0 ≤ z
    · obtain ⟨k, rfl⟩ := Int.eq_ofNat_of_zero_le hz
      have hk : k < 14 := by omega
      rw [show ((k : Int) + 1).toNat = k + 1 from by omega] at hI
      obtain ⟨p, hp⟩ : ∃ p, Hid (x k = p) := ⟨_, rfl⟩
      obtain ⟨q, hq⟩ : ∃ q, Hid (y k = q) := ⟨_, rfl⟩
      have cx := ((HX.out.1.old hbf).2 k hk).1
      have cy := ((HY.out.1.old hbf).2 k hk).1
      rw [hp.out] at cx
      rw [hq.out] at cy
      have HBF := Lib.hid hbf
      have k1 : (0 : Int) ≤ (k : Int) := by omega
      have k2 : (k : Int) < 14 := by omega
      clear hbf hz hz1 hz2
      rcases Nat.lt_trichotomy p q with h | h | h
      · have HL := Lib.hid (order_lt HX.out.2 hk hI.out (by rw [hp.out, hq.out]; exact h))
        have HV : Hid (sgn ((valW x : Int) - valW y) = -1) := Lib.hid (by unfold sgn; rw [if_pos (by have := HL.out; omega)])
        have d1 : decide (p < q) = true := decide_eq_true h
        go_wp2_with fail
        go_quiet (fail)
        go_wp2_with fail
        go_ret
        exact ⟨ret_int HV.out.symm, by first | exact below_drewN' (below_drewN' HBF.out _) _ | exact below_drewN' HBF.out _⟩
      · subst h
        have HN := Lib.hid (hI.out.step hk (hp.out.trans hq.out.symm))
        go_wp2_with fail
        go_quiet (fail)
        go_wp2_with fail
        go_quiet (fail)
        go_wp2_with fail
        go_roundw
        case rel => exact ⟨(k : Int) - 1, rfl, by rw [show ((k : Int) - 1 + 1).toNat = k from by omega]; exact HN, by omega, by omega, by first | exact below_drewN' (below_drewN' HBF.out _) _ | exact below_drewN' HBF.out _⟩
        case measure => simp [intOf]
      · have HL := Lib.hid (order_lt HY.out.2 hk hI.out.symm (by rw [hp.out, hq.out]; exact h))
        have HV : Hid (sgn ((valW x : Int) - valW y) = 1) := Lib.hid (by unfold sgn; rw [if_neg (by have := HL.out; omega), if_pos (by have := HL.out; omega)])
        have d1 : decide (p < q) = false := decide_eq_false (by omega)
        have d2 : decide (q < p) = true := decide_eq_true h
        go_wp2_with fail
        go_quiet (fail)
        go_wp2_with fail
        go_quiet (fail)
        go_wp2_with fail
        go_ret
        exact ⟨ret_int HV.out.symm, by first | exact below_drewN' (below_drewN' HBF.out _) _ | exact below_drewN' HBF.out _⟩
    · obtain rfl : z = -1 := by omega
      have HD := Lib.hid (SameFrom.done hI.out)
      have HV : Hid (sgn ((valW x : Int) - valW y) = 0) := Lib.hid (by have h := HD.out; rw [h, Int.sub_self]; rfl)
      go_wp2_with fail
      go_ret
      exact ⟨ret_int HV.out.symm, hbf⟩
end Go.Proofs.YtgojggmjajlbpaaGreatDoor

/- THE WALK over the reference's sum of signed wide numbers. -/
namespace Go.Proofs.YtgojggmjajlbpaaGreatDoor
open Go.RowKit
/-- a sign and a wide magnitude -/
def SumIs (T : Int) (w : World) (e : Ending) (w' : World) : Prop := ∃ (g : Nat) (f : Nat → Nat), e = .returned (.tuple #[.int .i64 (sgn T), .slice (some ⟨g, 0, none⟩) 14 14]) ∧ RowW w' g f ∧ SmallW f ∧ valW f = T.natAbs ∧ Below w.heap.size w w'
/-- a sign of a magnitude -/
def SignOf (s : Int) (v : Nat) : Prop := (s = 0 ∧ v = 0) ∨ ((s = 1 ∨ s = -1) ∧ 0 < v)
theorem sgn_of {s : Int} {v : Nat} (h : SignOf s v) : sgn (s * v) = s ∧ (s * (v : Int)).natAbs = v := by
  rcases h with ⟨rfl, rfl⟩ | ⟨rfl | rfl, h⟩
  · exact ⟨rfl, rfl⟩
  · unfold sgn; rw [if_neg (by omega), if_pos (by omega)]; exact ⟨rfl, by omega⟩
  · unfold sgn; rw [if_pos (by omega)]; exact ⟨rfl, by omega⟩
theorem rows_two {V : World} : RowW ((V.alloc (.cells #[.int .i64 0, .int .i64 0, .int .i64 0, .int .i64 0, .int .i64 0, .int .i64 0, .int .i64 0, .int .i64 0, .int .i64 0, .int .i64 0, .int .i64 0, .int .i64 0, .int .i64 0, .int .i64 0] 3)).alloc (.cells #[.int .i64 0, .int .i64 0, .int .i64 0, .int .i64 0, .int .i64 0, .int .i64 0, .int .i64 0, .int .i64 0, .int .i64 0, .int .i64 0, .int .i64 0, .int .i64 0, .int .i64 0, .int .i64 0] 3)) V.heap.size (fun _ => 0) ∧
    RowW ((V.alloc (.cells #[.int .i64 0, .int .i64 0, .int .i64 0, .int .i64 0, .int .i64 0, .int .i64 0, .int .i64 0, .int .i64 0, .int .i64 0, .int .i64 0, .int .i64 0, .int .i64 0, .int .i64 0, .int .i64 0] 3)).alloc (.cells #[.int .i64 0, .int .i64 0, .int .i64 0, .int .i64 0, .int .i64 0, .int .i64 0, .int .i64 0, .int .i64 0, .int .i64 0, .int .i64 0, .int .i64 0, .int .i64 0, .int .i64 0, .int .i64 0] 3)) (V.heap.size + 1) (fun _ => 0) := by
  constructor
  · exact (RowW.new V 3).step ((Below.refl _ _).alloc (Nat.le_refl _) _)
  · have h := RowW.new (V.alloc (.cells #[.int .i64 0, .int .i64 0, .int .i64 0, .int .i64 0, .int .i64 0, .int .i64 0, .int .i64 0, .int .i64 0, .int .i64 0, .int .i64 0, .int .i64 0, .int .i64 0, .int .i64 0, .int .i64 0] 3)) 3
    rw [show (V.alloc (.cells #[.int .i64 0, .int .i64 0, .int .i64 0, .int .i64 0, .int .i64 0, .int .i64 0, .int .i64 0, .int .i64 0, .int .i64 0, .int .i64 0, .int .i64 0, .int .i64 0, .int .i64 0, .int .i64 0] 3)).heap.size = V.heap.size + 1 from by simp] at h
    exact h
theorem valW_zero : valW (fun _ => 0) = 0 := by
  obtain ⟨n, hn⟩ : ∃ n : Nat, n = 14 := ⟨_, rfl⟩
  rw [valW_def _ hn, valN_zero]
theorem small_zero : SmallW (fun _ => 0) := fun _ => by simp
set_option maxRecDepth 100000 in
set_option maxHeartbeats 3200000 in
theorem r3_sum (an bn : Int) (gx gy : Nat) (x y : Nat → Nat) (w : World) (hx : RowW w gx x) (hy : RowW w gy y) (sx : SmallW x) (sy : SmallW y) (sa : SignOf an (valW x)) (sb : SignOf bn (valW y)) (bx : valW x ≤ 1000000000000000000000000000000) (by' : valW y ≤ 1000000000000000000000000000000) :
    Calls Tryz.prog 80 #[.int .i64 an, .slice (some ⟨gx, 0, none⟩) 14 14, .int .i64 bn, .slice (some ⟨gy, 0, none⟩) 14 14] w (SumIs (an * valW x + bn * valW y) w) := by
  have HB := Lib.hid (And.intro bx by')
  have HX := Lib.hid (And.intro hx sx)
  have HY := Lib.hid (And.intro hy sy)
  have SA := Lib.hid sa
  have SB := Lib.hid sb
  have HP := Lib.hid (fun (_ : Unit) => r3_plus gx gy x y w hx hy sx sy (by have h1 := bx; have h2 := by'; omega))
  have HO := Lib.hid (r3_order gx gy x y w hx hy sx sy)
  clear hx hy sx sy bx by' sa sb
  by_cases hb0 : bn = 0
  · subst hb0
    have hT : Hid (sgn (an * (valW x : Int) + 0 * valW y) = an ∧ (an * (valW x : Int) + 0 * valW y).natAbs = valW x + valW y) := by
      have h1 := sgn_of SA.out
      have h2 : valW y = 0 := by rcases SB.out with h | h <;> omega
      rw [h2, Int.zero_mul, Int.add_zero, Nat.add_zero]; exact h1
    generalize an * (valW x : Int) + 0 * valW y = T at *
    generalize valW x + valW y = v at *
    cases hab : an == 0
    all_goals
      go_enter Tryz.func80, Tryz.ntmps80
      go_wp2_with fail
      refine (HP.out ()).mono ?_
      rintro e w1 ⟨g, f, rfl, hg, hrow, hsm, hval, hb1⟩
      have HV := Lib.hid hval
      clear hval
      go_wp2_with fail
      go_ret2
      refine ⟨g, f, ?_, hrow, hsm, HV.out.trans hT.out.2.symm, hb1⟩
      rw [hT.out.1]
      rfl
  · have b0 : (bn == 0) = false := beq_eq_false_iff_ne.2 hb0
    by_cases hab : an = bn
    · subst hab
      have hT : Hid (sgn (an * (valW x : Int) + an * valW y) = an ∧ (an * (valW x : Int) + an * valW y).natAbs = valW x + valW y) := by
        have h : SignOf an (valW x + valW y) := by
          rcases SA.out with ⟨h1, h2⟩ | ⟨h1, h2⟩
          · rcases SB.out with ⟨h3, h4⟩ | ⟨h3, h4⟩
            · exact .inl ⟨h1, by omega⟩
            · omega
          · exact .inr ⟨h1, by omega⟩
        have h1 := sgn_of h
        rw [← Int.mul_add, show (valW x : Int) + valW y = ((valW x + valW y : Nat) : Int) from by simp]; exact h1
      generalize an * (valW x : Int) + an * valW y = T at *
      generalize valW x + valW y = v at *
      clear hb0
      go_enter Tryz.func80, Tryz.ntmps80
      go_wp2_with fail
      refine (HP.out ()).mono ?_
      rintro e w1 ⟨g, f, rfl, hg, hrow, hsm, hval, hb1⟩
      have HV := Lib.hid hval
      clear hval
      go_wp2_with fail
      go_ret2
      refine ⟨g, f, ?_, hrow, hsm, HV.out.trans hT.out.2.symm, hb1⟩
      rw [hT.out.1]
      rfl
    · have ab : (an == bn) = false := beq_eq_false_iff_ne.2 hab
      by_cases ha0 : an = 0
      · subst ha0
        have hT : Hid (sgn (0 * (valW x : Int) + bn * valW y) = bn ∧ (0 * (valW x : Int) + bn * valW y).natAbs = valW y) := by
          have h1 := sgn_of SB.out
          rw [Int.zero_mul, Int.zero_add]; exact h1
        generalize 0 * (valW x : Int) + bn * valW y = T at *
        clear hb0 hab
        go_enter Tryz.func80, Tryz.ntmps80
        go_wp2_with fail
        go_ret2
        refine ⟨gy, y, ?_, HY.out.1, HY.out.2, hT.out.2.symm, Below.refl _ _⟩
        rw [hT.out.1]
        rfl
      · have a0 : (an == 0) = false := beq_eq_false_iff_ne.2 ha0
        have hbn : bn = -an := by
          rcases SA.out with ⟨h1, h2⟩ | ⟨h1, h2⟩ <;> rcases SB.out with ⟨h3, h4⟩ | ⟨h3, h4⟩ <;> omega
        have hTT : Hid (an * (valW x : Int) + bn * valW y = an * ((valW x : Int) - valW y)) := by show _ = _; rw [hbn]; grind
        rw [hTT.out]
        rcases Nat.lt_trichotomy (valW x) (valW y) with hlt | heq | hgt
        · have hc : sgn ((valW x : Int) - valW y) = -1 := by unfold sgn; rw [if_pos (by omega)]
          have HM := Lib.hid (fun (w1 : World) (hb : Below w.heap.size w w1) => r3_minus gy gx y x w1 (HY.out.1.old hb) (HX.out.1.old hb) HY.out.2 HX.out.2 (Nat.le_of_lt hlt))
          have hT : Hid (sgn (an * ((valW x : Int) - valW y)) = bn ∧ (an * ((valW x : Int) - valW y)).natAbs = valW y - valW x) := by
            have h : SignOf bn (valW y - valW x) := .inr ⟨by rcases SB.out with h | h <;> omega, by omega⟩
            have h1 := sgn_of h
            rw [show an * ((valW x : Int) - valW y) = bn * ((valW y - valW x : Nat) : Int) from by rw [hbn, show ((valW y - valW x : Nat) : Int) = (valW y : Int) - valW x from by omega]; grind]; exact h1
          rw [hc] at HO
          generalize an * ((valW x : Int) - valW y) = T at *
          generalize valW y - valW x = v at *
          clear hb0 hab ha0 hbn hlt hc
          go_enter Tryz.func80, Tryz.ntmps80
          go_wp2_with fail
          refine HO.out.mono ?_
          rintro e w1 ⟨rfl, hb1⟩
          go_wp2_with fail
          refine (HM.out _ hb1).mono ?_
          rintro e w2 ⟨g, f, rfl, hg, hrow, hsm, hval, hb2⟩
          have HV := Lib.hid hval
          clear hval
          go_wp2_with fail
          go_ret2
          refine ⟨g, f, ?_, hrow, hsm, HV.out.trans hT.out.2.symm, below_step hb1 hb2⟩
          rw [hT.out.1]
          rfl
        · have hc : sgn ((valW x : Int) - valW y) = 0 := by unfold sgn; rw [if_neg (by omega), if_neg (by omega)]
          have hT : Hid (an * ((valW x : Int) - valW y) = 0) := by show _ = _; rw [show (valW x : Int) - valW y = 0 from by omega]; simp
          rw [hc] at HO
          rw [hT.out]
          have hmk := run_make14
          clear hb0 hab ha0 hbn heq hc
          go_enter Tryz.func80, Tryz.ntmps80
          go_wp2_with fail
          refine HO.out.mono ?_
          rintro e w1 ⟨rfl, hb1⟩
          go_wp2_with fail
          go_region_with (go_at_call 102; refine Calls.mono (r3_plus _ _ (fun _ => 0) (fun _ => 0) _ ?ha ?hb small_zero small_zero (by rw [valW_zero]; decide)) ?_; (case ha => first | exact rows_two.1 | exact rows_two.2); (case hb => first | exact rows_two.1 | exact rows_two.2); rintro e w2 ⟨g, f, rfl, hg, hrow, hsm, hval, hb2⟩; have HV := Lib.hid hval; clear hval)
          all_goals go_wp2_with fail
          all_goals go_ret2
          all_goals refine ⟨_, _, rfl, by assumption, by assumption, (Hid.out ‹Hid (valW _ = valW (fun _ => 0) + valW (fun _ => 0))›).trans (by rw [valW_zero]; rfl), ?_⟩
          all_goals exact below_step (((hb1.trans (below_drewN' (Below.refl _ _) 1 |>.mono hb1.size)).alloc (by simp; have := hb1.size; omega) _).alloc (by simp; have := hb1.size; omega) _) (by assumption)
        · have hc : sgn ((valW x : Int) - valW y) = 1 := by unfold sgn; rw [if_neg (by omega), if_pos (by omega)]
          have HM := Lib.hid (fun (w1 : World) (hb : Below w.heap.size w w1) => r3_minus gx gy x y w1 (HX.out.1.old hb) (HY.out.1.old hb) HX.out.2 HY.out.2 (Nat.le_of_lt hgt))
          have hT : Hid (sgn (an * ((valW x : Int) - valW y)) = an ∧ (an * ((valW x : Int) - valW y)).natAbs = valW x - valW y) := by
            have h : SignOf an (valW x - valW y) := .inr ⟨by rcases SA.out with h | h <;> omega, by omega⟩
            have h1 := sgn_of h
            rw [show (valW x : Int) - valW y = ((valW x - valW y : Nat) : Int) from by omega]; exact h1
          rw [hc] at HO
          generalize an * ((valW x : Int) - valW y) = T at *
          generalize valW x - valW y = v at *
          clear hb0 hab ha0 hbn hgt hc
          go_enter Tryz.func80, Tryz.ntmps80
          go_wp2_with fail
          refine HO.out.mono ?_
          rintro e w1 ⟨rfl, hb1⟩
          go_wp2_with fail
          refine (HM.out _ hb1).mono ?_
          rintro e w2 ⟨g, f, rfl, hg, hrow, hsm, hval, hb2⟩
          have HV := Lib.hid hval
          clear hval
          go_wp2_with fail
          go_ret2
          refine ⟨g, f, ?_, hrow, hsm, HV.out.trans hT.out.2.symm, below_step hb1 hb2⟩
          rw [hT.out.1]
          rfl
end Go.Proofs.YtgojggmjajlbpaaGreatDoor

/- PLAIN LAWS: the field and the order. -/
namespace Go.Proofs.YtgojggmjajlbpaaGreatDoor
theorem addS_ok {an ad bn bd x y : Int} (h : addS an ad bn bd = (x, y, true)) : validB an ad = true ∧ validB bn bd = true ∧ validB x y = true ∧ x * (ad * bd) = (an * bd + bn * ad) * y := by
  cases ha : validB an ad
  · unfold addS at h; rw [ha] at h; cases h
  · cases hb : validB bn bd
    · unfold addS at h; rw [ha, hb] at h; cases h
    · rw [addS_valid ha hb] at h
      have := redS_ok (pos_mul (low_of_valid ha).1 (low_of_valid hb).1) h
      exact ⟨rfl, rfl, this.1, this.2⟩
theorem valid_pos {n d : Int} (h : validB n d = true) : 1 ≤ d := (validB_iff.1 h).1
/-- (a + b) + c = a + (b + c) -/
theorem add_assoc {an ad bn bd cn cd x y u v : Int} (h : addS an ad bn bd = (x, y, true)) (k : addS bn bd cn cd = (u, v, true)) : addS x y cn cd = addS an ad u v := by
  obtain ⟨ha, hb, hx, e⟩ := addS_ok h
  obtain ⟨-, hc, hu, f⟩ := addS_ok k
  rw [addS_valid hx hc, addS_valid ha hu]
  refine redS_congr (pos_mul (valid_pos hx) (valid_pos hc)) (pos_mul (valid_pos ha) (valid_pos hu)) ?_
  have b0 : bd ≠ 0 := by have := valid_pos hb; omega
  refine Int.eq_of_mul_eq_mul_right b0 ?_
  grind
end Go.Proofs.YtgojggmjajlbpaaGreatDoor

/- PLAIN LAWS: the order, the floor. -/
namespace Go.Proofs.YtgojggmjajlbpaaGreatDoor
theorem fixD_pos (n d : Int) : 1 ≤ fixD n d := by
  unfold fixD
  cases h : validB n d
  · simp
  · exact valid_pos h
end Go.Proofs.YtgojggmjajlbpaaGreatDoor
