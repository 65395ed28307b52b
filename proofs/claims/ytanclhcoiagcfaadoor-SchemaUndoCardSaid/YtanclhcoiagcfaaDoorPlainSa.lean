/- PLAIN: which rules are right, their texts, and how a text is cut into words. No program in sight. -/
import Derived.Test.YtanclhcoiagcfaaDoorPlainS
import Derived.Lib.SplitLaws
import Derived.Lib.ItoaNum
namespace Go.Proofs.YtanclhcoiagcfaaDoor

def isLet (c : UInt8) : Bool := (decide (97 ≤ c.toNat) && decide (c.toNat ≤ 122)) || (decide (65 ≤ c.toNat) && decide (c.toNat ≤ 90))
def isWd (c : UInt8) : Bool := isLet c || decide (c.toNat = 95) || (decide (48 ≤ c.toNat) && decide (c.toNat ≤ 57))
def nameL : List UInt8 → Bool
  | [] => false
  | c :: r => decide (r.length ≤ 19) && isLet c && r.all isWd
def nameB (s : ByteArray) : Bool := nameL s.data.toList

def keyK (k : Int) : Bool := decide (1 ≤ k) && decide (k ≤ 5)
def numB (k n : Int) : Bool := if k = 3 ∨ k = 5 then decide (n = 1) || decide (n = 2) || decide (n = 4) else if k = 7 then decide (0 ≤ n) && decide (n ≤ 4000) else decide (n = 0)

/-- a rule's first error -/
def chkR (r : RuleP) : Int :=
  if r.kind < 1 ∨ 7 < r.kind ∨ numB r.kind r.n = false then 1
  else if (keyK r.kind = false ∧ r.key.size ≠ 0) ∨ (r.kind ≠ 6 ∧ (r.frm.size ≠ 0 ∨ r.tov.size ≠ 0)) then 1
  else if nameB r.name = false ∨ (keyK r.kind = true ∧ nameB r.key = false) ∨ (r.frm.size ≠ 0 ∧ nameB r.frm = false) ∨ (r.tov.size ≠ 0 ∧ nameB r.tov = false) then 6
  else 0

theorem chkR_ok {r : RuleP} (h : chkR r = 0) : 1 ≤ r.kind ∧ r.kind ≤ 7 ∧ numB r.kind r.n = true ∧ (keyK r.kind = false → r.key.size = 0) ∧ (r.kind ≠ 6 → r.frm.size = 0 ∧ r.tov.size = 0) ∧ nameB r.name = true ∧ (keyK r.kind = true → nameB r.key = true) ∧ (r.frm.size ≠ 0 → nameB r.frm = true) ∧ (r.tov.size ≠ 0 → nameB r.tov = true) := by
  unfold chkR at h
  split at h
  · cases h
  · split at h
    · cases h
    · split at h
      · cases h
      · rename_i h1 h2 h3
        simp only [not_or, not_and, Bool.not_eq_false] at h1 h2 h3
        refine ⟨by omega, by omega, h1.2.2, fun h => ?_, fun h => ?_, h3.1, h3.2.1, h3.2.2.1, h3.2.2.2⟩
        · have := h2.1 h; simpa using this
        · have := h2.2 h; simpa using this

/-- the word of a kind of values -/
def wordN (n : Int) : List UInt8 := if n = 1 then [98, 111, 111, 108] else if n = 2 then [105, 110, 116] else if n = 4 then [115, 116, 114] else []
def kindW (l : List UInt8) : Int := if l = [98, 111, 111, 108] then 1 else if l = [105, 110, 116] then 2 else if l = [115, 116, 114] then 4 else 0
theorem kindW_word {n : Int} (h : n = 1 ∨ n = 2 ∨ n = 4) : kindW (wordN n) = n := by rcases h with rfl | rfl | rfl <;> rfl

def starL (s : List UInt8) : List UInt8 := if s = [] then [42] else s
def someL (s : List UInt8) : List UInt8 := if s = [42] then [] else s

/-- a kind's words ahead -/
def headL (k : Int) : List UInt8 :=
  if k = 1 then [117, 110, 105, 113, 117, 101] else if k = 2 then [101, 120, 105, 115, 116, 115] else if k = 3 then [107, 105, 110, 100] else
  if k = 4 then [101, 100, 103, 101, 32, 101, 120, 105, 115, 116, 115] else if k = 5 then [101, 100, 103, 101, 32, 107, 105, 110, 100] else if k = 6 then [101, 110, 100, 115] else if k = 7 then [109, 97, 120, 111, 117, 116] else []

/-- what stands behind the head -/
def tailW (r : RuleP) : List (List UInt8) :=
  if r.kind = 3 ∨ r.kind = 5 then [r.name.data.toList, r.key.data.toList, wordN r.n]
  else if keyK r.kind = true then [r.name.data.toList, r.key.data.toList]
  else if r.kind = 6 then [r.name.data.toList, starL r.frm.data.toList, starL r.tov.data.toList]
  else [r.name.data.toList, Lib.itoa r.n]

/-- words with single spaces between -/
def joinW : List (List UInt8) → List UInt8
  | [] => []
  | [a] => a
  | a :: b :: r => a ++ 32 :: joinW (b :: r)

def textL (r : RuleP) : List UInt8 := if chkR r = 0 then joinW (headL r.kind :: tailW r) else []

/-- cut at single spaces -/
def cutW : List UInt8 → List UInt8 → List (List UInt8)
  | a, [] => [a]
  | a, c :: r => if c = 32 then a :: cutW [] r else cutW (a ++ [c]) r
def pieces (l : List UInt8) : List (List UInt8) := cutW [] l

theorem cutW_word (w : List UInt8) (h : ∀ c ∈ w, c ≠ 32) : ∀ a r, cutW a (w ++ r) = cutW (a ++ w) r := by
  induction w with
  | nil => intro a r; simp
  | cons c t ih =>
    intro a r
    have hc := h c (List.mem_cons_self ..)
    show (if c = 32 then _ else cutW (a ++ [c]) (t ++ r)) = _
    rw [if_neg hc, ih (fun d hd => h d (List.mem_cons_of_mem _ hd))]
    simp

theorem pieces_join : ∀ (ws : List (List UInt8)), ws ≠ [] → (∀ w ∈ ws, ∀ c ∈ w, c ≠ 32) → pieces (joinW ws) = ws
  | [], h, _ => absurd rfl h
  | [a], _, h => by
    have h := cutW_word a (h a (List.mem_cons_self ..)) [] []
    unfold pieces joinW
    simpa [cutW] using h
  | a :: b :: r, _, h => by
    unfold pieces joinW
    rw [cutW_word a (h a (List.mem_cons_self ..))]
    show (if (32 : UInt8) = 32 then _ else _) = _
    rw [if_pos rfl]
    have e := pieces_join (b :: r) (by simp) (fun w hw => h w (List.mem_cons_of_mem _ hw))
    unfold pieces at e
    rw [e]; simp

theorem joinW_cons (a : List UInt8) {ws : List (List UInt8)} (h : ws ≠ []) : joinW (a :: ws) = a ++ 32 :: joinW ws := by
  cases ws with
  | nil => exact absurd rfl h
  | cons b r => rfl

theorem joinW_append : ∀ (a : List (List UInt8)) {b : List (List UInt8)}, a ≠ [] → b ≠ [] → joinW (joinW a :: b) = joinW (a ++ b)
  | [], _, h, _ => absurd rfl h
  | [x], b, _, _ => rfl
  | x :: y :: r, b, _, hb => by
    have e := joinW_append (y :: r) (by simp) hb
    rw [List.cons_append, joinW_cons x (by simp), joinW_cons x (by simp), ← e, joinW_cons _ hb, joinW_cons _ hb]
    simp

theorem name_nosp {l : List UInt8} (h : nameL l = true) : ∀ c ∈ l, c ≠ 32 := by
  cases l with
  | nil => cases h
  | cons a r =>
    simp only [nameL, Bool.and_eq_true, decide_eq_true_iff] at h
    intro c hc e
    subst e
    rcases List.mem_cons.1 hc with rfl | hc
    · exact absurd h.1.2 (by decide)
    · exact absurd (List.all_eq_true.1 h.2 _ hc) (by decide)

theorem name_ne {l : List UInt8} (h : nameL l = true) : l ≠ [] := by rintro rfl; cases h
theorem name_nostar {l : List UInt8} (h : nameL l = true) : l ≠ [42] := by rintro rfl; exact absurd h (by decide)
theorem name_len {l : List UInt8} (h : nameL l = true) : l.length ≤ 20 := by
  cases l with
  | nil => simp
  | cons a r => simp only [nameL, Bool.and_eq_true, decide_eq_true_iff] at h; simp only [List.length_cons]; omega

theorem size_zero {s : ByteArray} (h : s.size = 0) : s.data.toList = [] := List.eq_nil_of_length_eq_zero (by simpa using h)
theorem size_nz {s : ByteArray} (h : s.size ≠ 0) : s.data.toList ≠ [] := fun e => h (by have := congrArg List.length e; simpa using this)
theorem ba_ext {a b : ByteArray} (h : a.data.toList = b.data.toList) : a = b := ByteArray.ext (Array.toList_inj.1 h)

end Go.Proofs.YtanclhcoiagcfaaDoor
