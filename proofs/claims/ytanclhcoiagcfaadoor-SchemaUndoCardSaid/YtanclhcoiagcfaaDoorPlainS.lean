/- PLAIN: rules of a schema, their order. No program in sight. -/
import Derived.Sort.Walk0
import Derived.Lib.Small
namespace Go.Proofs.YtanclhcoiagcfaaDoor

/-- a total order told by a number -/
structure TotC {α : Type} (c : α → α → Int) : Prop where
  rng : ∀ x y, c x y = -1 ∨ c x y = 0 ∨ c x y = 1
  zero : ∀ x y, c x y = 0 ↔ x = y
  anti : ∀ x y, c y x = - c x y
  trans : ∀ x y z, c x y ≤ 0 → c y z ≤ 0 → c x z ≤ 0

/-- the first that is not zero -/
def thenC (x y : Int) : Int := if x = 0 then y else x

theorem TotC.lex {α β : Type} {c : α → α → Int} {d : β → β → Int} (hc : TotC c) (hd : TotC d) : TotC (fun (a b : α × β) => thenC (c a.1 b.1) (d a.2 b.2)) := by
  constructor
  · intro x y; unfold thenC; split
    · exact hd.rng _ _
    · exact hc.rng _ _
  · intro x y; unfold thenC; split
    · rename_i h
      rw [hd.zero]; have h := (hc.zero _ _).1 h
      exact ⟨fun h2 => Prod.ext h h2, fun h2 => by rw [h2]⟩
    · rename_i h
      exact ⟨fun h2 => absurd h2 h, fun h2 => absurd ((hc.zero _ _).2 (by rw [h2])) h⟩
  · intro x y; unfold thenC
    have h := hc.anti x.1 y.1
    by_cases h0 : c x.1 y.1 = 0
    · rw [if_pos h0, if_pos (by omega)]; exact hd.anti _ _
    · rw [if_neg h0, if_neg (by omega)]; exact h
  · intro x y z; unfold thenC
    by_cases h1 : c x.1 y.1 = 0
    · have e1 := (hc.zero _ _).1 h1
      rw [if_pos h1]
      by_cases h2 : c y.1 z.1 = 0
      · rw [if_pos h2, e1, if_pos h2]; exact hd.trans _ _ _
      · rw [if_neg h2, e1, if_neg h2]; exact fun _ h => h
    · rw [if_neg h1]
      by_cases h2 : c y.1 z.1 = 0
      · have e2 := (hc.zero _ _).1 h2
        rw [if_pos h2, ← e2, if_neg h1]; exact fun h _ => h
      · rw [if_neg h2]
        intro a b
        have t := hc.trans _ _ _ a b
        split
        · rename_i h3
          have e3 := (hc.zero _ _).1 h3
          have := hc.anti x.1 y.1
          rw [e3] at this h1 a
          omega
        · exact t

theorem TotC.pull {α β : Type} {c : α → α → Int} (hc : TotC c) (f : β → α) (hf : ∀ x y, f x = f y → x = y) : TotC (fun a b => c (f a) (f b)) :=
  ⟨fun _ _ => hc.rng _ _, fun x y => (hc.zero _ _).trans ⟨hf x y, fun h => by rw [h]⟩, fun _ _ => hc.anti _ _, fun _ _ _ => hc.trans _ _ _⟩

theorem TotC.int : TotC Lib.compareInt := by
  constructor <;> intros <;> unfold Lib.compareInt at * <;> (repeat' split at *) <;> omega

/-- two texts, byte by byte -/
def cmpS (a b : ByteArray) : Int := if Op.bytesLess a.toList b.toList = true then -1 else if (a.toList == b.toList) = true then 0 else 1

theorem less_irrefl (a : List UInt8) : Op.bytesLess a a = false := by
  induction a with
  | nil => rfl
  | cons x r ih => simp [Op.bytesLess, ih]

theorem less_trans : ∀ (a b c : List UInt8), Op.bytesLess a b = true → Op.bytesLess b c = true → Op.bytesLess a c = true
  | _, [], _, h, _ => by simp [Op.bytesLess] at h
  | _, _ :: _, [], _, h => by simp [Op.bytesLess] at h
  | [], _ :: _, _ :: _, _, _ => rfl
  | x :: a, y :: b, z :: c, h1, h2 => by
    simp only [Op.bytesLess, Bool.or_eq_true, Bool.and_eq_true, decide_eq_true_iff, beq_iff_eq] at h1 h2 ⊢
    rcases h1 with h1 | ⟨h1, h1'⟩ <;> rcases h2 with h2 | ⟨h2, h2'⟩
    · exact .inl (UInt8.lt_trans h1 h2)
    · exact .inl (h2 ▸ h1)
    · exact .inl (h1 ▸ h2)
    · exact .inr ⟨h1.trans h2, less_trans a b c h1' h2'⟩

theorem less_tri : ∀ (a b : List UInt8), Op.bytesLess a b = true ∨ a = b ∨ Op.bytesLess b a = true
  | [], [] => .inr (.inl rfl)
  | [], _ :: _ => .inl rfl
  | _ :: _, [] => .inr (.inr rfl)
  | x :: a, y :: b => by
    simp only [Op.bytesLess, Bool.or_eq_true, Bool.and_eq_true, decide_eq_true_iff, beq_iff_eq, List.cons.injEq]
    by_cases h : x = y
    · subst h
      rcases less_tri a b with h | h | h
      · exact .inl (.inr ⟨rfl, h⟩)
      · exact .inr (.inl ⟨rfl, h⟩)
      · exact .inr (.inr (.inr ⟨rfl, h⟩))
    · have hn : x.toNat ≠ y.toNat := fun e => h (UInt8.toNat_inj.1 e)
      rcases Nat.lt_or_gt_of_ne hn with h | h
      · exact .inl (.inl (UInt8.lt_iff_toNat_lt.2 h))
      · exact .inr (.inr (.inl (UInt8.lt_iff_toNat_lt.2 h)))

theorem less_asymm {a b : List UInt8} (h : Op.bytesLess a b = true) : Op.bytesLess b a = false := by
  cases h2 : Op.bytesLess b a
  · rfl
  · have := less_trans _ _ _ h h2; rw [less_irrefl] at this; cases this

theorem bytes_eq {a b : ByteArray} (h : a.toList = b.toList) : a = b := by
  rw [ByteArray.toList_eq, ByteArray.toList_eq] at h
  exact ByteArray.ext (Array.toList_inj.1 h)

theorem cmpS_lt {a b : ByteArray} (h : Op.bytesLess a.toList b.toList = true) : cmpS a b = -1 := by unfold cmpS; rw [if_pos h]
theorem cmpS_eq (a : ByteArray) : cmpS a a = 0 := by unfold cmpS; rw [less_irrefl]; simp
theorem cmpS_gt {a b : ByteArray} (h : Op.bytesLess b.toList a.toList = true) : cmpS a b = 1 := by
  unfold cmpS; rw [less_asymm h, if_neg (by simp), if_neg]
  intro e; rw [beq_iff_eq] at e; rw [e, less_irrefl] at h; cases h

theorem cmpS_tri (a b : ByteArray) : (Op.bytesLess a.toList b.toList = true ∧ cmpS a b = -1 ∧ cmpS b a = 1) ∨ (a = b ∧ cmpS a b = 0) ∨ (Op.bytesLess b.toList a.toList = true ∧ cmpS a b = 1 ∧ cmpS b a = -1) := by
  rcases less_tri a.toList b.toList with h | h | h
  · exact .inl ⟨h, cmpS_lt h, cmpS_gt h⟩
  · have := bytes_eq h; subst this; exact .inr (.inl ⟨rfl, cmpS_eq _⟩)
  · exact .inr (.inr ⟨h, cmpS_gt h, cmpS_lt h⟩)

theorem TotC.str : TotC cmpS := by
  constructor
  · intro x y; rcases cmpS_tri x y with ⟨_, h, _⟩ | ⟨_, h⟩ | ⟨_, h, _⟩ <;> omega
  · intro x y; rcases cmpS_tri x y with ⟨h0, h, _⟩ | ⟨h0, h⟩ | ⟨h0, h, _⟩
    · exact ⟨fun e => by omega, fun e => by subst e; rw [less_irrefl] at h0; cases h0⟩
    · exact ⟨fun _ => h0, fun _ => h⟩
    · exact ⟨fun e => by omega, fun e => by subst e; rw [less_irrefl] at h0; cases h0⟩
  · intro x y; rcases cmpS_tri x y with ⟨_, h, h'⟩ | ⟨h0, h⟩ | ⟨_, h, h'⟩
    · omega
    · subst h0; omega
    · omega
  · intro x y z a b
    rcases cmpS_tri x y with ⟨h0, h, _⟩ | ⟨h0, h⟩ | ⟨h0, h, _⟩
    · rcases cmpS_tri y z with ⟨g0, g, _⟩ | ⟨g0, g⟩ | ⟨g0, g, _⟩
      · rw [cmpS_lt (less_trans _ _ _ h0 g0)]; omega
      · subst g0; omega
      · omega
    · subst h0; exact b
    · omega

/-- a rule -/
structure RuleP where
  kind : Int
  n : Int
  name : ByteArray
  key : ByteArray
  frm : ByteArray
  tov : ByteArray
deriving DecidableEq

theorem RuleP.ext' {a b : RuleP} (h1 : a.kind = b.kind) (h2 : a.n = b.n) (h3 : a.name = b.name) (h4 : a.key = b.key) (h5 : a.frm = b.frm) (h6 : a.tov = b.tov) : a = b := by
  cases a; cases b; simp only at h1 h2 h3 h4 h5 h6; subst h1 h2 h3 h4 h5 h6; rfl

def ordR (a b : RuleP) : Int := thenC (Lib.compareInt a.kind b.kind) (thenC (cmpS a.name b.name) (thenC (cmpS a.key b.key) (thenC (Lib.compareInt a.n b.n) (thenC (cmpS a.frm b.frm) (cmpS a.tov b.tov)))))

theorem TotC.rule : TotC ordR :=
  (TotC.int.lex (TotC.str.lex (TotC.str.lex (TotC.int.lex (TotC.str.lex TotC.str))))).pull (fun r : RuleP => (r.kind, r.name, r.key, r.n, r.frm, r.tov)) (by
    intro x y h
    simp only [Prod.mk.injEq] at h
    exact RuleP.ext' h.1 h.2.2.2.1 h.2.1 h.2.2.1 h.2.2.2.2.1 h.2.2.2.2.2)

end Go.Proofs.YtanclhcoiagcfaaDoor
