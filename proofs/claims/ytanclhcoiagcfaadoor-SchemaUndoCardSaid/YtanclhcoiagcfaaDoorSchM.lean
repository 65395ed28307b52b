/- THE WALKS over the reference's Add and Drop. -/
import Derived.Test.YtanclhcoiagcfaaDoorSchL
import Derived.Test.YtanclhcoiagcfaaDoorOwn
namespace Go.Proofs.YtanclhcoiagcfaaDoor
open Go.RowKit

def RuleP.cells (r : RuleP) : List Value := [.int .i64 r.kind, .int .i64 r.n, .string r.name, .string r.key, .string r.frm, .string r.tov]
theorem RuleP.cells_len (r : RuleP) : r.cells.length = 6 := rfl
theorem RuleP.cells_one (r : RuleP) : ∀ u ∈ r.cells, u.oneCell' = true := by
  intro u hu
  simp only [RuleP.cells, List.mem_cons, List.not_mem_nil, or_false] at hu
  rcases hu with rfl | rfl | rfl | rfl | rfl | rfl <;> rfl

theorem T_rule : ElT Tryd.prog 27 23 6 80 :=
  ⟨Tryd.underlying27, ⟨.agg #[.int .i64 0, .int .i64 0, .string ⟨#[]⟩, .string ⟨#[]⟩, .string ⟨#[]⟩, .string ⟨#[]⟩], by kernel_rfl, rfl⟩, by decide⟩

theorem Rules.of_lies {w : World} {A : Option Addr} {s : List RuleP} (h : Lies RuleP.cells 6 w A s) : Rules w A s := fun hp => by
  obtain ⟨b, off, hA, hc⟩ := h hp
  refine ⟨b, off, hA, fun k hk => ?_⟩
  rw [getB hk]
  exact ⟨hc k hk 0 _ rfl, hc k hk 1 _ rfl, hc k hk 2 _ rfl, hc k hk 3 _ rfl, hc k hk 4 _ rfl, hc k hk 5 _ rfl⟩

theorem flat_take {s : List RuleP} {k : Nat} (hk : k < s.length) : (s.take (k + 1)).flatMap RuleP.cells = (s.take k).flatMap RuleP.cells ++ RuleP.cells s[k]! := by
  rw [getB hk, List.take_succ_eq_append_getElem hk, List.flatMap_append]; simp
theorem low_step {s : List RuleP} {r : RuleP} : ∀ {k : Nat}, k ≤ lowN s r → k < s.length → ordR s[k]! r < 0 → k + 1 ≤ lowN s r := by
  intro k h1 h2 h3
  rcases Nat.lt_or_eq_of_le h1 with h | h
  · omega
  · exfalso
    rw [getB h2] at h3
    have : ∀ (s : List RuleP) (h : lowN s r < s.length), ¬ ordR s[lowN s r] r < 0 := by
      intro s
      induction s with
      | nil => intro h; simp at h
      | cons a t ih =>
        intro h
        by_cases ha : ordR a r < 0
        · have e : lowN (a :: t) r = lowN t r + 1 := by show (if _ then _ else _) = _; rw [if_pos ha]
          simp only [e] at h ⊢
          exact ih (by simpa using h)
        · have e : lowN (a :: t) r = 0 := by show (if _ then _ else _) = _; rw [if_neg ha]
          simp only [e]
          exact ha
    subst h
    exact this s h2 h3
theorem low_stop {s : List RuleP} {r : RuleP} {k : Nat} (h1 : k ≤ lowN s r) (h2 : k = s.length ∨ (k < s.length ∧ ¬ ordR s[k]! r < 0)) : k = lowN s r := by
  rcases h2 with h2 | ⟨h2, h3⟩
  · have := low_le s r; omega
  · rcases Nat.lt_or_eq_of_le h1 with h | h
    · rw [getB h2] at h3; exact absurd (low_lt s r h h2) h3
    · exact h

/-- WHAT Add AND Drop HAND BACK. -/
def Handed (w : World) (p : List RuleP × Int) (e : Ending) (w' : World) : Prop :=
  ∃ A c, e = .returned (.tuple #[.slice A p.1.length c, .int .i64 p.2]) ∧ Rules w' A p.1 ∧ Ext w w'
theorem Handed.none_ {w w' : World} {p : List RuleP × Int} {x : Int} (h : p = ([], x)) (e : Ext w w') : Handed w p (.returned (.tuple #[.slice none 0 0, .int .i64 x])) w' := by
  subst h; exact ⟨none, 0, rfl, fun h => absurd h (by simp), e⟩
theorem Handed.some_ {w w' : World} {p : List RuleP × Int} {l : List RuleP} {v : Value} {n base : Nat} (h : p = (l, 0)) (hown : w'.ownsRow base 23 6 v n (l.flatMap RuleP.cells)) (hn : n = l.length) (e : Ext w w') : Handed w p (.returned (.tuple #[v, .int .i64 0])) w' := by
  subst h
  obtain ⟨A, c, rfl, hl⟩ := own_lies RuleP.cells_len hown hn
  exact ⟨A, c, rfl, .of_lies hl, e⟩

theorem take_more {s : List RuleP} {k i : Nat} (h1 : k ≤ i) (h2 : i < s.length) : (s.take (i + 1)).drop k = (s.take i).drop k ++ [s[i]!] := by
  rw [getB h2, List.take_succ_eq_append_getElem h2, List.drop_append_of_le_length (by rw [List.length_take]; omega)]

end Go.Proofs.YtanclhcoiagcfaaDoor
