/- THE WALK over the reference's Parse. -/
import Derived.Test.YtanclhcoiagcfaaDoorSchX
namespace Go.Proofs.YtanclhcoiagcfaaDoor
open Go.RowKit

theorem cutW_len : ∀ (l a : List UInt8), (cutW a l).length ≤ l.length + 1
  | [], a => by simp [cutW]
  | c :: r, a => by
    unfold cutW
    split
    · have := cutW_len r []; simp only [List.length_cons] at *; omega
    · have := cutW_len r (a ++ [c]); simp only [List.length_cons] at *; omega
theorem cutW_mem : ∀ (l a : List UInt8), ∀ w ∈ cutW a l, w.length ≤ a.length + l.length
  | [], a, w, h => by
    simp only [cutW, List.mem_cons, List.not_mem_nil, or_false] at h
    subst h; simp
  | c :: r, a, w, h => by
    unfold cutW at h
    split at h
    · rcases List.mem_cons.1 h with rfl | h
      · simp
      · have := cutW_mem r [] w h; simp only [List.length_cons, List.length_nil] at *; omega
    · have := cutW_mem r (a ++ [c]) w h; simp only [List.length_cons, List.length_append, List.length_nil] at *; omega
theorem wordsL_len (s : ByteArray) : (wordsL s).length ≤ 201 := by
  unfold wordsL
  split
  · simp
  · have := cutW_len s.data.toList []
    simp only [List.length_map]
    unfold pieces
    have e : s.data.toList.length = s.size := by simp
    omega
theorem wordsL_mem (s : ByteArray) : ∀ k, k < (wordsL s).length → (wordsL s)[k]!.size ≤ 200 := by
  intro k hk
  by_cases h : 200 < s.size
  · have e : wordsL s = [] := by unfold wordsL; rw [if_pos h]
    rw [e] at hk; simp at hk
  · have hd := wordsL_data h
    have hm : (wordsL s)[k]!.data.toList ∈ pieces s.data.toList := by
      rw [← hd, getElem!_pos _ k hk]
      exact List.mem_map.2 ⟨_, List.getElem_mem _, rfl⟩
    have h2 := cutW_mem _ _ _ hm
    have e : s.data.toList.length = s.size := by simp
    have e2 : (wordsL s)[k]!.data.toList.length = (wordsL s)[k]!.size := by simp
    simp only [List.length_nil] at h2
    omega

theorem text_beq (r : RuleP) (s : ByteArray) : ((asB (textL r)).toList == s.toList) = decide (textL r = s.data.toList) := by
  rw [ByteArray.toList_eq s, beq_list]; rfl

/-- WHAT A PARSE HANDS BACK. -/
def HandedP (s : ByteArray) (w : World) (e : Ending) (w' : World) : Prop := ∃ (r : RuleP) (n : Int), e = .returned (.tuple #[r.val, .int .i64 n]) ∧ ParsedR s.data.toList r n ∧ Ext w w'

end Go.Proofs.YtanclhcoiagcfaaDoor
