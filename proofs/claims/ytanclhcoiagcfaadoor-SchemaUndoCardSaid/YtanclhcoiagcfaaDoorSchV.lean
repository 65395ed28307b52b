/- THE WALK over the reference's words. -/
import Derived.Test.YtanclhcoiagcfaaDoorSchU
namespace Go.Proofs.YtanclhcoiagcfaaDoor
open Go.RowKit

def strC (s : ByteArray) : List Value := [.string s]
theorem strC_len (s : ByteArray) : (strC s).length = 1 := rfl
theorem strC_one (s : ByteArray) : ∀ u ∈ strC s, u.oneCell' = true := by
  intro u hu
  simp only [strC, List.mem_cons, List.not_mem_nil, or_false] at hu
  subst hu; rfl
theorem T_str : ElT Tryd.prog 51 9 1 16 :=
  ⟨Tryd.underlying51, ⟨.string ⟨#[]⟩, by kernel_rfl, rfl⟩, by decide⟩

/-- the words of a text, none if it is long -/
def wordsL (s : ByteArray) : List ByteArray := if 200 < s.size then [] else (pieces s.data.toList).map asB
theorem wordsL_data {s : ByteArray} (h : ¬ 200 < s.size) : (wordsL s).map (·.data.toList) = pieces s.data.toList := by
  unfold wordsL
  rw [if_neg h, List.map_map]
  exact (List.map_congr_left (fun _ _ => rfl)).trans (List.map_id _)

/-- so far: the words cut, and the piece that is under way -/
def CutAt (l : List UInt8) (o : List ByteArray) (f k : Nat) : Prop := (k ≤ l.length ∧ f ≤ k ∧ o.map (·.data.toList) ++ cutW ((l.take k).drop f) (l.drop k) = pieces l) ∨ (k = l.length + 1 ∧ o.map (·.data.toList) = pieces l)
theorem CutAt.start (l : List UInt8) : CutAt l [] 0 0 := .inl ⟨Nat.zero_le _, Nat.le_refl _, by simp [pieces]⟩
theorem CutAt.le {l : List UInt8} {o : List ByteArray} {f k : Nat} (h : CutAt l o f k) (hk : k ≤ l.length) : f ≤ k := by
  rcases h with h | h
  · exact h.2.1
  · omega
theorem extract_data' (s : ByteArray) (f k : Nat) : (s.extract f k).data.toList = (s.data.toList.take k).drop f := by
  rw [ByteArray.data_extract, Array.toList_extract, List.extract_eq_take_drop, List.drop_take]
theorem CutAt.last {s : ByteArray} {o : List ByteArray} {f : Nat} (h : CutAt s.data.toList o f s.size) (g : Nat) : CutAt s.data.toList (o ++ [s.extract f s.size]) g (s.size + 1) := by
  have hl : s.data.toList.length = s.size := by simp
  refine .inr ⟨by omega, ?_⟩
  rcases h with ⟨_, _, h⟩ | ⟨h, _⟩
  · rw [List.drop_of_length_le (l := s.data.toList) (by omega)] at h
    rw [List.map_append, List.map_cons, List.map_nil, extract_data']
    exact h
  · omega
theorem CutAt.word {s : ByteArray} {o : List ByteArray} {f k : Nat} (h : CutAt s.data.toList o f k) (hk : k < s.size) (h32 : s[k] = 32) : CutAt s.data.toList (o ++ [s.extract f k]) (k + 1) (k + 1) := by
  have hl : s.data.toList.length = s.size := by simp
  refine .inl ⟨by omega, Nat.le_refl _, ?_⟩
  rcases h with ⟨_, _, h⟩ | ⟨h, _⟩
  · have hc : s.data.toList.drop k = 32 :: s.data.toList.drop (k + 1) := by
      rw [List.drop_eq_getElem_cons (by omega)]; congr 1
    rw [hc] at h
    rw [List.map_append, List.map_cons, List.map_nil, extract_data', List.append_assoc, ← h]
    congr 1
    show _ :: cutW _ _ = if (32 : UInt8) = 32 then _ else _
    rw [if_pos rfl, List.drop_of_length_le (l := s.data.toList.take (k + 1)) (by simp; omega)]
  · omega
theorem CutAt.more {s : ByteArray} {o : List ByteArray} {f k : Nat} (h : CutAt s.data.toList o f k) (hk : k < s.size) (h32 : s[k] ≠ 32) : CutAt s.data.toList o f (k + 1) := by
  have hl : s.data.toList.length = s.size := by simp
  rcases h with ⟨_, hfk, h⟩ | ⟨h, _⟩
  · refine .inl ⟨by omega, by omega, ?_⟩
    have hc : s.data.toList.drop k = s[k] :: s.data.toList.drop (k + 1) := by
      rw [List.drop_eq_getElem_cons (by omega)]; congr 1
    have ht : (s.data.toList.take (k + 1)).drop f = (s.data.toList.take k).drop f ++ [s[k]] := by
      rw [List.take_succ_eq_append_getElem (by omega), List.drop_append_of_le_length (by simp; omega)]; congr 1
    rw [hc] at h
    rw [← h, ht]
    congr 1
    show _ = if s[k] = 32 then _ else _
    rw [if_neg h32]
  · omega
theorem CutAt.done {s : ByteArray} {o : List ByteArray} {f k : Nat} (h : CutAt s.data.toList o f k) (hk : ¬ k ≤ s.size) (h200 : ¬ 200 < s.size) : o = wordsL s := by
  have hl : s.data.toList.length = s.size := by simp
  rcases h with ⟨h, _⟩ | ⟨_, h⟩
  · omega
  · rw [← wordsL_data h200] at h
    have hinj : ∀ a b : List ByteArray, a.map (·.data.toList) = b.map (·.data.toList) → a = b := by
      intro a
      induction a with
      | nil => intro b hb; cases b with | nil => rfl | cons _ _ => simp at hb
      | cons x a ih =>
        intro b hb
        cases b with
        | nil => simp at hb
        | cons y b =>
          simp only [List.map_cons, List.cons.injEq] at hb
          rw [ba_ext hb.1, ih b hb.2]
    exact hinj _ _ h

/-- WHAT words HANDS BACK. -/
def HandedS (w : World) (l : List ByteArray) (e : Ending) (w' : World) : Prop :=
  ∃ A c, e = .returned (.slice A l.length c) ∧ Lies strC 1 w' A l ∧ Ext w w'

end Go.Proofs.YtanclhcoiagcfaaDoor
