/- THE WALK over the reference's words. -/
import Derived.Test.YtanclhcoiagcfaaGreatDoorSchU
namespace Go.Proofs.YtanclhcoiagcfaaGreatDoor
open Go.RowKit

def strC (s : ByteArray) : List Value := [.string s]
theorem strC_len (s : ByteArray) : (strC s).length = 1 := rfl
theorem strC_one (s : ByteArray) : ∀ u ∈ strC s, u.oneCell' = true := by
  intro u hu
  simp only [strC, List.mem_cons, List.not_mem_nil, or_false] at hu
  subst hu; rfl
theorem T_str : ElT Tryz.prog 46 9 1 16 :=
  ⟨Tryz.underlying46, ⟨.string ⟨#[]⟩, by kernel_rfl, rfl⟩, by decide⟩

/-- the words of a text, none if it is long -/
def wordsL (s : ByteArray) : List ByteArray := if 200 < s.size then [] else (pieces s.data.toList).map asB
theorem wordsL_data {s : ByteArray} (h : ¬ 200 < s.size) : (wordsL s).map (·.data.toList) = pieces s.data.toList := by
  unfold wordsL
  rw [if_neg h, List.map_map]
  exact (List.map_congr_left (fun _ _ => rfl)).trans (List.map_id _)

/-- so far: the words cut, and the piece that is under way -/
def CutAt (l : List UInt8) (o : List ByteArray) (f k : Nat) : Prop := (k ≤ l.length ∧ f ≤ k ∧ o.map (·.data.toList) ++ cutW ((l.take k).drop f) (l.drop k) = pieces l) ∨ (k = l.length + 1 ∧ o.map (·.data.toList) = pieces l)
theorem CutAt.start (l : List UInt8) : CutAt l [] 0 0 := .inl ⟨Nat.zero_le _, Nat.le_refl _, by simp [pieces]⟩
theorem CutAt.le {l : List UInt8} {o : List ByteArray} {f k : Nat} (h : CutAt l o f k) (hk : k ≤ l.length) : f ≤ k := by
  rcases h with h | h
  · exact h.2.1
  · omega
theorem extract_data' (s : ByteArray) (f k : Nat) : (s.extract f k).data.toList = (s.data.toList.take k).drop f := by
  rw [ByteArray.data_extract, Array.toList_extract, List.extract_eq_take_drop, List.drop_take]
theorem CutAt.last {s : ByteArray} {o : List ByteArray} {f : Nat} (h : CutAt s.data.toList o f s.size) (g : Nat) : CutAt s.data.toList (o ++ [s.extract f s.size]) g (s.size + 1) := by
  have hl : s.data.toList.length = s.size := by simp
  refine .inr ⟨by omega, ?_⟩
  rcases h with ⟨_, _, h⟩ | ⟨h, _⟩
  · rw [List.drop_of_length_le (l := s.data.toList) (by omega)] at h
    rw [List.map_append, List.map_cons, List.map_nil, extract_data']
    exact h
  · omega
theorem CutAt.word {s : ByteArray} {o : List ByteArray} {f k : Nat} (h : CutAt s.data.toList o f k) (hk : k < s.size) (h32 : s[k] = 32) : CutAt s.data.toList (o ++ [s.extract f k]) (k + 1) (k + 1) := by
  have hl : s.data.toList.length = s.size := by simp
  refine .inl ⟨by omega, Nat.le_refl _, ?_⟩
  rcases h with ⟨_, _, h⟩ | ⟨h, _⟩
  · have hc : s.data.toList.drop k = 32 :: s.data.toList.drop (k + 1) := by
      rw [List.drop_eq_getElem_cons (by omega)]; congr 1
    rw [hc] at h
    rw [List.map_append, List.map_cons, List.map_nil, extract_data', List.append_assoc, ← h]
    congr 1
    show _ :: cutW _ _ = if (32 : UInt8) = 32 then _ else _
    rw [if_pos rfl, List.drop_of_length_le (l := s.data.toList.take (k + 1)) (by simp; omega)]
  · omega
theorem CutAt.more {s : ByteArray} {o : List ByteArray} {f k : Nat} (h : CutAt s.data.toList o f k) (hk : k < s.size) (h32 : s[k] ≠ 32) : CutAt s.data.toList o f (k + 1) := by
  have hl : s.data.toList.length = s.size := by simp
  rcases h with ⟨_, hfk, h⟩ | ⟨h, _⟩
  · refine .inl ⟨by omega, by omega, ?_⟩
    have hc : s.data.toList.drop k = s[k] :: s.data.toList.drop (k + 1) := by
      rw [List.drop_eq_getElem_cons (by omega)]; congr 1
    have ht : (s.data.toList.take (k + 1)).drop f = (s.data.toList.take k).drop f ++ [s[k]] := by
      rw [List.take_succ_eq_append_getElem (by omega), List.drop_append_of_le_length (by simp; omega)]; congr 1
    rw [hc] at h
    rw [← h, ht]
    congr 1
    show _ = if s[k] = 32 then _ else _
    rw [if_neg h32]
  · omega
theorem CutAt.done {s : ByteArray} {o : List ByteArray} {f k : Nat} (h : CutAt s.data.toList o f k) (hk : ¬ k ≤ s.size) (h200 : ¬ 200 < s.size) : o = wordsL s := by
  have hl : s.data.toList.length = s.size := by simp
  rcases h with ⟨h, _⟩ | ⟨_, h⟩
  · omega
  · rw [← wordsL_data h200] at h
    have hinj : ∀ a b : List ByteArray, a.map (·.data.toList) = b.map (·.data.toList) → a = b := by
      intro a
      induction a with
      | nil => intro b hb; cases b with | nil => rfl | cons _ _ => simp at hb
      | cons x a ih =>
        intro b hb
        cases b with
        | nil => simp at hb
        | cons y b =>
          simp only [List.map_cons, List.cons.injEq] at hb
          rw [ba_ext hb.1, ih b hb.2]
    exact hinj _ _ h

/-- WHAT words HANDS BACK. -/
def HandedS (w : World) (l : List ByteArray) (e : Ending) (w' : World) : Prop :=
  ∃ A c, e = .returned (.slice A l.length c) ∧ Lies strC 1 w' A l ∧ Ext w w'

set_option maxRecDepth 100000 in
set_option maxHeartbeats 1600000 in
theorem r9_words (s : ByteArray) (w : World) (hs : s.size ≤ 9223372036854775807) :
    Calls Tryz.prog 48 #[.string s] w (HandedS w (wordsL s)) := by
  by_cases h200 : 200 < s.size
  · have HW := Lib.hid (show wordsL s = [] by unfold wordsL; rw [if_pos h200])
    go_enter Tryz.func48, Tryz.ntmps48
    go_wp2_with fail
    go_ret
    exact ⟨none, 0, by rw [HW.out]; rfl, by rw [HW.out]; exact Lies.nil _ _ _ _, Ext.refl _⟩
  · have HD := Lib.hid (fun (o : List ByteArray) (f k : Nat) (h : CutAt s.data.toList o f k) (hk : ¬ k ≤ s.size) => h.done hk h200)
    go_enter Tryz.func48, Tryz.ntmps48
    go_wp2_with fail
    go_loopw [3, 4, 5] (fun v u t W => ∃ (o : List ByteArray) (n f k : Nat), u = .int .i64 f ∧ t = .int .i64 k ∧ k ≤ s.size + 1 ∧ n ≤ k ∧ Hid (n = o.length) ∧ Hid (CutAt s.data.toList o f k) ∧ W.ownsRow w.heap.size 9 1 v n (o.flatMap strC) ∧ Ext w W) (fun _ _ t _ => s.size + 1 - (intOf t).toNat)
    case atStart => exact ⟨[], 0, 0, 0, rfl, rfl, Nat.zero_le _, Nat.le_refl _, Lib.hid rfl, Lib.hid (CutAt.start _), World.ownsRow_nil _ _ _ _, Ext.refl _⟩
    case round =>
      obtain ⟨o, n, f, k, rfl, rfl, hk, hnk, hn, hC, hown, hE⟩ := hrel
      by_cases hle : k ≤ s.size
      · have hfk : f ≤ k := hC.out.le (by simpa using hle)
        have HO := Lib.hid hown
        clear hown
        by_cases hend : k = s.size
        · subst hend
          have HX := Lib.hid (hC.out.last (s.size + 1))
          go_wp2_with (at_builtin; refine own_push T_str rfl (.tmp 25) (.tmp 30) rfl w wr _ n _ (strC (s.extract f s.size)) rfl HO.out hE rfl rfl (strC_len _) (strC_one _) (by omega) (by decide) ?_; intro v2 w2 hown2 hE2)
          have HY := Lib.hid hown2
          clear hown2
          go_wp2_with fail
          go_roundw
          case rel => exact ⟨o ++ [s.extract f s.size], n + 1, s.size + 1, s.size + 1, (by first | go_num | rfl), (by first | go_num | rfl), by omega, by omega, Lib.hid (by rw [List.length_append, ← hn.out]; rfl), HX, by rw [List.flatMap_append]; simpa using HY.out, hE2⟩
          case measure => simp [intOf]
        · have hlt : k < s.size := by omega
          have hne : ((k : Int) == (s.size : Int)) = false := by simp; omega
          clear hend
          by_cases h32 : s[k] = 32
          · have HX := Lib.hid (hC.out.word hlt h32)
            have h32' : ((s[k].toNat : Int) == 32) = true := by rw [h32]; rfl
            clear h32
            go_wp2_with (at_builtin; refine own_push T_str rfl (.tmp 25) (.tmp 30) rfl w wr _ n _ (strC (s.extract f k)) rfl HO.out hE rfl rfl (strC_len _) (strC_one _) (by omega) (by decide) ?_; intro v2 w2 hown2 hE2)
            have HY := Lib.hid hown2
            clear hown2
            go_wp2_with fail
            go_roundw
            case rel => exact ⟨o ++ [s.extract f k], n + 1, k + 1, k + 1, by go_num, by go_num, by omega, by omega, Lib.hid (by rw [List.length_append, ← hn.out]; rfl), HX, by rw [List.flatMap_append]; simpa using HY.out, hE2⟩
            case measure => simp [intOf]; omega
          · have HX := Lib.hid (hC.out.more hlt h32)
            have h32' : ((s[k].toNat : Int) == 32) = false := by
              rw [beq_eq_false_iff_ne]
              intro e
              exact h32 (UInt8.toNat_inj.1 (by show s[k].toNat = 32; omega))
            clear h32
            go_wp2_with fail
            go_roundw
            case rel => exact ⟨o, n, f, k + 1, rfl, by go_num, by omega, by omega, hn, HX, HO.out, hE⟩
            case measure => simp [intOf]; omega
      · have HF := Lib.hid (HD.out o f k hC.out hle)
        have hle' : ¬ (k : Int) ≤ (s.size : Int) := by omega
        go_wp2_with fail
        go_ret
        obtain ⟨A, c, hv, hl⟩ := own_lies strC_len hown hn.out
        exact ⟨A, c, by rw [← HF.out, ← hv]; rfl, by rw [← HF.out]; exact hl, hE⟩

end Go.Proofs.YtanclhcoiagcfaaGreatDoor
