/- PLAIN: the rule that a text's words stand for. No program in sight. -/
import Derived.Test.YtanclhcoiagcfaaDoorPlainSa
import Derived.Test.YtanclhcoiagcfaaDoorPlainA
import Derived.IntWalk
namespace Go.Proofs.YtanclhcoiagcfaaDoor

def emptyB : ByteArray := ByteArray.empty
theorem emptyB_data : emptyB.data.toList = [] := rfl
def zeroR : RuleP := ⟨0, 0, emptyB, emptyB, emptyB, emptyB⟩
def someB (s : ByteArray) : ByteArray := if s.data.toList = [42] then emptyB else s

theorem someB_star {s t : ByteArray} (hs : s.size ≠ 0 → nameB s = true) (h : t.data.toList = starL s.data.toList) : someB t = s := by
  unfold someB
  by_cases hz : s.size = 0
  · rw [h, starL, if_pos (size_zero hz), if_pos rfl]
    exact ba_ext (size_zero hz).symm
  · have hn := hs hz
    have e : t.data.toList = s.data.toList := by rw [h, starL, if_neg (size_nz hz)]
    rw [if_neg (by rw [e]; exact name_nostar hn)]
    exact ba_ext e

section
variable {W : List ByteArray} {x y z u v : List UInt8}
theorem map2 (h : W.map (·.data.toList) = [x, y]) : ∃ a b : ByteArray, W = [a, b] ∧ a.data.toList = x ∧ b.data.toList = y := by
  obtain ⟨a, W1, rfl, e0, h⟩ := List.map_eq_cons_iff.1 h
  obtain ⟨b, W2, rfl, e1, h⟩ := List.map_eq_cons_iff.1 h
  obtain rfl := List.map_eq_nil_iff.1 h
  exact ⟨a, b, rfl, e0, e1⟩
theorem map3 (h : W.map (·.data.toList) = [x, y, z]) : ∃ a b c : ByteArray, W = [a, b, c] ∧ a.data.toList = x ∧ b.data.toList = y ∧ c.data.toList = z := by
  obtain ⟨a, W1, rfl, e0, h⟩ := List.map_eq_cons_iff.1 h
  obtain ⟨b, c, rfl, e1, e2⟩ := map2 h
  exact ⟨a, b, c, rfl, e0, e1, e2⟩
theorem map4 (h : W.map (·.data.toList) = [x, y, z, u]) : ∃ a b c d : ByteArray, W = [a, b, c, d] ∧ a.data.toList = x ∧ b.data.toList = y ∧ c.data.toList = z ∧ d.data.toList = u := by
  obtain ⟨a, W1, rfl, e0, h⟩ := List.map_eq_cons_iff.1 h
  obtain ⟨b, c, d, rfl, e1, e2⟩ := map3 h
  exact ⟨a, b, c, d, rfl, e0, e1, e2⟩
theorem map5 (h : W.map (·.data.toList) = [x, y, z, u, v]) : ∃ a b c d f : ByteArray, W = [a, b, c, d, f] ∧ a.data.toList = x ∧ b.data.toList = y ∧ c.data.toList = z ∧ d.data.toList = u ∧ f.data.toList = v := by
  obtain ⟨a, W1, rfl, e0, h⟩ := List.map_eq_cons_iff.1 h
  obtain ⟨b, c, d, f, rfl, e1, e2⟩ := map4 h
  exact ⟨a, b, c, d, f, rfl, e0, e1, e2⟩
end

/-- the words of a head -/
def headW (k : Int) : List (List UInt8) :=
  if k = 4 then [[101, 100, 103, 101], [101, 120, 105, 115, 116, 115]] else if k = 5 then [[101, 100, 103, 101], [107, 105, 110, 100]] else [headL k]
theorem headW_ne (k : Int) : headW k ≠ [] := by unfold headW; split; · simp
                                                split <;> simp
theorem joinW_headW (k : Int) : joinW (headW k) = headL k := by
  unfold headW
  split
  · rename_i h; subst h; rfl
  · split
    · rename_i h; subst h; rfl
    · rfl

def allW (r : RuleP) : List (List UInt8) := headW r.kind ++ tailW r

theorem tailW_ne (r : RuleP) : tailW r ≠ [] := by
  unfold tailW
  repeat' split
  all_goals simp

theorem textL_all {r : RuleP} (h : chkR r = 0) : textL r = joinW (allW r) := by
  unfold textL allW; rw [if_pos h, ← joinW_headW, joinW_append _ (headW_ne _) (tailW_ne _)]

theorem itoa_nosp (n : Int) : ∀ c ∈ Lib.itoa n, c ≠ 32 := by
  intro c hc e; subst e
  unfold Lib.itoa at hc
  split at hc
  · rcases List.mem_cons.1 hc with h | h
    · exact absurd h (by decide)
    · exact absurd (decDigits_all _ _ h) (by decide)
  · exact absurd (decDigits_all _ _ hc) (by decide)

theorem wordN_nosp (n : Int) : ∀ c ∈ wordN n, c ≠ 32 := by
  unfold wordN; intro c hc e; subst e
  split at hc
  · exact absurd hc (by decide)
  · split at hc
    · exact absurd hc (by decide)
    · split at hc
      · exact absurd hc (by decide)
      · cases hc

theorem star_nosp {s : ByteArray} (h : s.size ≠ 0 → nameB s = true) : ∀ c ∈ starL s.data.toList, c ≠ 32 := by
  unfold starL
  split
  · intro c hc e; subst e; exact absurd hc (by decide)
  · rename_i hn
    exact name_nosp (h (fun hz => hn (size_zero hz)))

theorem tailW_nosp {r : RuleP} (h : chkR r = 0) : ∀ w ∈ tailW r, ∀ c ∈ w, c ≠ 32 := by
  obtain ⟨h1, h2, h3, h4, h5, h6, h7, h8, h9⟩ := chkR_ok h
  unfold tailW
  intro w hw
  split at hw
  · rename_i hk
    have hkey : keyK r.kind = true := by unfold keyK; rcases hk with hk | hk <;> rw [hk] <;> rfl
    simp only [List.mem_cons, List.not_mem_nil, or_false] at hw
    rcases hw with rfl | rfl | rfl
    · exact name_nosp h6
    · exact name_nosp (h7 hkey)
    · exact wordN_nosp _
  · split at hw
    · rename_i hkey
      simp only [List.mem_cons, List.not_mem_nil, or_false] at hw
      rcases hw with rfl | rfl
      · exact name_nosp h6
      · exact name_nosp (h7 hkey)
    · split at hw
      · simp only [List.mem_cons, List.not_mem_nil, or_false] at hw
        rcases hw with rfl | rfl | rfl
        · exact name_nosp h6
        · exact star_nosp h8
        · exact star_nosp h9
      · simp only [List.mem_cons, List.not_mem_nil, or_false] at hw
        rcases hw with rfl | rfl
        · exact name_nosp h6
        · exact itoa_nosp _

theorem headW_nosp {k : Int} : ∀ w ∈ headW k, ∀ c ∈ w, c ≠ 32 := by
  unfold headW
  intro w hw
  split at hw
  · simp only [List.mem_cons, List.not_mem_nil, or_false] at hw
    rcases hw with rfl | rfl <;> decide
  · split at hw
    · simp only [List.mem_cons, List.not_mem_nil, or_false] at hw
      rcases hw with rfl | rfl <;> decide
    · rename_i h4 h5
      simp only [List.mem_cons, List.not_mem_nil, or_false] at hw
      subst hw
      unfold headL
      rw [if_neg h4, if_neg h5]
      repeat' split
      all_goals first | decide | simp

/-- the text's words are the rule's -/
theorem pieces_text {r : RuleP} (h : chkR r = 0) : pieces (textL r) = allW r := by
  rw [textL_all h, pieces_join _ (by unfold allW; simp [tailW_ne])]
  intro w hw
  unfold allW at hw
  rcases List.mem_append.1 hw with hw | hw
  · exact headW_nosp w hw
  · exact tailW_nosp h w hw

/-- the rest of the text behind the head -/
theorem pieces_tail {r : RuleP} (h : chkR r = 0) : pieces (joinW (tailW r)) = tailW r := pieces_join _ (tailW_ne r) (tailW_nosp h)
theorem textL_head {r : RuleP} (h : chkR r = 0) : textL r = headL r.kind ++ 32 :: joinW (tailW r) := by
  unfold textL; rw [if_pos h, joinW_cons _ (tailW_ne r)]

/-- the rule of a kind and the words behind its head -/
def guessK (k : Int) (W : List ByteArray) : RuleP :=
  if k = 6 ∧ W.length = 3 then ⟨6, 0, W[0]!, emptyB, someB W[1]!, someB W[2]!⟩
  else if (k = 3 ∨ k = 5) ∧ W.length = 3 then ⟨k, kindW W[2]!.data.toList, W[0]!, W[1]!, emptyB, emptyB⟩
  else if keyK k = true then ⟨k, 0, W[0]!, W[1]!, emptyB, emptyB⟩
  else ⟨k, parseV W[1]!.data.toList, W[0]!, emptyB, emptyB, emptyB⟩

theorem eq_empty {s : ByteArray} (h : s.size = 0) : emptyB = s := ba_ext (size_zero h).symm

theorem guessK_tail {r : RuleP} (h : chkR r = 0) {W : List ByteArray} (hW : W.map (·.data.toList) = tailW r) : guessK r.kind W = r ∧ 2 ≤ W.length := by
  obtain ⟨h1, h2, h3, h4, h5, h6, h7, h8, h9⟩ := chkR_ok h
  unfold tailW at hW
  unfold guessK
  split at hW
  · rename_i hk
    obtain ⟨a, b, c, rfl, hV⟩ := map3 hW
    · replace hW := hV
      have h61 : ¬ (r.kind = 6 ∧ ([a, b, c] : List ByteArray).length = 3) := by omega
      have hn : r.n = 1 ∨ r.n = 2 ∨ r.n = 4 := by
        unfold numB at h3; rw [if_pos hk] at h3
        simp only [Bool.or_eq_true, decide_eq_true_iff] at h3; omega
      obtain ⟨e1, e2⟩ := h5 (by omega)
      rw [if_neg h61, if_pos ⟨hk, rfl⟩]
      refine ⟨RuleP.ext' rfl ?_ (ba_ext hW.1) (ba_ext hW.2.1) (eq_empty e1) (eq_empty e2), by simp⟩
      show kindW c.data.toList = r.n
      rw [hW.2.2, kindW_word hn]
  · rename_i hk
    split at hW
    · rename_i hkey
      obtain ⟨a, b, rfl, hV⟩ := map2 hW
      · replace hW := hV
        have h61 : ¬ (r.kind = 6 ∧ ([a, b] : List ByteArray).length = 3) := by simp
        have h62 : ¬ ((r.kind = 3 ∨ r.kind = 5) ∧ ([a, b] : List ByteArray).length = 3) := by simp
        have hk5 : r.kind ≤ 5 := by unfold keyK at hkey; simp only [Bool.and_eq_true, decide_eq_true_iff] at hkey; omega
        have hn : r.n = 0 := by
          unfold numB at h3; rw [if_neg hk, if_neg (by omega)] at h3; simpa using h3
        obtain ⟨e1, e2⟩ := h5 (by omega)
        rw [if_neg h61, if_neg h62, if_pos hkey]
        exact ⟨RuleP.ext' rfl hn.symm (ba_ext hW.1) (ba_ext hW.2) (eq_empty e1) (eq_empty e2), by simp⟩
    · rename_i hkey
      have hkey : keyK r.kind = false := by simpa using hkey
      split at hW
      · rename_i h6k
        obtain ⟨a, b, c, rfl, hV⟩ := map3 hW
        · replace hW := hV
          have hn : r.n = 0 := by
            unfold numB at h3; rw [if_neg hk, if_neg (by omega)] at h3; simpa using h3
          rw [if_pos ⟨h6k, rfl⟩]
          exact ⟨RuleP.ext' h6k.symm hn.symm (ba_ext hW.1) (eq_empty (h4 hkey)) (someB_star h8 hW.2.1) (someB_star h9 hW.2.2), by simp⟩
      · rename_i h6k
        obtain ⟨a, b, rfl, hV⟩ := map2 hW
        · replace hW := hV
          have hk7 : r.kind = 7 := by
            unfold keyK at hkey; simp only [Bool.and_eq_false_iff, decide_eq_false_iff_not] at hkey; omega
          have hn : 0 ≤ r.n ∧ r.n ≤ 4000 := by
            unfold numB at h3; rw [if_neg hk, if_pos hk7] at h3; simpa using h3
          have h61 : ¬ (r.kind = 6 ∧ ([a, b] : List ByteArray).length = 3) := by simp
          have h62 : ¬ ((r.kind = 3 ∨ r.kind = 5) ∧ ([a, b] : List ByteArray).length = 3) := by simp
          obtain ⟨e1, e2⟩ := h5 h6k
          rw [if_neg h61, if_neg h62, if_neg (by rw [hkey]; simp)]
          refine ⟨RuleP.ext' rfl ?_ (ba_ext hW.1) (eq_empty (h4 hkey)) (eq_empty e1) (eq_empty e2), by simp⟩
          show parseV b.data.toList = r.n
          exact (parse_yes (inB_true.2 ⟨by omega, by omega⟩) hW.2.symm).2

def edgeL : List UInt8 := [101, 100, 103, 101]
def existsL : List UInt8 := [101, 120, 105, 115, 116, 115]
def uniqueL : List UInt8 := [117, 110, 105, 113, 117, 101]
def kindL : List UInt8 := [107, 105, 110, 100]
def endsL : List UInt8 := [101, 110, 100, 115]

theorem wrapI (x : Int) (h : -9223372036854775808 ≤ x ∧ x ≤ 9223372036854775807) : IntKind.i64.wrap x = x := IntWalk.i64_in _ h

/-- the reference's number of a word -/
def numG : Int → List UInt8 → Int
  | n, [] => n
  | n, c :: r => if n ≤ 4000 then numG (IntKind.i64.wrap (IntKind.i64.wrap (IntKind.i64.wrap (n * 10) + c.toNat) - 48)) r else n

theorem foldDig_ge (l : List UInt8) : ∀ a, a ≤ foldDig a l := by
  induction l with
  | nil => intro a; exact Nat.le_refl _
  | cons c r ih =>
    intro a
    simp only [foldDig]
    split
    · exact Nat.le_trans (by omega) (ih _)
    · exact ih _

theorem numG_fold (l : List UInt8) : ∀ a : Nat, (∀ c ∈ l, isDig c = true) → foldDig a l ≤ 4000 → numG a l = (foldDig a l : Int) := by
  induction l with
  | nil => intro a _ _; rfl
  | cons c r ih =>
    intro a hd hf
    have hc := hd c (List.mem_cons_self ..)
    have hle := foldDig_ge (c :: r) a
    have hf2 : foldDig (a * 10 + (c.toNat - 48)) r ≤ 4000 := by simpa [foldDig, hc] using hf
    have hle2 := foldDig_ge r (a * 10 + (c.toNat - 48))
    have hc2 := hc
    unfold isDig at hc2; rw [Bool.and_eq_true, decide_eq_true_iff, decide_eq_true_iff] at hc2
    rw [numG, if_pos (by omega)]
    have e1 : IntKind.i64.wrap ((a : Int) * 10) = (a : Int) * 10 := wrapI _ ⟨by omega, by omega⟩
    have e2 : IntKind.i64.wrap ((a : Int) * 10 + c.toNat) = (a : Int) * 10 + c.toNat := wrapI _ ⟨by omega, by omega⟩
    have e3 : IntKind.i64.wrap ((a : Int) * 10 + c.toNat - 48) = ((a * 10 + (c.toNat - 48) : Nat) : Int) := by rw [wrapI _ ⟨by omega, by omega⟩]; omega
    rw [e1, e2, e3, ih _ (fun d hd' => hd d (List.mem_cons_of_mem _ hd')) hf2]
    simp [foldDig, hc]

theorem numG_itoa {n : Int} (h0 : 0 ≤ n) (h1 : n ≤ 4000) : numG 0 (Lib.itoa n) = n := by
  obtain ⟨u, rfl⟩ := Int.eq_ofNat_of_zero_le h0
  have e : Lib.itoa (u : Int) = Lib.decDigits u := by unfold Lib.itoa; rw [if_neg (by omega)]; simp
  have hf := foldDig_decDigits u
  have h := numG_fold (Lib.decDigits u) 0 (decDigits_all u) (by rw [hf]; omega)
  rw [e]
  exact h.trans (by rw [hf])

/-- the rule that all the words stand for -/
def guessR (W : List ByteArray) : RuleP :=
  if W.length < 3 then zeroR
  else if W[0]!.data.toList = edgeL ∧ 4 ≤ W.length then
    if W[1]!.data.toList = existsL then ⟨4, 0, W[2]!, W[3]!, emptyB, emptyB⟩
    else if W.length = 5 then ⟨5, kindW W[4]!.data.toList, W[2]!, W[3]!, emptyB, emptyB⟩
    else zeroR
  else if W[0]!.data.toList = uniqueL then ⟨1, 0, W[1]!, W[2]!, emptyB, emptyB⟩
  else if W[0]!.data.toList = existsL then ⟨2, 0, W[1]!, W[2]!, emptyB, emptyB⟩
  else if W[0]!.data.toList = kindL ∧ W.length = 4 then ⟨3, kindW W[3]!.data.toList, W[1]!, W[2]!, emptyB, emptyB⟩
  else if W[0]!.data.toList = endsL ∧ W.length = 4 then ⟨6, 0, W[1]!, emptyB, someB W[2]!, someB W[3]!⟩
  else ⟨7, numG 0 W[2]!.data.toList, W[1]!, emptyB, emptyB, emptyB⟩

theorem guessR_all {r : RuleP} (h : chkR r = 0) {W : List ByteArray} (hW : W.map (·.data.toList) = allW r) : guessR W = r := by
  obtain ⟨h1, h2, h3, h4, h5, h6, h7, h8, h9⟩ := chkR_ok h
  obtain ⟨k, n, name, key, frm, tov⟩ := r
  simp only at h1 h2 h3 h4 h5 h6 h7 h8 h9
  have hk : k = 1 ∨ k = 2 ∨ k = 3 ∨ k = 4 ∨ k = 5 ∨ k = 6 ∨ k = 7 := by omega
  rcases hk with rfl | rfl | rfl | rfl | rfl | rfl | rfl
  · replace hW : W.map (·.data.toList) = [uniqueL, name.data.toList, key.data.toList] := hW
    obtain ⟨a, b, c, rfl, hV⟩ := map3 hW
    · replace hW := hV
      obtain ⟨e0, e1, e2⟩ := hW
      have e1 := ba_ext e1; have e2 := ba_ext e2; subst e1 e2
      have hn : n = 0 := by simpa [numB] using h3
      obtain ⟨q1, q2⟩ := h5 (by omega)
      have q1 := eq_empty q1; have q2 := eq_empty q2; subst hn q1 q2
      simp [guessR, e0, uniqueL, edgeL]
  · replace hW : W.map (·.data.toList) = [existsL, name.data.toList, key.data.toList] := hW
    obtain ⟨a, b, c, rfl, hV⟩ := map3 hW
    · replace hW := hV
      obtain ⟨e0, e1, e2⟩ := hW
      have e1 := ba_ext e1; have e2 := ba_ext e2; subst e1 e2
      have hn : n = 0 := by simpa [numB] using h3
      obtain ⟨q1, q2⟩ := h5 (by omega)
      have q1 := eq_empty q1; have q2 := eq_empty q2; subst hn q1 q2
      simp [guessR, e0, uniqueL, edgeL, existsL]
  · replace hW : W.map (·.data.toList) = [kindL, name.data.toList, key.data.toList, wordN n] := hW
    obtain ⟨a, b, c, d, rfl, hV⟩ := map4 hW
    · replace hW := hV
      obtain ⟨e0, e1, e2, e3⟩ := hW
      have e1 := ba_ext e1; have e2 := ba_ext e2; subst e1 e2
      have hn : n = 1 ∨ n = 2 ∨ n = 4 := by simpa [numB, or_assoc] using h3
      obtain ⟨q1, q2⟩ := h5 (by omega)
      have q1 := eq_empty q1; have q2 := eq_empty q2; subst q1 q2
      have ew := kindW_word hn
      rw [← e3] at ew
      simp [guessR, e0, uniqueL, edgeL, existsL, kindL, ew]
  · replace hW : W.map (·.data.toList) = [edgeL, existsL, name.data.toList, key.data.toList] := hW
    obtain ⟨a, b, c, d, rfl, hV⟩ := map4 hW
    · replace hW := hV
      obtain ⟨e0, e1, e2, e3⟩ := hW
      have e2 := ba_ext e2; have e3 := ba_ext e3; subst e2 e3
      have hn : n = 0 := by simpa [numB] using h3
      obtain ⟨q1, q2⟩ := h5 (by omega)
      have q1 := eq_empty q1; have q2 := eq_empty q2; subst hn q1 q2
      simp [guessR, e0, e1]
  · replace hW : W.map (·.data.toList) = [edgeL, kindL, name.data.toList, key.data.toList, wordN n] := hW
    obtain ⟨a, b, c, d, f, rfl, hV⟩ := map5 hW
    · replace hW := hV
      obtain ⟨e0, e1, e2, e3, e4⟩ := hW
      have e2 := ba_ext e2; have e3 := ba_ext e3; subst e2 e3
      have hn : n = 1 ∨ n = 2 ∨ n = 4 := by simpa [numB, or_assoc] using h3
      obtain ⟨q1, q2⟩ := h5 (by omega)
      have q1 := eq_empty q1; have q2 := eq_empty q2; subst q1 q2
      have ew := kindW_word hn
      rw [← e4] at ew
      simp [guessR, e0, e1, existsL, kindL, ew]
  · replace hW : W.map (·.data.toList) = [endsL, name.data.toList, starL frm.data.toList, starL tov.data.toList] := hW
    obtain ⟨a, b, c, d, rfl, hV⟩ := map4 hW
    · replace hW := hV
      obtain ⟨e0, e1, e2, e3⟩ := hW
      have e1 := ba_ext e1; subst e1
      have hn : n = 0 := by simpa [numB] using h3
      have q1 := eq_empty (h4 rfl)
      subst hn q1
      have f1 := someB_star h8 e2
      have f2 := someB_star h9 e3
      simp [guessR, e0, uniqueL, edgeL, existsL, kindL, endsL, f1, f2]
  · replace hW : W.map (·.data.toList) = [headL 7, name.data.toList, Lib.itoa n] := hW
    obtain ⟨a, b, c, rfl, hV⟩ := map3 hW
    · replace hW := hV
      obtain ⟨e0, e1, e2⟩ := hW
      have e1 := ba_ext e1; subst e1
      have hn : 0 ≤ n ∧ n ≤ 4000 := by simpa [numB] using h3
      have q3 := eq_empty (h4 rfl)
      obtain ⟨q1, q2⟩ := h5 (by omega)
      have q1 := eq_empty q1; have q2 := eq_empty q2; subst q1 q2 q3
      have f := numG_itoa hn.1 hn.2
      rw [← e2] at f
      simp [guessR, e0, uniqueL, edgeL, existsL, kindL, endsL, headL, f]

def asB (l : List UInt8) : ByteArray := ⟨l.toArray⟩
theorem asB_data (l : List UInt8) : (asB l).data.toList = l := rfl

/-- two rules of one text are one -/
theorem textL_inj {a b : RuleP} (ha : chkR a = 0) (hb : chkR b = 0) (h : textL a = textL b) : a = b := by
  have e : allW a = allW b := by rw [← pieces_text ha, ← pieces_text hb, h]
  have m : ((allW a).map asB).map (·.data.toList) = allW a := by
    rw [List.map_map]
    exact (List.map_congr_left (fun _ _ => rfl)).trans (List.map_id _)
  rw [← guessR_all ha m, ← guessR_all hb (m.trans e)]

theorem textL_ne {r : RuleP} (h : chkR r = 0) : textL r ≠ [] := by
  rw [textL_head h]; intro e
  have := congrArg List.length e
  simp at this

theorem joinW_len3 (a b c : List UInt8) : (joinW [a, b, c]).length = a.length + b.length + c.length + 2 := by simp [joinW]; omega
theorem joinW_len2 (a b : List UInt8) : (joinW [a, b]).length = a.length + b.length + 1 := by simp [joinW]; omega

/-- WHAT Parse ANSWERS. -/
def ParsedR (s : List UInt8) (r : RuleP) (e : Int) : Prop := (e = 0 ∧ chkR r = 0 ∧ textL r = s) ∨ (e = 2 ∧ r = zeroR ∧ ∀ r', chkR r' = 0 → textL r' ≠ s)

end Go.Proofs.YtanclhcoiagcfaaDoor
