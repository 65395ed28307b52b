/- PARTS OF THE WALKS, joined: Name, Gr, Idx, Ga, Gb, Push. -/
import Derived.Test.YtlkpmbkmmfoakaaDoorV01
import Derived.Test.YtlkpmbkmmfoakaaDoorV00
import Derived.Test.YtlkpmbkmmfoakaaDoorV02
import Derived.WalkKit
import Derived.Test.YtlkpmbkmmfoakaaDoorV04
import Derived.Deep.RegionHeld3
import Derived.WalkLawsBesides
import Derived.Deep.QuietTactic
import Derived.BigQuiet
import Derived.Deep.Cut
import Derived.Maps.AppendAt
/- THE WALKS over what a name is: graph.letter, graph.Name, the reference's letter and Name. -/
namespace Go.Proofs.YtlkpmbkmmfoakaaDoor
open Go.RowKit
def isLet (c : UInt8) : Bool := (decide (97 ≤ c.toNat) && decide (c.toNat ≤ 122)) || (decide (65 ≤ c.toNat) && decide (c.toNat ≤ 90))
def isWd (c : UInt8) : Bool := isLet c || decide (c.toNat = 95) || (decide (48 ≤ c.toNat) && decide (c.toNat ≤ 57))
def nameL : List UInt8 → Bool
  | [] => false
  | c :: r => decide (r.length ≤ 19) && isLet c && r.all isWd
def nameB (s : ByteArray) : Bool := nameL s.data.toList
theorem size_zero {s : ByteArray} (h : s.size = 0) : s.data.toList = [] := List.eq_nil_of_length_eq_zero (by simpa using h)
theorem size_nz {s : ByteArray} (h : s.size ≠ 0) : s.data.toList ≠ [] := fun e => h (by have := congrArg List.length e; simpa using this)
theorem ba_ext {a b : ByteArray} (h : a.data.toList = b.data.toList) : a = b := ByteArray.ext (Array.toList_inj.1 h)
theorem nameB_iff {s : ByteArray} : nameB s = true ↔ ∃ h : 0 < s.size, s.size ≤ 20 ∧ isLet s[0] = true ∧ ∀ j (h : j < s.size), isWd s[j] = true := by
  have hlen : s.data.toList.length = s.size := by simp
  have hget : ∀ j (h : j < s.size), s.data.toList[j]? = some s[j] := fun j h => List.getElem?_eq_getElem (by simpa using h)
  unfold nameB
  generalize s.data.toList = l at hlen hget
  cases l with
  | nil => simp only [List.length_nil] at hlen; exact ⟨fun h => (by cases h), fun ⟨h, _⟩ => absurd h (by omega)⟩
  | cons c r =>
    simp only [List.length_cons] at hlen
    have h0 : c = s[0] := Option.some.inj (hget 0 (by omega))
    simp only [nameL, Bool.and_eq_true, decide_eq_true_iff, List.all_eq_true]
    constructor
    · rintro ⟨⟨h1, h2⟩, h3⟩
      refine ⟨by omega, by omega, h0 ▸ h2, fun j hj => ?_⟩
      cases j with
      | zero => rw [← h0]; unfold isWd; rw [h2]; rfl
      | succ j =>
        have e := hget (j + 1) hj
        rw [List.getElem?_cons_succ] at e
        exact h3 _ (List.mem_of_getElem? e)
    · rintro ⟨h, h1, h2, h3⟩
      refine ⟨⟨by omega, h0 ▸ h2⟩, fun x hx => ?_⟩
      obtain ⟨j, hj, rfl⟩ := List.getElem_of_mem hx
      have hj2 : j + 1 < s.size := by omega
      have e := hget (j + 1) hj2
      rw [List.getElem?_cons_succ, List.getElem?_eq_getElem hj] at e
      rw [Option.some.inj e]
      exact h3 (j + 1) hj2
theorem nameB_no {s : ByteArray} (h : ¬ ∃ h : 0 < s.size, s.size ≤ 20 ∧ isLet s[0] = true ∧ ∀ j (h : j < s.size), isWd s[j] = true) : nameB s = false := by
  cases hb : nameB s
  · rfl
  · exact absurd (nameB_iff.1 hb) h
theorem isLet_iff {c : UInt8} : isLet c = true ↔ (97 ≤ c.toNat ∧ c.toNat ≤ 122) ∨ (65 ≤ c.toNat ∧ c.toNat ≤ 90) := by
  unfold isLet; simp
theorem isWd_iff {c : UInt8} : isWd c = true ↔ isLet c = true ∨ c.toNat = 95 ∨ (48 ≤ c.toNat ∧ c.toNat ≤ 57) := by
  unfold isWd; simp [or_assoc]
theorem g_letter (c : UInt8) (w : World) : Calls Tryd.prog 88 #[.int .u8 (c.toNat : Int)] w fun e w' => e = .returned (.bool (isLet c)) ∧ w' = w := by
  go_enter Tryd.func88, Tryd.ntmps88
  go_wp2
  all_goals
    go_ret
    refine ⟨ret_bool ?_, rfl⟩
    rw [Bool.eq_iff_iff, isLet_iff]
    simp
    try omega
theorem name_step {s : ByteArray} {k : Nat} (h : ∀ j (h : j < s.size), j < k → isWd s[j] = true) (hk : k < s.size) (hw : isWd s[k] = true) : ∀ j (h : j < s.size), j < k + 1 → isWd s[j] = true := by
  intro j hj hjk
  by_cases e : j = k
  · subst e; exact hw
  · exact h j hj (by omega)
set_option maxHeartbeats 1600000 in
theorem g_Name (s : ByteArray) (w : World) : Calls Tryd.prog 60 #[.string s] w fun e w' => e = .returned (.bool (nameB s)) ∧ w' = w := by
  by_cases h0 : s.size = 0
  · have HN := Lib.hid (nameB_no (s := s) (fun ⟨h, _⟩ => absurd h (by omega)))
    have he : s = ByteArray.empty := ba_ext (size_zero h0)
    subst he
    go_enter Tryd.func60, Tryd.ntmps60
    go_wp2
    go_ret
    exact ⟨ret_bool HN.out.symm, rfl⟩
  · have hne : (s.toList == ([] : List UInt8)) = false := by rw [ByteArray.toList_eq]; exact beq_eq_false_iff_ne.2 (size_nz h0)
    have h0' : 0 < s.size := by omega
    have HL := Lib.hid (fun w => g_letter s[0] w)
    by_cases h20 : s.size ≤ 20
    · cases hL : isLet s[0]
      · have HN := Lib.hid (nameB_no (s := s) (fun ⟨_, _, h, _⟩ => by rw [hL] at h; cases h))
        go_enter Tryd.func60, Tryd.ntmps60
        go_wp2_with (go_at_call 88; refine (HL.out _).mono ?_; rintro e w' ⟨rfl, rfl⟩; rw [hL])
        all_goals
          go_ret
          exact ⟨ret_bool HN.out.symm, rfl⟩
      · have HY := Lib.hid (fun h : ∀ j (h : j < s.size), isWd s[j] = true => nameB_iff.2 ⟨h0', h20, hL, h⟩)
        have HNO := Lib.hid (fun (k : Nat) (hk : k < s.size) (h : isWd s[k] = false) => nameB_no (s := s) (fun ⟨_, _, _, h'⟩ => by rw [h' k hk] at h; cases h))
        go_enter Tryd.func60, Tryd.ntmps60
        go_wp2_with (go_at_call 88; refine (HL.out _).mono ?_; rintro e w' ⟨rfl, rfl⟩; rw [hL])
        go_loop [19] (fun u => ∃ k : Nat, u = .int .i64 k ∧ k ≤ s.size ∧ Hid (∀ j (h : j < s.size), j < k → isWd s[j] = true)) (fun u => s.size - (intOf u).toNat)
        case atStart => exact ⟨0, rfl, Nat.zero_le _, Lib.hid (fun j _ hj => absurd hj (by omega))⟩
        case round =>
          obtain ⟨k, rfl, hk, hA⟩ := hrel
          by_cases hlt : k < s.size
          · have HLk := Lib.hid (fun w => g_letter s[k] w)
            cases hW : isWd s[k]
            · have HN := Lib.hid (HNO.out k hlt hW)
              have hW2 := hW
              rw [Bool.eq_false_iff, ne_eq, isWd_iff, not_or, not_or] at hW2
              obtain ⟨q1, q2, q3⟩ := hW2
              have q1 : isLet s[k] = false := by simpa using q1
              have c95 : ((s[k].toNat : Int) != 95) = true := by simp; omega
              by_cases h48 : s[k].toNat < 48
              · go_wp2_with (go_at_call 88; refine (HLk.out _).mono ?_; rintro e w' ⟨rfl, rfl⟩; rw [q1])
                go_ret
                exact ⟨ret_bool HN.out.symm, rfl⟩
              · have h57 : 57 < s[k].toNat := by omega
                go_wp2_with (go_at_call 88; refine (HLk.out _).mono ?_; rintro e w' ⟨rfl, rfl⟩; rw [q1])
                go_ret
                exact ⟨ret_bool HN.out.symm, rfl⟩
            · have HS := Lib.hid (name_step hA.out hlt hW)
              cases q1 : isLet s[k]
              · have hW2 := hW
                rw [isWd_iff, q1] at hW2
                have hW2 : s[k].toNat = 95 ∨ (48 ≤ s[k].toNat ∧ s[k].toNat ≤ 57) := hW2.resolve_left (by simp)
                rcases hW2 with h95 | ⟨h48, h57⟩
                · have c95 : ((s[k].toNat : Int) != 95) = false := by simp [h95]
                  have h48 : ¬ s[k].toNat < 48 := by omega
                  have h57 : 57 < s[k].toNat := by omega
                  clear h95
                  go_wp2_with (go_at_call 88; refine (HLk.out _).mono ?_; rintro e w' ⟨rfl, rfl⟩; rw [q1])
                  go_round
                  case rel => exact ⟨k + 1, by go_num, by omega, HS⟩
                  case measure => simp [intOf]; omega
                · go_wp2_with (go_at_call 88; refine (HLk.out _).mono ?_; rintro e w' ⟨rfl, rfl⟩; rw [q1])
                  go_round
                  case rel => exact ⟨k + 1, by go_num, by omega, HS⟩
                  case measure => simp [intOf]; omega
              · go_wp2_with (go_at_call 88; refine (HLk.out _).mono ?_; rintro e w' ⟨rfl, rfl⟩; rw [q1])
                go_round
                case rel => exact ⟨k + 1, by go_num, by omega, HS⟩
                case measure => simp [intOf]; omega
          · have hk' : k = s.size := by omega
            have HN := Lib.hid (HY.out (fun j hj => hA.out j hj (by omega)))
            go_wp2
            go_ret
            exact ⟨ret_bool HN.out.symm, rfl⟩
    · have HN := Lib.hid (nameB_no (s := s) (fun ⟨_, h, _⟩ => absurd h h20))
      go_enter Tryd.func60, Tryd.ntmps60
      go_wp2_with (go_at_call 88; refine (HL.out _).mono ?_; rintro e w' ⟨rfl, rfl⟩)
      go_ret
      exact ⟨ret_bool HN.out.symm, rfl⟩
end Go.Proofs.YtlkpmbkmmfoakaaDoor

/- GRAPHS: plain, what their check says; in memory. -/
namespace Go.Proofs.YtlkpmbkmmfoakaaDoor
open Go.RowKit
structure PropG where
  key : ByteArray
  v : Val
structure NodeG where
  id : Int
  labels : List ByteArray
  props : List PropG
structure EdgeG where
  id : Int
  frm : Int
  to_ : Int
  typ : ByteArray
  props : List PropG
structure GraphG where
  nodes : List NodeG
  edges : List EdgeG
  nn : Int
  ne : Int
instance : Inhabited PropG := ⟨⟨ByteArray.empty, default⟩⟩
instance : Inhabited NodeG := ⟨⟨0, [], []⟩⟩
instance : Inhabited EdgeG := ⟨⟨0, 0, 0, ByteArray.empty, []⟩⟩
/-- the first that is no nought among f 0 .. f (n - 1), or nought -/
def firstE (f : Nat → Int) : Nat → Int
  | 0 => 0
  | n + 1 => if firstE f n = 0 then f n else firstE f n
theorem firstE_zero {f : Nat → Int} : ∀ {n : Nat}, (∀ j < n, f j = 0) → firstE f n = 0
  | 0, _ => rfl
  | n + 1, h => by rw [firstE, if_pos (firstE_zero (fun j hj => h j (by omega)))]; exact h n (by omega)
theorem firstE_at {f : Nat → Int} {k : Nat} (h : ∀ j < k, f j = 0) (hk : f k ≠ 0) : ∀ {n : Nat}, k < n → firstE f n = f k
  | 0, h => absurd h (by omega)
  | n + 1, hn => by
    rw [firstE]
    rcases Nat.lt_or_eq_of_le (Nat.le_of_lt_succ hn) with h1 | h1
    · rw [firstE_at h hk h1, if_neg hk]
    · subst h1; rw [firstE_zero h, if_pos rfl]
theorem firstE_all {f : Nat → Int} : ∀ {n : Nat}, firstE f n = 0 → ∀ j < n, f j = 0
  | 0, _, _, h => absurd h (by omega)
  | n + 1, h, j, hj => by
    rw [firstE] at h
    split at h
    · rename_i h1
      rcases Nat.lt_or_eq_of_le (Nat.le_of_lt_succ hj) with h2 | h2
      · exact firstE_all h1 j h2
      · rw [h2]; exact h
    · rename_i h1; exact absurd h h1
/-- strictly increasing -/
def risesB (l : List ByteArray) : Bool := (List.range (l.length - 1)).all (fun i => decide (cmpT l[i]! l[i + 1]! < 0))
theorem risesB_iff {l : List ByteArray} : risesB l = true ↔ ∀ i, i + 1 < l.length → cmpT l[i]! l[i + 1]! < 0 := by
  unfold risesB
  rw [List.all_eq_true]
  exact ⟨fun h i hi => of_decide_eq_true (h i (List.mem_range.2 (by omega))), fun h i hi => decide_eq_true (h i (by have := List.mem_range.1 hi; omega))⟩
theorem risesB_no {l : List ByteArray} {i : Nat} (hi : i + 1 < l.length) (h : ¬ cmpT l[i]! l[i + 1]! < 0) : risesB l = false := by
  cases hb : risesB l
  · rfl
  · exact absurd (risesB_iff.1 hb i hi) h
def plainV (v : Val) : Bool := (decide (v.kind = 1) || decide (v.kind = 2) || decide (v.kind = 4)) && validV v
def keysP (l : List PropG) : List ByteArray := l.map PropG.key
/-- what is wrong with labels and properties -/
def partsE (labels : List ByteArray) (props : List PropG) : Int :=
  if 8 < labels.length ∨ 16 < props.length then 4
  else if labels.all nameB && (keysP props).all nameB then
    if risesB labels && risesB (keysP props) then
      if props.all (fun p => plainV p.v) then 0 else 8
    else 26
  else 6
def nodeE (g : GraphG) (i : Nat) : Int :=
  if 0 < i ∧ g.nodes[i]!.id ≤ g.nodes[i - 1]!.id then 26
  else if g.nodes[i]!.id < 1 ∨ g.nn ≤ g.nodes[i]!.id then 1
  else partsE g.nodes[i]!.labels g.nodes[i]!.props
def hasN (l : List NodeG) (n : Int) : Bool := l.any (fun x => decide (x.id = n))
def edgeE (g : GraphG) (i : Nat) : Int :=
  if 0 < i ∧ g.edges[i]!.id ≤ g.edges[i - 1]!.id then 26
  else if g.edges[i]!.id < 1 ∨ g.ne ≤ g.edges[i]!.id then 1
  else if hasN g.nodes g.edges[i]!.frm && hasN g.nodes g.edges[i]!.to_ then
    if nameB g.edges[i]!.typ then partsE [] g.edges[i]!.props else 6
  else 10
def headE (g : GraphG) : Int :=
  if 2000 < g.nodes.length ∨ 4000 < g.edges.length then 4
  else if g.nn < 1 ∨ 1000001 < g.nn ∨ g.ne < 1 ∨ 1000001 < g.ne then 1 else 0
def nodesE (g : GraphG) : Int := firstE (nodeE g) g.nodes.length
def edgesE (g : GraphG) : Int := firstE (edgeE g) g.edges.length
/-- the first error of a graph -/
def chkG (g : GraphG) : Int := if headE g = 0 then (if nodesE g = 0 then edgesE g else nodesE g) else headE g
/-- nodes without an error have increasing ids -/
theorem nodes_rise {g : GraphG} (h : nodesE g = 0) {i : Nat} (hi : i < g.nodes.length) : (0 < i → g.nodes[i - 1]!.id < g.nodes[i]!.id) ∧ 1 ≤ g.nodes[i]!.id ∧ g.nodes[i]!.id < g.nn := by
  have h1 := firstE_all h i hi
  unfold nodeE at h1
  split at h1
  · cases h1
  · rename_i h2
    split at h1
    · cases h1
    · rename_i h3; exact ⟨fun hp => by omega, by omega, by omega⟩
theorem nodes_lt {g : GraphG} (h : nodesE g = 0) : ∀ {i j : Nat}, i < j → j < g.nodes.length → g.nodes[i]!.id < g.nodes[j]!.id := by
  intro i j hij
  induction j with
  | zero => omega
  | succ j ih =>
    intro hj
    have h1 := (nodes_rise h hj).1 (by omega)
    rw [Nat.add_sub_cancel] at h1
    rcases Nat.lt_or_eq_of_le (Nat.le_of_lt_succ hij) with h2 | h2
    · have := ih h2 (by omega); omega
    · rw [h2]; exact h1
/- in memory -/
section
variable (w : World) (ok : Nat → Prop)
def PropC (b o : Nat) (p : PropG) : Prop := w.cell? ⟨b, o, none⟩ = some (.string p.key) ∧ VCells w ok b (o + 1) p.v
def Props (A : Option Addr) (l : List PropG) : Prop := SliceR (PropC w ok) 6 A l
def NodeC (b o : Nat) (n : NodeG) : Prop := ok b ∧ w.cell? ⟨b, o, none⟩ = some (.int .i64 n.id) ∧ ∃ A c B d, w.cell? ⟨b, o + 1, none⟩ = some (.slice A n.labels.length c) ∧ n.labels.length ≤ c ∧ Strs w ok A n.labels ∧ w.cell? ⟨b, o + 2, none⟩ = some (.slice B n.props.length d) ∧ n.props.length ≤ d ∧ Props w ok B n.props
def EdgeC (b o : Nat) (e : EdgeG) : Prop := ok b ∧ w.cell? ⟨b, o, none⟩ = some (.int .i64 e.id) ∧ w.cell? ⟨b, o + 1, none⟩ = some (.int .i64 e.frm) ∧ w.cell? ⟨b, o + 2, none⟩ = some (.int .i64 e.to_) ∧ w.cell? ⟨b, o + 3, none⟩ = some (.string e.typ) ∧ ∃ B d, w.cell? ⟨b, o + 4, none⟩ = some (.slice B e.props.length d) ∧ e.props.length ≤ d ∧ Props w ok B e.props
def Nodes (A : Option Addr) (l : List NodeG) : Prop := SliceR (NodeC w ok) 3 A l
def Edges (A : Option Addr) (l : List EdgeG) : Prop := SliceR (EdgeC w ok) 5 A l
structure GraphAt (A B : Option Addr) (g : GraphG) : Prop where
  nodes : Nodes w ok A g.nodes
  edges : Edges w ok B g.edges
end
section
variable {w w' : World} {ok ok' : Nat → Prop}
theorem Strs.keep (hk : ∀ b o x, ok b → w.cell? ⟨b, o, none⟩ = some x → w'.cell? ⟨b, o, none⟩ = some x) (ho : ∀ b, ok b → ok' b) {A : Option Addr} {l : List ByteArray} (h : Strs w ok A l) : Strs w' ok' A l := SliceR.mono h (fun _ _ _ _ hx => ⟨ho _ hx.1, hk _ _ _ hx.1 hx.2⟩)
theorem PropC.keep (hk : ∀ b o x, ok b → w.cell? ⟨b, o, none⟩ = some x → w'.cell? ⟨b, o, none⟩ = some x) (ho : ∀ b, ok b → ok' b) {b o : Nat} {p : PropG} (h : PropC w ok b o p) : PropC w' ok' b o p := ⟨hk _ _ _ (VCells.iff.1 h.2).1 h.1, VCells.keep hk ho _ _ _ h.2⟩
theorem Props.keep (hk : ∀ b o x, ok b → w.cell? ⟨b, o, none⟩ = some x → w'.cell? ⟨b, o, none⟩ = some x) (ho : ∀ b, ok b → ok' b) {A : Option Addr} {l : List PropG} (h : Props w ok A l) : Props w' ok' A l := SliceR.mono h (fun _ _ _ _ hx => PropC.keep hk ho hx)
theorem NodeC.keep (hk : ∀ b o x, ok b → w.cell? ⟨b, o, none⟩ = some x → w'.cell? ⟨b, o, none⟩ = some x) (ho : ∀ b, ok b → ok' b) {b o : Nat} {n : NodeG} (h : NodeC w ok b o n) : NodeC w' ok' b o n :=
  let ⟨h0, h1, A, c, B, d, h2, h3, h4, h5, h6, h7⟩ := h
  ⟨ho _ h0, hk _ _ _ h0 h1, A, c, B, d, hk _ _ _ h0 h2, h3, Strs.keep hk ho h4, hk _ _ _ h0 h5, h6, Props.keep hk ho h7⟩
theorem EdgeC.keep (hk : ∀ b o x, ok b → w.cell? ⟨b, o, none⟩ = some x → w'.cell? ⟨b, o, none⟩ = some x) (ho : ∀ b, ok b → ok' b) {b o : Nat} {n : EdgeG} (h : EdgeC w ok b o n) : EdgeC w' ok' b o n :=
  let ⟨h0, h1, h2, h3, h4, B, d, h5, h6, h7⟩ := h
  ⟨ho _ h0, hk _ _ _ h0 h1, hk _ _ _ h0 h2, hk _ _ _ h0 h3, hk _ _ _ h0 h4, B, d, hk _ _ _ h0 h5, h6, Props.keep hk ho h7⟩
theorem GraphAt.keep (hk : ∀ b o x, ok b → w.cell? ⟨b, o, none⟩ = some x → w'.cell? ⟨b, o, none⟩ = some x) (ho : ∀ b, ok b → ok' b) {A B : Option Addr} {g : GraphG} (h : GraphAt w ok A B g) : GraphAt w' ok' A B g :=
  ⟨SliceR.mono h.nodes (fun _ _ _ _ hx => NodeC.keep hk ho hx), SliceR.mono h.edges (fun _ _ _ _ hx => EdgeC.keep hk ho hx)⟩
theorem PropC.ext {b o : Nat} {p : PropG} (h : PropC w ok b o p) (e : Ext w w') : PropC w' ok b o p := PropC.keep (fun _ _ _ _ hc => e.cell hc) (fun _ h => h) h
theorem Props.ext {A : Option Addr} {l : List PropG} (h : Props w ok A l) (e : Ext w w') : Props w' ok A l := Props.keep (fun _ _ _ _ hc => e.cell hc) (fun _ h => h) h
theorem NodeC.ext {b o : Nat} {n : NodeG} (h : NodeC w ok b o n) (e : Ext w w') : NodeC w' ok b o n := NodeC.keep (fun _ _ _ _ hc => e.cell hc) (fun _ h => h) h
theorem EdgeC.ext {b o : Nat} {n : EdgeG} (h : EdgeC w ok b o n) (e : Ext w w') : EdgeC w' ok b o n := EdgeC.keep (fun _ _ _ _ hc => e.cell hc) (fun _ h => h) h
theorem Nodes.ext {A : Option Addr} {l : List NodeG} (h : Nodes w ok A l) (e : Ext w w') : Nodes w' ok A l := SliceR.mono h (fun _ _ _ _ hx => hx.ext e)
theorem Edges.ext {A : Option Addr} {l : List EdgeG} (h : Edges w ok A l) (e : Ext w w') : Edges w' ok A l := SliceR.mono h (fun _ _ _ _ hx => hx.ext e)
theorem GraphAt.ext {A B : Option Addr} {g : GraphG} (h : GraphAt w ok A B g) (e : Ext w w') : GraphAt w' ok A B g := ⟨h.nodes.ext e, h.edges.ext e⟩
theorem GraphAt.to {A B : Option Addr} {g : GraphG} (h : GraphAt w ok A B g) (ho : ∀ b, ok b → ok' b) : GraphAt w ok' A B g := GraphAt.keep (fun _ _ _ _ hc => hc) ho h
end
end Go.Proofs.YtlkpmbkmmfoakaaDoor

/- THE FIRST PLACE OF A KIND in a list; strings compared; a function value entered. -/
namespace Go.Proofs.YtlkpmbkmmfoakaaDoor
open Go.RowKit
theorem run_enter {P : Program} {f : FuncId} {fn : Func} {c : Code} (hf : P.funcs[f]? = some fn) (hname : (fn.name == "runtime.NumGoroutine") = false) (hb : fn.body = some c) (args : Array Value) (w : World) : (callFunc f args).run P w = .ok (.enter f args) w := by
  have h1 : fn.name ≠ "runtime.NumGoroutine" := by simpa using hname
  simp [callFunc, hf, h1, hb]
/-- the first place whose element is told, or -1 -/
def idxF {α : Type} (p : α → Bool) (l : List α) : Int := match l.findIdx? p with | some i => (i : Int) | none => -1
theorem idxF_none {α : Type} {p : α → Bool} {l : List α} (h : ∀ i (hi : i < l.length), p l[i] = false) : idxF p l = -1 := by
  have : l.findIdx? p = none := List.findIdx?_eq_none_iff.2 (fun x hx => by obtain ⟨i, hi, rfl⟩ := List.getElem_of_mem hx; exact h i hi)
  unfold idxF; rw [this]
theorem idxF_at {α : Type} {p : α → Bool} {l : List α} (i : Nat) (hi : i < l.length) (h1 : ∀ j (hj : j < l.length), j < i → p l[j] = false) (h2 : p l[i] = true) : idxF p l = (i : Int) := by
  have : l.findIdx? p = some i := List.findIdx?_eq_some_iff_getElem.2 ⟨hi, h2, fun j hj => by rw [h1 j (by omega) hj]; exact Bool.false_ne_true⟩
  unfold idxF; rw [this]
theorem idxF_any {α : Type} (p : α → Bool) (l : List α) : decide (idxF p l ≥ 0) = l.any p := by
  unfold idxF
  cases h : l.findIdx? p with
  | none => rw [show l.any p = false by rw [List.any_eq_false]; exact fun x hx => by rw [List.findIdx?_eq_none_iff.1 h x hx]; exact Bool.false_ne_true]; rfl
  | some i =>
    obtain ⟨hi, h2, -⟩ := List.findIdx?_eq_some_iff_getElem.1 h
    rw [List.any_eq_true.2 ⟨l[i], List.getElem_mem hi, h2⟩]
    exact decide_eq_true (Int.natCast_nonneg i)
theorem str_eq {a b : ByteArray} (h : a = b) : (a.toList == b.toList) = true := by rw [h]; simp
theorem str_ne {a b : ByteArray} (h : a ≠ b) : (a.toList == b.toList) = false := by
  rw [beq_eq_false_iff_ne]
  intro e
  exact h (bytes_eq e)
end Go.Proofs.YtlkpmbkmmfoakaaDoor

/- THE WALKS over small functions of graph and its reference: names, increasing strings, values that may be stored, places in lists of strings. -/
namespace Go.Proofs.YtlkpmbkmmfoakaaDoor
open Go.RowKit
theorem gr_unnamed (s : ByteArray) (w : World) : Calls Tryd.prog 83 #[.string s] w fun e w' => e = .returned (.bool (!nameB s)) ∧ w' = w := by
  go_enter Tryd.func83, Tryd.ntmps83
  go_wp2_with (go_at_call 60; refine (g_Name _ _).mono ?_; rintro e w' ⟨rfl, rfl⟩)
  go_ret
  exact ⟨rfl, rfl⟩
set_option maxRecDepth 100000 in
set_option maxHeartbeats 1600000 in
theorem s_IndexFS (l : List ByteArray) (ok : Nat → Prop) (A : Option Addr) (c : Nat) (w : World) (hv : Strs w ok A l) :
    Calls Tryd.prog 101 #[.slice A l.length c, .func (.func 83) #[] #[]] w fun e w' => e = .returned (.int .i64 (idxF (fun s => !nameB s) l)) ∧ w' = w := by
  have hm := hv.len
  have HV := Lib.hid hv
  have HY := Lib.hid (fun h => idxF_none (p := fun s => !nameB s) (l := l) h)
  have HB := Lib.hid (fun i (hi : i < l.length) h1 h2 => idxF_at (p := fun s => !nameB s) i hi h1 h2)
  obtain ⟨R, hR⟩ : ∃ R, R = idxF (fun s => !nameB s) l := ⟨_, rfl⟩
  rw [← hR] at HY HB ⊢
  clear hv hR
  go_enter Tryd.func101, Tryd.ntmps101
  go_wp2_with fail
  go_loop [8] (fun u => ∃ k : Nat, u = .int .i64 k ∧ k ≤ l.length ∧ Hid (∀ i (hi : i < l.length), i < k → (!nameB l[i]) = false)) (fun u => l.length - (intOf u).toNat)
  case atStart => exact ⟨0, rfl, Nat.zero_le _, Lib.hid (fun i _ hi => absurd hi (Nat.not_lt_zero _))⟩
  case round =>
    obtain ⟨k, rfl, hk, hgd⟩ := hrel
    by_cases hlt : k < l.length
    · obtain ⟨b, o, rfl, hc⟩ := HV.out.2 (by omega)
      have h5 := (hc k hlt).2
      rw [Nat.mul_one] at h5
      have HS := Lib.hid (fun (h : (!nameB l[k]) = false) i hi (hj : i < k + 1) => (if e : i = k then (by subst e; exact h) else hgd.out i hi (by omega) : (!nameB l[i]) = false))
      have HB' := Lib.hid (HB.out k hlt hgd.out)
      have HC := Lib.hid (fun w => gr_unnamed l[k] w)
      clear hc HB hgd
      generalize l[k] = x at *
      generalize nameB x = q at *
      cases q
      · have HT := Lib.hid (HB'.out rfl)
        go_wp2_with (go_at_call 83; refine (HC.out _).mono ?_; rintro e w' ⟨rfl, rfl⟩)
        go_ret
        exact ⟨ret_int HT.out.symm, rfl⟩
      · have HT := Lib.hid (HS.out rfl)
        go_wp2_with (go_at_call 83; refine (HC.out _).mono ?_; rintro e w' ⟨rfl, rfl⟩)
        go_round
        case rel => exact ⟨k + 1, by go_num, by omega, HT⟩
        case measure => simp [intOf]; omega
    · have HT := Lib.hid (HY.out (fun i hi => hgd.out i hi (by omega)))
      go_wp2_with fail
      go_ret
      exact ⟨ret_int HT.out.symm, rfl⟩
theorem any_not {α : Type} (p : α → Bool) (l : List α) : l.any (fun x => !p x) = !l.all p := by
  induction l with
  | nil => rfl
  | cons x l ih => rw [List.any_cons, List.all_cons, ih, Bool.not_and]
set_option maxRecDepth 100000 in
theorem s_ContainsFS (l : List ByteArray) (ok : Nat → Prop) (A : Option Addr) (c : Nat) (w : World) (hv : Strs w ok A l) :
    Calls Tryd.prog 82 #[.slice A l.length c, .func (.func 83) #[] #[]] w fun e w' => e = .returned (.bool (!l.all nameB)) ∧ w' = w := by
  have HC := Lib.hid (s_IndexFS l ok A c w hv)
  have HQ := Lib.hid ((idxF_any (fun s => !nameB s) l).trans (any_not nameB l))
  generalize l.all nameB = q at *
  generalize idxF (fun s => !nameB s) l = z at *
  clear hv
  go_enter Tryd.func82, Tryd.ntmps82
  go_wp2_with (go_at_call 101; ((with_reducible refine (HC.out).mono ?_); rintro e w' ⟨rfl, rfl⟩))
  go_ret
  exact ⟨ret_bool HQ.out, rfl⟩
set_option maxRecDepth 100000 in
theorem s_IndexS (l : List ByteArray) (s : ByteArray) (ok : Nat → Prop) (A : Option Addr) (c : Nat) (w : World) (hv : Strs w ok A l) :
    Calls Tryd.prog 104 #[.slice A l.length c, .string s] w fun e w' => e = .returned (.int .i64 (idxF (fun t => decide (s = t)) l)) ∧ w' = w := by
  have hm := hv.len
  have HV := Lib.hid hv
  have HY := Lib.hid (fun h => idxF_none (p := fun t => decide (s = t)) (l := l) h)
  have HB := Lib.hid (fun i (hi : i < l.length) h1 h2 => idxF_at (p := fun t => decide (s = t)) i hi h1 h2)
  obtain ⟨R, hR⟩ : ∃ R, R = idxF (fun t => decide (s = t)) l := ⟨_, rfl⟩
  rw [← hR] at HY HB ⊢
  clear hv hR
  go_enter Tryd.func104, Tryd.ntmps104
  go_wp2_with fail
  go_loop [8] (fun u => ∃ k : Nat, u = .int .i64 k ∧ k ≤ l.length ∧ Hid (∀ i (hi : i < l.length), i < k → decide (s = l[i]) = false)) (fun u => l.length - (intOf u).toNat)
  case atStart => exact ⟨0, rfl, Nat.zero_le _, Lib.hid (fun i _ hi => absurd hi (Nat.not_lt_zero _))⟩
  case round =>
    obtain ⟨k, rfl, hk, hgd⟩ := hrel
    by_cases hlt : k < l.length
    · obtain ⟨b, o, rfl, hc⟩ := HV.out.2 (by omega)
      have h5 := (hc k hlt).2
      rw [Nat.mul_one] at h5
      have HS := Lib.hid (fun (h : decide (s = l[k]) = false) i hi (hj : i < k + 1) => (if e : i = k then (by subst e; exact h) else hgd.out i hi (by omega) : decide (s = l[i]) = false))
      have HB' := Lib.hid (HB.out k hlt hgd.out)
      clear hc HB hgd
      generalize l[k] = x at *
      by_cases hq : s = x
      · have HT := Lib.hid (HB'.out (decide_eq_true hq))
        have hq2 := str_eq hq
        clear hq
        go_wp2_with fail
        go_ret
        exact ⟨ret_int HT.out.symm, rfl⟩
      · have HT := Lib.hid (HS.out (decide_eq_false hq))
        have hq2 := str_ne hq
        clear hq
        go_wp2_with fail
        go_round
        case rel => exact ⟨k + 1, by go_num, by omega, HT⟩
        case measure => simp [intOf]; omega
    · have HT := Lib.hid (HY.out (fun i hi => hgd.out i hi (by omega)))
      go_wp2_with fail
      go_ret
      exact ⟨ret_int HT.out.symm, rfl⟩
/-- a string is on the list -/
def memB (s : ByteArray) (l : List ByteArray) : Bool := l.any (fun t => decide (s = t))
set_option maxRecDepth 100000 in
theorem s_ContainsS (l : List ByteArray) (s : ByteArray) (ok : Nat → Prop) (A : Option Addr) (c : Nat) (w : World) (hv : Strs w ok A l) :
    Calls Tryd.prog 94 #[.slice A l.length c, .string s] w fun e w' => e = .returned (.bool (memB s l)) ∧ w' = w := by
  have HC := Lib.hid (s_IndexS l s ok A c w hv)
  have HQ := Lib.hid (show decide (idxF (fun t => decide (s = t)) l ≥ 0) = memB s l from idxF_any (fun t => decide (s = t)) l)
  generalize memB s l = q at *
  generalize idxF (fun t => decide (s = t)) l = z at *
  clear hv
  go_enter Tryd.func94, Tryd.ntmps94
  go_wp2_with (go_at_call 104; ((with_reducible refine (HC.out).mono ?_); rintro e w' ⟨rfl, rfl⟩))
  go_ret
  exact ⟨ret_bool HQ.out, rfl⟩
end Go.Proofs.YtlkpmbkmmfoakaaDoor

/- THE WALKS over increasing strings, values that may be stored, and labels and properties. -/
namespace Go.Proofs.YtlkpmbkmmfoakaaDoor
open Go.RowKit
set_option maxRecDepth 100000 in
set_option maxHeartbeats 800000 in
theorem gr_increasing (l : List ByteArray) (ok : Nat → Prop) (A : Option Addr) (c : Nat) (w : World) (hv : Strs w ok A l) :
    Calls Tryd.prog 84 #[.slice A l.length c] w fun e w' => e = .returned (.bool (risesB l)) ∧ Ext w w' := by
  have hm := hv.len
  have HV := Lib.hid hv
  have HY := Lib.hid (fun (h : ∀ i, i + 1 < l.length → cmpT l[i]! l[i + 1]! < 0) => risesB_iff.2 h)
  have HB := Lib.hid (fun i (hi : i + 1 < l.length) (h : ¬ cmpT l[i]! l[i + 1]! < 0) => risesB_no hi h)
  generalize risesB l = R at *
  clear hv
  go_enter Tryd.func84, Tryd.ntmps84
  go_wp2_with fail
  go_loopw [3] (fun u W => ∃ k : Nat, u = .int .i64 k ∧ 1 ≤ k ∧ (k ≤ l.length ∨ k = 1) ∧ Hid (∀ i, i + 1 < k → cmpT l[i]! l[i + 1]! < 0) ∧ Ext w W) (fun u _ => l.length - (intOf u).toNat)
  case atStart => exact ⟨1, rfl, Nat.le_refl _, .inr rfl, Lib.hid (fun i hi => absurd hi (by omega)), Ext.refl _⟩
  case round =>
    obtain ⟨k, rfl, hk, hk2, hgd, hE⟩ := hrel
    by_cases hlt : k < l.length
    · obtain ⟨b, o, rfl, hc⟩ := HV.out.2 (by omega)
      have h5 := (hc k hlt).2
      have h6 := (hc (k - 1) (by omega)).2
      rw [Nat.mul_one] at h5 h6
      rw [← getElem!_pos l k hlt] at h5
      rw [← getElem!_pos l (k - 1) (by omega)] at h6
      replace h5 := hE.cell h5
      replace h6 := hE.cell h6
      have HS := Lib.hid (fun (h : cmpT l[k - 1]! l[k]! < 0) i (hi : i + 1 < k + 1) => (if e : i = k - 1 then (by subst e; rw [show k - 1 + 1 = k by omega]; exact h) else hgd.out i (by omega) : cmpT l[i]! l[i + 1]! < 0))
      have HB' := Lib.hid (show ¬ cmpT l[k - 1]! l[k]! < 0 → R = false from fun h => HB.out (k - 1) (by omega) (by rw [show k - 1 + 1 = k by omega]; omega))
      clear hc HB hgd hk2 HY
      generalize l[k]! = x at *
      generalize l[k - 1]! = y at *
      have p1 : (1 : Int) ≤ (k : Int) := by omega
      have p2 : ((k : Int) - 1).toNat = k - 1 := by omega
      have p5 : IntKind.i64.wrap ((k : Int) - 1) = (k : Int) - 1 := IntWalk.i64_in _ (by omega)
      have p6 : ((k : Int) - 1) < (l.length : Int) := by omega
      rcases cmpT_tri y x with ⟨hq, h7, -⟩ | ⟨rfl, h7⟩ | ⟨hq, h7, -⟩
      · have HT := Lib.hid (HS.out (by omega))
        have q1 := less_asymm hq
        have q2 : (x.toList == y.toList) = false := str_ne (fun e => by subst e; rw [cmpT_eq] at h7; omega)
        clear HS HB' hq h7
        go_upto_region 4 with (fail)
        have MKR1 := Lib.hid (fun V (e : Ext wr V) => (⟨e.cell h5, e.cell h6, e⟩ : V.cell? ⟨b, o + k, none⟩ = some (.string x) ∧ V.cell? ⟨b, o + (k - 1), none⟩ = some (.string y) ∧ Ext wr V))
        refine wp_region_held_drew (S := (fun V => V.cell? ⟨b, o + k, none⟩ = some (.string x) ∧ V.cell? ⟨b, o + (k - 1), none⟩ = some (.string y) ∧ Ext wr V)) (by kernel_rfl) ?hs1 (fun hHeld => ?go1)
        case hs1 => (exact MKR1.out _ (by with_reducible repeat (first | exact Ext.refl _ | assumption | refine Ext.drew ?_ | refine Ext.drewN ?_ _ | refine Ext.alloc ?_ _)))
        refine wpAnyH_take (i := 0) (oi := ⟨(some 10), (.move (.tmp 0)), 35, "graph.go:34", #[], none⟩) (v := ?v2) rfl (by kernel_rfl) (by kernel_rfl) (by kernel_rfl) (fun _ _ _ h => h) (Or.inl ⟨rfl, ?hy2⟩) hHeld ?rest2
        case hy2 => (intro w _; go_simp <;> rfl)
        (try simp only [PU])
        refine wpAnyH_take (i := 1) (oi := ⟨(some 11), (.move (.tmp 3)), 3, "graph.go:34", #[], none⟩) (v := ?v3) rfl (by kernel_rfl) (by kernel_rfl) (by kernel_rfl) (fun _ _ _ h => h) (Or.inl ⟨rfl, ?hy3⟩) hHeld ?rest3
        case hy3 => (intro w _; go_simp <;> rfl)
        (try simp only [PU])
        refine wpAnyH_take (i := 2) (oi := ⟨(some 12), (.indexAddr 35 (.tmp 10) (.tmp 11)), 0, "graph.go:34", #[⟨0, .data⟩, ⟨1, .data⟩], none⟩) (v := ?v4) rfl (by kernel_rfl) (by kernel_rfl) (by kernel_rfl) (fun _ _ _ h => h) (Or.inl ⟨rfl, ?hy4⟩) hHeld ?rest4
        case hy4 => (intro w _; go_simp <;> first | with_reducible rfl | rw [if_neg (by omega)] | rw [if_pos (by omega)])
        (try simp only [PU])
        refine wpAnyH_take (i := 3) (oi := ⟨(some 13), (.load 9 (.tmp 12)), 9, "graph.go:34", #[⟨2, .data⟩], none⟩) (v := ?v5) rfl (by kernel_rfl) (by kernel_rfl) (by kernel_rfl) (fun _ _ _ h => h) (Or.inl ⟨rfl, ?hy5⟩) hHeld ?rest5
        case hy5 => (intro w hSw; (try dsimp only at hSw); go_simp <;> first | with_reducible rfl | rw [if_neg (by omega)] | rw [if_pos (by omega)])
        (try simp only [PU])
        refine wpAnyH_take (i := 4) (oi := ⟨(some 14), (.move (.tmp 0)), 35, "graph.go:34", #[], none⟩) (v := ?v6) rfl (by kernel_rfl) (by kernel_rfl) (by kernel_rfl) (fun _ _ _ h => h) (Or.inl ⟨rfl, ?hy6⟩) hHeld ?rest6
        case hy6 => (intro w _; go_simp <;> rfl)
        (try simp only [PU])
        refine wpAnyH_take (i := 5) (oi := ⟨(some 15), (.move (.tmp 3)), 3, "graph.go:34", #[], none⟩) (v := ?v7) rfl (by kernel_rfl) (by kernel_rfl) (by kernel_rfl) (fun _ _ _ h => h) (Or.inl ⟨rfl, ?hy7⟩) hHeld ?rest7
        case hy7 => (intro w _; go_simp <;> rfl)
        (try simp only [PU])
        refine wpAnyH_take (i := 6) (oi := ⟨(some 16), (.binOp .sub 3 (.tmp 15) (.const (.int .i64 1)) 3), 3, "graph.go:34", #[⟨5, .data⟩], none⟩) (v := ?v8) rfl (by kernel_rfl) (by kernel_rfl) (by kernel_rfl) (fun _ _ _ h => h) (Or.inl ⟨rfl, ?hy8⟩) hHeld ?rest8
        case hy8 => (intro w _; go_simp <;> first | with_reducible rfl | rw [if_neg (by omega)] | rw [if_pos (by omega)])
        (try simp only [PU])
        refine wpAnyH_take (i := 7) (oi := ⟨(some 17), (.indexAddr 35 (.tmp 14) (.tmp 16)), 0, "graph.go:34", #[⟨4, .data⟩, ⟨6, .data⟩], none⟩) (v := ?v9) rfl (by kernel_rfl) (by kernel_rfl) (by kernel_rfl) (fun _ _ _ h => h) (Or.inl ⟨rfl, ?hy9⟩) hHeld ?rest9
        case hy9 => (intro w _; go_simp <;> first | with_reducible rfl | rw [if_neg (by omega)] | rw [if_pos (by omega)])
        (try simp only [PU])
        refine wpAnyH_take (i := 8) (oi := ⟨(some 18), (.load 9 (.tmp 17)), 9, "graph.go:34", #[⟨7, .data⟩], none⟩) (v := ?v10) rfl (by kernel_rfl) (by kernel_rfl) (by kernel_rfl) (fun _ _ _ h => h) (Or.inl ⟨rfl, ?hy10⟩) hHeld ?rest10
        case hy10 => (intro w hSw; (try dsimp only at hSw); go_simp <;> first | with_reducible rfl | rw [if_neg (by omega)] | rw [if_pos (by omega)])
        (try simp only [PU])
        refine wpAnyH_take (i := 9) (oi := ⟨(some 19), (.binOp .leq 9 (.tmp 13) (.tmp 18) 9), 4, "graph.go:34", #[⟨3, .data⟩, ⟨8, .data⟩], none⟩) (v := ?v11) rfl (by kernel_rfl) (by kernel_rfl) (by kernel_rfl) (fun _ _ _ h => h) (Or.inl ⟨rfl, ?hy11⟩) hHeld ?rest11
        case hy11 => (intro w _; go_simp <;> first | with_reducible rfl | rw [if_neg (by omega)] | rw [if_pos (by omega)])
        (try simp only [PU])
        refine wpAnyH_done (by kernel_rfl) ?_ _
        clear hHeld
        clear MKR1
        clear p1 p2 p5 p6
        go_wp2_with fail
        go_roundw
        case rel => exact ⟨k + 1, by go_num, by omega, by omega, HT, hE.trans (by with_reducible repeat (first | exact Ext.refl _ | assumption | refine Ext.drew ?_ | refine Ext.drewN ?_ _ | refine Ext.alloc ?_ _))⟩
        case measure => simp [intOf]; omega
      · have HT := Lib.hid (HB'.out (by omega))
        clear h7
        clear HS HB'
        go_upto_region 4 with (fail)
        have MKR2 := Lib.hid (fun V (e : Ext wr V) => (⟨e.cell h5, e.cell h6, e⟩ : V.cell? ⟨b, o + k, none⟩ = some (.string y) ∧ V.cell? ⟨b, o + (k - 1), none⟩ = some (.string y) ∧ Ext wr V))
        refine wp_region_held_drew (S := (fun V => V.cell? ⟨b, o + k, none⟩ = some (.string y) ∧ V.cell? ⟨b, o + (k - 1), none⟩ = some (.string y) ∧ Ext wr V)) (by kernel_rfl) ?hs12 (fun hHeld => ?go12)
        case hs12 => (exact MKR2.out _ (by with_reducible repeat (first | exact Ext.refl _ | assumption | refine Ext.drew ?_ | refine Ext.drewN ?_ _ | refine Ext.alloc ?_ _)))
        refine wpAnyH_take (i := 0) (oi := ⟨(some 10), (.move (.tmp 0)), 35, "graph.go:34", #[], none⟩) (v := ?v13) rfl (by kernel_rfl) (by kernel_rfl) (by kernel_rfl) (fun _ _ _ h => h) (Or.inl ⟨rfl, ?hy13⟩) hHeld ?rest13
        case hy13 => (intro w _; go_simp <;> rfl)
        (try simp only [PU])
        refine wpAnyH_take (i := 1) (oi := ⟨(some 11), (.move (.tmp 3)), 3, "graph.go:34", #[], none⟩) (v := ?v14) rfl (by kernel_rfl) (by kernel_rfl) (by kernel_rfl) (fun _ _ _ h => h) (Or.inl ⟨rfl, ?hy14⟩) hHeld ?rest14
        case hy14 => (intro w _; go_simp <;> rfl)
        (try simp only [PU])
        refine wpAnyH_take (i := 2) (oi := ⟨(some 12), (.indexAddr 35 (.tmp 10) (.tmp 11)), 0, "graph.go:34", #[⟨0, .data⟩, ⟨1, .data⟩], none⟩) (v := ?v15) rfl (by kernel_rfl) (by kernel_rfl) (by kernel_rfl) (fun _ _ _ h => h) (Or.inl ⟨rfl, ?hy15⟩) hHeld ?rest15
        case hy15 => (intro w _; go_simp <;> first | with_reducible rfl | rw [if_neg (by omega)] | rw [if_pos (by omega)])
        (try simp only [PU])
        refine wpAnyH_take (i := 3) (oi := ⟨(some 13), (.load 9 (.tmp 12)), 9, "graph.go:34", #[⟨2, .data⟩], none⟩) (v := ?v16) rfl (by kernel_rfl) (by kernel_rfl) (by kernel_rfl) (fun _ _ _ h => h) (Or.inl ⟨rfl, ?hy16⟩) hHeld ?rest16
        case hy16 => (intro w hSw; (try dsimp only at hSw); go_simp <;> first | with_reducible rfl | rw [if_neg (by omega)] | rw [if_pos (by omega)])
        (try simp only [PU])
        refine wpAnyH_take (i := 4) (oi := ⟨(some 14), (.move (.tmp 0)), 35, "graph.go:34", #[], none⟩) (v := ?v17) rfl (by kernel_rfl) (by kernel_rfl) (by kernel_rfl) (fun _ _ _ h => h) (Or.inl ⟨rfl, ?hy17⟩) hHeld ?rest17
        case hy17 => (intro w _; go_simp <;> rfl)
        (try simp only [PU])
        refine wpAnyH_take (i := 5) (oi := ⟨(some 15), (.move (.tmp 3)), 3, "graph.go:34", #[], none⟩) (v := ?v18) rfl (by kernel_rfl) (by kernel_rfl) (by kernel_rfl) (fun _ _ _ h => h) (Or.inl ⟨rfl, ?hy18⟩) hHeld ?rest18
        case hy18 => (intro w _; go_simp <;> rfl)
        (try simp only [PU])
        refine wpAnyH_take (i := 6) (oi := ⟨(some 16), (.binOp .sub 3 (.tmp 15) (.const (.int .i64 1)) 3), 3, "graph.go:34", #[⟨5, .data⟩], none⟩) (v := ?v19) rfl (by kernel_rfl) (by kernel_rfl) (by kernel_rfl) (fun _ _ _ h => h) (Or.inl ⟨rfl, ?hy19⟩) hHeld ?rest19
        case hy19 => (intro w _; go_simp <;> first | with_reducible rfl | rw [if_neg (by omega)] | rw [if_pos (by omega)])
        (try simp only [PU])
        refine wpAnyH_take (i := 7) (oi := ⟨(some 17), (.indexAddr 35 (.tmp 14) (.tmp 16)), 0, "graph.go:34", #[⟨4, .data⟩, ⟨6, .data⟩], none⟩) (v := ?v20) rfl (by kernel_rfl) (by kernel_rfl) (by kernel_rfl) (fun _ _ _ h => h) (Or.inl ⟨rfl, ?hy20⟩) hHeld ?rest20
        case hy20 => (intro w _; go_simp <;> first | with_reducible rfl | rw [if_neg (by omega)] | rw [if_pos (by omega)])
        (try simp only [PU])
        refine wpAnyH_take (i := 8) (oi := ⟨(some 18), (.load 9 (.tmp 17)), 9, "graph.go:34", #[⟨7, .data⟩], none⟩) (v := ?v21) rfl (by kernel_rfl) (by kernel_rfl) (by kernel_rfl) (fun _ _ _ h => h) (Or.inl ⟨rfl, ?hy21⟩) hHeld ?rest21
        case hy21 => (intro w hSw; (try dsimp only at hSw); go_simp <;> first | with_reducible rfl | rw [if_neg (by omega)] | rw [if_pos (by omega)])
        (try simp only [PU])
        refine wpAnyH_take (i := 9) (oi := ⟨(some 19), (.binOp .leq 9 (.tmp 13) (.tmp 18) 9), 4, "graph.go:34", #[⟨3, .data⟩, ⟨8, .data⟩], none⟩) (v := ?v22) rfl (by kernel_rfl) (by kernel_rfl) (by kernel_rfl) (fun _ _ _ h => h) (Or.inl ⟨rfl, ?hy22⟩) hHeld ?rest22
        case hy22 => (intro w _; go_simp <;> first | with_reducible rfl | rw [if_neg (by omega)] | rw [if_pos (by omega)])
        (try simp only [PU])
        refine wpAnyH_done (by kernel_rfl) ?_ _
        clear hHeld
        clear MKR2
        go_wp2_with fail
        go_ret
        exact ⟨ret_bool HT.out.symm, hE.trans (by with_reducible repeat (first | exact Ext.refl _ | assumption | refine Ext.drew ?_ | refine Ext.drewN ?_ _ | refine Ext.alloc ?_ _))⟩
      · have HT := Lib.hid (HB'.out (by omega))
        clear h7
        clear HS HB'
        go_upto_region 4 with (fail)
        have MKR3 := Lib.hid (fun V (e : Ext wr V) => (⟨e.cell h5, e.cell h6, e⟩ : V.cell? ⟨b, o + k, none⟩ = some (.string x) ∧ V.cell? ⟨b, o + (k - 1), none⟩ = some (.string y) ∧ Ext wr V))
        refine wp_region_held_drew (S := (fun V => V.cell? ⟨b, o + k, none⟩ = some (.string x) ∧ V.cell? ⟨b, o + (k - 1), none⟩ = some (.string y) ∧ Ext wr V)) (by kernel_rfl) ?hs23 (fun hHeld => ?go23)
        case hs23 => (exact MKR3.out _ (by with_reducible repeat (first | exact Ext.refl _ | assumption | refine Ext.drew ?_ | refine Ext.drewN ?_ _ | refine Ext.alloc ?_ _)))
        refine wpAnyH_take (i := 0) (oi := ⟨(some 10), (.move (.tmp 0)), 35, "graph.go:34", #[], none⟩) (v := ?v24) rfl (by kernel_rfl) (by kernel_rfl) (by kernel_rfl) (fun _ _ _ h => h) (Or.inl ⟨rfl, ?hy24⟩) hHeld ?rest24
        case hy24 => (intro w _; go_simp <;> rfl)
        (try simp only [PU])
        refine wpAnyH_take (i := 1) (oi := ⟨(some 11), (.move (.tmp 3)), 3, "graph.go:34", #[], none⟩) (v := ?v25) rfl (by kernel_rfl) (by kernel_rfl) (by kernel_rfl) (fun _ _ _ h => h) (Or.inl ⟨rfl, ?hy25⟩) hHeld ?rest25
        case hy25 => (intro w _; go_simp <;> rfl)
        (try simp only [PU])
        refine wpAnyH_take (i := 2) (oi := ⟨(some 12), (.indexAddr 35 (.tmp 10) (.tmp 11)), 0, "graph.go:34", #[⟨0, .data⟩, ⟨1, .data⟩], none⟩) (v := ?v26) rfl (by kernel_rfl) (by kernel_rfl) (by kernel_rfl) (fun _ _ _ h => h) (Or.inl ⟨rfl, ?hy26⟩) hHeld ?rest26
        case hy26 => (intro w _; go_simp <;> first | with_reducible rfl | rw [if_neg (by omega)] | rw [if_pos (by omega)])
        (try simp only [PU])
        refine wpAnyH_take (i := 3) (oi := ⟨(some 13), (.load 9 (.tmp 12)), 9, "graph.go:34", #[⟨2, .data⟩], none⟩) (v := ?v27) rfl (by kernel_rfl) (by kernel_rfl) (by kernel_rfl) (fun _ _ _ h => h) (Or.inl ⟨rfl, ?hy27⟩) hHeld ?rest27
        case hy27 => (intro w hSw; (try dsimp only at hSw); go_simp <;> first | with_reducible rfl | rw [if_neg (by omega)] | rw [if_pos (by omega)])
        (try simp only [PU])
        refine wpAnyH_take (i := 4) (oi := ⟨(some 14), (.move (.tmp 0)), 35, "graph.go:34", #[], none⟩) (v := ?v28) rfl (by kernel_rfl) (by kernel_rfl) (by kernel_rfl) (fun _ _ _ h => h) (Or.inl ⟨rfl, ?hy28⟩) hHeld ?rest28
        case hy28 => (intro w _; go_simp <;> rfl)
        (try simp only [PU])
        refine wpAnyH_take (i := 5) (oi := ⟨(some 15), (.move (.tmp 3)), 3, "graph.go:34", #[], none⟩) (v := ?v29) rfl (by kernel_rfl) (by kernel_rfl) (by kernel_rfl) (fun _ _ _ h => h) (Or.inl ⟨rfl, ?hy29⟩) hHeld ?rest29
        case hy29 => (intro w _; go_simp <;> rfl)
        (try simp only [PU])
        refine wpAnyH_take (i := 6) (oi := ⟨(some 16), (.binOp .sub 3 (.tmp 15) (.const (.int .i64 1)) 3), 3, "graph.go:34", #[⟨5, .data⟩], none⟩) (v := ?v30) rfl (by kernel_rfl) (by kernel_rfl) (by kernel_rfl) (fun _ _ _ h => h) (Or.inl ⟨rfl, ?hy30⟩) hHeld ?rest30
        case hy30 => (intro w _; go_simp <;> first | with_reducible rfl | rw [if_neg (by omega)] | rw [if_pos (by omega)])
        (try simp only [PU])
        refine wpAnyH_take (i := 7) (oi := ⟨(some 17), (.indexAddr 35 (.tmp 14) (.tmp 16)), 0, "graph.go:34", #[⟨4, .data⟩, ⟨6, .data⟩], none⟩) (v := ?v31) rfl (by kernel_rfl) (by kernel_rfl) (by kernel_rfl) (fun _ _ _ h => h) (Or.inl ⟨rfl, ?hy31⟩) hHeld ?rest31
        case hy31 => (intro w _; go_simp <;> first | with_reducible rfl | rw [if_neg (by omega)] | rw [if_pos (by omega)])
        (try simp only [PU])
        refine wpAnyH_take (i := 8) (oi := ⟨(some 18), (.load 9 (.tmp 17)), 9, "graph.go:34", #[⟨7, .data⟩], none⟩) (v := ?v32) rfl (by kernel_rfl) (by kernel_rfl) (by kernel_rfl) (fun _ _ _ h => h) (Or.inl ⟨rfl, ?hy32⟩) hHeld ?rest32
        case hy32 => (intro w hSw; (try dsimp only at hSw); go_simp <;> first | with_reducible rfl | rw [if_neg (by omega)] | rw [if_pos (by omega)])
        (try simp only [PU])
        refine wpAnyH_take (i := 9) (oi := ⟨(some 19), (.binOp .leq 9 (.tmp 13) (.tmp 18) 9), 4, "graph.go:34", #[⟨3, .data⟩, ⟨8, .data⟩], none⟩) (v := ?v33) rfl (by kernel_rfl) (by kernel_rfl) (by kernel_rfl) (fun _ _ _ h => h) (Or.inl ⟨rfl, ?hy33⟩) hHeld ?rest33
        case hy33 => (intro w _; go_simp <;> first | with_reducible rfl | rw [if_neg (by omega)] | rw [if_pos (by omega)])
        (try simp only [PU])
        refine wpAnyH_done (by kernel_rfl) ?_ _
        clear hHeld
        clear MKR3
        go_wp2_with fail
        go_ret
        exact ⟨ret_bool HT.out.symm, hE.trans (by with_reducible repeat (first | exact Ext.refl _ | assumption | refine Ext.drew ?_ | refine Ext.drewN ?_ _ | refine Ext.alloc ?_ _))⟩
    · have HT := Lib.hid (HY.out (fun i hi => hgd.out i (by omega)))
      go_wp2_with fail
      go_ret
      exact ⟨ret_bool HT.out.symm, hE⟩
set_option maxRecDepth 100000 in
theorem v_Plain (v : Val) (ok : Nat → Prop) (A : Option Addr) (c : Nat) (w : World) (hv : Vals w ok A v.l) :
    Calls Tryd.prog 85 #[.agg #[.int .i64 v.kind, .int .i64 v.n, .int .i64 v.d, .string v.s, .slice A v.l.length c]] w fun e w' => e = .returned (.bool (plainV v)) ∧ Ext w w' := by
  obtain ⟨g, w1, hg, hw1, ⟨p0, p1, p2, p3, p4⟩, hx, -⟩ := box_val w v A c 112
  have HC := Lib.hid (v_Valid v ok A c w1 (hv.ext hx))
  have HW1 := Lib.hid hw1
  have HG := Lib.hid hg
  have HQ := Lib.hid (show plainV v = ((decide (v.kind = 1) || decide (v.kind = 2) || decide (v.kind = 4)) && validV v) from rfl)
  generalize plainV v = R at *
  generalize validV v = q at *
  generalize v.kind = K at *
  clear hw1 hg hv
  by_cases h1 : K = 1
  · subst h1
    cases q
    all_goals
      go_enter Tryd.func85, Tryd.ntmps85
      go_upto_region 1 with (fail)
      rw [← HW1.out, ← HG.out]
      clear HW1 HG
      go_wp2_with (go_at_call 102; ((with_reducible refine (HC.out).mono ?_); rintro e w' ⟨rfl, hb⟩; have := hb.cell p0))
      go_ret
      exact ⟨ret_bool (by rw [HQ.out]; rfl), hx.trans (by first | assumption | exact Ext.refl _)⟩
  · by_cases h2 : K = 2
    · subst h2
      cases q
      all_goals
        go_enter Tryd.func85, Tryd.ntmps85
        go_upto_region 1 with (fail)
        rw [← HW1.out, ← HG.out]
        clear HW1 HG
        go_wp2_with (go_at_call 102; ((with_reducible refine (HC.out).mono ?_); rintro e w' ⟨rfl, hb⟩; have := hb.cell p0))
        go_ret
        exact ⟨ret_bool (by rw [HQ.out]; rfl), hx.trans (by first | assumption | exact Ext.refl _)⟩
    · by_cases h4 : K = 4
      · subst h4
        cases q
        all_goals
          go_enter Tryd.func85, Tryd.ntmps85
          go_upto_region 1 with (fail)
          rw [← HW1.out, ← HG.out]
          clear HW1 HG
          go_wp2_with (go_at_call 102; ((with_reducible refine (HC.out).mono ?_); rintro e w' ⟨rfl, hb⟩; have := hb.cell p0))
          go_ret
          exact ⟨ret_bool (by rw [HQ.out]; rfl), hx.trans (by first | assumption | exact Ext.refl _)⟩
      · have HR := Lib.hid (show R = false by rw [HQ.out, decide_eq_false h1, decide_eq_false h2, decide_eq_false h4]; rfl)
        have k1 : (K == 1) = false := beq_eq_false_iff_ne.2 h1
        have k2 : (K == 2) = false := beq_eq_false_iff_ne.2 h2
        have k4 : (K == 4) = false := beq_eq_false_iff_ne.2 h4
        clear h1 h2 h4 HQ
        cases q
        all_goals
          go_enter Tryd.func85, Tryd.ntmps85
          go_upto_region 1 with (fail)
          rw [← HW1.out, ← HG.out]
          clear HW1 HG
          go_wp2_with (go_at_call 102; ((with_reducible refine (HC.out).mono ?_); rintro e w' ⟨rfl, hb⟩; have := hb.cell p0))
          go_ret
          exact ⟨ret_bool HR.out.symm, hx.trans (by first | assumption | exact Ext.refl _)⟩
end Go.Proofs.YtlkpmbkmmfoakaaDoor

/- APPENDS TO ROWS THAT A CALL OWNS, with what they leave as it was; values kept over them. -/
namespace Go.Proofs.YtlkpmbkmmfoakaaDoor
open Go.RowKit
/-- behind an append to v: all that lay outside v's block lies as it lay; the new block is none of those -/
structure FarBut (w w' : World) (v v' : Value) : Prop where
  cell : ∀ b o x, some b ≠ v.ownBlock → w.cell? ⟨b, o, none⟩ = some x → w'.cell? ⟨b, o, none⟩ = some x
  own : ∀ b, b < w.heap.size → some b ≠ v.ownBlock → some b ≠ v'.ownBlock
theorem own_pushF {P : Program} {t e size bytes : Nat} (T : ElT P t e size bytes) {ops : Array Oper} {rest : List Oper} {o : Oper} {a : Act} {Q : Exit → Act → World → Prop} {w : World} (hgd : o.guard = none) (s x : Operand)
    (ho : o.op = .call { callee := .builtin .append, args := #[s, x], argTypes := #[t, t] }) (wb w0 : World) (v : Value) (n : Nat) (xs news : List Value) (hs : a.eval s = v) (hown : w0.ownsRow wb.heap.size e size v n xs) (hE : Ext wb w0)
    (hw : w = w0.alloc (.cells news.toArray e)) (hx : a.eval x = .slice (some ⟨w0.heap.size, 0, none⟩) 1 1) (hl : news.length = size) (h1 : ∀ u ∈ news, u.oneCell' = true)
    (h63 : n + 1 ≤ 8388608) (hbytes : bytes ≤ 1000000)
    (h : ∀ v' w', w'.ownsRow wb.heap.size e size v' (n + 1) (xs ++ news) → Ext wb w' → FarBut w0 w' v v' → wpList P ops Q rest (a.put o.dst v') w') : wpList P ops Q (o :: rest) a w := by
  obtain ⟨z, hz, hzc⟩ := T.hi
  obtain ⟨i, hi, hz0, hz1, hz2⟩ := info_parts hz
  subst hw
  refine wpList_append_own_at _ hgd s x t ho wb.heap.size e i z size bytes T.ht hi hz0 hz1 hz2 hzc T.hs v n xs hs (hown.alloc _) ⟨w0.heap.size, 0, none⟩ 1 1 news hx (by omega) ?_ h1 (by unfold maxLen; omega) ?_ (Nat.le_trans hE.le (by simp)) ?_
  · intro j u hj
    rw [Addr.add_mid, cell_of_row _ _ _ _ _ _ (heap_alloc_new w0 _)]
    simpa using hj
  · exact Nat.le_trans (Nat.mul_le_mul h63 hbytes) (by decide)
  · intro v' w' h2 h3 _ h5
    refine h v' w' h2 ((hE.alloc _).grown h3 (fun k hk => (hown.lt k hk).1)) ⟨fun b o x hb hc => ?_, fun b hb hn => ?_⟩
    · have hlt : b < w0.heap.size := block_lt_of_cell hc
      have hc2 : (w0.alloc (.cells news.toArray e)).cell? ⟨b, o, none⟩ = some x := (World.cell?_alloc_lt w0 _ ⟨b, o, none⟩ hlt).trans hc
      exact (World.cell?_of_block (h3.block b (by simp; omega) hb)).trans hc2
    · rcases h5 with e | e
      · rw [e]; exact hn
      · rw [e]
        intro e2
        injection e2 with e2
        simp at e2; omega
end Go.Proofs.YtlkpmbkmmfoakaaDoor
