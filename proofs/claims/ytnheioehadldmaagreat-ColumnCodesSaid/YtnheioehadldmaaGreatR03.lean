/- PARTS OF THE WALKS, joined: FracL, FracM, LaidW, Name, Gr, Idx. -/
import Derived.Test.YtnheioehadldmaaGreatR02
import Derived.Deep.CutBlock
import Derived.Deep.DeepCutAuto
import Derived.Deep.RegionHeld3
import Derived.Test.YtnheioehadldmaaGreatRows
import Derived.ProofKit
import Derived.Deep.Fields
import Derived.OpenShut
import Derived.LaidMore
import Derived.Deep.DeepHandedRow
import Derived.Deep.DeepWitnessRowRef
import Derived.SizedLaws
import Derived.Deep.Slices
import Derived.Lib.SmallJoins
import Derived.Lay
import Derived.Carry
import Derived.MakeChecks
import Derived.Test.YtnheioehadldmaaGreatR01
import Derived.Test.YtnheioehadldmaaGreatR00
import Derived.WalkKit
/- THE WALKS over package frac: Add. -/
namespace Go.Proofs.YtnheioehadldmaaGreat
open Go.RowKit
theorem below_drew' {B : Nat} {a w : World} (h : Below B a w) : Below B a w.drew := below_drewN' h 1
end Go.Proofs.YtnheioehadldmaaGreat

/- THE WALKS over package frac: Sub, Cmp, Floor. -/
namespace Go.Proofs.YtnheioehadldmaaGreat
open Go.RowKit
/-- what Cmp's frame holds behind its checks -/
def CmpSt (w : World) (A B C D : Int) (V : World) : Prop :=
 Below w.heap.size w V ∧ w.heap.size + 1 < V.heap.size ∧ V.cell? ⟨w.heap.size, 0, none⟩ = some (.int .i64 A) ∧ V.cell? ⟨w.heap.size, 1, none⟩ = some (.int .i64 B) ∧ V.cell? ⟨w.heap.size + 1, 0, none⟩ = some (.int .i64 C) ∧ V.cell? ⟨w.heap.size + 1, 1, none⟩ = some (.int .i64 D)
theorem CmpSt.step {w : World} {A B C D : Int} {V V' : World} (q : CmpSt w A B C D V) (hb : Below V.heap.size V V') : CmpSt w A B C D V' := by
 obtain ⟨q0, q1, q2, q3, q4, q5⟩ := q
 obtain ⟨hc, hf⟩ := bcell hb
 have hs := hb.size
 exact ⟨below_step q0 hb, by omega, (hc _ _ (by omega)).trans q2, (hc _ _ (by omega)).trans q3, (hc _ _ (by omega)).trans q4, (hc _ _ (by omega)).trans q5⟩
theorem CmpSt.drew {w : World} {A B C D : Int} {V : World} (q : CmpSt w A B C D V) : CmpSt w A B C D V.drew := q.step (below_drew' (Below.refl _ _))
end Go.Proofs.YtnheioehadldmaaGreat

/- VALUES, ROWS AND STRINGS THAT COME IN; the last step of a row. -/
namespace Go.Proofs.YtnheioehadldmaaGreat
open Go.ChangeShapes Go.WideShapes Go.ChangeAt Go.RowKit
open Go.ChangeMaps (open_string shut_string)
theorem own : ownKnob Tryz.prog.godebug = none := by kernel_rfl
theorem laidOut : laidOutB Tryz.prog = true := by kernel_rfl
theorem spot_of_cell {w : World} {a : Addr} {v : Value} (h : w.cell? a = some v) : a = ⟨a.block, a.off, none⟩ := by
 obtain ⟨b, o, sp⟩ := a
 cases sp with
 | none => rfl
 | some k =>
  exfalso
  unfold World.cell? at h
  split at h
  ·simp at h
  ·cases h
theorem add_none (b o i j : Nat) : ((⟨b, o, none⟩ : Addr).add i).add j = ⟨b, o + i + j, none⟩ := by
 unfold Addr.add
 by_cases h : i = 0 <;> by_cases k : j = 0 <;> simp [h, k]
theorem list_of {α : Type} (P : Nat → α → Prop) : ∀ n, (∀ i, i < n → ∃ x, P i x) → ∃ l : List α, l.length = n ∧ ∀ i (h : i < l.length), P i l[i]
 | 0, _ => ⟨[], rfl, fun i h => absurd h (Nat.not_lt_zero _)⟩
 | n + 1, h => by
  obtain ⟨l, hl, hp⟩ := list_of P n (fun i hi => h i (by omega))
  obtain ⟨x, hx⟩ := h n (by omega)
  refine ⟨l ++ [x], by simp [hl], fun i hi => ?_⟩
  rcases Nat.lt_or_ge i l.length with h1 | h1
  ·rw [List.getElem_append_left h1]; exact hp i h1
  ·have : i = l.length := by simp at hi; omega
   subst this
   rw [List.getElem_append_right (by omega)]
   simpa [hl] using hx
section
variable {H : Type} {enc : TypeId × Value → H} {w : World} {base : Nat} {spare : Nat → Bool} {held : Bool}
theorem weightsAll_mem {P : Program} {e : TypeId} : ∀ {l : List (DataW H)} {d : DataW H}, d ∈ l → ∀ n ∈ d.weights P e, n ∈ DataW.weightsAll P e l
 | d0 :: r, d, h, n, hn => by
  simp only [DataW.weightsAll, List.mem_append]
  rcases List.mem_cons.1 h with rfl | h
  ·exact .inl hn
  ·exact .inr (weightsAll_mem h n hn)
/-- a slice that reads: each element by what its cells are -/
theorem slice_gen {α : Type} {t e size fuel : Nat} {cs : List Value} {x : DataW H × List MemPlace} (ht : Tryz.prog.underlying t = some (.slice e)) (he : Tryz.prog.cellsOf e = size) (hbe : 0 < Tryz.prog.bytesOf e) (hs : 0 < size) (R : Nat → Nat → α → Prop) (Q : α → Prop)
  (hel : ∀ n cs' (y : DataW H × List MemPlace), fuel = n + 1 → (∀ k ∈ y.1.weights Tryz.prog e, k ≤ reachBytes) → DataW.trod enc Tryz.prog w base spare held n e cs' = some y → ∃ v : α, Q v ∧ ∀ b o, (∀ j u, cs'[j]? = some u → w.cell? ⟨b, o + j, none⟩ = some u) → R b o v)
  (hwt : ∀ k ∈ x.1.weights Tryz.prog t, k ≤ reachBytes) (h : DataW.trod enc Tryz.prog w base spare held fuel t cs = some x) : ∃ (l : List α) (A : Option Addr) (c : Nat), cs = [.slice A l.length c] ∧ l.length ≤ c ∧ SliceR R size A l ∧ ∀ v ∈ l, Q v := by
 rcases DataW.trod_slice ht h with ⟨rfl, -⟩ | ⟨a, len, cap, elems, rest, n, hfu, rfl, hxx, -, hl, hm, hlen, hel2, -, -⟩
 ·exact ⟨[], none, 0, rfl, Nat.le_refl _, SliceR.nil _ _ _, fun v hv => absurd hv (by simp)⟩
 ·rw [hxx] at hwt
  simp only [DataW.weights, ht, List.mem_cons, List.mem_append, List.length_map] at hwt
  have hlen2 : len ≤ 140737488355328 := by
   have h1 := hwt _ (.inl rfl)
   have h2 : (elems.length + rest.length) * 1 ≤ (elems.length + rest.length) * Tryz.prog.bytesOf e := Nat.mul_le_mul_left _ hbe
   have h3 := reachBytes_lt
   omega
  have H : ∀ i, i < len → ∃ v : α, Q v ∧ R a.block (a.off + i * size) v ∧ a = ⟨a.block, a.off, none⟩ := fun i hi => by
   have h1 := hel2 i hi
   rw [he, List.getElem?_eq_getElem (by omega)] at h1
   obtain ⟨cs', hc, ht'⟩ := Option.bind_eq_some_iff.1 h1
   obtain ⟨v, hq, hr⟩ := hel n cs' _ hfu (fun k hk => hwt k (.inr (.inl (weightsAll_mem (List.mem_map_of_mem (List.getElem_mem _)) k hk)))) ht'
   obtain ⟨-, hlen', hat⟩ := World.cells?_some hc
   have hspot : a = ⟨a.block, a.off, none⟩ := by
    have h1' := hel2 0 (by omega)
    rw [he, List.getElem?_eq_getElem (by omega)] at h1'
    obtain ⟨cs0, hc0, -⟩ := Option.bind_eq_some_iff.1 h1'
    obtain ⟨-, hl0, hat0⟩ := World.cells?_some hc0
    have h2 := hat0 0 hs
    rw [Nat.zero_mul] at h2
    obtain ⟨u, hu⟩ : ∃ u, cs0[0]? = some u := ⟨cs0[0]'(by omega), List.getElem?_eq_getElem (by omega)⟩
    rw [hu] at h2
    exact spot_of_cell (v := u) (by simpa [Addr.add] using h2)
   refine ⟨v, hq, hr _ _ (fun j u hu => ?_), hspot⟩
   have hj : j < size := by have := (List.getElem?_eq_some_iff.1 hu).1; omega
   have h2 := hat j hj
   rw [hspot, add_none, hu] at h2
   exact h2
  obtain ⟨l, hll, hp⟩ := list_of (fun i v => Q v ∧ R a.block (a.off + i * size) v ∧ a = ⟨a.block, a.off, none⟩) len H
  refine ⟨l, some a, cap, by rw [hll], by omega, ⟨by omega, fun hpos => ⟨a.block, a.off, congrArg some (hp 0 hpos).2.2, fun k hk => (hp k hk).2.1⟩⟩, fun v hv => ?_⟩
  obtain ⟨i, hi, rfl⟩ := List.getElem_of_mem hv
  exact (hp i hi).1
theorem five {α : Type} {l : List α} (h : l.length = 5) : ∃ a b c d e, l = [a, b, c, d, e] := by
 match l, h with
 | [a, b, c, d, e], _ => exact ⟨a, b, c, d, e, rfl⟩
theorem two {α : Type} {l : List α} (h : l.length = 2) : ∃ a b, l = [a, b] := by
 match l, h with
 | [a, b], _ => exact ⟨a, b, rfl⟩
end
section
variable {H : Type} {enc : TypeId × Value → H} {P : Program}
/-- The row's last step where all that was there stands. -/
theorem post_of_below {f : Func} {s : ChangeSpec} {apart fresh handsOn again : Bool} {W W' : World} {args : Array Value} {v : Value} {ds gs : List (DataW H)} {before pa pv : List MemPlace}
  (hW : DataW.Whole enc P f.params.toList s.vars apart W args.toList ds gs before)
  (hres : ∀ (b : Nat) (sp : Nat → Bool) (hd : Bool), DataW.TrodAll enc P W' b sp hd f.resultTypes.toList (v.resultList f.resultTypes.size) (s.fn H (ds ++ gs)).results [])
  (hargs : ∀ sp : Nat → Bool, (∀ p ∈ before, sp p.block = true) → DataW.TrodAll enc P W' 0 sp true f.params.toList args.toList (s.fn H (ds ++ gs)).args pa)
  (hvars : ∀ sp : Nat → Bool, (∀ p ∈ before, sp p.block = true) → DataW.TrodVars enc P W' sp s.vars (s.fn H (ds ++ gs)).vars pv)
  (hps : before = pa ++ pv) (hb : Below W.heap.size W W')
  (hok : ∀ (j : Nat) (t : TypeId) (r : Value), f.resultTypes[j]? = some t → (v.resultList f.resultTypes.size)[j]? = some r → Value.okWide P W' .any 0 t r) :
  s.post enc P f apart fresh handsOn again W args v W' := by
 have hlt : ∀ p ∈ before, p.block < W.heap.size := fun p hp => hW.lt p hp
 have hold : ∀ p ∈ before, (fun b => decide (b < W.heap.size)) p.block = true := fun p hp => by simpa using hlt p hp
 refine ⟨ds, gs, before, [], pa, pv, hW, hres _ _ _, hargs _ hold, hvars _ hold, World.keptBut_mono (fun p hp => ⟨hp, ?_⟩) (hb.frame (· ∈ before)), fun _ => ?_⟩
 ·rw [hps, List.mem_append] at hp
  exact Or.inr hp
 ·obtain ⟨_, _, _, _, _, hz, hn⟩ := hW
  refine ⟨hok, _, _, ([] ++ pa) ++ pv, ⟨[] ++ pa, pv, trodAll_append (hargs _ (fun _ _ => rfl)) (hres _ _ _), hvars _ (fun _ _ => rfl), rfl, ?_, ?_⟩, ?_⟩
  ·intro b off hp
   have hin : MemPlace.cell b off ∈ before := by rw [hps]; simpa using hp
   rw [hb.frozen (hlt _ hin)]
   exact hz b off hin
  ·intro ha
   have := hn ha
   rw [hps] at this
   simpa using this
  ·intro p hp _
   rw [hps]
   simpa using hp
end
end Go.Proofs.YtnheioehadldmaaGreat

/- THE WALKS over what a name is: graph.letter, graph.Name, the reference's letter and Name. -/
namespace Go.Proofs.YtnheioehadldmaaGreat
open Go.RowKit
def isLet (c : UInt8) : Bool := (decide (97 ≤ c.toNat) && decide (c.toNat ≤ 122)) || (decide (65 ≤ c.toNat) && decide (c.toNat ≤ 90))
def isWd (c : UInt8) : Bool := isLet c || decide (c.toNat = 95) || (decide (48 ≤ c.toNat) && decide (c.toNat ≤ 57))
def nameL : List UInt8 → Bool
 | [] => false
 | c :: r => decide (r.length ≤ 19) && isLet c && r.all isWd
def nameB (s : ByteArray) : Bool := nameL s.data.toList
theorem size_zero {s : ByteArray} (h : s.size = 0) : s.data.toList = [] := List.eq_nil_of_length_eq_zero (by simpa using h)
theorem size_nz {s : ByteArray} (h : s.size ≠ 0) : s.data.toList ≠ [] := fun e => h (by have := congrArg List.length e; simpa using this)
theorem ba_ext {a b : ByteArray} (h : a.data.toList = b.data.toList) : a = b := ByteArray.ext (Array.toList_inj.1 h)
theorem nameB_iff {s : ByteArray} : nameB s = true ↔ ∃ h : 0 < s.size, s.size ≤ 20 ∧ isLet s[0] = true ∧ ∀ j (h : j < s.size), isWd s[j] = true := by
 have hlen : s.data.toList.length = s.size := by simp
 have hget : ∀ j (h : j < s.size), s.data.toList[j]? = some s[j] := fun j h => List.getElem?_eq_getElem (by simpa using h)
 unfold nameB
 generalize s.data.toList = l at hlen hget
 cases l with
 | nil => simp only [List.length_nil] at hlen; exact ⟨fun h => (by cases h), fun ⟨h, _⟩ => absurd h (by omega)⟩
 | cons c r =>
  simp only [List.length_cons] at hlen
  have h0 : c = s[0] := Option.some.inj (hget 0 (by omega))
  simp only [nameL, Bool.and_eq_true, decide_eq_true_iff, List.all_eq_true]
  constructor
  ·rintro ⟨⟨h1, h2⟩, h3⟩
   refine ⟨by omega, by omega, h0 ▸ h2, fun j hj => ?_⟩
   cases j with
   | zero => rw [← h0]; unfold isWd; rw [h2]; rfl
   | succ j =>
    have e := hget (j + 1) hj
    rw [List.getElem?_cons_succ] at e
    exact h3 _ (List.mem_of_getElem? e)
  ·rintro ⟨h, h1, h2, h3⟩
   refine ⟨⟨by omega, h0 ▸ h2⟩, fun x hx => ?_⟩
   obtain ⟨j, hj, rfl⟩ := List.getElem_of_mem hx
   have hj2 : j + 1 < s.size := by omega
   have e := hget (j + 1) hj2
   rw [List.getElem?_cons_succ, List.getElem?_eq_getElem hj] at e
   rw [Option.some.inj e]
   exact h3 (j + 1) hj2
theorem nameB_no {s : ByteArray} (h : ¬ ∃ h : 0 < s.size, s.size ≤ 20 ∧ isLet s[0] = true ∧ ∀ j (h : j < s.size), isWd s[j] = true) : nameB s = false := by
 cases hb : nameB s
 ·rfl
 ·exact absurd (nameB_iff.1 hb) h
theorem isLet_iff {c : UInt8} : isLet c = true ↔ (97 ≤ c.toNat ∧ c.toNat ≤ 122) ∨ (65 ≤ c.toNat ∧ c.toNat ≤ 90) := by
 unfold isLet; simp
theorem isWd_iff {c : UInt8} : isWd c = true ↔ isLet c = true ∨ c.toNat = 95 ∨ (48 ≤ c.toNat ∧ c.toNat ≤ 57) := by
 unfold isWd; simp [or_assoc]
theorem g_letter (c : UInt8) (w : World) : Calls Tryz.prog 49 #[.int .u8 (c.toNat : Int)] w fun e w' => e = .returned (.bool (isLet c)) ∧ w' = w := by
 go_enter Tryz.func49, Tryz.ntmps49
 go_wp2
 all_goals
  go_ret
  refine ⟨ret_bool ?_, rfl⟩
  rw [Bool.eq_iff_iff, isLet_iff]
  simp
  try omega
theorem name_step {s : ByteArray} {k : Nat} (h : ∀ j (h : j < s.size), j < k → isWd s[j] = true) (hk : k < s.size) (hw : isWd s[k] = true) : ∀ j (h : j < s.size), j < k + 1 → isWd s[j] = true := by
 intro j hj hjk
 by_cases e : j = k
 ·subst e; exact hw
 ·exact h j hj (by omega)
set_option maxHeartbeats 1600000 in
theorem g_Name (s : ByteArray) (w : World) : Calls Tryz.prog 21 #[.string s] w fun e w' => e = .returned (.bool (nameB s)) ∧ w' = w := by
 by_cases h0 : s.size = 0
 ·have HN := Lib.hid (nameB_no (s := s) (fun ⟨h, _⟩ => absurd h (by omega)))
  have he : s = ByteArray.empty := ba_ext (size_zero h0)
  subst he
  go_enter Tryz.func21, Tryz.ntmps21
  go_wp2
  go_ret
  exact ⟨ret_bool HN.out.symm, rfl⟩
 ·have hne : (s.toList == ([] : List UInt8)) = false := by rw [ByteArray.toList_eq]; exact beq_eq_false_iff_ne.2 (size_nz h0)
  have h0' : 0 < s.size := by omega
  have HL := Lib.hid (fun w => g_letter s[0] w)
  by_cases h20 : s.size ≤ 20
  ·cases hL : isLet s[0]
   ·have HN := Lib.hid (nameB_no (s := s) (fun ⟨_, _, h, _⟩ => by rw [hL] at h; cases h))
    go_enter Tryz.func21, Tryz.ntmps21
    go_wp2_with (go_at_call 49; refine (HL.out _).mono ?_; rintro e w' ⟨rfl, rfl⟩; rw [hL])
    all_goals
     go_ret
     exact ⟨ret_bool HN.out.symm, rfl⟩
   ·have HY := Lib.hid (fun h : ∀ j (h : j < s.size), isWd s[j] = true => nameB_iff.2 ⟨h0', h20, hL, h⟩)
    have HNO := Lib.hid (fun (k : Nat) (hk : k < s.size) (h : isWd s[k] = false) => nameB_no (s := s) (fun ⟨_, _, _, h'⟩ => by rw [h' k hk] at h; cases h))
    go_enter Tryz.func21, Tryz.ntmps21
    go_wp2_with (go_at_call 49; refine (HL.out _).mono ?_; rintro e w' ⟨rfl, rfl⟩; rw [hL])
    go_loop [19] (fun u => ∃ k : Nat, u = .int .i64 k ∧ k ≤ s.size ∧ Hid (∀ j (h : j < s.size), j < k → isWd s[j] = true)) (fun u => s.size - (intOf u).toNat)
    case atStart => exact ⟨0, rfl, Nat.zero_le _, Lib.hid (fun j _ hj => absurd hj (by omega))⟩
    case round =>
     obtain ⟨k, rfl, hk, hA⟩ := hrel
     by_cases hlt : k < s.size
     ·have HLk := Lib.hid (fun w => g_letter s[k] w)
      cases hW : isWd s[k]
      ·have HN := Lib.hid (HNO.out k hlt hW)
       have hW2 := hW
       rw [Bool.eq_false_iff, ne_eq, isWd_iff, not_or, not_or] at hW2
       obtain ⟨q1, q2, q3⟩ := hW2
       have q1 : isLet s[k] = false := by simpa using q1
       have c95 : ((s[k].toNat : Int) != 95) = true := by simp; omega
       by_cases h48 : s[k].toNat < 48
       ·go_wp2_with (go_at_call 49; refine (HLk.out _).mono ?_; rintro e w' ⟨rfl, rfl⟩; rw [q1])
        go_ret
        exact ⟨ret_bool HN.out.symm, rfl⟩
       ·have h57 : 57 < s[k].toNat := by omega
        go_wp2_with (go_at_call 49; refine (HLk.out _).mono ?_; rintro e w' ⟨rfl, rfl⟩; rw [q1])
        go_ret
        exact ⟨ret_bool HN.out.symm, rfl⟩
      ·have HS := Lib.hid (name_step hA.out hlt hW)
       cases q1 : isLet s[k]
       ·have hW2 := hW
        rw [isWd_iff, q1] at hW2
        have hW2 : s[k].toNat = 95 ∨ (48 ≤ s[k].toNat ∧ s[k].toNat ≤ 57) := hW2.resolve_left (by simp)
        rcases hW2 with h95 | ⟨h48, h57⟩
        ·have c95 : ((s[k].toNat : Int) != 95) = false := by simp [h95]
         have h48 : ¬ s[k].toNat < 48 := by omega
         have h57 : 57 < s[k].toNat := by omega
         clear h95
         go_wp2_with (go_at_call 49; refine (HLk.out _).mono ?_; rintro e w' ⟨rfl, rfl⟩; rw [q1])
         go_round
         case rel => exact ⟨k + 1, by go_num, by omega, HS⟩
         case measure => simp [intOf]; omega
        ·go_wp2_with (go_at_call 49; refine (HLk.out _).mono ?_; rintro e w' ⟨rfl, rfl⟩; rw [q1])
         go_round
         case rel => exact ⟨k + 1, by go_num, by omega, HS⟩
         case measure => simp [intOf]; omega
       ·go_wp2_with (go_at_call 49; refine (HLk.out _).mono ?_; rintro e w' ⟨rfl, rfl⟩; rw [q1])
        go_round
        case rel => exact ⟨k + 1, by go_num, by omega, HS⟩
        case measure => simp [intOf]; omega
     ·have hk' : k = s.size := by omega
      have HN := Lib.hid (HY.out (fun j hj => hA.out j hj (by omega)))
      go_wp2
      go_ret
      exact ⟨ret_bool HN.out.symm, rfl⟩
  ·have HN := Lib.hid (nameB_no (s := s) (fun ⟨_, h, _⟩ => absurd h h20))
   go_enter Tryz.func21, Tryz.ntmps21
   go_wp2_with (go_at_call 49; refine (HL.out _).mono ?_; rintro e w' ⟨rfl, rfl⟩)
   go_ret
   exact ⟨ret_bool HN.out.symm, rfl⟩
end Go.Proofs.YtnheioehadldmaaGreat

/- GRAPHS: plain, what their check says; in memory. -/
namespace Go.Proofs.YtnheioehadldmaaGreat
open Go.RowKit
structure PropG where
 key : ByteArray
 v : Val
structure NodeG where
 id : Int
 labels : List ByteArray
 props : List PropG
structure EdgeG where
 id : Int
 frm : Int
 to_ : Int
 typ : ByteArray
 props : List PropG
structure GraphG where
 nodes : List NodeG
 edges : List EdgeG
 nn : Int
 ne : Int
instance : Inhabited PropG := ⟨⟨ByteArray.empty, default⟩⟩
instance : Inhabited NodeG := ⟨⟨0, [], []⟩⟩
instance : Inhabited EdgeG := ⟨⟨0, 0, 0, ByteArray.empty, []⟩⟩
/-- the first that is no nought among f 0 .. f (n - 1), or nought -/
def firstE (f : Nat → Int) : Nat → Int
 | 0 => 0
 | n + 1 => if firstE f n = 0 then f n else firstE f n
theorem firstE_zero {f : Nat → Int} : ∀ {n : Nat}, (∀ j < n, f j = 0) → firstE f n = 0
 | 0, _ => rfl
 | n + 1, h => by rw [firstE, if_pos (firstE_zero (fun j hj => h j (by omega)))]; exact h n (by omega)
theorem firstE_at {f : Nat → Int} {k : Nat} (h : ∀ j < k, f j = 0) (hk : f k ≠ 0) : ∀ {n : Nat}, k < n → firstE f n = f k
 | 0, h => absurd h (by omega)
 | n + 1, hn => by
  rw [firstE]
  rcases Nat.lt_or_eq_of_le (Nat.le_of_lt_succ hn) with h1 | h1
  ·rw [firstE_at h hk h1, if_neg hk]
  ·subst h1; rw [firstE_zero h, if_pos rfl]
theorem firstE_all {f : Nat → Int} : ∀ {n : Nat}, firstE f n = 0 → ∀ j < n, f j = 0
 | 0, _, _, h => absurd h (by omega)
 | n + 1, h, j, hj => by
  rw [firstE] at h
  split at h
  ·rename_i h1
   rcases Nat.lt_or_eq_of_le (Nat.le_of_lt_succ hj) with h2 | h2
   ·exact firstE_all h1 j h2
   ·rw [h2]; exact h
  ·rename_i h1; exact absurd h h1
/-- strictly increasing -/
def risesB (l : List ByteArray) : Bool := (List.range (l.length - 1)).all (fun i => decide (cmpT l[i]! l[i + 1]! < 0))
theorem risesB_iff {l : List ByteArray} : risesB l = true ↔ ∀ i, i + 1 < l.length → cmpT l[i]! l[i + 1]! < 0 := by
 unfold risesB
 rw [List.all_eq_true]
 exact ⟨fun h i hi => of_decide_eq_true (h i (List.mem_range.2 (by omega))), fun h i hi => decide_eq_true (h i (by have := List.mem_range.1 hi; omega))⟩
theorem risesB_no {l : List ByteArray} {i : Nat} (hi : i + 1 < l.length) (h : ¬ cmpT l[i]! l[i + 1]! < 0) : risesB l = false := by
 cases hb : risesB l
 ·rfl
 ·exact absurd (risesB_iff.1 hb i hi) h
def plainV (v : Val) : Bool := (decide (v.kind = 1) || decide (v.kind = 2) || decide (v.kind = 4)) && validV v
def keysP (l : List PropG) : List ByteArray := l.map PropG.key
/-- what is wrong with labels and properties -/
def partsE (labels : List ByteArray) (props : List PropG) : Int :=
 if 8 < labels.length ∨ 16 < props.length then 4
 else if labels.all nameB && (keysP props).all nameB then
  if risesB labels && risesB (keysP props) then
   if props.all (fun p => plainV p.v) then 0 else 8
  else 26
 else 6
def nodeE (g : GraphG) (i : Nat) : Int :=
 if 0 < i ∧ g.nodes[i]!.id ≤ g.nodes[i - 1]!.id then 26
 else if g.nodes[i]!.id < 1 ∨ g.nn ≤ g.nodes[i]!.id then 1
 else partsE g.nodes[i]!.labels g.nodes[i]!.props
def hasN (l : List NodeG) (n : Int) : Bool := l.any (fun x => decide (x.id = n))
def edgeE (g : GraphG) (i : Nat) : Int :=
 if 0 < i ∧ g.edges[i]!.id ≤ g.edges[i - 1]!.id then 26
 else if g.edges[i]!.id < 1 ∨ g.ne ≤ g.edges[i]!.id then 1
 else if hasN g.nodes g.edges[i]!.frm && hasN g.nodes g.edges[i]!.to_ then
  if nameB g.edges[i]!.typ then partsE [] g.edges[i]!.props else 6
 else 10
def headE (g : GraphG) : Int :=
 if 2000 < g.nodes.length ∨ 4000 < g.edges.length then 4
 else if g.nn < 1 ∨ 1000001 < g.nn ∨ g.ne < 1 ∨ 1000001 < g.ne then 1 else 0
def nodesE (g : GraphG) : Int := firstE (nodeE g) g.nodes.length
def edgesE (g : GraphG) : Int := firstE (edgeE g) g.edges.length
/-- the first error of a graph -/
def chkG (g : GraphG) : Int := if headE g = 0 then (if nodesE g = 0 then edgesE g else nodesE g) else headE g
/-- nodes without an error have increasing ids -/
theorem nodes_rise {g : GraphG} (h : nodesE g = 0) {i : Nat} (hi : i < g.nodes.length) : (0 < i → g.nodes[i - 1]!.id < g.nodes[i]!.id) ∧ 1 ≤ g.nodes[i]!.id ∧ g.nodes[i]!.id < g.nn := by
 have h1 := firstE_all h i hi
 unfold nodeE at h1
 split at h1
 ·cases h1
 ·rename_i h2
  split at h1
  ·cases h1
  ·rename_i h3; exact ⟨fun hp => by omega, by omega, by omega⟩
theorem nodes_lt {g : GraphG} (h : nodesE g = 0) : ∀ {i j : Nat}, i < j → j < g.nodes.length → g.nodes[i]!.id < g.nodes[j]!.id := by
 intro i j hij
 induction j with
 | zero => omega
 | succ j ih =>
  intro hj
  have h1 := (nodes_rise h hj).1 (by omega)
  rw [Nat.add_sub_cancel] at h1
  rcases Nat.lt_or_eq_of_le (Nat.le_of_lt_succ hij) with h2 | h2
  ·have := ih h2 (by omega); omega
  ·rw [h2]; exact h1
/- in memory -/
section
variable (w : World) (ok : Nat → Prop)
def PropC (b o : Nat) (p : PropG) : Prop := w.cell? ⟨b, o, none⟩ = some (.string p.key) ∧ VCells w ok b (o + 1) p.v
def Props (A : Option Addr) (l : List PropG) : Prop := SliceR (PropC w ok) 6 A l
def NodeC (b o : Nat) (n : NodeG) : Prop := ok b ∧ w.cell? ⟨b, o, none⟩ = some (.int .i64 n.id) ∧ ∃ A c B d, w.cell? ⟨b, o + 1, none⟩ = some (.slice A n.labels.length c) ∧ n.labels.length ≤ c ∧ Strs w ok A n.labels ∧ w.cell? ⟨b, o + 2, none⟩ = some (.slice B n.props.length d) ∧ n.props.length ≤ d ∧ Props w ok B n.props
def EdgeC (b o : Nat) (e : EdgeG) : Prop := ok b ∧ w.cell? ⟨b, o, none⟩ = some (.int .i64 e.id) ∧ w.cell? ⟨b, o + 1, none⟩ = some (.int .i64 e.frm) ∧ w.cell? ⟨b, o + 2, none⟩ = some (.int .i64 e.to_) ∧ w.cell? ⟨b, o + 3, none⟩ = some (.string e.typ) ∧ ∃ B d, w.cell? ⟨b, o + 4, none⟩ = some (.slice B e.props.length d) ∧ e.props.length ≤ d ∧ Props w ok B e.props
def Nodes (A : Option Addr) (l : List NodeG) : Prop := SliceR (NodeC w ok) 3 A l
def Edges (A : Option Addr) (l : List EdgeG) : Prop := SliceR (EdgeC w ok) 5 A l
structure GraphAt (A B : Option Addr) (g : GraphG) : Prop where
 nodes : Nodes w ok A g.nodes
 edges : Edges w ok B g.edges
end
section
variable {w w' : World} {ok ok' : Nat → Prop}
theorem Strs.keep (hk : ∀ b o x, ok b → w.cell? ⟨b, o, none⟩ = some x → w'.cell? ⟨b, o, none⟩ = some x) (ho : ∀ b, ok b → ok' b) {A : Option Addr} {l : List ByteArray} (h : Strs w ok A l) : Strs w' ok' A l := SliceR.mono h (fun _ _ _ _ hx => ⟨ho _ hx.1, hk _ _ _ hx.1 hx.2⟩)
theorem PropC.keep (hk : ∀ b o x, ok b → w.cell? ⟨b, o, none⟩ = some x → w'.cell? ⟨b, o, none⟩ = some x) (ho : ∀ b, ok b → ok' b) {b o : Nat} {p : PropG} (h : PropC w ok b o p) : PropC w' ok' b o p := ⟨hk _ _ _ (VCells.iff.1 h.2).1 h.1, VCells.keep hk ho _ _ _ h.2⟩
theorem Props.keep (hk : ∀ b o x, ok b → w.cell? ⟨b, o, none⟩ = some x → w'.cell? ⟨b, o, none⟩ = some x) (ho : ∀ b, ok b → ok' b) {A : Option Addr} {l : List PropG} (h : Props w ok A l) : Props w' ok' A l := SliceR.mono h (fun _ _ _ _ hx => PropC.keep hk ho hx)
theorem NodeC.keep (hk : ∀ b o x, ok b → w.cell? ⟨b, o, none⟩ = some x → w'.cell? ⟨b, o, none⟩ = some x) (ho : ∀ b, ok b → ok' b) {b o : Nat} {n : NodeG} (h : NodeC w ok b o n) : NodeC w' ok' b o n :=
 let ⟨h0, h1, A, c, B, d, h2, h3, h4, h5, h6, h7⟩ := h
 ⟨ho _ h0, hk _ _ _ h0 h1, A, c, B, d, hk _ _ _ h0 h2, h3, Strs.keep hk ho h4, hk _ _ _ h0 h5, h6, Props.keep hk ho h7⟩
theorem EdgeC.keep (hk : ∀ b o x, ok b → w.cell? ⟨b, o, none⟩ = some x → w'.cell? ⟨b, o, none⟩ = some x) (ho : ∀ b, ok b → ok' b) {b o : Nat} {n : EdgeG} (h : EdgeC w ok b o n) : EdgeC w' ok' b o n :=
 let ⟨h0, h1, h2, h3, h4, B, d, h5, h6, h7⟩ := h
 ⟨ho _ h0, hk _ _ _ h0 h1, hk _ _ _ h0 h2, hk _ _ _ h0 h3, hk _ _ _ h0 h4, B, d, hk _ _ _ h0 h5, h6, Props.keep hk ho h7⟩
theorem GraphAt.keep (hk : ∀ b o x, ok b → w.cell? ⟨b, o, none⟩ = some x → w'.cell? ⟨b, o, none⟩ = some x) (ho : ∀ b, ok b → ok' b) {A B : Option Addr} {g : GraphG} (h : GraphAt w ok A B g) : GraphAt w' ok' A B g :=
 ⟨SliceR.mono h.nodes (fun _ _ _ _ hx => NodeC.keep hk ho hx), SliceR.mono h.edges (fun _ _ _ _ hx => EdgeC.keep hk ho hx)⟩
theorem PropC.ext {b o : Nat} {p : PropG} (h : PropC w ok b o p) (e : Ext w w') : PropC w' ok b o p := PropC.keep (fun _ _ _ _ hc => e.cell hc) (fun _ h => h) h
theorem Props.ext {A : Option Addr} {l : List PropG} (h : Props w ok A l) (e : Ext w w') : Props w' ok A l := Props.keep (fun _ _ _ _ hc => e.cell hc) (fun _ h => h) h
theorem NodeC.ext {b o : Nat} {n : NodeG} (h : NodeC w ok b o n) (e : Ext w w') : NodeC w' ok b o n := NodeC.keep (fun _ _ _ _ hc => e.cell hc) (fun _ h => h) h
theorem EdgeC.ext {b o : Nat} {n : EdgeG} (h : EdgeC w ok b o n) (e : Ext w w') : EdgeC w' ok b o n := EdgeC.keep (fun _ _ _ _ hc => e.cell hc) (fun _ h => h) h
theorem Nodes.ext {A : Option Addr} {l : List NodeG} (h : Nodes w ok A l) (e : Ext w w') : Nodes w' ok A l := SliceR.mono h (fun _ _ _ _ hx => hx.ext e)
theorem Edges.ext {A : Option Addr} {l : List EdgeG} (h : Edges w ok A l) (e : Ext w w') : Edges w' ok A l := SliceR.mono h (fun _ _ _ _ hx => hx.ext e)
theorem GraphAt.ext {A B : Option Addr} {g : GraphG} (h : GraphAt w ok A B g) (e : Ext w w') : GraphAt w' ok A B g := ⟨h.nodes.ext e, h.edges.ext e⟩
theorem GraphAt.to {A B : Option Addr} {g : GraphG} (h : GraphAt w ok A B g) (ho : ∀ b, ok b → ok' b) : GraphAt w ok' A B g := GraphAt.keep (fun _ _ _ _ hc => hc) ho h
end
end Go.Proofs.YtnheioehadldmaaGreat

/- THE FIRST PLACE OF A KIND in a list; strings compared; a function value entered. -/
namespace Go.Proofs.YtnheioehadldmaaGreat
open Go.RowKit
theorem run_enter {P : Program} {f : FuncId} {fn : Func} {c : Code} (hf : P.funcs[f]? = some fn) (hname : (fn.name == "runtime.NumGoroutine") = false) (hb : fn.body = some c) (args : Array Value) (w : World) : (callFunc f args).run P w = .ok (.enter f args) w := by
 have h1 : fn.name ≠ "runtime.NumGoroutine" := by simpa using hname
 simp [callFunc, hf, h1, hb]
/-- the first place whose element is told, or -1 -/
def idxF {α : Type} (p : α → Bool) (l : List α) : Int := match l.findIdx? p with | some i => (i : Int) | none => -1
theorem idxF_none {α : Type} {p : α → Bool} {l : List α} (h : ∀ i (hi : i < l.length), p l[i] = false) : idxF p l = -1 := by
 have : l.findIdx? p = none := List.findIdx?_eq_none_iff.2 (fun x hx => by obtain ⟨i, hi, rfl⟩ := List.getElem_of_mem hx; exact h i hi)
 unfold idxF; rw [this]
theorem idxF_at {α : Type} {p : α → Bool} {l : List α} (i : Nat) (hi : i < l.length) (h1 : ∀ j (hj : j < l.length), j < i → p l[j] = false) (h2 : p l[i] = true) : idxF p l = (i : Int) := by
 have : l.findIdx? p = some i := List.findIdx?_eq_some_iff_getElem.2 ⟨hi, h2, fun j hj => by rw [h1 j (by omega) hj]; exact Bool.false_ne_true⟩
 unfold idxF; rw [this]
theorem idxF_any {α : Type} (p : α → Bool) (l : List α) : decide (idxF p l ≥ 0) = l.any p := by
 unfold idxF
 cases h : l.findIdx? p with
 | none => rw [show l.any p = false by rw [List.any_eq_false]; exact fun x hx => by rw [List.findIdx?_eq_none_iff.1 h x hx]; exact Bool.false_ne_true]; rfl
 | some i =>
  obtain ⟨hi, h2, -⟩ := List.findIdx?_eq_some_iff_getElem.1 h
  rw [List.any_eq_true.2 ⟨l[i], List.getElem_mem hi, h2⟩]
  exact decide_eq_true (Int.natCast_nonneg i)
theorem str_eq {a b : ByteArray} (h : a = b) : (a.toList == b.toList) = true := by rw [h]; simp
theorem str_ne {a b : ByteArray} (h : a ≠ b) : (a.toList == b.toList) = false := by
 rw [beq_eq_false_iff_ne]
 intro e
 exact h (bytes_eq e)
end Go.Proofs.YtnheioehadldmaaGreat
