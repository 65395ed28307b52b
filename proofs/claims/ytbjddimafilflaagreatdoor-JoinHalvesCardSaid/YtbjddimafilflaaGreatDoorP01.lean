/- PARTS OF THE WALKS, joined: Own, SortW, SortA. -/
import Derived.Laws.AppendOwn
import Derived.Laws.OwnMore
import Derived.OwnWalk
import Derived.Deep.AppendLies
import Derived.Deep.MidRow
import Derived.Test.YtbjddimafilflaaGreatDoorP00
import Derived.BigRegion
import Derived.WalkKit
/- SLICES THAT A CALL OWNS, element by element: one more element appended; read as a list. -/
namespace Go.Proofs.YtbjddimafilflaaGreatDoor
open Go.RowKit
/-- what is known of a slice type t over e: cells and bytes of an element -/
structure ElT (P : Program) (t e size bytes : Nat) : Prop where
  ht : P.underlying t = some (.slice e)
  hi : ∃ z : Value, (P.info? e).map (fun i => (i.zero, i.size, i.bytes)) = some (some z, size, bytes) ∧ z.cells.size = size
  hs : 0 < size
theorem own_append {P : Program} {t e size bytes : Nat} (T : ElT P t e size bytes) {ops : Array Oper} {rest : List Oper} {o : Oper} {a : Act} {Q : Exit → Act → World → Prop} {w : World} (hgd : o.guard = none) (s x : Operand)
    (ho : o.op = .call { callee := .builtin .append, args := #[s, x], argTypes := #[t, t] }) (wb : World) (v : Value) (n : Nat) (xs : List Value) (hs : a.eval s = v) (hown : w.ownsRow wb.heap.size e size v n xs) (hE : Ext wb w)
    (ad : Addr) (m c : Nat) (news : List Value) (hx : a.eval x = .slice (some ad) m c) (hl : news.length = m * size) (hnews : ∀ j u, news[j]? = some u → w.cell? (ad.add j) = some u) (h1 : ∀ u ∈ news, u.oneCell' = true)
    (h63 : n + m ≤ 8388608) (hbytes : bytes ≤ 1000000)
    (h : ∀ v' w', w'.ownsRow wb.heap.size e size v' (n + m) (xs ++ news) → Ext wb w' → wpList P ops Q rest (a.put o.dst v') w') : wpList P ops Q (o :: rest) a w := by
  obtain ⟨z, hz, hzc⟩ := T.hi
  obtain ⟨i, hi, hz0, hz1, hz2⟩ := info_parts hz
  refine wpList_append_own _ hgd s x t ho wb.heap.size e i z size bytes T.ht hi hz0 hz1 hz2 hzc T.hs v n xs hs hown ad m c news hx hl hnews h1 (by unfold maxLen; omega) ?_ hE.le ?_
  · exact Nat.le_trans (Nat.mul_le_mul h63 hbytes) (by decide)
  · intro v' w' h2 h3 _
    exact h v' w' h2 (hE.grown h3 (fun k hk => (hown.lt k hk).1))
theorem own_ext {w w' : World} {base e size n : Nat} {v : Value} {xs : List Value} (h : w.ownsRow base e size v n xs) (x : Ext w w') : w'.ownsRow base e size v n xs :=
  ⟨h.1, h.2.imp id (fun ⟨g, cap, cur, h1, h2, h3, h4⟩ => ⟨g, cap, cur, h1, h2, x.heap h3, h4⟩)⟩
theorem own_mono {w : World} {base base' e size n : Nat} {v : Value} {xs : List Value} (h : w.ownsRow base e size v n xs) (hb : base' ≤ base) : w.ownsRow base' e size v n xs :=
  ⟨h.1, h.2.imp id (fun ⟨g, cap, cur, h1, h2, h3, h4⟩ => ⟨g, cap, cur, h1, Nat.le_trans hb h2, h3, h4⟩)⟩
theorem own_form {w : World} {base e size n : Nat} {v : Value} {xs : List Value} (h : w.ownsRow base e size v n xs) : ∃ A c, v = .slice A n c := by
  rcases h.2 with ⟨hv, h0⟩ | ⟨g, cap, cur, hv, _⟩
  · exact ⟨none, 0, by rw [hv, h0]⟩
  · exact ⟨_, _, hv⟩
/-- an element's cells out of the row -/
theorem flat_get {α : Type} (f : α → List Value) (size : Nat) (hf : ∀ x, (f x).length = size) : ∀ (l : List α) (k j : Nat) (hk : k < l.length), j < size → (l.flatMap f)[k * size + j]? = (f l[k])[j]?
  | [], k, j, hk, _ => absurd hk (by simp)
  | x :: l, 0, j, _, hj => by
    rw [List.flatMap_cons, Nat.zero_mul, Nat.zero_add, List.getElem?_append_left (by rw [hf]; exact hj)]; rfl
  | x :: l, k + 1, j, hk, hj => by
    have e : (k + 1) * size + j = size + (k * size + j) := by rw [Nat.add_mul]; omega
    rw [List.flatMap_cons, List.getElem?_append_right (by rw [hf]; omega), hf, e, Nat.add_sub_cancel_left]
    exact flat_get f size hf l k j (by simpa using hk) hj
/-- the cells of a slice that reads as a list -/
def Lies {α : Type} (f : α → List Value) (size : Nat) (w : World) (A : Option Addr) (l : List α) : Prop :=
  0 < l.length → ∃ b off, A = some ⟨b, off, none⟩ ∧ ∀ k (h : k < l.length) j u, (f l[k])[j]? = some u → w.cell? ⟨b, off + k * size + j, none⟩ = some u
theorem Lies.ext {α : Type} {f : α → List Value} {size : Nat} {a w : World} {A : Option Addr} {l : List α} (h : Lies f size a A l) (e : Ext a w) : Lies f size w A l := fun hp =>
  let ⟨b, off, hA, hc⟩ := h hp
  ⟨b, off, hA, fun k hk j u hu => e.cell (hc k hk j u hu)⟩
theorem Lies.nil {α : Type} (f : α → List Value) (size : Nat) (w : World) (A : Option Addr) : Lies f size w A ([] : List α) := fun h => absurd h (by simp)
end Go.Proofs.YtbjddimafilflaaGreatDoor

/- A ROW OF ONE-CELL ELEMENTS THAT IS SORTED IN PLACE: the worlds that such a sort passes through. -/
namespace Go.Proofs.YtbjddimafilflaaGreatDoor
open Go.RowKit Go.Sort
theorem arr_get {α : Type} [Inhabited α] {d : Array α} {j : Nat} (h : j < d.size) : d.toList[j]? = some d[j]! := by
  rw [Array.getElem?_toList, getElem!_pos d j h, Array.getElem?_eq_getElem h]
/-- block g holds the elements of d (and spare cells behind them); all other blocks of w0 are as they were -/
structure SortW {α : Type} (w0 : World) (B g cap : Nat) (t : TypeId) (enc : α → Value) (d : Array α) (W : World) : Prop where
  gr : w0.grownBy W (some g)
  own : W.ownsRow B t 1 (.slice (some ⟨g, 0, none⟩) d.size cap) d.size (d.toList.map enc)
section
variable {α : Type} {w0 : World} {B g cap : Nat} {t : TypeId} {enc : α → Value} {d : Array α} {W : World}
theorem grown_trans {a b c : World} {row : Option Nat} (h : a.grownBy b row) (k : b.grownBy c row) : a.grownBy c row :=
  ⟨k.os.trans h.os, k.tape.trans h.tape, k.output.trans h.output, Nat.le_trans h.size k.size, fun i hi hne => (k.block i (Nat.lt_of_lt_of_le hi h.size) hne).trans (h.block i hi hne)⟩
theorem Ext.grownBy {a b : World} (h : Ext a b) (row : Option Nat) : a.grownBy b row := ⟨h.os, h.tape, h.output, h.size, fun k hk _ => h.block k hk⟩
theorem SortW.start (h : w0.ownsRow B t 1 (.slice (some ⟨g, 0, none⟩) d.size cap) d.size (d.toList.map enc)) : SortW w0 B g cap t enc d w0 := ⟨World.grownBy.refl _ _, h⟩
theorem SortW.ext {W' : World} (h : SortW w0 B g cap t enc d W) (e : Ext W W') : SortW w0 B g cap t enc d W' := ⟨grown_trans h.gr (e.grownBy _), own_ext h.own e⟩
theorem SortW.drew (h : SortW w0 B g cap t enc d W) : SortW w0 B g cap t enc d W.drew := h.ext ((Ext.refl _).drew)
theorem SortW.cell [Inhabited α] (h : SortW w0 B g cap t enc d W) {j : Nat} (hj : j < d.size) : W.cell? ⟨g, j, none⟩ = some (enc d[j]!) := by
  rw [h.own.cellAt j (by omega), List.getElem?_map, arr_get hj]; rfl
theorem SortW.frozen (h : SortW w0 B g cap t enc d W) (j : Nat) : W.frozen? ⟨g, j, none⟩ = false := h.own.frozenAt j
theorem map_set (d : Array α) (j : Nat) (x : α) : (d.toList.map enc).set j (enc x) = ((d.setIfInBounds j x).toList.map enc) := by
  rw [Array.toList_setIfInBounds, List.map_set]
theorem SortW.set (h : SortW w0 B g cap t enc d W) (j : Nat) (x : α) : SortW w0 B g cap t enc (d.setIfInBounds j x) (W.setCell ⟨g, j, none⟩ (enc x)) := by
  obtain ⟨h1, h2⟩ := h.own.stored j (enc x)
  refine ⟨grown_trans h.gr h2, ?_⟩
  rw [map_set] at h1
  rw [Array.size_setIfInBounds]; exact h1
theorem SortW.swap [Inhabited α] (h : SortW w0 B g cap t enc d W) (i j : Nat) : SortW w0 B g cap t enc (swp d i j) ((W.setCell ⟨g, i, none⟩ (enc d[j]!)).setCell ⟨g, j, none⟩ (enc d[i]!)) := (h.set i d[j]!).set j d[i]!
/-- a slice's head -/
structure HeadS where
  A : Option Addr
  n : Nat
  c : Nat
instance : Inhabited HeadS := ⟨⟨none, 0, 0⟩⟩
/-- elements that are slices -/
def encS (h : α → HeadS) (x : α) : Value := .slice (h x).A (h x).n (h x).c
/-- what is asked of the order: called with two elements it tells a number; it leaves all that lies as it lies -/
def CmpOk (P : Program) (f : Nat) (cb : Array Value) (enc : α → Value) (cf : α → α → Int) (w0 : World) (g : Nat) : Prop :=
  ∀ W, w0.grownBy W (some g) → ∀ x y : α, Calls P f (#[enc x, enc y] ++ cb) W fun e W' => e = .returned (.int .i64 (cf x y)) ∧ Ext W W'
def ltC (cf : α → α → Int) (x y : α) : Bool := decide (cf x y < 0)
theorem ltC_t {cf : α → α → Int} {x y : α} (h : cf x y < 0) : ltC cf x y = true := decide_eq_true h
theorem ltC_f {cf : α → α → Int} {x y : α} (h : ¬ cf x y < 0) : ltC cf x y = false := decide_eq_false h
end
end Go.Proofs.YtbjddimafilflaaGreatDoor

/- THE WALKS over slices.swapRangeCmpFunc, rotateCmpFunc, at rows of values. -/
namespace Go.Proofs.YtbjddimafilflaaGreatDoor
open Go.RowKit Go.Sort
variable {α : Type} [Inhabited α]
set_option maxRecDepth 100000 in
set_option maxHeartbeats 1600000 in
theorem sw_range (w0 : World) (B g cap : Nat) (hd : α → HeadS) (d : Array α) (a b n : Nat) (fv : Value) (w : World) (hs : SortW w0 B g cap 37 (encS hd) d w) (hab : a + n ≤ b) (hb : b + n ≤ d.size) (hsz : d.size ≤ 8000000) (lo hi : Nat) (hlo : lo ≤ a) (hhi : b + n ≤ hi) (hhs : hi ≤ d.size) :
    Calls Tryz.prog 128 #[.slice (some ⟨g, 0, none⟩) d.size cap, .int .i64 a, .int .i64 b, .int .i64 n, fv] w fun e w' => e = .returned (.tuple #[]) ∧ ∃ d', SortW w0 B g cap 37 (encS hd) d' w' ∧ d'.size = d.size ∧ (∀ x, d'[x]! = d[swS a b n x]!) ∧ PermIn lo hi d d' := by
  have HS := Lib.hid hs
  clear hs
  go_enter Tryz.func128, Tryz.ntmps128
  go_wp2
  go_loopw [10] (fun u W => ∃ (i : Nat) (e : Array α), u = .int .i64 i ∧ i ≤ n ∧ Hid (SortW w0 B g cap 37 (encS hd) e W) ∧ e.size = d.size ∧ Hid (∀ x, e[x]! = d[swS a b i x]!) ∧ Hid (PermIn lo hi d e)) (fun u _ => n - (intOf u).toNat)
  case atStart => exact ⟨0, d, rfl, Nat.zero_le _, HS, rfl, Lib.hid (fun x => by rw [swS_zero]), Lib.hid (permIn_refl _ _ _)⟩
  case round =>
    obtain ⟨i, e, rfl, hi', he, hes, hx, hp⟩ := hrel
    by_cases hlt : i < n
    · have c1 := he.out.cell (show a + i < e.size by omega)
      have c2 := he.out.cell (show b + i < e.size by omega)
      have f1 := he.out.frozen (a + i)
      have f2 := he.out.frozen (b + i)
      have HN := Lib.hid (he.out.drew.swap (a + i) (b + i))
      have HX := Lib.hid (swS_step d e hes hab hlt (by omega) hx.out)
      have HP := Lib.hid (permIn_trans _ _ _ lo hi hp.out (swp_permIn e lo hi (a + i) (b + i) (by omega) (by omega) (by omega) (by omega) (by omega)))
      have HZ := Lib.hid (size_swp e (a + i) (b + i))
      unfold encS at c1 c2 HN
      generalize hd e[a + i]! = x1 at *
      generalize hd e[b + i]! = x2 at *
      go_wp2_with fail
      go_big_region
      all_goals go_wp2
      all_goals go_roundw
      case rel => exact ⟨i + 1, swp e (a + i) (b + i), by go_num, by omega, (by unfold encS; exact HN), by rw [HZ.out]; exact hes, HX, HP⟩
      case measure => simp [intOf]; omega
    · have hk : i = n := by omega
      subst hk
      go_wp2
      go_end0
      exact ⟨rfl, e, he.out, hes, hx.out, hp.out⟩
set_option maxRecDepth 100000 in
set_option maxHeartbeats 1600000 in
theorem sw_rotate (w0 : World) (B g cap : Nat) (hd : α → HeadS) (d : Array α) (a m b : Nat) (fv : Value) (w : World) (hs : SortW w0 B g cap 37 (encS hd) d w) (ham : a < m) (hmb : m < b) (hb : b ≤ d.size) (hsz : d.size ≤ 8000000) :
    Calls Tryz.prog 110 #[.slice (some ⟨g, 0, none⟩) d.size cap, .int .i64 a, .int .i64 m, .int .i64 b, fv] w fun e w' => e = .returned (.tuple #[]) ∧ ∃ d', SortW w0 B g cap 37 (encS hd) d' w' ∧ d'.size = d.size ∧ (∀ x, d'[x]! = d[rotS a m b x]!) ∧ PermIn a b d d' := by
  have HS := Lib.hid hs
  clear hs
  go_enter Tryz.func110, Tryz.ntmps110
  go_wp2
  go_loopw [10, 11] (fun u v W => ∃ (i j : Nat) (e : Array α), u = .int .i64 i ∧ v = .int .i64 j ∧ 0 < i ∧ 0 < j ∧ a + i ≤ m ∧ m + j ≤ b ∧ Hid (SortW w0 B g cap 37 (encS hd) e W) ∧ e.size = d.size ∧ Hid (∀ x, e[rotS (m - i) m (m + j) x]! = d[rotS a m b x]!) ∧ Hid (PermIn a b d e)) (fun u v _ => (intOf u + intOf v).toNat)
  case atStart => exact ⟨m - a, b - m, d, by go_num, by go_num, by omega, by omega, by omega, by omega, HS, rfl, Lib.hid (fun x => by rw [show m - (m - a) = a by omega, show m + (b - m) = b by omega]), Lib.hid (permIn_refl _ _ _)⟩
  case round =>
    obtain ⟨i, j, e, rfl, rfl, hi0, hj0, hia, hjb, he, hes, hx, hp⟩ := hrel
    rcases Nat.lt_trichotomy j i with hij | hij | hij
    · have HC := Lib.hid (sw_range w0 B g cap hd e (m - i) m j fv wr he.out (by omega) (by omega) (by omega) a b (by omega) (by omega) (by omega))
      rw [hes] at HC
      have HX := Lib.hid hx.out
      have im : i ≤ m := by omega
      have hmi : ((m - i : Nat) : Int) = (m : Int) - (i : Int) := by omega
      rw [hmi] at HC
      have hji : ((i - j : Nat) : Int) = (i : Int) - (j : Int) := by omega
      clear hx hmi
      go_wp2_with (go_at_call 128; refine (HC.out).mono ?_; rintro e' w' ⟨rfl, d', hs', hz', hx', hp'⟩; replace hs' := Lib.hid hs'; replace hx' := Lib.hid hx'; replace hp' := Lib.hid hp')
      go_roundw
      case rel => exact ⟨i - j, j, d', by rw [hji], rfl, by omega, hj0, by omega, hjb, hs', hz', Lib.hid (fun x => by rw [hx'.out, rotS_left im hij, HX.out]), Lib.hid (permIn_trans _ _ _ a b hp.out hp'.out)⟩
      case measure => simp [intOf]; omega
    · subst hij
      have HC := Lib.hid (sw_range w0 B g cap hd e (m - j) m j fv wr he.out (by omega) (by omega) (by omega) a b (by omega) (by omega) (by omega))
      rw [hes] at HC
      have im : j ≤ m := by omega
      have hmi : ((m - j : Nat) : Int) = (m : Int) - (j : Int) := by omega
      rw [hmi] at HC
      clear hmi
      go_wp2_with (go_at_call 128; refine (HC.out).mono ?_; rintro e' w' ⟨rfl, d', hs', hz', hx', hp'⟩; replace hs' := Lib.hid hs'; replace hx' := Lib.hid hx'; replace hp' := Lib.hid hp')
      go_end0
      exact ⟨rfl, d', hs'.out, hz', fun x => by rw [hx'.out, rotS_end im, hx.out], permIn_trans _ _ _ a b hp.out hp'.out⟩
    · have HC := Lib.hid (sw_range w0 B g cap hd e (m - i) (m + j - i) i fv wr he.out (by omega) (by omega) (by omega) a b (by omega) (by omega) (by omega))
      rw [hes] at HC
      have HX := Lib.hid hx.out
      have im : i ≤ m := by omega
      have hmi : ((m - i : Nat) : Int) = (m : Int) - (i : Int) := by omega
      have hmj : ((m + j - i : Nat) : Int) = (m : Int) + (j : Int) - (i : Int) := by omega
      rw [hmi, hmj] at HC
      have hji : ((j - i : Nat) : Int) = (j : Int) - (i : Int) := by omega
      clear hx hmi hmj
      go_wp2_with (go_at_call 128; refine (HC.out).mono ?_; rintro e' w' ⟨rfl, d', hs', hz', hx', hp'⟩; replace hs' := Lib.hid hs'; replace hx' := Lib.hid hx'; replace hp' := Lib.hid hp')
      go_roundw
      case rel => exact ⟨i, j - i, d', rfl, by rw [hji], hi0, by omega, hia, by omega, hs', hz', Lib.hid (fun x => by rw [hx'.out, rotS_right im hij, HX.out]), Lib.hid (permIn_trans _ _ _ a b hp.out hp'.out)⟩
      case measure => simp [intOf]; omega
end Go.Proofs.YtbjddimafilflaaGreatDoor
