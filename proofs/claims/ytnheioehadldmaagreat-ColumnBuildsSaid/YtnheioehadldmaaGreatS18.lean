/- PARTS OF THE WALKS, joined: CoV, CoW, CoX, CoY, CqG. -/
import Derived.Test.YtnheioehadldmaaGreatS17
import Derived.Laws.BitsAllLaws
import Derived.Laws.DeepNot64
import Derived.Test.YtnheioehadldmaaGreatS11
import Derived.Test.YtnheioehadldmaaGreatS12
import Derived.Test.YtnheioehadldmaaGreatS13
import Derived.Test.YtnheioehadldmaaGreatS16
/- THE WALKS over codec.PutUint and codec.PutInt. -/
namespace Go.Proofs.YtnheioehadldmaaGreat
open Go.RowKit
set_option maxRecDepth 100000 in
theorem co_PutUint (m : Nat) (hm : m ≤ 9223372036854775807) (w : World) :
  Calls Tryz.prog 35 #[.int .i64 (m : Int)] w fun e w' => ∃ v, e = .returned v ∧ OB w' w.heap.size v (vi m) ∧ Ext w w' := by
 have HV := Lib.hid (co_varint m (by omega) w)
 have w1 : IntKind.u64.wrap (m : Int) = (m : Int) := by rw [IntKind.wrap_u64]; omega
 have w2 : (m : Int) % 18446744073709551616 = (m : Int) := by omega
 have g : decide ((m : Int) < 0) = false := decide_eq_false (by omega)
 go_enter Tryz.func35, Tryz.ntmps35
 go_wp2_with (go_at_call 66; ((with_reducible refine (HV.out).mono ?_); rintro e w2 ⟨v, rfl, hO, hx⟩))
 go_ret
 exact ⟨v, rfl, hO, hx⟩
theorem xor_all {x : Nat} (h : x < 2 ^ 64) : (2 ^ 64 - 1) ^^^ x = 2 ^ 64 - (x + 1) := by
 apply Nat.eq_of_testBit_eq
 intro i
 rw [Nat.testBit_xor, Nat.testBit_two_pow_sub_one, Nat.testBit_two_pow_sub_succ h]
 by_cases hi : i < 64
 ·rw [decide_eq_true hi]; simp
 ·rw [decide_eq_false hi, Nat.testBit_lt_two_pow (Nat.lt_of_lt_of_le h (Nat.pow_le_pow_right (by decide) (by omega)))]; rfl
set_option maxRecDepth 100000 in
theorem co_PutInt (n : Int) (hn : -9223372036854775808 ≤ n ∧ n ≤ 9223372036854775807) (w : World) :
  Calls Tryz.prog 36 #[.int .i64 n] w fun e w' => ∃ v, e = .returned v ∧ OB w' w.heap.size v (vi (zig n)) ∧ Ext w w' := by
 have HV := Lib.hid (co_varint (zig n) (zig_lt hn) w)
 go_enter Tryz.func36, Tryz.ntmps36
 by_cases h : n < 0
 ·have e1 : IntKind.u64.wrap (IntKind.u64.wrap n * 2) = ((18446744073709551616 - (-2 * n).toNat : Nat) : Int) := by rw [IntKind.wrap_u64, IntKind.wrap_u64]; omega
  have e2 : bits BinOp.xor IntKind.u64 (if IntKind.u64.signed = true then -1 else IntKind.u64.max) (IntKind.u64.wrap (IntKind.u64.wrap n * 2)) = ((zig n : Nat) : Int) := by
   rw [e1, show (if IntKind.u64.signed = true then -1 else IntKind.u64.max) = (18446744073709551615 : Int) by decide, u64_xor _ _ (by decide) (by decide) (by omega) (by omega)]
   have h1 := xor_all (x := 18446744073709551616 - (-2 * n).toNat) (by omega)
   rw [show (18446744073709551615 : Int).toNat = 2 ^ 64 - 1 by decide, Int.toNat_natCast, h1]
   unfold zig
   rw [if_pos h]
   omega
  have E2 := Lib.hid e2
  clear e1 e2
  go_upto_region 4 with (fail)
  rw [E2.out]
  clear E2
  go_wp2_with (go_at_call 66; ((with_reducible refine (HV.out).mono ?_); rintro e w2 ⟨v, rfl, hO, hx⟩))
  go_ret
  exact ⟨v, rfl, hO, hx⟩
 ·have e1 : ((zig n : Nat) : Int) = n * 2 := by unfold zig; rw [if_neg h]; omega
  rw [e1] at HV
  go_wp2_with (go_at_call 66; ((with_reducible refine (HV.out).mono ?_); rintro e w2 ⟨v, rfl, hO, hx⟩))
  go_ret
  exact ⟨v, rfl, hO, hx⟩
end Go.Proofs.YtnheioehadldmaaGreat

/- THE WALK over codec.read. -/
namespace Go.Proofs.YtnheioehadldmaaGreat
open Go.RowKit
/-- what is read behind some bytes -/
def mapR (a m : Nat) : Except Int (Nat × List Nat) → Except Int (Nat × List Nat)
 | .ok (u, r) => .ok (a + m * u, r)
 | .error e => .error e
theorem rd_start (L : List Nat) : rdF 10 L = mapR 0 1 (rdF 10 L) := by
 cases rdF 10 L with
 | error e => rfl
 | ok p => show Except.ok p = Except.ok (0 + 1 * p.1, p.2); rw [Nat.zero_add, Nat.one_mul]
theorem rd_more {X : Except Int (Nat × List Nat)} {f a m c : Nat} {t : List Nat} (h : X = mapR a m (rdF (f + 1) (c :: t))) (hc : 128 ≤ c) : X = mapR (a + m * (c % 128)) (m * 128) (rdF f t) := by
 rw [h, rdF, if_pos hc]
 cases rdF f t with
 | error e => rfl
 | ok p =>
  show Except.ok (a + m * (c % 128 + 128 * p.1), p.2) = Except.ok (a + m * (c % 128) + m * 128 * p.1, p.2)
  rw [Nat.mul_add, Nat.add_assoc, Nat.mul_assoc]
theorem rd_many {X : Except Int (Nat × List Nat)} {a m : Nat} {t : List Nat} (h : X = mapR a m (rdF 0 t)) : X = .error 4 := by rw [h, rdF]; rfl
theorem rd_short {X : Except Int (Nat × List Nat)} {a m f : Nat} (h : X = mapR a m (rdF (f + 1) [])) : X = .error 3 := by rw [h, rdF]; rfl
theorem rd_long {X : Except Int (Nat × List Nat)} {a m c : Nat} {t : List Nat} (h : X = mapR a m (rdF 1 (c :: t))) (h1 : 1 < c) (h2 : c < 128) : X = .error 4 := by rw [h, rdF, if_neg (by omega), if_pos ⟨rfl, h1⟩]; rfl
theorem rd_zero {X : Except Int (Nat × List Nat)} {a m f : Nat} {t : List Nat} (h : X = mapR a m (rdF (f + 1) (0 :: t))) (hf : f < 9) : X = .error 2 := by rw [h, rdF, if_neg (by omega), if_neg (by omega), if_pos ⟨hf, rfl⟩]; rfl
theorem rd_ok {X : Except Int (Nat × List Nat)} {a m f c : Nat} {t : List Nat} (h : X = mapR a m (rdF (f + 1) (c :: t))) (h0 : c < 128) (h1 : ¬ (f = 0 ∧ 1 < c)) (h2 : ¬ (f < 9 ∧ c = 0)) : X = .ok (a + m * c, t) := by rw [h, rdF, if_neg (by omega), if_neg h1, if_neg h2]; rfl
/-- what codec.read gives -/
def readOut (N : Nat) (X : Except Int (Nat × List Nat)) (x y z : Int) : Prop := match X with
 | .ok (u, r) => x = (u : Int) ∧ y = (N : Int) - r.length ∧ z = 0
 | .error er => x ≤ 9223372036854775807 ∧ y = 0 ∧ z = er
theorem and127F : ∀ m : Fin 256, bits .and .u8 ((m.val : Nat) : Int) 127 = ((m.val % 128 : Nat) : Int) := by decide +kernel
theorem and127 {n : Nat} (h : n < 256) : bits .and .u8 (n : Int) 127 = ((n % 128 : Nat) : Int) := and127F ⟨n, h⟩
theorem or_part {a k d : Nat} (ha : a < 128 ^ k) (ha2 : a < 18446744073709551616) (hd : 128 ^ k * d < 18446744073709551616) : bits .or .u64 (a : Int) ((128 ^ k * d : Nat) : Int) = ((a + 128 ^ k * d : Nat) : Int) := by
 rw [u64_or_nat _ _ ha2 hd, Nat.or_comm, nat_join (7 * k) _ _ (by rw [Nat.pow_mul, show (2 : Nat) ^ 7 = 128 from rfl, Nat.mul_mod_right]) (by rw [Nat.pow_mul]; exact ha), Nat.add_comm]
theorem or_next {k a y : Nat} {n n' : Int} (hk : k ≤ 9) (h1 : n = (a : Int)) (h2 : a < 128 ^ k) (hn : n' = bits BinOp.or IntKind.u64 n (IntKind.u64.wrap ((y : Int) % 128 * 2 ^ (7 * k)))) (h : k ≤ 8 ∨ y % 128 ≤ 1) : n' = ((a + 128 ^ k * (y % 128) : Nat) : Int) ∧ a + 128 ^ k * (y % 128) < 128 ^ (k + 1) ∧ a + 128 ^ k * (y % 128) < 18446744073709551616 := by
 have hd : y % 128 < 128 := Nat.mod_lt _ (by decide)
 have h9 : 128 ^ k ≤ 128 ^ 9 := Nat.pow_le_pow_right (by decide) hk
 have hb : 128 ^ k * (y % 128) + 128 ^ k ≤ 18446744073709551616 := by
  rcases h with h | h
  ·have h8 : 128 ^ k ≤ 128 ^ 8 := Nat.pow_le_pow_right (by decide) h
   rw [← Nat.mul_succ]
   exact Nat.le_trans (Nat.mul_le_mul h8 (show y % 128 + 1 ≤ 128 by omega)) (by decide)
  ·rw [← Nat.mul_succ]
   exact Nat.le_trans (Nat.mul_le_mul h9 (show y % 128 + 1 ≤ 2 by omega)) (by decide)
 have e : ((y : Int) % 128 * 2 ^ (7 * k)) = ((128 ^ k * (y % 128) : Nat) : Int) := by
  rw [Int.natCast_mul, Int.mul_comm, Int.pow_mul]
  push_cast
  rfl
 have hw : IntKind.u64.wrap ((128 ^ k * (y % 128) : Nat) : Int) = ((128 ^ k * (y % 128) : Nat) : Int) := by rw [IntKind.wrap_u64]; omega
 refine ⟨?_, ?_, by omega⟩
 ·rw [hn, h1, e, hw, or_part h2 (by omega) (by omega)]
 ·rw [Nat.pow_succ]
  have : 128 ^ k * (y % 128) + 128 ^ k ≤ 128 ^ k * 128 := by rw [← Nat.mul_succ]; exact Nat.mul_le_mul_left _ (by omega)
  omega
theorem SliceR.behind {α : Type} {R : Nat → Nat → α → Prop} {A : Option Addr} {l : List α} (h : SliceR R 1 A l) (n : Nat) : SliceR R 1 (if l.length = n then A else A.map (fun x => x.add n)) (l.drop n) := by
 rcases Nat.lt_or_ge n l.length with h1 | h1
 ·obtain ⟨b, o, rfl, -⟩ := h.2 (by omega)
  rw [if_neg (by omega)]
  have := SliceR.drop h n
  rw [Nat.mul_one] at this
  show SliceR R 1 (some (Addr.add ⟨b, o, none⟩ n)) _
  rw [Addr.add_mid]
  exact this
 ·rw [List.drop_eq_nil_of_le (by omega)]
  exact SliceR.nil _ _ _
set_option maxRecDepth 100000 in
set_option maxHeartbeats 1600000 in
theorem co_read (l : List Nat) (ok : Nat → Prop) (A : Option Addr) (c at_ : Nat) (w : World) (hv : Byts w ok A l) (hb : ∀ x ∈ l, x < 256) (hc : l.length ≤ c) (ha : at_ ≤ l.length) :
  Calls Tryz.prog 83 #[.slice A l.length c, .int .i64 (at_ : Int)] w fun e w' => ∃ x y z : Int, e = .returned (.tuple #[.int .u64 x, .int .i64 y, .int .i64 z]) ∧ readOut l.length (rdF 10 (l.drop at_)) x y z ∧ Ext w w' := by
 have hlm := hv.1
 have hL := SliceR.behind hv at_
 have HBB := Lib.hid (fun x (hx : x ∈ l.drop at_) => hb x (List.mem_of_mem_drop hx))
 obtain ⟨L, hLd⟩ : ∃ L, L = l.drop at_ := ⟨_, rfl⟩
 have hLn : L.length = l.length - at_ := by rw [hLd, List.length_drop]
 rw [← hLd] at hL HBB ⊢
 generalize hN : l.length = N at *
 have g0 : decide ((at_ : Int) < 0) = false := decide_eq_false (by omega)
 have g1 : decide ((N : Int) < (at_ : Int)) = false := decide_eq_false (by omega)
 have g2 : decide (N < at_) = false := decide_eq_false (by omega)
 clear hv hb hLd hN
 obtain ⟨X, hX⟩ : ∃ X, X = rdF 10 L := ⟨_, rfl⟩
 rw [← hX]
 have HST := Lib.hid (hX.trans (rd_start L))
 clear hX
 go_enter Tryz.func83, Tryz.ntmps83
 go_upto_region 4 with (fail)
 generalize (if N = at_ then A else Option.map (fun x => x.add at_) A) = B at *
 rw [← hLn]
 have HLN := Lib.hid hLn
 have hLm : L.length ≤ N := by omega
 have HHL := Lib.hid hL
 clear hLn g0 g1 g2
 obtain ⟨M, hM⟩ : ∃ M, M = min 10 L.length := ⟨_, rfl⟩
 have HM := Lib.hid hM
 go_upto_if 28 with (fail)
 go_cut [7] from 8 to 72 (fun v7 wx => ∃ k7 : Nat, v7 = .slice B M k7 ∧ M ≤ k7 ∧ Hid (Ext w wx))
 case first =>
  by_cases hbig : 10 < L.length
  ·obtain ⟨b, o, rfl, -⟩ := hL.2 (by omega)
   obtain rfl : M = 10 := by omega
   have g : decide ((10 : Int) < (L.length : Int)) = true := decide_eq_true (by omega)
   have g' : decide (10 < L.length) = true := decide_eq_true (by omega)
   clear hM
   go_wp2_with fail
   go_meet
   case rel => exact ⟨10, rfl, Nat.le_refl _, Lib.hid (by solve_by_elim [X0, X1, X2, X3])⟩
  ·obtain rfl : M = L.length := by omega
   have g : decide ((10 : Int) < (L.length : Int)) = false := decide_eq_false (by omega)
   have g' : decide (10 < L.length) = false := decide_eq_false (by omega)
   clear hM
   go_wp2_with fail
   go_meet
   case rel => exact ⟨_, rfl, Nat.le_refl _, Lib.hid (by solve_by_elim [X0, X1, X2, X3])⟩
 case rest =>
  obtain ⟨k7, rfl, hk7, hE0⟩ := hcut
  clear hL hM
  go_wp2_with fail
  go_loopw [8, 33] (fun u8 u33 W => ∃ (k : Nat) (n : Int) (a : Nat), u33 = .int .i64 (k : Int) ∧ u8 = .int .u64 n ∧ k ≤ M ∧ Hid (k < 10 → n = (a : Int) ∧ a < 128 ^ k) ∧ Hid (X = mapR a (128 ^ k) (rdF (10 - k) (L.drop k))) ∧ Hid (Ext w W)) (fun _ u33 _ => M - (intOf u33).toNat)
  case atStart => exact ⟨0, 0, 0, rfl, rfl, Nat.zero_le _, Lib.hid (fun _ => ⟨rfl, by decide⟩), Lib.hid HST.out, hE0⟩
  case round =>
   clear hE0
   obtain ⟨k, n, a, rfl, rfl, hk, HN, HR, hE⟩ := hrel
   by_cases hlt : k < M
   ·have hm := HM.out
    have hkl : k < L.length := by omega
    obtain ⟨b, o, rfl, hc⟩ := HHL.out.2 (by omega)
    have d0 := hE.out.cell (hc k hkl).2
    have HRR := Lib.hid (by have h := HR.out; rw [List.drop_eq_getElem_cons hkl, show 10 - k = 9 - k + 1 by omega] at h; exact h : X = mapR a (128 ^ k) (rdF (9 - k + 1) (L[k] :: L.drop (k + 1))))
    have hcb := HBB.out L[k] (List.getElem_mem hkl)
    rw [Nat.mul_one] at d0
    generalize L[k] = y at *
    have HWB := Lib.hid hcb
    have hk9 : k ≤ 9 := by omega
    have hA := and127 hcb
    have hWA : IntKind.u64.wrap ((y % 128 : Nat) : Int) = ((y % 128 : Nat) : Int) := by rw [IntKind.wrap_u64]; omega
    clear hcb hm hc HR
    go_upto_region 11 with (fail)
    obtain ⟨n', hn'⟩ : ∃ n', n' = bits BinOp.or IntKind.u64 n (IntKind.u64.wrap ((y : Int) % 128 * 2 ^ (7 * k))) := ⟨_, rfl⟩
    have hAA := Lib.hid (HN.out (by omega)).2
    have HN2 := Lib.hid (or_next hk9 (HN.out (by omega)).1 (HN.out (by omega)).2 hn')
    rw [← hn']
    clear hn' HN hA hWA d0
    by_cases hy : 128 ≤ y
    ·have HR2 := Lib.hid (rd_more HRR.out hy)
     rw [← Nat.pow_succ, show 9 - k = 10 - (k + 1) by omega] at HR2
     have HN3 := Lib.hid (fun (h : k + 1 < 10) => (⟨(HN2.out (.inl (by omega))).1, (HN2.out (.inl (by omega))).2.1⟩ : n' = ((a + 128 ^ k * (y % 128) : Nat) : Int) ∧ a + 128 ^ k * (y % 128) < 128 ^ (k + 1)))
     have g : decide ((128 : Int) ≤ (y : Int)) = true := decide_eq_true (by omega)
     have g' : decide (128 ≤ y) = true := decide_eq_true hy
     clear hy HRR HN2
     go_wp2_with fail
     go_roundw
     case rel => exact ⟨k + 1, n', _, by go_num, rfl, by omega, HN3, HR2, hE⟩
     case measure => simp [intOf]; omega
    ·have g : decide ((128 : Int) ≤ (y : Int)) = false := decide_eq_false (by omega)
     have g' : decide (128 ≤ y) = false := decide_eq_false hy
     have HY := Lib.hid (show y < 128 by omega)
     have HNN := Lib.hid (show y % 128 = y by omega)
     rw [HNN.out] at HN2
     clear hy
     have g1 : ((k : Int) == 9) = (k == 9) := by rw [Bool.eq_iff_iff]; simp; omega
     have g2 : decide ((k : Int) = 9) = (k == 9) := by rw [Bool.eq_iff_iff]; simp; omega
     have g3 : decide (k = 9) = (k == 9) := by rw [Bool.eq_iff_iff]; simp
     have g4 : decide ((1 : Int) < (y : Int)) = decide (1 < y) := by rw [Bool.eq_iff_iff]; simp; omega
     have g5 : ((y : Int) == 0) = (y == 0) := by rw [Bool.eq_iff_iff]; simp
     have g6 : decide ((y : Int) = 0) = (y == 0) := by rw [Bool.eq_iff_iff]; simp
     have g7 : decide (y = 0) = (y == 0) := by rw [Bool.eq_iff_iff]; simp
     have g8 : decide ((0 : Int) < (k : Int)) = decide (0 < k) := by rw [Bool.eq_iff_iff]; simp
     have HA := Lib.hid hAA.out
     rcases (show (k = 9 ∧ 1 < y) ∨ (k = 9 ∧ y = 0) ∨ (k = 9 ∧ y = 1) ∨ (k < 9 ∧ 0 < k ∧ y = 0) ∨ (k < 9 ∧ k = 0 ∧ y ≤ 1) ∨ (k < 9 ∧ k = 0 ∧ 1 < y) ∨ (k < 9 ∧ 0 < k ∧ y = 1) ∨ (k < 9 ∧ 0 < k ∧ 1 < y) by omega) with hy | hy | hy | hy | hy | hy | hy | hy
     ·have e9 : (k == 9) = true := by rw [beq_iff_eq]; omega
      have e1 : decide (1 < y) = true := decide_eq_true (by omega)
      have e0 : (y == 0) = false := by rw [beq_eq_false_iff_ne]; omega
      have ek : decide (0 < k) = true := decide_eq_true (by omega)
      have HT := Lib.hid (by have h := HRR.out; rw [show 9 - k + 1 = 1 by omega] at h; exact rd_long h (by omega) HY.out : X = .error 4)
      skip
      clear HRR HN2 hy
      go_wp2_with fail
      go_ret3
      exact ⟨_, _, _, rfl, by rw [HT.out]; exact ⟨by decide, rfl, rfl⟩, hE.out⟩
     ·have e9 : (k == 9) = true := by rw [beq_iff_eq]; omega
      have e1 : decide (1 < y) = false := decide_eq_false (by omega)
      have e0 : (y == 0) = true := by rw [beq_iff_eq]; omega
      have ek : decide (0 < k) = true := decide_eq_true (by omega)
      have HT := Lib.hid (by have h := HRR.out; rw [show y = 0 by omega] at h; exact rd_zero h (by omega) : X = .error 2)
      have HV := Lib.hid (HN2.out (by omega))
      have HV0 := Lib.hid (by rw [HV.out.1, show y = 0 by omega, Nat.mul_zero, Nat.add_zero]; have := Nat.lt_of_lt_of_le HA.out (Nat.pow_le_pow_right (by decide) hk9 : 128 ^ k ≤ 128 ^ 9); omega : n' ≤ 9223372036854775807)
      clear HRR HN2 hy
      go_wp2_with fail
      go_ret3
      exact ⟨_, _, _, rfl, by rw [HT.out]; exact ⟨HV0.out, rfl, rfl⟩, hE.out⟩
     ·have e9 : (k == 9) = true := by rw [beq_iff_eq]; omega
      have e1 : decide (1 < y) = false := decide_eq_false (by omega)
      have e0 : (y == 0) = false := by rw [beq_eq_false_iff_ne]; omega
      have ek : decide (0 < k) = true := decide_eq_true (by omega)
      have HT := Lib.hid (rd_ok HRR.out HY.out (by omega) (by omega))
      have HV := Lib.hid (HN2.out (by omega))
      clear HRR HN2 hy
      go_wp2_with fail
      go_ret3
      exact ⟨_, _, _, rfl, by rw [HT.out]; refine ⟨HV.out.1, ?_, rfl⟩; rw [List.length_drop]; have h9 := HLN.out; omega, hE.out⟩
     ·have e9 : (k == 9) = false := by rw [beq_eq_false_iff_ne]; omega
      have e1 : decide (1 < y) = false := decide_eq_false (by omega)
      have e0 : (y == 0) = true := by rw [beq_iff_eq]; omega
      have ek : decide (0 < k) = true := decide_eq_true (by omega)
      have HT := Lib.hid (by have h := HRR.out; rw [show y = 0 by omega] at h; exact rd_zero h (by omega) : X = .error 2)
      have HV := Lib.hid (HN2.out (by omega))
      have HV0 := Lib.hid (by rw [HV.out.1, show y = 0 by omega, Nat.mul_zero, Nat.add_zero]; have := Nat.lt_of_lt_of_le HA.out (Nat.pow_le_pow_right (by decide) hk9 : 128 ^ k ≤ 128 ^ 9); omega : n' ≤ 9223372036854775807)
      clear HRR HN2 hy
      go_wp2_with fail
      go_ret3
      exact ⟨_, _, _, rfl, by rw [HT.out]; exact ⟨HV0.out, rfl, rfl⟩, hE.out⟩
     ·have e9 : (k == 9) = false := by rw [beq_eq_false_iff_ne]; omega
      have e1 : decide (1 < y) = false := decide_eq_false (by omega)
      have ek : decide (0 < k) = false := decide_eq_false (by omega)
      have HT := Lib.hid (rd_ok HRR.out HY.out (by omega) (by omega))
      have HV := Lib.hid (HN2.out (by omega))
      clear HRR HN2 hy
      go_wp2_with fail
      go_ret3
      exact ⟨_, _, _, rfl, by rw [HT.out]; refine ⟨HV.out.1, ?_, rfl⟩; rw [List.length_drop]; have h9 := HLN.out; omega, hE.out⟩
     ·have e9 : (k == 9) = false := by rw [beq_eq_false_iff_ne]; omega
      have e1 : decide (1 < y) = true := decide_eq_true (by omega)
      have e0 : (y == 0) = false := by rw [beq_eq_false_iff_ne]; omega
      have ek : decide (0 < k) = false := decide_eq_false (by omega)
      have HT := Lib.hid (rd_ok HRR.out HY.out (by omega) (by omega))
      have HV := Lib.hid (HN2.out (by omega))
      clear HRR HN2 hy
      go_wp2_with fail
      go_ret3
      exact ⟨_, _, _, rfl, by rw [HT.out]; refine ⟨HV.out.1, ?_, rfl⟩; rw [List.length_drop]; have h9 := HLN.out; omega, hE.out⟩
     ·have e9 : (k == 9) = false := by rw [beq_eq_false_iff_ne]; omega
      have e1 : decide (1 < y) = false := decide_eq_false (by omega)
      have e0 : (y == 0) = false := by rw [beq_eq_false_iff_ne]; omega
      have ek : decide (0 < k) = true := decide_eq_true (by omega)
      have HT := Lib.hid (rd_ok HRR.out HY.out (by omega) (by omega))
      have HV := Lib.hid (HN2.out (by omega))
      clear HRR HN2 hy
      go_wp2_with fail
      go_ret3
      exact ⟨_, _, _, rfl, by rw [HT.out]; refine ⟨HV.out.1, ?_, rfl⟩; rw [List.length_drop]; have h9 := HLN.out; omega, hE.out⟩
     ·have e9 : (k == 9) = false := by rw [beq_eq_false_iff_ne]; omega
      have e1 : decide (1 < y) = true := decide_eq_true (by omega)
      have e0 : (y == 0) = false := by rw [beq_eq_false_iff_ne]; omega
      have ek : decide (0 < k) = true := decide_eq_true (by omega)
      have HT := Lib.hid (rd_ok HRR.out HY.out (by omega) (by omega))
      have HV := Lib.hid (HN2.out (by omega))
      clear HRR HN2 hy
      go_wp2_with fail
      go_ret3
      exact ⟨_, _, _, rfl, by rw [HT.out]; refine ⟨HV.out.1, ?_, rfl⟩; rw [List.length_drop]; have h9 := HLN.out; omega, hE.out⟩
   ·have hm := HM.out
    have HT := Lib.hid (by
     have h := HR.out
     rcases (show k = 10 ∨ (k < 10 ∧ k = L.length) by omega) with e | ⟨e1, e2⟩
     ·rw [e] at h; rw [if_pos e]; exact rd_many h
     ·rw [if_neg (by omega)]
      rw [e2, List.drop_length, ← e2, show 10 - k = 9 - k + 1 by omega] at h
      exact rd_short h : X = if k = 10 then .error 4 else .error 3)
    have hkM : k = M := by omega
    clear hm hk hlt HR
    subst hkM
    by_cases h10 : k = 10
    ·have g1 : ((k : Int) == 10) = true := by simp; omega
     have g2 : decide ((k : Int) = 10) = true := by simp; omega
     have g3 : decide (k = 10) = true := decide_eq_true h10
     have g4 : (k == 10) = true := by simp [h10]
     rw [if_pos h10] at HT
     clear h10
     go_wp2_with fail
     go_ret3
     exact ⟨_, _, _, rfl, by rw [HT.out]; exact ⟨by decide, rfl, rfl⟩, hE.out⟩
    ·have g1 : ((k : Int) == 10) = false := by rw [beq_eq_false_iff_ne]; omega
     have g2 : decide ((k : Int) = 10) = false := decide_eq_false (by omega)
     have g3 : decide (k = 10) = false := decide_eq_false h10
     have g4 : (k == 10) = false := by rw [beq_eq_false_iff_ne]; omega
     rw [if_neg h10] at HT
     clear h10
     go_wp2_with fail
     go_ret3
     exact ⟨_, _, _, rfl, by rw [HT.out]; exact ⟨by decide, rfl, rfl⟩, hE.out⟩
end Go.Proofs.YtnheioehadldmaaGreat

/- THE WALKS over codec.Uint and codec.Int. -/
namespace Go.Proofs.YtnheioehadldmaaGreat
open Go.RowKit
theorem rdF_err : ∀ (f : Nat) (l : List Nat) (e : Int), rdF f l = .error e → e = 2 ∨ e = 3 ∨ e = 4
 | 0, _, e, h => by rw [rdF] at h; injection h with h; omega
 | _ + 1, [], e, h => by rw [rdF] at h; injection h with h; omega
 | f + 1, c :: l, e, h => by
  rw [rdF] at h
  split at h
  ·split at h
   ·cases h
   ·rename_i h2
    injection h with h
    subst h
    exact rdF_err f l _ h2
  ·split at h
   ·injection h with h; omega
   ·split at h
    ·injection h with h; omega
    ·cases h
/-- what codec.Uint and codec.Int give -/
def numOut (N : Nat) (X : Except Int (Int × List Nat)) (x y z : Int) : Prop := match X with
 | .ok (u, r) => x = u ∧ y = (N : Int) - r.length ∧ z = 0
 | .error er => x = 0 ∧ y = 0 ∧ z = er ∧ (er = 2 ∨ er = 3 ∨ er = 4)
def uI (l : List Nat) : Except Int (Int × List Nat) := match uE l with
 | .ok (u, r) => .ok ((u : Int), r)
 | .error e => .error e
theorem uI_big {l : List Nat} {u : Nat} {r : List Nat} (h : rdF 10 l = .ok (u, r)) (hu : 9223372036854775807 < u) : uI l = .error 4 := by unfold uI uE; rw [h]; simp only []; rw [if_neg (by omega)]
theorem uI_ok {l : List Nat} {u : Nat} {r : List Nat} (h : rdF 10 l = .ok (u, r)) (hu : u ≤ 9223372036854775807) : uI l = .ok ((u : Int), r) := by unfold uI uE; rw [h]; simp only []; rw [if_pos hu]
theorem uI_err {l : List Nat} {e : Int} (h : rdF 10 l = .error e) : uI l = .error e := by unfold uI uE; rw [h]
theorem iE_ok {l : List Nat} {u : Nat} {r : List Nat} (h : rdF 10 l = .ok (u, r)) : iE l = .ok (zag u, r) := by unfold iE; rw [h]
theorem iE_err {l : List Nat} {e : Int} (h : rdF 10 l = .error e) : iE l = .error e := by unfold iE; rw [h]
set_option maxRecDepth 100000 in
theorem co_Uint (l : List Nat) (ok : Nat → Prop) (A : Option Addr) (c at_ : Nat) (w : World) (hv : Byts w ok A l) (hb : ∀ x ∈ l, x < 256) (hc : l.length ≤ c) (ha : at_ ≤ l.length) :
  Calls Tryz.prog 59 #[.slice A l.length c, .int .i64 (at_ : Int)] w fun e w' => ∃ x y z : Int, e = .returned (.tuple #[.int .i64 x, .int .i64 y, .int .i64 z]) ∧ numOut l.length (uI (l.drop at_)) x y z ∧ Ext w w' := by
 have HV := Lib.hid (co_read l ok A c at_ w hv hb hc ha)
 have HI := Lib.hid (fun u r => rdF_inv 9 (l.drop at_) u r (by decide) (fun x hx => hb x (List.mem_of_mem_drop hx)))
 generalize hN : l.length = N at *
 generalize l.drop at_ = L at *
 have HE := Lib.hid (rdF_err 10 L)
 have HB := Lib.hid (fun (u : Nat) (r : List Nat) (h : rdF 10 L = .ok (u, r)) (hu : 9223372036854775807 < u) => uI_big h hu)
 have HO := Lib.hid (fun (u : Nat) (r : List Nat) (h : rdF 10 L = .ok (u, r)) (hu : u ≤ 9223372036854775807) => uI_ok h hu)
 have HR := Lib.hid (fun (e : Int) (h : rdF 10 L = .error e) => uI_err h)
 obtain ⟨U, hU⟩ : ∃ U, U = uI L := ⟨_, rfl⟩
 rw [← hU] at HB HO HR ⊢
 generalize rdF 10 L = X at *
 clear hv hb hU
 go_enter Tryz.func59, Tryz.ntmps59
 go_upto_region 2 with (go_at_call 83; ((with_reducible refine (HV.out).mono ?_); rintro e w2 ⟨x, y, z, rfl, hO, hx⟩))
 clear HV
 cases X with
 | error er =>
  obtain ⟨h1, rfl, rfl⟩ := hO
  have hz := HE.out z rfl
  have g : decide ((9223372036854775807 : Int) < x) = false := decide_eq_false (by omega)
  have gz : (z != 0) = true := by rw [bne_iff_ne]; omega
  have HT := Lib.hid (HR.out _ rfl)
  have HZ := Lib.hid hz
  clear hz h1
  go_wp2_with fail
  go_ret3
  exact ⟨_, _, _, rfl, by rw [HT.out]; exact ⟨rfl, rfl, rfl, HZ.out⟩, hx⟩
 | ok p =>
  obtain ⟨u, r⟩ := p
  obtain ⟨rfl, rfl, rfl⟩ := hO
  by_cases hu : u ≤ 9223372036854775807
  ·have g : decide ((9223372036854775807 : Int) < (u : Int)) = false := decide_eq_false (by omega)
   have g' : decide (9223372036854775807 < u) = false := decide_eq_false (by omega)
   have HT := Lib.hid (HO.out _ _ rfl hu)
   have hw : IntKind.i64.wrap (u : Int) = (u : Int) := by rw [IntKind.wrap_i64]; omega
   go_wp2_with fail
   go_ret3
   exact ⟨_, _, _, rfl, by rw [HT.out]; exact ⟨rfl, rfl, rfl⟩, hx⟩
  ·have g : decide ((9223372036854775807 : Int) < (u : Int)) = true := decide_eq_true (by omega)
   have g' : decide (9223372036854775807 < u) = true := decide_eq_true (by omega)
   have HT := Lib.hid (HB.out _ _ rfl (by omega))
   go_wp2_with fail
   go_ret3
   exact ⟨_, _, _, rfl, by rw [HT.out]; exact ⟨rfl, rfl, rfl, by omega⟩, hx⟩
theorem and1 {n : Nat} (h : n < 18446744073709551616) : bits .and .u64 (n : Int) 1 = ((n % 2 : Nat) : Int) := by
 have := u64_and_nat n 1 h (by decide)
 rw [nat_mask1] at this
 exact this
set_option maxRecDepth 100000 in
theorem co_Int (l : List Nat) (ok : Nat → Prop) (A : Option Addr) (c at_ : Nat) (w : World) (hv : Byts w ok A l) (hb : ∀ x ∈ l, x < 256) (hc : l.length ≤ c) (ha : at_ ≤ l.length) :
  Calls Tryz.prog 60 #[.slice A l.length c, .int .i64 (at_ : Int)] w fun e w' => ∃ x y z : Int, e = .returned (.tuple #[.int .i64 x, .int .i64 y, .int .i64 z]) ∧ numOut l.length (iE (l.drop at_)) x y z ∧ Ext w w' := by
 have HV := Lib.hid (co_read l ok A c at_ w hv hb hc ha)
 have HI := Lib.hid (fun u r => rdF_inv 9 (l.drop at_) u r (by decide) (fun x hx => hb x (List.mem_of_mem_drop hx)))
 generalize hN : l.length = N at *
 generalize l.drop at_ = L at *
 have HE := Lib.hid (rdF_err 10 L)
 have HO := Lib.hid (fun (u : Nat) (r : List Nat) (h : rdF 10 L = .ok (u, r)) => iE_ok h)
 have HR := Lib.hid (fun (e : Int) (h : rdF 10 L = .error e) => iE_err h)
 obtain ⟨U, hU⟩ : ∃ U, U = iE L := ⟨_, rfl⟩
 rw [← hU] at HO HR ⊢
 have HIX := Lib.hid (fun X (hX : X = rdF 10 L) u r (h : X = .ok (u, r)) => (by have := (HI.out u r (hX.symm.trans h)).2.1; omega : u < 18446744073709551616))
 replace HIX := Lib.hid (HIX.out _ rfl)
 clear HI
 generalize rdF 10 L = X at *
 clear hv hb hU
 go_enter Tryz.func60, Tryz.ntmps60
 go_upto_region 2 with (go_at_call 83; ((with_reducible refine (HV.out).mono ?_); rintro e w2 ⟨x, y, z, rfl, hO, hx⟩))
 clear HV
 cases X with
 | error er =>
  obtain ⟨h1, rfl, rfl⟩ := hO
  have hz := HE.out z rfl
  have gz : (z != 0) = true := by rw [bne_iff_ne]; omega
  have HT := Lib.hid (HR.out _ rfl)
  have HZ := Lib.hid hz
  clear hz h1
  go_wp2_with fail
  go_ret3
  exact ⟨_, _, _, rfl, by rw [HT.out]; exact ⟨rfl, rfl, rfl, HZ.out⟩, hx⟩
 | ok p =>
  obtain ⟨u, r⟩ := p
  obtain ⟨rfl, rfl, rfl⟩ := hO
  have hu := HIX.out u r rfl
  have HT := Lib.hid (HO.out _ _ rfl)
  have hA := and1 hu
  have hw : IntKind.i64.wrap ((u : Int) / 2) = (u : Int) / 2 := by rw [IntKind.wrap_i64]; omega
  by_cases h2 : u % 2 = 1
  ·have g : ((u : Int) % 2 == 1) = true := by rw [beq_iff_eq]; omega
   have g' : (u % 2 == 1) = true := by rw [beq_iff_eq]; omega
   have HZ := Lib.hid (show -((u : Int) / 2) - 1 = zag u by unfold zag; rw [if_pos h2]; omega)
   clear h2
   have hnot : bits BinOp.xor IntKind.i64 (if IntKind.i64.signed = true then -1 else 9223372036854775807) ((u : Int) / 2) = -((u : Int) / 2) - 1 := by
    have := i64_not (u / 2) (by omega)
    rw [show (if IntKind.i64.signed = true then (-1 : Int) else 9223372036854775807) = -1 by decide, show ((u : Int) / 2) = ((u / 2 : Nat) : Int) by omega, this]
    omega
   go_wp2_with fail
   go_ret3
   exact ⟨_, _, _, rfl, by rw [HT.out]; exact ⟨HZ.out, rfl, rfl⟩, hx⟩
  ·have g : ((u : Int) % 2 == 1) = false := by rw [beq_eq_false_iff_ne]; omega
   have g' : (u % 2 == 1) = false := by rw [beq_eq_false_iff_ne]; omega
   have HZ := Lib.hid (show (u : Int) / 2 = zag u by unfold zag; rw [if_neg h2]; omega)
   clear h2
   go_wp2_with fail
   go_ret3
   exact ⟨_, _, _, rfl, by rw [HT.out]; exact ⟨HZ.out, rfl, rfl⟩, hx⟩
end Go.Proofs.YtnheioehadldmaaGreat

/- THE WALKS over the reader of column: id, uint, near. -/
namespace Go.Proofs.YtnheioehadldmaaGreat
open Go.RowKit
/-- a reader in memory -/
structure RdC (W : World) (qr : Nat) (A : Option Addr) (N c : Nat) (at_ e : Int) : Prop where
 c0 : W.cell? ⟨qr, 0, none⟩ = some (.slice A N c)
 c1 : W.cell? ⟨qr, 1, none⟩ = some (.int .i64 at_)
 c2 : W.cell? ⟨qr, 2, none⟩ = some (.int .i64 e)
 f1 : W.frozen? ⟨qr, 1, none⟩ = false
 f2 : W.frozen? ⟨qr, 2, none⟩ = false
section
variable {W W' : World} {qr : Nat} {A : Option Addr} {N c : Nat} {at_ e : Int}
theorem RdC.grown {row : Option Nat} (h : RdC W qr A N c at_ e) (hg : W.grownBy W' row) (hr : some qr ≠ row) : RdC W' qr A N c at_ e :=
 ⟨hg.cell h.c0 hr, hg.cell h.c1 hr, hg.cell h.c2 hr, frz_grown hg h.c1 h.f1 hr, frz_grown hg h.c2 h.f2 hr⟩
theorem RdC.ext (h : RdC W qr A N c at_ e) (x : Ext W W') : RdC W' qr A N c at_ e := h.grown (x.gr none) (by simp)
theorem cell_set_self {j : Nat} {u v : Value} (h : W.cell? ⟨qr, j, none⟩ = some v) : (W.setCell ⟨qr, j, none⟩ u).cell? ⟨qr, j, none⟩ = some u := World.cell?_setCell_same' _ _ _ (by rw [h]; rfl)
theorem cell_set_else {i j : Nat} {u v : Value} (hij : i ≠ j) (h : W.cell? ⟨qr, i, none⟩ = some v) : (W.setCell ⟨qr, j, none⟩ u).cell? ⟨qr, i, none⟩ = some v := (World.cell?_setCell_other _ _ _ _ (fun e => by injection e with _ e2; exact hij e2.symm)).trans h
theorem RdC.setE (h : RdC W qr A N c at_ e) (z : Int) : RdC (W.setCell ⟨qr, 2, none⟩ (.int .i64 z)) qr A N c at_ z :=
 ⟨cell_set_else (by decide) h.c0, cell_set_else (by decide) h.c1, cell_set_self h.c2, (World.frozen?_setCell _ _ _ _).trans h.f1, (World.frozen?_setCell _ _ _ _).trans h.f2⟩
theorem RdC.setAt (h : RdC W qr A N c at_ e) (y : Int) : RdC (W.setCell ⟨qr, 1, none⟩ (.int .i64 y)) qr A N c y e :=
 ⟨cell_set_else (by decide) h.c0, cell_set_self h.c1, cell_set_else (by decide) h.c2, (World.frozen?_setCell _ _ _ _).trans h.f1, (World.frozen?_setCell _ _ _ _).trans h.f2⟩
/-- both marks set -/
theorem RdC.step (h : RdC W qr A N c at_ e) (x : Ext W W') (y z : Int) : W'.cell? ⟨qr, 0, none⟩ = some (.slice A N c) ∧ W'.cell? ⟨qr, 1, none⟩ = some (.int .i64 at_) ∧ W'.cell? ⟨qr, 2, none⟩ = some (.int .i64 e) ∧ W'.frozen? ⟨qr, 1, none⟩ = false ∧ W'.frozen? ⟨qr, 2, none⟩ = false ∧ ∃ W3, W3 = W'.setCell ⟨qr, 1, none⟩ (.int .i64 y) ∧ W3.cell? ⟨qr, 2, none⟩ = some (.int .i64 e) ∧ W3.frozen? ⟨qr, 2, none⟩ = false ∧ ∃ W4, W4 = W3.setCell ⟨qr, 2, none⟩ (.int .i64 z) ∧ RdC W4 qr A N c y z ∧ W.grownBy W4 (some qr) := by
 have h1 := h.ext x
 refine ⟨h1.c0, h1.c1, h1.c2, h1.f1, h1.f2, _, rfl, (h1.setAt y).c2, (h1.setAt y).f2, _, rfl, (h1.setAt y).setE z, ?_⟩
 exact (((x.gr none).but (some qr)).trans (gr_set _ _ _ _)).trans (gr_set _ _ _ _)
end
/-- what the reader's marks say -/
def okR (l : List Nat) (at_ e : Int) : Except Int (List Nat) → Prop
 | .ok r => e = 0 ∧ r.length ≤ l.length ∧ at_ = (l.length : Int) - r.length ∧ r = l.drop (l.length - r.length)
 | .error er => e = er ∧ er ≠ 0
/-- a number read -/
def stU (st : Except Int (List Nat)) (x : Int) (st' : Except Int (List Nat)) : Prop := match st with
 | .error e => st' = .error e
 | .ok r => match uI r with
  | .ok (n, r') => x = n ∧ st' = .ok r'
  | .error e => st' = .error e
/-- a difference read -/
def idM (base n : Int) (r : List Nat) : Except Int (Int × List Nat) := if n < -1000000 ∨ 1000000 < n ∨ idB (base + n) = false then .error 1 else .ok (base + n, r)
def stI (st : Except Int (List Nat)) (base n : Int) (x : Int) (st' : Except Int (List Nat)) : Prop := match st with
 | .error e => st' = .error e
 | .ok r => match idM base n r with
  | .ok (m, r') => x = m ∧ st' = .ok r'
  | .error e => st' = .error e
def nearM (base : Int) (r : List Nat) : Except Int (Int × List Nat) := match iE r with
 | .ok (n, r') => idM base n r'
 | .error e => .error e
def stN (st : Except Int (List Nat)) (base : Int) (x : Int) (st' : Except Int (List Nat)) : Prop := match st with
 | .error e => st' = .error e
 | .ok r => match nearM base r with
  | .ok (m, r') => x = m ∧ st' = .ok r'
  | .error e => st' = .error e
theorem rdF_suf {f : Nat} {l r : List Nat} {u : Nat} (h : rdF f l = .ok (u, r)) : r.length < l.length ∧ r = l.drop (l.length - r.length) := by
 obtain ⟨k, h1, h2, h3⟩ := rdF_drop f l u r h
 have e : r.length = l.length - k := by rw [h3, List.length_drop]
 exact ⟨by omega, by rw [e, show l.length - (l.length - k) = k by omega]; exact h3⟩
theorem uI_suf {l r : List Nat} {n : Int} (h : uI l = .ok (n, r)) : r.length < l.length ∧ r = l.drop (l.length - r.length) := by
 cases h1 : rdF 10 l with
 | error e => rw [uI_err h1] at h; cases h
 | ok p =>
  obtain ⟨u, r'⟩ := p
  by_cases hu : u ≤ 9223372036854775807
  ·rw [uI_ok h1 hu] at h; injection h with h; injection h with e1 e2; subst e2; exact rdF_suf h1
  ·rw [uI_big h1 (by omega)] at h; cases h
theorem iE_suf {l r : List Nat} {n : Int} (h : iE l = .ok (n, r)) : r.length < l.length ∧ r = l.drop (l.length - r.length) := by
 cases h1 : rdF 10 l with
 | error e => rw [iE_err h1] at h; cases h
 | ok p =>
  obtain ⟨u, r'⟩ := p
  rw [iE_ok h1] at h; injection h with h; injection h with e1 e2; subst e2; exact rdF_suf h1
theorem suf_suf {l r s : List Nat} (h1 : r.length ≤ l.length) (h2 : r = l.drop (l.length - r.length)) (h3 : s.length < r.length) (h4 : s = r.drop (r.length - s.length)) : s.length ≤ l.length ∧ s = l.drop (l.length - s.length) := by
 refine ⟨by omega, ?_⟩
 have e : s = (l.drop (l.length - r.length)).drop (r.length - s.length) := h4.trans (by rw [← h2])
 rw [List.drop_drop, show l.length - r.length + (r.length - s.length) = l.length - s.length by omega] at e
 exact e
/-- a step of the marks -/
theorem okR_num {l r : List Nat} {at_ : Int} {M : List Nat → Except Int (Int × List Nat)} (hM : ∀ n s, M r = .ok (n, s) → s.length < r.length ∧ s = r.drop (r.length - s.length)) (h : okR l at_ 0 (.ok r)) {x y z : Int} (hO : numOut l.length (M r) x y z) : ∃ st', okR l y z st' ∧ (match M r with | .ok (n, r') => x = n ∧ st' = .ok r' | .error e => st' = .error e) := by
 obtain ⟨-, h1, h2, h3⟩ := h
 cases hr : M r with
 | error e =>
  rw [hr] at hO
  obtain ⟨-, -, rfl, h6⟩ := hO
  exact ⟨.error z, ⟨rfl, by omega⟩, rfl⟩
 | ok p =>
  obtain ⟨n, s⟩ := p
  rw [hr] at hO
  obtain ⟨e1, e2, e3⟩ := hO
  obtain ⟨h4, h5⟩ := hM n s hr
  obtain ⟨h6, h7⟩ := suf_suf h1 h3 h4 h5
  exact ⟨.ok s, ⟨e3, h6, e2, h7⟩, e1, rfl⟩
theorem okR_at {l r : List Nat} {at_ e : Int} (h : okR l at_ e (.ok r)) : e = 0 ∧ at_ = ((l.length - r.length : Nat) : Int) ∧ l.length - r.length ≤ l.length ∧ l.drop (l.length - r.length) = r := by
 obtain ⟨h0, h1, h2, h3⟩ := h
 exact ⟨h0, by omega, by omega, h3.symm⟩
set_option maxRecDepth 100000 in
theorem co_ruint (l : List Nat) (ok : Nat → Prop) (A : Option Addr) (c qr : Nat) (at_ e0 : Int) (st : Except Int (List Nat)) (W : World) (hr : RdC W qr A l.length c at_ e0) (hs : okR l at_ e0 st) (hv : Byts W ok A l) (hb : ∀ x ∈ l, x < 256) (hc : l.length ≤ c) :
  Calls Tryz.prog 28 #[.pointer (some ⟨qr, 0, none⟩)] W fun e W' => ∃ (x at' e' : Int) (st' : Except Int (List Nat)), e = .returned (.int .i64 x) ∧ RdC W' qr A l.length c at' e' ∧ okR l at' e' st' ∧ stU st x st' ∧ W.grownBy W' (some qr) := by
 have HRC := Lib.hid hr
 obtain ⟨c0, c1, c2, f1, f2⟩ := hr
 cases st with
 | error er =>
  obtain ⟨rfl, he⟩ := hs
  have g : (e0 != 0) = true := by rw [bne_iff_ne]; exact he
  have HE := Lib.hid he
  clear he
  go_enter Tryz.func28, Tryz.ntmps28
  go_wp2_with fail
  go_ret
  exact ⟨0, at_, e0, .error e0, rfl, (by first | exact HRC.out | exact HRC.out.ext (by solve_by_elim [X0, X1, X2, X3])), ⟨rfl, HE.out⟩, rfl, (Ext.gr (a := W) (by solve_by_elim [X0, X1, X2, X3]) none).but _⟩
 | ok r =>
  obtain ⟨h0, h1, h2, h3⟩ := okR_at hs
  subst h0
  have HCL := Lib.hid (fun V (x : Ext W V) => co_Uint l ok A c (l.length - r.length) V (hv.ext x) hb hc h2)
  rw [h3, ← h1] at HCL
  have HST := Lib.hid (fun x y z (hO : numOut l.length (uI r) x y z) => okR_num (fun n s h => uI_suf h) hs hO)
  clear h1 h2 h3 hs hv
  generalize l.length = N at *
  have HMK := Lib.hid (fun V (e : Ext W V) => (⟨e.cell c0, e.cell c1⟩ : V.cell? ⟨qr, 0, none⟩ = some (.slice A N c) ∧ V.cell? ⟨qr, 1, none⟩ = some (.int .i64 at_)))
  go_enter Tryz.func28, Tryz.ntmps28
  go_upto_region 4 with (fail)
  refine AnyT.start (S := (fun V => V.cell? ⟨qr, 0, none⟩ = some (.slice A N c) ∧ V.cell? ⟨qr, 1, none⟩ = some (.int .i64 at_))) (T := (fun _ => True)) (E := 10) (by kernel_rfl) ?hs52001 (fun hHeld => ?go52001)
  case hs52001 => exact ⟨by (exact HMK.out _ (by solve_by_elim [X0, X1, X2, X3])), by trivial⟩
  refine TB 0 (v := ?v52002) ⟨fun _ => hHeld.1, hHeld.2⟩ ?hy52002 ?_
  case hy52002 => (intro w hSw; (try dsimp only at hSw); go_simp <;> first | with_reducible rfl | rw [if_neg (by omega)] | rw [if_pos (by omega)])
  (try simp only [PU])
  refine TB 1 (v := ?v52003) ⟨fun _ => hHeld.1, hHeld.2⟩ ?hy52003 ?_
  case hy52003 => (intro w hSw; (try dsimp only at hSw); go_simp <;> first | with_reducible rfl | rw [if_neg (by omega)] | rw [if_pos (by omega)])
  (try simp only [PU])
  refine TB 2 (v := ?v52004) ⟨fun _ => hHeld.1, hHeld.2⟩ ?hy52004 ?_
  case hy52004 => (intro w hSw; (try dsimp only at hSw); go_simp <;> first | with_reducible rfl | rw [if_neg (by omega)] | rw [if_pos (by omega)])
  (try simp only [PU])
  refine TB 3 (v := ?v52005) ⟨fun _ => hHeld.1, hHeld.2⟩ ?hy52005 ?_
  case hy52005 => (intro w hSw; (try dsimp only at hSw); go_simp <;> first | with_reducible rfl | rw [if_neg (by omega)] | rw [if_pos (by omega)])
  (try simp only [PU])
  refine TB 4 (v := ?v52006) ⟨fun _ => hHeld.1, hHeld.2⟩ ?hy52006 ?_
  case hy52006 => (intro w hSw; (try dsimp only at hSw); go_simp <;> first | with_reducible rfl | rw [if_neg (by omega)] | rw [if_pos (by omega)])
  (try simp only [PU])
  refine TA 5 (v := ?v52007) hHeld ?hy52007 ?_
  case hy52007 => (intro w hSw; (try dsimp only at hSw); go_simp <;> first | with_reducible rfl | rw [if_neg (by omega)] | rw [if_pos (by omega)])
  (try simp only [PU])
  refine TB 6 (v := ?v52008) ⟨fun _ => hHeld.1, hHeld.2⟩ ?hy52008 ?_
  case hy52008 => (intro w hSw; (try dsimp only at hSw); go_simp <;> first | with_reducible rfl | rw [if_neg (by omega)] | rw [if_pos (by omega)])
  (try simp only [PU])
  refine TB 7 (v := ?v52009) ⟨fun _ => hHeld.1, hHeld.2⟩ ?hy52009 ?_
  case hy52009 => (intro w hSw; (try dsimp only at hSw); go_simp <;> first | with_reducible rfl | rw [if_neg (by omega)] | rw [if_pos (by omega)])
  (try simp only [PU])
  refine TB 8 (v := ?v52010) ⟨fun _ => hHeld.1, hHeld.2⟩ ?hy52010 ?_
  case hy52010 => (intro w hSw; (try dsimp only at hSw); go_simp <;> first | with_reducible rfl | rw [if_neg (by omega)] | rw [if_pos (by omega)])
  (try simp only [PU])
  refine TA 9 (v := ?v52011) hHeld ?hy52011 ?_
  case hy52011 => (intro w hSw; (try dsimp only at hSw); go_simp <;> first | with_reducible rfl | rw [if_neg (by omega)] | rw [if_pos (by omega)])
  (try simp only [PU])
  refine AnyT.ready (rs := [10]) (by kernel_rfl) (by simp) ?_
  refine AllT.cons (o := ⟨_, _, _, _, _, _⟩) rfl (fun K hK => ?step52012x0) ?more52012x0
  case more52012x0 => exact AllT.nil
  go_simp
  (go_at_call 59; ((with_reducible refine (HCL.out _ (by solve_by_elim [X0, X1, X2, X3])).mono ?_); rintro e w2 ⟨x, y, z, rfl, hO, hx⟩; obtain ⟨z0, z1, z2, f1, f2, w3, hw3, y2, g2, w4, hw4, hR, hg⟩ := RdC.step HRC.out (Ext.trans (a := W) (by solve_by_elim [X0, X1, X2, X3]) hx) y z; have HO := Lib.hid hO; have HRR := Lib.hid hR; have HG := Lib.hid hg; clear hO hR hg hx))
  refine hK.out _ _ ?hS52012x0 (fun H52012 => ?_)
  case hS52012x0 => exact ⟨fun h => (by first | exact absurd h (by decide) | simp at h), by trivial⟩
  clear hK K
  clear hHeld
  (try simp only [PU])
  refine TB 11 (v := ?v52013) H52012 ?hy52013 ?_
  case hy52013 => (intro w hSw; (try dsimp only at hSw); go_simp <;> first | with_reducible rfl | rw [if_neg (by omega)] | rw [if_pos (by omega)])
  (try simp only [PU])
  refine TB 12 (v := ?v52014) H52012 ?hy52014 ?_
  case hy52014 => (intro w hSw; (try dsimp only at hSw); go_simp <;> first | with_reducible rfl | rw [if_neg (by omega)] | rw [if_pos (by omega)])
  (try simp only [PU])
  refine TB 13 (v := ?v52015) H52012 ?hy52015 ?_
  case hy52015 => (intro w hSw; (try dsimp only at hSw); go_simp <;> first | with_reducible rfl | rw [if_neg (by omega)] | rw [if_pos (by omega)])
  (try simp only [PU])
  refine TB 14 (v := ?v52016) H52012 ?hy52016 ?_
  case hy52016 => (intro w hSw; (try dsimp only at hSw); go_simp <;> first | with_reducible rfl | rw [if_neg (by omega)] | rw [if_pos (by omega)])
  (try simp only [PU])
  refine TB 15 (v := ?v52017) H52012 ?hy52017 ?_
  case hy52017 => (intro w hSw; (try dsimp only at hSw); go_simp <;> first | with_reducible rfl | rw [if_neg (by omega)] | rw [if_pos (by omega)])
  (try simp only [PU])
  refine TB 16 (v := ?v52018) H52012 ?hy52018 ?_
  case hy52018 => (intro w hSw; (try dsimp only at hSw); go_simp <;> first | with_reducible rfl | rw [if_neg (by omega)] | rw [if_pos (by omega)])
  (try simp only [PU])
  refine TB 17 (v := ?v52019) H52012 ?hy52019 ?_
  case hy52019 => (intro w hSw; (try dsimp only at hSw); go_simp <;> first | with_reducible rfl | rw [if_neg (by omega)] | rw [if_pos (by omega)])
  (try simp only [PU])
  refine AnyT.ready (rs := [18]) (by kernel_rfl) (by simp) ?_
  refine AllT.cons (o := ⟨_, _, _, _, _, _⟩) rfl (fun K hK => ?step52020x0) ?more52020x0
  case more52020x0 => exact AllT.nil
  go_simp
  (rw [← hw3]; clear hw3)
  refine hK.out _ _ ?hS52020x0 (fun H52020 => ?_)
  case hS52020x0 => exact ⟨fun h => (by first | exact absurd h (by decide) | simp at h), by trivial⟩
  clear hK K
  clear H52012
  refine TB 19 (v := ?v52021) H52020 ?hy52021 ?_
  case hy52021 => (intro w hSw; (try dsimp only at hSw); go_simp <;> first | with_reducible rfl | rw [if_neg (by omega)] | rw [if_pos (by omega)])
  (try simp only [PU])
  refine TB 20 (v := ?v52022) H52020 ?hy52022 ?_
  case hy52022 => (intro w hSw; (try dsimp only at hSw); go_simp <;> first | with_reducible rfl | rw [if_neg (by omega)] | rw [if_pos (by omega)])
  (try simp only [PU])
  refine AnyT.ready (rs := [21]) (by kernel_rfl) (by simp) ?_
  refine AllT.cons (o := ⟨_, _, _, _, _, _⟩) rfl (fun K hK => ?step52023x0) ?more52023x0
  case more52023x0 => exact AllT.nil
  go_simp
  (rw [← hw4]; clear hw4)
  refine hK.out _ _ ?hS52023x0 (fun H52023 => ?_)
  case hS52023x0 => exact ⟨fun h => (by first | exact absurd h (by decide) | simp at h), by trivial⟩
  clear hK K
  clear H52020
  refine AnyT.done (by kernel_rfl) ?_ _
  clear H52023
  go_wp2_with fail
  go_ret
  obtain ⟨st7, k1, k2⟩ := HST.out _ _ _ HO.out
  exact ⟨_, _, _, st7, rfl, HRR.out, k1, k2, HG.out⟩
theorem idM_no {base n : Int} {r : List Nat} (h : n < -1000000 ∨ 1000000 < n ∨ idB (base + n) = false) : idM base n r = .error 1 := by unfold idM; rw [if_pos h]
theorem idM_yes {base n : Int} {r : List Nat} (h1 : ¬ n < -1000000) (h2 : ¬ 1000000 < n) (h3 : idB (base + n) = true) : idM base n r = .ok (base + n, r) := by unfold idM; rw [if_neg (by rintro (h | h | h); exact h1 h; exact h2 h; rw [h3] at h; cases h)]
theorem stI_no {base n x : Int} {r : List Nat} (h : n < -1000000 ∨ 1000000 < n ∨ idB (base + n) = false) : stI (.ok r) base n x (.error 1) := by unfold stI; simp only []; rw [idM_no h]
theorem stI_yes {base n : Int} {r : List Nat} (h1 : ¬ n < -1000000) (h2 : ¬ 1000000 < n) (h3 : idB (base + n) = true) : stI (.ok r) base n (base + n) (.ok r) := by unfold stI; simp only []; rw [idM_yes h1 h2 h3]; exact ⟨rfl, rfl⟩
set_option maxRecDepth 100000 in
theorem co_rid (l : List Nat) (A : Option Addr) (c qr : Nat) (at_ e0 base n : Int) (st : Except Int (List Nat)) (W : World) (hr : RdC W qr A l.length c at_ e0) (hs : okR l at_ e0 st) (hbs : e0 = 0 → 0 ≤ base ∧ base ≤ 1000000) :
  Calls Tryz.prog 29 #[.pointer (some ⟨qr, 0, none⟩), .int .i64 base, .int .i64 n] W fun e W' => ∃ (x e' : Int) (st' : Except Int (List Nat)), e = .returned (.int .i64 x) ∧ RdC W' qr A l.length c at_ e' ∧ okR l at_ e' st' ∧ stI st base n x st' ∧ W.grownBy W' (some qr) := by
 have HRC := Lib.hid hr
 have HRS := Lib.hid (hr.setE 1)
 obtain ⟨c0, c1, c2, f1, f2⟩ := hr
 have HID := Lib.hid (fun V (_ : Ext W V) => co_id (base + n) V)
 cases st with
 | error er =>
  obtain ⟨rfl, he⟩ := hs
  have g : (e0 == 0) = false := by rw [beq_eq_false_iff_ne]; exact he
  have g' : decide (e0 = 0) = false := decide_eq_false he
  have HE := Lib.hid he
  clear he hbs
  go_enter Tryz.func29, Tryz.ntmps29
  go_wp2_with fail
  go_ret
  exact ⟨_, e0, .error e0, rfl, (by first | exact HRC.out | exact HRC.out.ext (by solve_by_elim [X0, X1, X2, X3])), ⟨rfl, HE.out⟩, rfl, (Ext.gr (a := W) (by solve_by_elim [X0, X1, X2, X3]) none).but _⟩
 | ok r =>
  have HOK := Lib.hid hs
  obtain ⟨rfl, -, -, -⟩ := hs
  obtain ⟨hb0, hb1⟩ := hbs rfl
  have HO1 := Lib.hid (show okR l at_ 1 (.error 1) from ⟨rfl, by decide⟩)
  clear hbs
  by_cases h1 : n < -1000000
  ·have HT := Lib.hid (fun x => stI_no (base := base) (x := x) (r := r) (.inl h1))
   have g : decide (n < -1000000) = true := decide_eq_true h1
   clear h1
   go_enter Tryz.func29, Tryz.ntmps29
   go_wp2_with fail
   go_ret
   exact ⟨_, 1, _, rfl, (by first | exact HRS.out | exact (HRC.out.ext (by solve_by_elim [X0, X1, X2, X3])).setE 1), HO1.out, HT.out _, by first | exact gr_set W qr 2 _ | exact ((Ext.gr (a := W) (by solve_by_elim [X0, X1, X2, X3]) none).but _).trans (gr_set _ _ _ _)⟩
  ·have g : decide (n < -1000000) = false := decide_eq_false h1
   by_cases h2 : 1000000 < n
   ·have HT := Lib.hid (fun x => stI_no (base := base) (x := x) (r := r) (.inr (.inl h2)))
    have g2 : decide (1000000 < n) = true := decide_eq_true h2
    clear h1 h2
    go_enter Tryz.func29, Tryz.ntmps29
    go_wp2_with fail
    go_ret
    exact ⟨_, 1, _, rfl, (by first | exact HRS.out | exact (HRC.out.ext (by solve_by_elim [X0, X1, X2, X3])).setE 1), HO1.out, HT.out _, by first | exact gr_set W qr 2 _ | exact ((Ext.gr (a := W) (by solve_by_elim [X0, X1, X2, X3]) none).but _).trans (gr_set _ _ _ _)⟩
   ·have g2 : decide (1000000 < n) = false := decide_eq_false h2
    have hw : IntKind.i64.wrap (base + n) = base + n := by rw [IntKind.wrap_i64]; omega
    have HY := Lib.hid (fun (h : idB (base + n) = true) => stI_yes (r := r) h1 h2 h)
    have HN := Lib.hid (fun (h : idB (base + n) = false) => stI_no (x := base + n) (r := r) (.inr (.inr h)))
    clear h1 h2 hb0 hb1
    cases hb : idB (base + n)
    ·rw [hb] at HID
     have HT := Lib.hid (HN.out hb)
     clear hb HY HN
     go_enter Tryz.func29, Tryz.ntmps29
     go_wp2_with (go_at_call 39; ((with_reducible refine (HID.out _ (by solve_by_elim [X0, X1, X2, X3])).mono ?_); rintro e w2 ⟨rfl, hx2⟩; have hxx := Ext.trans (a := W) (by solve_by_elim [X0, X1, X2, X3]) hx2; have HX := Lib.hid hxx; replace c2 := hxx.cell c2; replace f2 := (HRC.out.ext hxx).f2; clear hx2 hxx))
     go_ret
     exact ⟨_, 1, _, rfl, (HRC.out.ext HX.out).setE 1, HO1.out, HT.out, ((HX.out.gr none).but _).trans (gr_set _ _ _ _)⟩
    ·rw [hb] at HID
     have HT := Lib.hid (HY.out hb)
     clear hb HY HN
     go_enter Tryz.func29, Tryz.ntmps29
     go_wp2_with (go_at_call 39; ((with_reducible refine (HID.out _ (by solve_by_elim [X0, X1, X2, X3])).mono ?_); rintro e w2 ⟨rfl, hx2⟩; have hxx := Ext.trans (a := W) (by solve_by_elim [X0, X1, X2, X3]) hx2; have HX := Lib.hid hxx; replace c2 := hxx.cell c2; replace f2 := (HRC.out.ext hxx).f2; clear hx2 hxx))
     go_ret
     exact ⟨_, 0, _, rfl, HRC.out.ext HX.out, HOK.out, HT.out, (HX.out.gr none).but _⟩
theorem stN_of {st st1 st2 : Except Int (List Nat)} {base n x : Int} (h1 : match st with
  | .error e => st1 = .error e
  | .ok r => match iE r with
   | .ok (m, r') => n = m ∧ st1 = .ok r'
   | .error e => st1 = .error e) (h2 : stI st1 base n x st2) : stN st base x st2 := by
 unfold stN
 cases st with
 | error e => simp only at h1; rw [h1] at h2; exact h2
 | ok r =>
  simp only at h1
  cases hi : iE r with
  | error e => rw [hi] at h1; simp only at h1; rw [h1] at h2; simp only [nearM, hi]; exact h2
  | ok p =>
   obtain ⟨m, r'⟩ := p
   rw [hi] at h1
   obtain ⟨rfl, rfl⟩ := h1
   simp only [nearM, hi]
   exact h2
set_option maxRecDepth 100000 in
theorem co_near (l : List Nat) (ok : Nat → Prop) (A : Option Addr) (c qr : Nat) (at_ e0 base : Int) (st : Except Int (List Nat)) (W : World) (hr : RdC W qr A l.length c at_ e0) (hs : okR l at_ e0 st) (hbs : e0 = 0 → 0 ≤ base ∧ base ≤ 1000000) (hv : Byts W ok A l) (hb : ∀ x ∈ l, x < 256) (hc : l.length ≤ c) :
  Calls Tryz.prog 30 #[.pointer (some ⟨qr, 0, none⟩), .int .i64 base] W fun e W' => ∃ (x at' e' : Int) (st' : Except Int (List Nat)), e = .returned (.int .i64 x) ∧ RdC W' qr A l.length c at' e' ∧ okR l at' e' st' ∧ stN st base x st' ∧ W.grownBy W' (some qr) := by
 have HRC := Lib.hid hr
 obtain ⟨c0, c1, c2, f1, f2⟩ := hr
 cases st with
 | error er =>
  obtain ⟨rfl, he⟩ := hs
  have g : (e0 != 0) = true := by rw [bne_iff_ne]; exact he
  have HE := Lib.hid he
  clear he hbs
  go_enter Tryz.func30, Tryz.ntmps30
  go_wp2_with fail
  go_ret
  exact ⟨0, at_, e0, .error e0, rfl, (by first | exact HRC.out | exact HRC.out.ext (by solve_by_elim [X0, X1, X2, X3])), ⟨rfl, HE.out⟩, rfl, (Ext.gr (a := W) (by solve_by_elim [X0, X1, X2, X3]) none).but _⟩
 | ok r =>
  obtain ⟨h0, h1, h2, h3⟩ := okR_at hs
  subst h0
  have HBS := Lib.hid (hbs rfl)
  have HCL := Lib.hid (fun V (x : Ext W V) => co_Int l ok A c (l.length - r.length) V (hv.ext x) hb hc h2)
  rw [h3, ← h1] at HCL
  have HST := Lib.hid (fun x y z (hO : numOut l.length (iE r) x y z) => okR_num (fun n s h => iE_suf h) hs hO)
  have HID := Lib.hid (fun V y z n st1 (hR : RdC V qr A l.length c y z) (hO : okR l y z st1) => co_rid l A c qr y z base n st1 V hR hO (fun _ => HBS.out))
  clear h1 h2 h3 hs hv hbs
  generalize l.length = N at *
  have HMK := Lib.hid (fun V (e : Ext W V) => (⟨e.cell c0, e.cell c1⟩ : V.cell? ⟨qr, 0, none⟩ = some (.slice A N c) ∧ V.cell? ⟨qr, 1, none⟩ = some (.int .i64 at_)))
  go_enter Tryz.func30, Tryz.ntmps30
  go_upto_region 4 with (fail)
  refine AnyT.start (S := (fun V => V.cell? ⟨qr, 0, none⟩ = some (.slice A N c) ∧ V.cell? ⟨qr, 1, none⟩ = some (.int .i64 at_))) (T := (fun _ => True)) (E := 10) (by kernel_rfl) ?hs52024 (fun hHeld => ?go52024)
  case hs52024 => exact ⟨by (exact HMK.out _ (by solve_by_elim [X0, X1, X2, X3])), by trivial⟩
  refine TB 0 (v := ?v52025) ⟨fun _ => hHeld.1, hHeld.2⟩ ?hy52025 ?_
  case hy52025 => (intro w hSw; (try dsimp only at hSw); go_simp <;> first | with_reducible rfl | rw [if_neg (by omega)] | rw [if_pos (by omega)])
  (try simp only [PU])
  refine TB 1 (v := ?v52026) ⟨fun _ => hHeld.1, hHeld.2⟩ ?hy52026 ?_
  case hy52026 => (intro w hSw; (try dsimp only at hSw); go_simp <;> first | with_reducible rfl | rw [if_neg (by omega)] | rw [if_pos (by omega)])
  (try simp only [PU])
  refine TB 2 (v := ?v52027) ⟨fun _ => hHeld.1, hHeld.2⟩ ?hy52027 ?_
  case hy52027 => (intro w hSw; (try dsimp only at hSw); go_simp <;> first | with_reducible rfl | rw [if_neg (by omega)] | rw [if_pos (by omega)])
  (try simp only [PU])
  refine TB 3 (v := ?v52028) ⟨fun _ => hHeld.1, hHeld.2⟩ ?hy52028 ?_
  case hy52028 => (intro w hSw; (try dsimp only at hSw); go_simp <;> first | with_reducible rfl | rw [if_neg (by omega)] | rw [if_pos (by omega)])
  (try simp only [PU])
  refine TB 4 (v := ?v52029) ⟨fun _ => hHeld.1, hHeld.2⟩ ?hy52029 ?_
  case hy52029 => (intro w hSw; (try dsimp only at hSw); go_simp <;> first | with_reducible rfl | rw [if_neg (by omega)] | rw [if_pos (by omega)])
  (try simp only [PU])
  refine TA 5 (v := ?v52030) hHeld ?hy52030 ?_
  case hy52030 => (intro w hSw; (try dsimp only at hSw); go_simp <;> first | with_reducible rfl | rw [if_neg (by omega)] | rw [if_pos (by omega)])
  (try simp only [PU])
  refine TB 6 (v := ?v52031) ⟨fun _ => hHeld.1, hHeld.2⟩ ?hy52031 ?_
  case hy52031 => (intro w hSw; (try dsimp only at hSw); go_simp <;> first | with_reducible rfl | rw [if_neg (by omega)] | rw [if_pos (by omega)])
  (try simp only [PU])
  refine TB 7 (v := ?v52032) ⟨fun _ => hHeld.1, hHeld.2⟩ ?hy52032 ?_
  case hy52032 => (intro w hSw; (try dsimp only at hSw); go_simp <;> first | with_reducible rfl | rw [if_neg (by omega)] | rw [if_pos (by omega)])
  (try simp only [PU])
  refine TB 8 (v := ?v52033) ⟨fun _ => hHeld.1, hHeld.2⟩ ?hy52033 ?_
  case hy52033 => (intro w hSw; (try dsimp only at hSw); go_simp <;> first | with_reducible rfl | rw [if_neg (by omega)] | rw [if_pos (by omega)])
  (try simp only [PU])
  refine TA 9 (v := ?v52034) hHeld ?hy52034 ?_
  case hy52034 => (intro w hSw; (try dsimp only at hSw); go_simp <;> first | with_reducible rfl | rw [if_neg (by omega)] | rw [if_pos (by omega)])
  (try simp only [PU])
  refine AnyT.ready (rs := [10]) (by kernel_rfl) (by simp) ?_
  refine AllT.cons (o := ⟨_, _, _, _, _, _⟩) rfl (fun K hK => ?step52035x0) ?more52035x0
  case more52035x0 => exact AllT.nil
  go_simp
  (go_at_call 60; ((with_reducible refine (HCL.out _ (by solve_by_elim [X0, X1, X2, X3])).mono ?_); rintro e w2 ⟨x, y, z, rfl, hO, hx⟩; obtain ⟨z0, z1, z2, f1, f2, w3, hw3, y2, g2, w4, hw4, hR, hg⟩ := RdC.step HRC.out (Ext.trans (a := W) (by solve_by_elim [X0, X1, X2, X3]) hx) y z; have HO := Lib.hid hO; have HRR := Lib.hid hR; have HG := Lib.hid hg; clear hO hR hg hx))
  refine hK.out _ _ ?hS52035x0 (fun H52035 => ?_)
  case hS52035x0 => exact ⟨fun h => (by first | exact absurd h (by decide) | simp at h), by trivial⟩
  clear hK K
  clear hHeld
  (try simp only [PU])
  refine TB 11 (v := ?v52036) H52035 ?hy52036 ?_
  case hy52036 => (intro w hSw; (try dsimp only at hSw); go_simp <;> first | with_reducible rfl | rw [if_neg (by omega)] | rw [if_pos (by omega)])
  (try simp only [PU])
  refine TB 12 (v := ?v52037) H52035 ?hy52037 ?_
  case hy52037 => (intro w hSw; (try dsimp only at hSw); go_simp <;> first | with_reducible rfl | rw [if_neg (by omega)] | rw [if_pos (by omega)])
  (try simp only [PU])
  refine TB 13 (v := ?v52038) H52035 ?hy52038 ?_
  case hy52038 => (intro w hSw; (try dsimp only at hSw); go_simp <;> first | with_reducible rfl | rw [if_neg (by omega)] | rw [if_pos (by omega)])
  (try simp only [PU])
  refine TB 14 (v := ?v52039) H52035 ?hy52039 ?_
  case hy52039 => (intro w hSw; (try dsimp only at hSw); go_simp <;> first | with_reducible rfl | rw [if_neg (by omega)] | rw [if_pos (by omega)])
  (try simp only [PU])
  refine TB 15 (v := ?v52040) H52035 ?hy52040 ?_
  case hy52040 => (intro w hSw; (try dsimp only at hSw); go_simp <;> first | with_reducible rfl | rw [if_neg (by omega)] | rw [if_pos (by omega)])
  (try simp only [PU])
  refine TB 16 (v := ?v52041) H52035 ?hy52041 ?_
  case hy52041 => (intro w hSw; (try dsimp only at hSw); go_simp <;> first | with_reducible rfl | rw [if_neg (by omega)] | rw [if_pos (by omega)])
  (try simp only [PU])
  refine TB 17 (v := ?v52042) H52035 ?hy52042 ?_
  case hy52042 => (intro w hSw; (try dsimp only at hSw); go_simp <;> first | with_reducible rfl | rw [if_neg (by omega)] | rw [if_pos (by omega)])
  (try simp only [PU])
  refine AnyT.ready (rs := [18]) (by kernel_rfl) (by simp) ?_
  refine AllT.cons (o := ⟨_, _, _, _, _, _⟩) rfl (fun K hK => ?step52043x0) ?more52043x0
  case more52043x0 => exact AllT.nil
  go_simp
  (rw [← hw3]; clear hw3)
  refine hK.out _ _ ?hS52043x0 (fun H52043 => ?_)
  case hS52043x0 => exact ⟨fun h => (by first | exact absurd h (by decide) | simp at h), by trivial⟩
  clear hK K
  clear H52035
  refine TB 19 (v := ?v52044) H52043 ?hy52044 ?_
  case hy52044 => (intro w hSw; (try dsimp only at hSw); go_simp <;> first | with_reducible rfl | rw [if_neg (by omega)] | rw [if_pos (by omega)])
  (try simp only [PU])
  refine TB 20 (v := ?v52045) H52043 ?hy52045 ?_
  case hy52045 => (intro w hSw; (try dsimp only at hSw); go_simp <;> first | with_reducible rfl | rw [if_neg (by omega)] | rw [if_pos (by omega)])
  (try simp only [PU])
  refine AnyT.ready (rs := [21]) (by kernel_rfl) (by simp) ?_
  refine AllT.cons (o := ⟨_, _, _, _, _, _⟩) rfl (fun K hK => ?step52046x0) ?more52046x0
  case more52046x0 => exact AllT.nil
  go_simp
  (rw [← hw4]; clear hw4)
  refine hK.out _ _ ?hS52046x0 (fun H52046 => ?_)
  case hS52046x0 => exact ⟨fun h => (by first | exact absurd h (by decide) | simp at h), by trivial⟩
  clear hK K
  clear H52043
  refine AnyT.done (by kernel_rfl) ?_ _
  clear H52046
  obtain ⟨st7, k1, k2⟩ := HST.out _ _ _ HO.out
  have HK2 := Lib.hid k2
  have HC2 := Lib.hid (HID.out _ _ _ x _ HRR.out k1)
  clear k1 k2
  go_wp2_with (go_at_call 29; ((with_reducible refine (HC2.out).mono ?_); rintro e w5 ⟨x5, e5, st5, rfl, hR5, hO5, hT5, hg5⟩))
  go_ret
  exact ⟨_, _, _, st5, rfl, hR5, hO5, stN_of HK2.out hT5, HG.out.trans hg5⟩
end Go.Proofs.YtnheioehadldmaaGreat

/- THE WALK over the reference's Build. -/
namespace Go.Proofs.YtnheioehadldmaaGreat
open Go.RowKit
def entsN (g : GraphG) (types : List ByteArray) (dir : Int) (k : Nat) : List Sh := ((g.edges.take k).filter (fun e => typB types e.typ)).map (dirE dir)
theorem entsN_snoc (g : GraphG) (types : List ByteArray) (dir : Int) {k : Nat} (hk : k < g.edges.length) : entsN g types dir (k + 1) = entsN g types dir k ++ (if typB types g.edges[k]!.typ = true then [dirE dir g.edges[k]!] else []) := by
 unfold entsN
 rw [List.take_succ_eq_append_getElem hk, List.filter_append, List.map_append, getElem!_pos g.edges k hk]
 congr 1
 by_cases h : typB types g.edges[k].typ = true
 ·rw [if_pos h, List.filter_cons_of_pos (p := fun e : EdgeG => typB types e.typ) h]; rfl
 ·rw [if_neg h, List.filter_cons_of_neg (p := fun e : EdgeG => typB types e.typ) h]; rfl
theorem entsN_len (g : GraphG) (types : List ByteArray) (dir : Int) (k : Nat) : (entsN g types dir k).length ≤ g.edges.length := by
 unfold entsN
 rw [List.length_map]
 exact Nat.le_trans (List.length_filter_le _ _) (List.length_take_le' _ _)
theorem entsN_all (g : GraphG) (types : List ByteArray) (dir : Int) : entsN g types dir g.edges.length = entsG g types dir := by unfold entsN entsG; rw [List.take_length]
theorem typs_empty {typ : ByteArray} (h : typ = ByteArray.empty) (t : ByteArray) : typB (typsOf typ) t = true := by unfold typB typsOf; rw [if_pos h]; rfl
theorem typs_one {typ : ByteArray} (h : typ ≠ ByteArray.empty) (t : ByteArray) : typB (typsOf typ) t = decide (t = typ) := by
 unfold typB typsOf
 rw [if_neg h]
 show (false || memB t [typ]) = _
 rw [Bool.false_or]
 unfold memB
 simp [eq_comm]
theorem box_adjF (w : World) (a0 a1 a2 : Int) (t : TypeId) : ∃ (q : Nat) (w1 : World), q = w.heap.size ∧ w1 = w.alloc (.cells #[.int .i64 a0, .int .i64 a1, .int .i64 a2] t) ∧ (w1.cell? ⟨q, 0, none⟩ = some (.int .i64 a0) ∧ w1.cell? ⟨q, 1, none⟩ = some (.int .i64 a1) ∧ w1.cell? ⟨q, 2, none⟩ = some (.int .i64 a2)) ∧ (w1.frozen? ⟨q, 0, none⟩ = false ∧ w1.frozen? ⟨q, 1, none⟩ = false ∧ w1.frozen? ⟨q, 2, none⟩ = false) ∧ Ext w w1 :=
 ⟨_, _, rfl, rfl, ⟨by go_simp, by go_simp, by go_simp⟩, ⟨by go_simp, by go_simp, by go_simp⟩, (Ext.refl _).alloc _⟩
set_option maxRecDepth 100000 in
set_option maxHeartbeats 3200000 in
theorem r12_Build (g : GraphG) (typ : ByteArray) (dir : Int) (ok : Nat → Prop) (A B : Option Addr) (c d : Nat) (w : World) (hg : GraphAt w ok A B g) (hsz : SzG g) (hl : g.nodes.length ≤ 1000 ∧ g.edges.length ≤ 1000) :
  Calls Tryz.prog 7 #[.agg #[.slice A g.nodes.length c, .slice B g.edges.length d, .int .i64 g.nn, .int .i64 g.ne], .string typ, .int .i64 dir] w fun e w' => ∃ A B C D k0 k1 k2 k3, e = .returned (.tuple #[agC (buildR g typ dir).2 A B C D k0 k1 k2 k3, .int .i64 (buildR g typ dir).1]) ∧ ColAt w' (fun b => w.heap.size ≤ b) A B C D (buildR g typ dir).2 ∧ Ext w w' := by
 obtain ⟨q, w1, hq, hw1, g0, g1, g2, g3, hx1⟩ := box_graph w A B c d g 25
 obtain ⟨q2, w2, hq2, hw2, hrx, hrz, hx2⟩ := box_zero w1 29
 have HW1 := Lib.hid hw1
 have HW2 := Lib.hid hw2
 have HQQ := Lib.hid hq
 have HQ2 := Lib.hid (show q2 = q + 1 by rw [hq2, hw1, hq]; simp)
 have HRX := Lib.hid hrx
 have HRZ := Lib.hid hrz
 have HX := Lib.hid (hx1.trans hx2)
 have HQ := Lib.hid (show w.heap.size ≤ q2 by have := hx1.le; omega)
 have HQ1 := Lib.hid (show ¬ w2.heap.size ≤ q2 by rw [hw2, hq2]; simp)
 have HG := Lib.hid ((hg.ext hx1).ext hx2)
 have HCK := Lib.hid (r7_Check g ok A B c d w2 ((hg.ext hx1).ext hx2) hsz)
 have HPK := Lib.hid (fun (B : Option Addr) (ok : Nat → Prop) m W (h : Shares W ok B (entsG g (typsOf typ) dir)) h2 => r12_Laid (entsG g (typsOf typ) dir) ok B m W h h2)
 obtain ⟨R, hR⟩ : ∃ R, R = buildR g typ dir := ⟨_, rfl⟩
 rw [← hR]
 have HB0 := Lib.hid (fun (h : chkG g ≠ 0) => (by rw [hR]; unfold buildR; rw [if_pos h] : R = (chkG g, noCol)))
 have HB1 := Lib.hid (fun (h : chkG g = 0) (h1 : dirB dir = true) => (by rw [hR]; unfold buildR; rw [if_neg (fun e => e h), if_pos h1] : R = (1, noCol)))
 have HB2 := Lib.hid (fun (h : chkG g = 0) (h1 : dirB dir = false) (h2 : typE typ = true) => (by rw [hR]; unfold buildR; rw [if_neg (fun e => e h), if_neg (by rw [h1]; exact Bool.false_ne_true), if_pos h2] : R = (6, noCol)))
 have HB3 := Lib.hid (fun (h : chkG g = 0) (h1 : dirB dir = false) (h2 : typE typ = false) => (by rw [hR]; unfold buildR; rw [if_neg (fun e => e h), if_neg (by rw [h1]; exact Bool.false_ne_true), if_neg (by rw [h2]; exact Bool.false_ne_true), rows_sort (good_of h) (typsOf typ) (by unfold dirB at h1; rcases Decidable.em (dir = 1) with e | e; exact .inl e; rcases Decidable.em (dir = 2) with e2 | e2; exact .inr e2; rw [decide_eq_true e, decide_eq_true e2] at h1; cases h1)] : R = (0, packC (sortO adjOrd (entsG g (typsOf typ) dir)))))
 replace g0 := hx2.cell g0
 replace g1 := hx2.cell g1
 replace g2 := hx2.cell g2
 replace g3 := hx2.cell g3
 have HLL := Lib.hid (fun k => Nat.le_trans (entsN_len g (typsOf typ) dir k) hl.2)
 have HSN := Lib.hid (fun k (hk : k < g.edges.length) => entsN_snoc g (typsOf typ) dir hk)
 have HRA := Lib.hid (entsN_all g (typsOf typ) dir)
 have HEV := Lib.hid ((hg.ext hx1).ext hx2).edges
 have hnl := ((hg.ext hx1).ext hx2).edges.len
 have HTE0 := Lib.hid (fun (h : typ = ByteArray.empty) t => typs_empty h t)
 have HTE1 := Lib.hid (fun (h : typ ≠ ByteArray.empty) t => typs_one h t)
 clear hR hg hsz hw1 hw2 hq hq2 hrx hrz hx1 hx2
 obtain ⟨ec, hec⟩ : ∃ ec, ec = chkG g := ⟨_, rfl⟩
 rw [← hec] at HCK HB0 HB1 HB2 HB3
 clear hec HG
 go_enter Tryz.func7, Tryz.ntmps7
 go_upto_region 1 with (fail)
 rw [← HW1.out, ← HQQ.out, ← HQ2.out, ← HW2.out]
 clear HW1 HW2 HQQ HQ2
 have MKG := Lib.hid (fun V (e : Ext w2 V) => (⟨e.cell g0, e.cell g1, e.cell g2, e.cell g3⟩ : (V.cell? ⟨q, 0, none⟩ = some (.slice A g.nodes.length c) ∧ V.cell? ⟨q, 1, none⟩ = some (.slice B g.edges.length d) ∧ V.cell? ⟨q, 2, none⟩ = some (.int .i64 g.nn) ∧ V.cell? ⟨q, 3, none⟩ = some (.int .i64 g.ne))))
 by_cases hc0 : ec = 0
 ·replace HB1 := Lib.hid (HB1.out hc0)
  replace HB2 := Lib.hid (HB2.out hc0)
  replace HB3 := Lib.hid (HB3.out hc0)
  clear HB0
  subst hc0
  go_upto_region 4 with (go_at_call 24; ((with_reducible refine (HCK.out).mono ?_); rintro e w3 ⟨rfl, hx3⟩; obtain ⟨g0, g1, g2, g3⟩ := MKG.out _ hx3; clear HCK))
  have HX3 := Lib.hid hx3
  obtain ⟨bd, hbd⟩ : ∃ bd, bd = dirB dir := ⟨_, rfl⟩
  have HBD := Lib.hid hbd
  clear hbd
  go_cut [24] from 25 (fun s24 wx => s24 = .bool bd ∧ wx = w3)
  case first =>
   by_cases d1 : dir = 1
   ·have K := Lib.hid (by rw [HBD.out, d1]; rfl : bd = false)
    have g4 : (dir != 1) = false := by rw [d1]; rfl
    have g5 : (dir == 1) = true := by rw [d1]; rfl
    clear d1 HBD
    go_wp2_with fail
    go_meet
    case rel => exact ⟨by rw [K.out], rfl⟩
   ·by_cases d2 : dir = 2
    ·have K := Lib.hid (by rw [HBD.out, d2]; rfl : bd = false)
     have g4 : (dir != 1) = true := by rw [d2]; rfl
     have g5 : (dir != 2) = false := by rw [d2]; rfl
     clear d1 d2 HBD
     go_wp2_with fail
     go_meet
     case rel => exact ⟨by rw [K.out], rfl⟩
    ·have K := Lib.hid (by rw [HBD.out]; unfold dirB; rw [decide_eq_true d1, decide_eq_true d2]; rfl : bd = true)
     have g4 : (dir != 1) = true := bne_iff_ne.2 d1
     have g5 : (dir != 2) = true := bne_iff_ne.2 d2
     clear d1 d2 HBD
     go_wp2_with fail
     go_meet
     case rel => exact ⟨by rw [K.out], rfl⟩
  case rest =>
   obtain ⟨rfl, hwx⟩ := hcut
   subst hwx
   obtain ⟨w4, hw4⟩ : ∃ W, W = wc := ⟨_, rfl⟩
   subst hw4
   cases bd
   ·have HD0 := Lib.hid HBD.out.symm
    clear HBD
    go_upto_region 6 with (fail)
    obtain ⟨bn, hbn⟩ : ∃ bn, bn = typE typ := ⟨_, rfl⟩
    have HBN := Lib.hid hbn
    obtain ⟨bt, hbt⟩ : ∃ bt : Bool, bt = decide (typ ≠ ByteArray.empty) := ⟨_, rfl⟩
    have HBT := Lib.hid hbt
    have hte : typ = ByteArray.empty ↔ typ.toList = [] := ⟨fun h => by rw [h, ByteArray.toList_eq]; rfl, fun h => by rw [ByteArray.toList_eq] at h; exact ba_ext h⟩
    have t1 : typ.toList.isEmpty = !bt := by
     rw [hbt]
     by_cases h : typ.toList = []
     ·rw [decide_eq_false (show ¬ typ ≠ ByteArray.empty from fun h2 => h2 (hte.2 h)), h]; rfl
     ·rw [decide_eq_true (show typ ≠ ByteArray.empty from fun h2 => h (hte.1 h2))]
      cases hl9 : typ.toList with
      | nil => exact absurd hl9 h
      | cons a l => rfl
    have HTE := Lib.hid (⟨fun h => by
     rw [hbt] at h
     exact hte.1 (Decidable.not_not.1 (of_decide_eq_false h)), fun h h2 => by
     rw [hbt] at h
     exact of_decide_eq_true h (hte.2 h2)⟩ : (bt = false → typ.toList = []) ∧ (bt = true → ¬ typ.toList = []))
    clear hte
    have HNM := Lib.hid (r7_Name typ w4)
    clear hbn hbt
    go_cut [32] from 33 (fun s32 wx => s32 = .bool bn ∧ wx = w4)
    case first =>
     cases bt
     ·have t2 := HTE.out.1 rfl
      have K := Lib.hid (by rw [HBN.out]; unfold typE; rw [← HBT.out]; rfl : bn = false)
      clear HBN HBT HNM HTE
      go_wp2_with fail
      go_meet
      case rel => exact ⟨by rw [K.out], rfl⟩
     ·have t2 := HTE.out.2 rfl
      have K0 := Lib.hid (by rw [HBN.out]; unfold typE; rw [← HBT.out]; rfl : bn = !nameB typ)
      generalize nameB typ = nb at *
      cases nb
      ·have K := Lib.hid (K0.out.trans (by rfl : _ = true))
       clear HBN HBT K0 HTE
       go_wp2_with (go_at_call 25; ((with_reducible refine (HNM.out).mono ?_); rintro e w5 ⟨rfl, rfl⟩))
       go_meet
       case rel => exact ⟨by rw [K.out], rfl⟩
      ·have K := Lib.hid (K0.out.trans (by rfl : _ = false))
       clear HBN HBT K0 HTE
       go_wp2_with (go_at_call 25; ((with_reducible refine (HNM.out).mono ?_); rintro e w5 ⟨rfl, rfl⟩))
       go_meet
       case rel => exact ⟨by rw [K.out], rfl⟩
    case rest =>
     obtain ⟨rfl, hwx⟩ := hcut
     subst hwx
     obtain ⟨w5, hw5⟩ : ∃ W, W = wc := ⟨_, rfl⟩
     subst hw5
     cases bn
     ·have HRR := Lib.hid (HB3.out HD0.out HBN.out.symm)
      clear HNM HB1 HB2 HB3 HBN
      go_wp2_with fail
      go_loopw [9, 10] (fun u9 u W => ∃ (vO : Value) (i : Nat), vO = u9 ∧ u = .int .i64 i ∧ i ≤ g.edges.length ∧ Hid (OA W w5.heap.size vO (entsN g (typsOf typ) dir i)) ∧ Hid (Ext w5 W)) (fun _ u _ => g.edges.length - (intOf u).toNat)
      case atStart => exact ⟨_, 0, rfl, rfl, Nat.zero_le _, Lib.hid (show OA _ _ _ [] from OwnG.nil _ _ _ _ _), Lib.hid (Ext.refl _)⟩
      case round =>
       clear g0 g1 g2 g3
       obtain ⟨vO, i, rfl, rfl, hi, HO, hE⟩ := hrel
       have HEW := Lib.hid (HX3.out.trans hE.out)
       obtain ⟨g0, g1, g2, g3⟩ := MKG.out _ HEW.out
       by_cases hlt : i < g.edges.length
       ·obtain ⟨b, o, rfl, hcn⟩ := HEV.out.at_ hlt
        obtain ⟨-, n0, n1, n2, n3, PA, pc, n4, -, -⟩ := hcn i hlt
        replace n0 := HEW.out.cell n0
        replace n1 := HEW.out.cell n1
        replace n2 := HEW.out.cell n2
        replace n3 := HEW.out.cell n3
        replace n4 := HEW.out.cell n4
        have HSC := Lib.hid (HSN.out i hlt)
        have hm8 : (entsN g (typsOf typ) dir i).length + 1 ≤ 8388608 := by have := HLL.out i; omega
        clear hcn
        obtain ⟨x, hx⟩ : ∃ x, x = g.edges[i]! := ⟨_, rfl⟩
        rw [← hx] at n0 n1 n2 n3 n4 HSC
        obtain ⟨y, w7, hy, hw7, hm, hx7⟩ := box_edgeX wr x PA pc 58
        have HMX := Lib.hid (fun V (e : Ext w7 V) => (⟨e.cell hm.1, e.cell hm.2.1, e.cell hm.2.2.1, e.cell hm.2.2.2.1, e.cell hm.2.2.2.2⟩ : V.cell? ⟨y, 0, none⟩ = some (.int .i64 x.id) ∧ V.cell? ⟨y, 1, none⟩ = some (.int .i64 x.frm) ∧ V.cell? ⟨y, 2, none⟩ = some (.int .i64 x.to_) ∧ V.cell? ⟨y, 3, none⟩ = some (.string x.typ) ∧ V.cell? ⟨y, 4, none⟩ = some (.slice PA x.props.length pc)))
        obtain ⟨m0, m1, m2, m3, m4⟩ := hm
        have HW7 := Lib.hid hw7
        have HY := Lib.hid hy
        have HX7 := Lib.hid hx7
        obtain ⟨bb, hbb⟩ : ∃ bb, bb = typB (typsOf typ) x.typ := ⟨_, rfl⟩
        rw [← hbb] at HSC
        have HBB := Lib.hid hbb
        obtain ⟨acc, hacc⟩ : ∃ acc, acc = entsN g (typsOf typ) dir i := ⟨_, rfl⟩
        rw [← hacc] at HO hm8 HSC
        have hnx : (x.typ.toList == typ.toList) = decide (x.typ = typ) := by
         rw [Bool.eq_iff_iff, beq_iff_eq, decide_eq_true_iff, ByteArray.toList_eq, ByteArray.toList_eq]
         exact ⟨fun h => ba_ext h, fun h => by rw [h]⟩
        clear hx hw7 hy hx7 hbb hacc
        go_upto_region 13 with (fail)
        rw [← HW7.out, ← HY.out]
        clear HW7 HY n0 n1 n2 n3 n4 g0 g1 g2 g3
        have HO7 := Lib.hid (OwnG.ext HO.out HX7.out)
        have HE7 := Lib.hid (hE.out.trans HX7.out)
        clear HO hE HEW
        go_cut [53] from 54 to 73 (fun s53 wx => s53 = .bool bb ∧ wx = w7)
        case first =>
         cases bt
         ·have t2 := HTE.out.1 rfl
          have K := Lib.hid (by rw [HBB.out]; exact HTE0.out (by have h := HBT.out; simpa using h.symm) _ : bb = true)
          clear HBB HBT HTE HSC
          go_wp2_with fail
          go_meet
          case rel => exact ⟨by rw [K.out], rfl⟩
         ·have t2 := HTE.out.2 rfl
          have K := Lib.hid (by rw [HBB.out]; exact HTE1.out (by have h := HBT.out; simpa using h.symm) _ : bb = decide (x.typ = typ))
          clear HBB HBT HTE HSC
          go_wp2_with fail
          go_meet
          case rel => exact ⟨by rw [K.out], rfl⟩
        case rest =>
         obtain ⟨rfl, hwx⟩ := hcut
         subst hwx
         obtain ⟨w6, hw6⟩ : ∃ W, W = wc := ⟨_, rfl⟩
         subst hw6
         go_upto_if 53 with (fail)
         cases bb
         ·rw [if_neg Bool.false_ne_true, List.append_nil] at HSC
          go_wp2_with fail
          go_roundw
          case rel => exact ⟨_, i + 1, rfl, by go_num, by omega, Lib.hid (by rw [HSC.out]; exact HO7.out), HE7⟩
          case measure => simp [intOf]; omega
         ·rw [if_pos rfl] at HSC
          obtain ⟨qa, w8, hqa, hw8, ⟨a0, a1, a2⟩, ⟨b0, b1, b2⟩, hxa⟩ := box_adjF w6 x.frm x.to_ x.id 41
          have HXA := Lib.hid hxa
          have HW8 := Lib.hid hw8
          have HQA := Lib.hid hqa
          have HQB := Lib.hid (show w5.heap.size ≤ qa by rw [hqa]; exact HE7.out.le)
          have HNB := Lib.hid (show vO.ownBlock = none ∨ vO.ownBlock ≠ some qa from .inr (fun e => by have := (OwnG.lt HO7.out e).2; omega))
          clear hqa hw8 hxa
          by_cases hd2 : dir = 2
          ·have g5 : (dir == 2) = true := beq_iff_eq.2 hd2
           have g6 : decide (dir = 2) = true := decide_eq_true hd2
           have HSH := Lib.hid (by unfold dirE; rw [if_pos hd2] : dirE dir x = ⟨x.to_, x.frm, x.id⟩)
           clear hd2
           go_upto_region 15 with (fail)
           rw [← HW8.out, ← HQA.out]
           clear HW8
           have HE8 := Lib.hid (HE7.out.trans HXA.out)
           have HO8 := Lib.hid (OwnG.ext HO7.out HXA.out)
           obtain ⟨m0, m1, m2, m3, m4⟩ := HMX.out w8 HXA.out
           obtain ⟨w10, hw10⟩ : ∃ W, W = (((w8.setCell ⟨qa, 0, none⟩ (.int .i64 x.to_)).setCell ⟨qa, 1, none⟩ (.int .i64 x.frm)).setCell ⟨qa, 2, none⟩ (.int .i64 x.id)) := ⟨_, rfl⟩
           have HOX := Lib.hid (by rw [hw10]; exact OwnG.grown HO8.out (((gr_set w8 qa 0 (.int .i64 x.to_)).trans (gr_set _ qa 1 (.int .i64 x.frm))).trans (gr_set _ qa 2 (.int .i64 x.id))) HNB.out (fun _ _ hf => hf) : OA w10 w5.heap.size vO acc)
           have HEX := Lib.hid (by rw [hw10]; exact ((HE8.out.setCell HQB.out _).setCell HQB.out _).setCell HQB.out _ : Ext w5 w10)
           have n0 : w10.cell? ⟨qa, 0, none⟩ = some (.int .i64 x.to_) := by rw [hw10]; exact cell_set_else (by decide) (cell_set_else (by decide) (cell_set_self a0))
           have n1 : w10.cell? ⟨qa, 1, none⟩ = some (.int .i64 x.frm) := by rw [hw10]; exact cell_set_else (by decide) (cell_set_self (cell_set_else (by decide) a1))
           have n2 : w10.cell? ⟨qa, 2, none⟩ = some (.int .i64 x.id) := by rw [hw10]; exact cell_set_self (cell_set_else (by decide) (cell_set_else (by decide) a2))
           clear HQA
           go_upto_region 17 with (fail)
           (try rw [← hw10])
           clear hw10 a0 a1 a2 b0 b1 b2 m0 m1 m2 m3 m4
           go_wp2_with (at_builtin; go_loud (refine own_pushG (v := vO) (hs := acc) T_ka rfl (.tmp 70) (.tmp 72) rfl w10 rfl HOX.out HEX.out.le (⟨x.to_, x.frm, x.id⟩ : Sh) trivial rfl _ rfl rfl hm8 (by decide) ?_); intro v9 w9 hO9 hg9 hd9; have HE9 := Lib.hid (HEX.out.grown hg9 (fun b e => (OwnG.lt HOX.out e).1)); have HO9 := Lib.hid hO9; clear hO9 hg9 hd9)
           go_roundw
           case rel => exact ⟨_, i + 1, rfl, by go_num, by omega, Lib.hid (by rw [HSC.out, HSH.out]; exact HO9.out), HE9⟩
           case measure => simp [intOf]; omega
          ·have g5 : (dir == 2) = false := beq_eq_false_iff_ne.2 hd2
           have g6 : decide (dir = 2) = false := decide_eq_false hd2
           have HSH := Lib.hid (by unfold dirE; rw [if_neg hd2] : dirE dir x = ⟨x.frm, x.to_, x.id⟩)
           clear hd2
           go_upto_region 15 with (fail)
           rw [← HW8.out, ← HQA.out]
           clear HW8 HQA m0 m1 m2 m3 m4
           have HE8 := Lib.hid (HE7.out.trans HXA.out)
           have HO8 := Lib.hid (OwnG.ext HO7.out HXA.out)
           go_wp2_with (at_builtin; go_loud (refine own_pushG (v := vO) (hs := acc) T_ka rfl (.tmp 70) (.tmp 72) rfl w8 rfl HO8.out HE8.out.le (⟨x.frm, x.to_, x.id⟩ : Sh) trivial rfl _ rfl rfl hm8 (by decide) ?_); intro v9 w9 hO9 hg9 hd9; have HE9 := Lib.hid (HE8.out.grown hg9 (fun b e => (OwnG.lt HO8.out e).1)); have HO9 := Lib.hid hO9; clear hO9 hg9 hd9)
           go_roundw
           case rel => exact ⟨_, i + 1, rfl, by go_num, by omega, Lib.hid (by rw [HSC.out, HSH.out]; exact HO9.out), HE9⟩
           case measure => simp [intOf]; omega
       ·have hke : i = g.edges.length := by omega
        have HOF := Lib.hid (by have h := HO.out; rw [hke, HRA.out] at h; exact h : OA wr w5.heap.size vO (entsG g (typsOf typ) dir))
        have HGL := Lib.hid (by have h := HLL.out g.edges.length; rw [HRA.out] at h; exact h : (entsG g (typsOf typ) dir).length ≤ 1000)
        clear HO hke HLL HRA HSN hE HTE0 HTE1
        obtain ⟨A9, c9, e9, h9, hV9⟩ := OA.shares HOF.out (by have := HGL.out; omega)
        have HP9 := Lib.hid (HPK.out A9 _ c9 wr hV9 (by have := HGL.out; omega))
        subst e9
        generalize packC (sortO adjOrd (entsG g (typsOf typ) dir)) = Z at *
        generalize entsG g (typsOf typ) dir = S at *
        clear hV9 HPK HOF
        go_wp2_with (go_at_call 26; ((with_reducible refine (HP9.out).mono ?_); rintro e w7 ⟨A3, B3, C3, D3, k0, k1, k2, k3, rfl, hc7, hx7⟩; obtain ⟨r0, r1, r2, r3⟩ := HRX.out.grown ((HEW.out.trans hx7).gr none) (by simp); obtain ⟨f0, f1, f2, f3⟩ := HRZ.out.grown HRX.out ((HEW.out.trans hx7).gr none) (by simp)))
        (try simp only [Exit.inBlock, Exit.then])
        have HX7 := Lib.hid (HEW.out.trans hx7)
        obtain ⟨w8, hw8⟩ : ∃ W, W = (((w7.setCell ⟨q2, 0, none⟩ (.slice A3 Z.nodes.length k0)).setCell ⟨q2, 1, none⟩ (.slice B3 Z.first.length k1)).setCell ⟨q2, 2, none⟩ (.slice C3 Z.tos.length k2)).setCell ⟨q2, 3, none⟩ (.slice D3 Z.edges.length k3) := ⟨_, rfl⟩
        have hd := set4 (HRX.out.grown (HX7.out.gr none) (by simp)) (.slice A3 Z.nodes.length k0) (.slice B3 Z.first.length k1) (.slice C3 Z.tos.length k2) (.slice D3 Z.edges.length k3)
        rw [← hw8] at hd
        obtain ⟨e0, e1, e2, e3⟩ := hd
        have HF := Lib.hid (by rw [hw8]; exact ((((HX.out.trans HX7.out).setCell HQ.out _).setCell HQ.out _).setCell HQ.out _).setCell HQ.out _ : Ext w w8)
        have hnq : ¬ wr.heap.size ≤ q2 := fun h => HQ1.out (Nat.le_trans HEW.out.le h)
        have HCC := Lib.hid (by rw [hw8]; exact (((hc7.put hnq 0 _).put hnq 1 _).put hnq 2 _).put hnq 3 _ : ColAt w8 (fun b => wr.heap.size ≤ b) A3 B3 C3 D3 Z)
        have HLW := Lib.hid (Nat.le_trans HX.out.le HEW.out.le)
        rw [← hw8]
        clear hw8 r0 r1 r2 r3 f0 f1 f2 f3 hc7 hx7 hnq h9
        refine bodyPost_ret (v := .tuple #[.agg #[.slice A3 Z.nodes.length k0, .slice B3 Z.first.length k1, .slice C3 Z.tos.length k2, .slice D3 Z.edges.length k3], .int .i64 0]) (by simp [results, Tryz.results7, go_sem, *]) rfl ?_
        rw [HRR.out]
        first | exact ⟨A3, B3, C3, D3, k0, k1, k2, k3, rfl, HCC.out.to (fun b hb => Nat.le_trans HLW.out hb), HF.out⟩ | exact ⟨A3, B3, C3, D3, ⟨k0, k1, k2, k3, rfl⟩, HCC.out.to (fun b hb => Nat.le_trans HLW.out hb), HF.out⟩
     ·have HNO := Lib.hid (HB2.out HD0.out HBN.out.symm)
      clear HNM t1 HTE g0 g1 g2 g3
      go_upto_region 7 with (fail)
      obtain ⟨r0, r1, r2, r3⟩ := HRX.out.grown (HX3.out.gr none) (by simp)
      obtain ⟨f0, f1, f2, f3⟩ := HRZ.out.grown HRX.out (HX3.out.gr none) (by simp)
      obtain ⟨w8, hw8⟩ : ∃ W, W = (((w5.setCell ⟨q2, 0, none⟩ (.slice none 0 0)).setCell ⟨q2, 1, none⟩ (.slice none 0 0)).setCell ⟨q2, 2, none⟩ (.slice none 0 0)).setCell ⟨q2, 3, none⟩ (.slice none 0 0) := ⟨_, rfl⟩
      have hd := set4 (HRX.out.grown (HX3.out.gr none) (by simp)) (.slice none 0 0) (.slice none 0 0) (.slice none 0 0) (.slice none 0 0)
      rw [← hw8] at hd
      obtain ⟨e0, e1, e2, e3⟩ := hd
      have HF := Lib.hid (by rw [hw8]; exact ((((HX.out.trans HX3.out).setCell HQ.out _).setCell HQ.out _).setCell HQ.out _).setCell HQ.out _ : Ext w w8)
      go_wp2_with fail
      (try simp only [Exit.inBlock, Exit.then])
      rw [← hw8]
      clear hw8 r0 r1 r2 r3 f0 f1 f2 f3
      refine bodyPost_ret (v := .tuple #[.agg #[.slice none 0 0, .slice none 0 0, .slice none 0 0, .slice none 0 0], .int .i64 6]) (by simp [results, Tryz.results7, go_sem, *]) rfl ?_
      rw [HNO.out]
      first | exact ⟨none, none, none, none, 0, 0, 0, 0, rfl, ColAt.none _ _, by first | exact HF.out | exact X1 HF.out⟩ | exact ⟨none, none, none, none, ⟨0, 0, 0, 0, rfl⟩, ColAt.none _ _, by first | exact HF.out | exact X1 HF.out⟩
   ·have HNO := Lib.hid (HB1.out HBD.out.symm)
    clear g0 g1 g2 g3
    go_upto_region 5 with (fail)
    obtain ⟨r0, r1, r2, r3⟩ := HRX.out.grown (HX3.out.gr none) (by simp)
    obtain ⟨f0, f1, f2, f3⟩ := HRZ.out.grown HRX.out (HX3.out.gr none) (by simp)
    obtain ⟨w8, hw8⟩ : ∃ W, W = (((w4.setCell ⟨q2, 0, none⟩ (.slice none 0 0)).setCell ⟨q2, 1, none⟩ (.slice none 0 0)).setCell ⟨q2, 2, none⟩ (.slice none 0 0)).setCell ⟨q2, 3, none⟩ (.slice none 0 0) := ⟨_, rfl⟩
    have hd := set4 (HRX.out.grown (HX3.out.gr none) (by simp)) (.slice none 0 0) (.slice none 0 0) (.slice none 0 0) (.slice none 0 0)
    rw [← hw8] at hd
    obtain ⟨e0, e1, e2, e3⟩ := hd
    have HF := Lib.hid (by rw [hw8]; exact ((((HX.out.trans HX3.out).setCell HQ.out _).setCell HQ.out _).setCell HQ.out _).setCell HQ.out _ : Ext w w8)
    go_wp2_with fail
    (try simp only [Exit.inBlock, Exit.then])
    rw [← hw8]
    clear hw8 r0 r1 r2 r3 f0 f1 f2 f3
    refine bodyPost_ret (v := .tuple #[.agg #[.slice none 0 0, .slice none 0 0, .slice none 0 0, .slice none 0 0], .int .i64 1]) (by simp [results, Tryz.results7, go_sem, *]) rfl ?_
    rw [HNO.out]
    first | exact ⟨none, none, none, none, 0, 0, 0, 0, rfl, ColAt.none _ _, by first | exact HF.out | exact X1 HF.out⟩ | exact ⟨none, none, none, none, ⟨0, 0, 0, 0, rfl⟩, ColAt.none _ _, by first | exact HF.out | exact X1 HF.out⟩
 ·have HNO := Lib.hid (HB0.out hc0)
  have g : (ec != 0) = true := by rw [bne_iff_ne]; exact hc0
  have gx : (ec == 0) = false := beq_eq_false_iff_ne.2 hc0
  go_upto_region 3 with (go_at_call 24; ((with_reducible refine (HCK.out).mono ?_); rintro e w3 ⟨rfl, hx3⟩; obtain ⟨g0, g1, g2, g3⟩ := MKG.out _ hx3; clear HCK))
  clear g0 g1 g2 g3
  obtain ⟨r0, r1, r2, r3⟩ := HRX.out.grown (hx3.gr none) (by simp)
  obtain ⟨f0, f1, f2, f3⟩ := HRZ.out.grown HRX.out (hx3.gr none) (by simp)
  obtain ⟨w8, hw8⟩ : ∃ W, W = (((w3.setCell ⟨q2, 0, none⟩ (.slice none 0 0)).setCell ⟨q2, 1, none⟩ (.slice none 0 0)).setCell ⟨q2, 2, none⟩ (.slice none 0 0)).setCell ⟨q2, 3, none⟩ (.slice none 0 0) := ⟨_, rfl⟩
  have hd := set4 (HRX.out.grown (hx3.gr none) (by simp)) (.slice none 0 0) (.slice none 0 0) (.slice none 0 0) (.slice none 0 0)
  rw [← hw8] at hd
  obtain ⟨e0, e1, e2, e3⟩ := hd
  have HF := Lib.hid (by rw [hw8]; exact ((((HX.out.trans hx3).setCell HQ.out _).setCell HQ.out _).setCell HQ.out _).setCell HQ.out _ : Ext w w8)
  go_wp2_with fail
  (try simp only [Exit.inBlock, Exit.then])
  rw [← hw8]
  clear hw8 r0 r1 r2 r3 f0 f1 f2 f3
  refine bodyPost_ret (v := .tuple #[.agg #[.slice none 0 0, .slice none 0 0, .slice none 0 0, .slice none 0 0], .int .i64 ec]) (by simp [results, Tryz.results7, go_sem, *]) rfl ?_
  rw [HNO.out]
  first | exact ⟨none, none, none, none, 0, 0, 0, 0, rfl, ColAt.none _ _, by first | exact HF.out | exact X1 HF.out⟩ | exact ⟨none, none, none, none, ⟨0, 0, 0, 0, rfl⟩, ColAt.none _ _, by first | exact HF.out | exact X1 HF.out⟩
end Go.Proofs.YtnheioehadldmaaGreat
